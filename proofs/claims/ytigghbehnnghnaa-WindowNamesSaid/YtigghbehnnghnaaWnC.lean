import Derived.Test.YtigghbehnnghnaaWnB
import Derived.Deep.RegionHeld3
import Derived.Deep.AppendLies
import Derived.IntWalk
import Derived.Deep.RegionLaw
namespace Go.Proofs.Ytigghbehnnghnaa
open Go.RowKit Go.RowBits
set_option linter.unusedSimpArgs false
set_option linter.unusedVariables false

/-! ### copied -/
theorem yv_cells (l : List Nat) : ∀ u ∈ l.map yv, u.oneCell' = true := fun u hu => by
  obtain ⟨x, _, rfl⟩ := List.mem_map.1 hu
  rfl
theorem HasY.news {W : World} {g o cap : Nat} {l : List Nat} (h : HasY W (.slice (some ⟨g, o, none⟩) l.length cap) l) : ∀ (j : Nat) u, (l.map yv)[j]? = some u → W.cell? ((⟨g, o, none⟩ : Addr).add j) = some u := fun j u hj => by
  obtain ⟨ad, cap', e, hc⟩ := h
  injection e with e1 e2 e3
  have hjl : j < l.length := by
    have := (List.getElem?_eq_some_iff.1 hj).1
    simpa using this
  obtain ⟨g', o', he, hcell⟩ := hc j hjl
  rw [← e1] at he
  injection he with he
  injection he with he1 he2
  subst he1 he2
  rw [Addr.add_lit]
  have : u = yv (l.getD j 0) := by
    simp [hjl] at hj
    rw [← hj]
    simp [hjl]
  rw [this]
  exact hcell
theorem own_block_le {W : World} {B : Nat} {e : TypeId} {size : Nat} {v : Value} {n : Nat} {xs : List Value} (h : W.ownsRow B e size v n xs) : ∀ k, v.ownBlock = some k → B ≤ k := fun k hk => by
  rcases h.2 with ⟨rfl, _⟩ | ⟨g, cap, cur, rfl, hg, hb, _⟩
  · cases hk
  · injection hk with hk
    have hk : g = k := hk
    omega
theorem own_setOther {w : World} {base : Nat} {e : TypeId} {size : Nat} {v : Value} {n : Nat} {xs : List Value} (h : w.ownsRow base e size v n xs) {b o : Nat} (hb : b < base) (u : Value) : (w.setCell ⟨b, o, none⟩ u).ownsRow base e size v n xs := by
  refine ⟨h.1, ?_⟩
  rcases h.2 with h0 | ⟨g, cap, cur, h1, h2, h3, h4⟩
  · exact .inl h0
  · exact .inr ⟨g, cap, cur, h1, h2, (heap_setCell_other w ⟨b, o, none⟩ g u (by show g ≠ b; omega)).trans h3, h4⟩
theorem own_heap {w w' : World} {base : Nat} {e : TypeId} {size : Nat} {v : Value} {n : Nat} {xs : List Value} (h : w.ownsRow base e size v n xs) (hE : ∀ g, base ≤ g → w'.heap[g]? = w.heap[g]?) : w'.ownsRow base e size v n xs := by
  refine ⟨h.1, ?_⟩
  rcases h.2 with h0 | ⟨g, cap, cur, h1, h2, h3, h4⟩
  · exact .inl h0
  · exact .inr ⟨g, cap, cur, h1, h2, (hE g h2).trans h3, h4⟩
theorem append_bytes {W : World} {B : Nat} {v u : Value} {n : Nat} {xs : List Value} {l : List Nat} (hown : W.ownsRow B 5 1 v n xs) (hu : HasY W u l) (hpos : 0 < l.length) (hB : B ≤ W.heap.size) (hlen : n + l.length ≤ 70368744177664) (ty : TypeId) :
    ∃ v' w', (Builtin.append_ #[53, 53] ty #[v, u]).run Try.prog W = .ok v' w' ∧ w'.ownsRow B 5 1 v' (n + l.length) (xs ++ l.map yv) ∧ Below B W w' := by
  obtain ⟨i0, hi, hz0, hz1, hz2⟩ := info_parts info5'
  have hu0 := hu
  obtain ⟨ad, cap, rfl, hc⟩ := hu
  obtain ⟨g, o, rfl, _⟩ := hc 0 hpos
  obtain ⟨v', w', r1, r2, r3, _⟩ := run_append_own (P := Try.prog) W B 53 ty 5 i0 _ 1 1 Try.underlying53 hi hz0 hz1 hz2 rfl (by decide) v n xs hown ⟨g, o, none⟩ l.length cap (l.map yv) (by simp) hu0.news (yv_cells l) (by unfold maxLen; omega) (by omega) hB
  exact ⟨v', w', r1, r2, (Below.refl B W).grown r3 hB (own_block_le hown)⟩
def flatR (rows : List (List Nat)) (k : Nat) : List Nat := (rows.take k).flatten
theorem flatR_succ (rows : List (List Nat)) {k : Nat} (hk : k < rows.length) : flatR rows (k + 1) = flatR rows k ++ rows.getD k [] := by
  unfold flatR
  rw [List.take_succ_eq_append_getElem hk, List.flatten_append]
  simp [hk]
theorem flatR_len {rows : List (List Nat)} {n : Nat} (hn : ∀ i, i < rows.length → (rows.getD i []).length = n) : ∀ k, k ≤ rows.length → (flatR rows k).length = k * n := fun k => by
  induction k with
  | zero => intro _; simp [flatR]
  | succ k ih =>
    intro hk
    rw [flatR_succ rows (by omega), List.length_append, ih (by omega), hn k (by omega), Nat.add_mul]
    omega
theorem flatR_get {rows : List (List Nat)} {n : Nat} (hn : ∀ i, i < rows.length → (rows.getD i []).length = n) {i j : Nat} (hj : j < n) : ∀ k, k ≤ rows.length → i < k → (flatR rows k).getD (i * n + j) 0 = (rows.getD i []).getD j 0 := fun k => by
  induction k with
  | zero => intro _ h; omega
  | succ k ih =>
    intro hk hi
    rw [flatR_succ rows (by omega)]
    have hl := flatR_len hn k (by omega)
    by_cases h : i < k
    · have h1 : i * n + j < (flatR rows k).length := by
        rw [hl]
        calc i * n + j < i * n + n := by omega
          _ = (i + 1) * n := by rw [Nat.add_mul]; omega
          _ ≤ k * n := Nat.mul_le_mul_right n (by omega)
      rw [← ih (by omega) h]
      simp [List.getD, List.getElem?_append_left h1]
    · have e : i = k := by omega
      subst e
      have h1 : (flatR rows i).length ≤ i * n + j := by rw [hl]; omega
      simp only [List.getD]
      rw [List.getElem?_append_right h1, hl]
      congr 2
      omega
def CRel (B : Nat) (W0 : World) (rows : List (List Nat)) (n : Nat) (a i : Value) (wx : World) : Prop :=
  ∃ k : Nat, k ≤ rows.length ∧ i = .int .i64 (k : Int) ∧ Below B W0 wx ∧ wx.ownsRow B 5 1 a (k * n) ((flatR rows k).map yv)
theorem slice_part (W : World) (ga mn cap3 P n : Nat) (hn : 1 ≤ n) (hc : P + n ≤ cap3) : (Instr.slice 53 (.slice (some ⟨ga, 0, none⟩) mn cap3) (some (.int .i64 (P : Int))) (some (.int .i64 ((P : Int) + (n : Int)))) (some (.int .i64 ((P : Int) + (n : Int))))).run Try.prog W = .ok (.slice (some ⟨ga, P, none⟩) n n) W := by
  have h := run_slice_lhm (P := Try.prog) W 53 (some ⟨ga, 0, none⟩) mn cap3 (by kernel_rfl) .i64 .i64 .i64 (P : Int) ((P : Int) + (n : Int)) ((P : Int) + (n : Int)) (by omega) (by omega) (by omega) (by omega)
  rw [h]
  have e1 : ((P : Int) + (n : Int)).toNat = P + n := by omega
  have e2 : ¬ P + n = P := by omega
  have e3 : ¬ n = 0 := by omega
  go_simp
def partV (ga n i : Nat) : Value := .slice (some ⟨ga, i * n, none⟩) n n
def PtRel (B : Nat) (W0 : World) (ga n m : Nat) (at' : Int) (i : Value) (wx : World) : Prop :=
  ∃ (k : Nat) (rv : Value), k ≤ m ∧ i = .int .i64 (k : Int) ∧ Below B W0 wx ∧ wx.heap[B]? = some (.cells #[.int .i64 (n : Int), .int .i64 at', rv] 73 (0, 0)) ∧ wx.ownsRow (B + 1) 53 1 rv k ((List.range k).map (partV ga n))
/-- A list of rows, all of it in blocks from B on. -/
def HasO (B : Nat) (w : World) (v : Value) (rows : List (List Nat)) : Prop := ∀ W', (∀ g, B ≤ g → W'.heap[g]? = w.heap[g]?) → HasL W' v rows
theorem HasO.has {B : Nat} {w : World} {v : Value} {rows : List (List Nat)} (h : HasO B w v rows) : HasL w v rows := h w fun _ _ => rfl
theorem HasO.le {B B' : Nat} {w : World} {v : Value} {rows : List (List Nat)} (h : HasO B w v rows) (hB : B' ≤ B) : HasO B' w v rows := fun W' hE => h W' fun g hg => hE g (Nat.le_trans hB hg)
theorem HasO.set {B : Nat} {w : World} {v : Value} {rows : List (List Nat)} (h : HasO B w v rows) {b o : Nat} (hb : b < B) (u : Value) : HasO B (w.setCell ⟨b, o, none⟩ u) v rows := fun W' hE => h W' fun g hg => (hE g hg).trans (heap_setCell_other w ⟨b, o, none⟩ g u (by show g ≠ b; omega))
def CopyPost (n at' : Int) (rows : List (List Nat)) (w : World) (e : Ending) (w' : World) : Prop := ∃ v', e = .returned (bandV n at' v') ∧ HasO w.heap.size w' v' rows ∧ Below w.heap.size w w'
set_option maxRecDepth 20000 in
set_option maxHeartbeats 4000000 in
theorem copied59 {n : Nat} {at' : Int} {w : World} {v : Value} {rows : List (List Nat)} (hn : 1 ≤ n ∧ n ≤ 65536) (hr : rows.length * n ≤ 1000000000000) (hv : HasL w v rows) (hl : ∀ i, i < rows.length → (rows.getD i []).length = n) :
    Calls Try.prog 59 #[bandV (n : Int) at' v] w (CopyPost (n : Int) at' rows w) := by
  have hl' := Lib.hid hl
  have hv' := Lib.hid hv
  have hshape : ∃ ad cap, v = .slice ad rows.length cap := by obtain ⟨ad, cap, e, _⟩ := hv; exact ⟨ad, cap, e⟩
  obtain ⟨ad, cap, rfl⟩ := hshape
  have hrl : rows.length ≤ 1000000000000 := Nat.le_trans (Nat.le_mul_of_pos_right _ (by omega)) hr
  have hr' := Lib.hid hr
  clear hv hl hr
  obtain ⟨n1, n2⟩ := hn
  go_enter Try.func59, Try.ntmps59
  go_wp2
  obtain ⟨W2, hW2⟩ : ∃ W2, W2 = (w.alloc (.cells #[.int .i64 (n : Int), .int .i64 at', .slice ad rows.length cap] 73)).alloc (.cells #[.int .i64 0, .int .i64 0, .slice none 0 0] 73) := ⟨_, rfl⟩
  have E2 : Blks W2 [(w.heap.size + 1, #[.int .i64 0, .int .i64 0, .slice none 0 0], 73), (w.heap.size, #[.int .i64 (n : Int), .int .i64 at', .slice ad rows.length cap], 73)] := by
    rw [hW2]
    exact (((Blks.nil w).alloc rfl #[.int .i64 (n : Int), .int .i64 at', .slice ad rows.length cap] 73).alloc (n := w.heap.size + 1) (by simp) #[.int .i64 0, .int .i64 0, .slice none 0 0] 73)
  have hB2 : Below w.heap.size w W2 := by rw [hW2]; exact (below_new _).alloc (by simp) _
  rw [← hW2]
  have E3 := Lib.hid E2
  have hB3 := Lib.hid hB2
  have hz2 : w.heap.size + 1 + 1 ≤ W2.heap.size := by rw [hW2]; simp
  clear hW2 E2 hB2
  go_loopw [3, 11] (fun a i wx => CRel W2.heap.size W2 rows n a i wx) (fun _ i _ => rows.length - (intOf i).toNat)
  case atStart => exact ⟨0, by omega, by go_num, Below.refl _ _, by rw [Nat.zero_mul]; exact World.ownsRow_nil _ _ _ _⟩
  case round =>
    obtain ⟨k, hk, rfl, hB, hO⟩ := hrel
    have hB' := Lib.hid hB
    have hO' := Lib.hid hO
    by_cases hlt : k < rows.length
    · obtain ⟨ad', cap', e, hcap, hg⟩ := hv'.out
      injection e with e1 e2 e3
      obtain ⟨g, o, u, had, c1, hy⟩ := hg k hlt
      rw [← e1] at had
      subst had
      have c2 := cell_kept hB (cell_kept hB3.out c1)
      have hy2 := (hy.kept hB3.out).kept hB
      have hln : (rows.getD k []).length = n := hl'.out k hlt
      have hkn : k * n + n ≤ 1000000000000 := by
        have h1 : (k + 1) * n ≤ rows.length * n := Nat.mul_le_mul_right n (by omega)
        have h2 := hr'.out
        rw [Nat.add_mul] at h1
        omega
      obtain ⟨v', w', r1, r2, r3⟩ := append_bytes hO hy2 (by omega) hB.size (by omega) 53
      rw [hln, ← List.map_append, ← flatR_succ rows hlt] at r2
      have r1' := Lib.hid r1
      have r2' := Lib.hid r2
      have r3' := Lib.hid r3
      clear c1 hy hg e1 e2 e3 hB hO r1 r2 r3 hln hkn hcap hy2
      go_wp2_with (at_builtin; refine wpList_append_run rfl _ _ 53 rfl rfl rfl r1'.out ?_)
      go_roundw
      case rel => exact ⟨k + 1, by omega, by go_num, hB'.out.trans r3'.out, by rw [Nat.add_mul, Nat.one_mul]; exact r2'.out⟩
      case measure => simp [intOf]; omega
    · obtain rfl : k = rows.length := by omega
      clear hlt hB hO
      have E5 := Lib.hid (E3.out.kept hB'.out)
      have m0 : wr.cell? ⟨w.heap.size, 0, none⟩ = some (.int .i64 (n : Int)) := E5.out.cell (cs := #[.int .i64 (n : Int), .int .i64 at', .slice ad rows.length cap]) (T := 73) (by simp) rfl
      have m1 : wr.cell? ⟨w.heap.size, 1, none⟩ = some (.int .i64 at') := E5.out.cell (cs := #[.int .i64 (n : Int), .int .i64 at', .slice ad rows.length cap]) (T := 73) (by simp) rfl
      have m2 : wr.cell? ⟨w.heap.size, 2, none⟩ = some (.slice ad rows.length cap) := E5.out.cell (cs := #[.int .i64 (n : Int), .int .i64 at', .slice ad rows.length cap]) (T := 73) (by simp) rfl
      have hz4 : w.heap.size + 1 < wr.heap.size := by have := hB'.out.size; omega
      have hz5 : w.heap.size < wr.heap.size := by omega
      go_wp2
      have hga : Hid (∃ ga cap3, (0 < rows.length → u3 = .slice (some ⟨ga, 0, none⟩) (rows.length * n) cap3 ∧ rows.length * n ≤ cap3 ∧ ga < wr.heap.size)) := by
        rcases hO'.out.2 with ⟨e1, e2⟩ | ⟨g, cap, cur, e1, hg, hb, hnc, _⟩
        · refine ⟨0, 0, fun h => ?_⟩
          have := Nat.mul_pos h (by omega : 0 < n)
          omega
        · refine ⟨g, cap, fun _ => ⟨e1, ?_, (Array.getElem?_eq_some_iff.1 hb).1⟩⟩
          simpa using hnc
      obtain ⟨ga, cap3, hga2⟩ := hga.out
      have hga' := Lib.hid hga2
      clear hga hga2
      have hO6 := Lib.hid (hO'.out.alloc (.cells #[.int .i64 (n : Int), .int .i64 at', .slice none 0 0] 73))
      have hB6 : Hid (Below w.heap.size w (wr.alloc (.cells #[.int .i64 (n : Int), .int .i64 at', .slice none 0 0] 73))) := (below_then hB3.out hB'.out hB3.out.size).alloc (by omega) _
      have E6 := Lib.hid (E5.out.kept (below_new (.cells #[.int .i64 (n : Int), .int .i64 at', .slice none 0 0] 73)))
      have hblk : Hid ((wr.alloc (.cells #[.int .i64 (n : Int), .int .i64 at', .slice none 0 0] 73)).heap[wr.heap.size]? = some (.cells #[.int .i64 (n : Int), .int .i64 at', .slice none 0 0] 73 (0, 0))) := heap_alloc_new wr _
      have hz6 : (wr.alloc (.cells #[.int .i64 (n : Int), .int .i64 at', .slice none 0 0] 73)).heap.size = wr.heap.size + 1 := by simp
      generalize (wr.alloc (.cells #[.int .i64 (n : Int), .int .i64 at', .slice none 0 0] 73)) = W7 at *
      obtain ⟨b6, hb6⟩ : ∃ b6, Hid (b6 = wr.heap.size) := ⟨_, rfl⟩
      rw [← hb6.out] at hz4 hz5 hz6 hblk hga' ⊢
      clear m0 m1 m2
      go_loopw [27] (fun i wx => PtRel b6 W7 ga n rows.length at' i wx) (fun i _ => rows.length - (intOf i).toNat)
      case atStart => exact ⟨0, _, by omega, by go_num, Below.refl _ _, hblk.out, World.ownsRow_nil _ _ _ _⟩
      case round =>
        rename World => wx
        obtain ⟨k, rv, hk, rfl, hB, hblk, hO⟩ := hrel
        have hB7 := Lib.hid hB
        have hO7 := Lib.hid hO
        have hblk7 := Lib.hid hblk
        have E7 : Hid (Blks wx [(w.heap.size + 1, (#[.int .i64 0, .int .i64 0, .slice none 0 0] : Array Value), 73), (w.heap.size, #[.int .i64 (n : Int), .int .i64 at', .slice ad rows.length cap], 73)]) := fun x hx => (hB.block x.1 (by simp at hx; rcases hx with rfl | rfl <;> simp <;> omega)).trans (E6.out x hx)
        clear hB hO hblk
        by_cases hlt : k < rows.length
        · obtain ⟨hu3, hc3, hgl⟩ := hga'.out (by omega)
          obtain ⟨P, hP⟩ : ∃ P : Nat, P = k * n := ⟨_, rfl⟩
          have hP1 : P + n ≤ rows.length * n := by
            have h1 : (k + 1) * n ≤ rows.length * n := Nat.mul_le_mul_right n (by omega)
            rw [Nat.add_mul, ← hP] at h1
            omega
          have hPt := hr'.out
          have hw0 : (k : Int) * (n : Int) = (P : Int) := by rw [hP]; exact (Int.natCast_mul k n).symm
          have hw00 : ((k : Int) + 1) * (n : Int) = (P : Int) + (n : Int) := by rw [Int.add_mul, hw0]; omega
          have hP' := Lib.hid hP
          generalize hmn : rows.length * n = mn at *
          have hw1 : IntKind.i64.wrap ((k : Int) * (n : Int)) = (P : Int) := by rw [hw0]; exact IntWalk.i64_in _ (by omega)
          have hw2 : IntKind.i64.wrap (((k : Int) + 1) * (n : Int)) = (P : Int) + (n : Int) := by rw [hw00]; exact IntWalk.i64_in _ (by omega)
          have hw3 : IntKind.i64.wrap ((k : Int) + 1) = (k : Int) + 1 := IntWalk.i64_in _ (by omega)
          have hsl : ∀ W, (Instr.slice 53 (.slice (some ⟨ga, 0, none⟩) mn cap3) (some (.int .i64 (P : Int))) (some (.int .i64 ((P : Int) + (n : Int)))) (some (.int .i64 ((P : Int) + (n : Int))))).run Try.prog W = .ok (.slice (some ⟨ga, P, none⟩) n n) W := fun W => slice_part W ga mn cap3 P n (by omega) (by omega)
          subst hu3
          have s0 : wx.cell? ⟨w.heap.size, 0, none⟩ = some (.int .i64 (n : Int)) := E7.out.cell (cs := #[.int .i64 (n : Int), .int .i64 at', .slice ad rows.length cap]) (T := 73) (by simp) rfl
          have s2 : wx.frozen? ⟨b6, 2, none⟩ = false := frozen_of_row wx _ 2 _ 73 hblk7.out
          have s1 : wx.cell? ⟨b6, 2, none⟩ = some rv := by rw [cell_of_row wx b6 2 _ 73 (0, 0) hblk7.out]; rfl
          clear hw0 hw00 hP hmn hc3
          go_wp2
          obtain ⟨i0, hi, hq0, hq1, hq2⟩ := info_parts info53'
          have hi' := Lib.hid hi
          clear hi
          have hb6w : b6 < wx.heap.size := (Array.getElem?_eq_some_iff.1 hblk7.out).1
          have hwb : w.heap.size < wx.heap.size := by omega
          have hnb : ¬ b6 = wx.heap.size := by omega
          have hnb2 : ¬ w.heap.size = wx.heap.size := by omega
          have hfb : Hid ((wx.alloc (.cells #[.slice (some ⟨ga, P, none⟩) n n] 53)).drew.cell? ⟨w.heap.size, 0, none⟩ = some (.int .i64 (n : Int))) := cell_kept (below_new (w := wx) (.cells #[.slice (some ⟨ga, P, none⟩) n n] 53)).drew s0
          have hfc : Hid ((wx.alloc (.cells #[.slice (some ⟨ga, P, none⟩) n n] 53)).drew.cell? ⟨b6, 2, none⟩ = some rv) := cell_kept (below_new (w := wx) (.cells #[.slice (some ⟨ga, P, none⟩) n n] 53)).drew s1
          have hfa : Hid ((wx.alloc (.cells #[.slice (some ⟨ga, P, none⟩) n n] 53)).drew.frozen? ⟨b6, 2, none⟩ = false) := frozen_of_row _ _ 2 _ 73 (((below_new (w := wx) (.cells #[.slice (some ⟨ga, P, none⟩) n n] 53)).drew.block b6 hb6w).trans hblk7.out)
          have hrvb : Hid (rv.ownBlock ≠ some b6) := fun e => by have := own_block_le hO7.out b6 e; omega
          have hrvw : Hid (rv.ownBlock ≠ some w.heap.size) := fun e => by have := own_block_le hO7.out _ e; omega
          have fb : ∀ w1 : World, (wx.alloc (.cells #[.slice (some ⟨ga, P, none⟩) n n] 53)).drew.grownBy w1 rv.ownBlock → w1.cell? ⟨b6, 2, none⟩ = some rv ∧ w1.frozen? ⟨b6, 2, none⟩ = false := fun w1 hgrow => ⟨(hgrow.cell_far _ (by simp; omega) (Ne.symm hrvb.out)).trans hfc.out, (hgrow.frozen_far _ (by simp; omega) (Ne.symm hrvb.out)).trans hfa.out⟩
          have fb' := Lib.hid fb
          clear fb
          go_region_law ((refine step_append_lies _ (by rfl) _ _ _ (by rfl) (b6 + 1) 53 i0 _ 1 24 Try.underlying57 hi'.out hq0 hq1 hq2 rfl (by omega) rv k _ (by rfl) ((hO7.out.alloc _).drew) ⟨wx.heap.size, 0, none⟩ 1 1 [.slice (some ⟨ga, P, none⟩) n n] (by rfl) (by rfl) (World.news_of_block (cs := #[.slice (some ⟨ga, P, none⟩) n n]) (t := 53) (fr := (0, 0)) (heap_alloc_new wx _)) (by simp [Value.oneCell']) (by omega) (by unfold maxLen; omega) (by omega) (by simp; omega) (wx.heap.size + 1) (by simp) ?_; intro gg cap w1 hown1 hgrow hat hlt1; obtain ⟨g1, g2⟩ := fb'.out w1 hgrow; have hown1' := Lib.hid hown1; have hgrow' := Lib.hid hgrow; clear hown1 hgrow hat hlt1))
          all_goals
            go_wp2
            have hBx : Below b6 W7 w1 := ((hB7.out.alloc (by omega) _).drew).grown hgrow'.out (by simp; omega) (fun q hq => by have := own_block_le hO7.out q hq; omega)
            have hbl : w1.heap[b6]? = some (.cells #[.int .i64 (n : Int), .int .i64 at', rv] 73 (0, 0)) := (hgrow'.out.block b6 (by simp; omega) (fun e => hrvb.out e.symm)).trans (((below_new (w := wx) (.cells #[.slice (some ⟨ga, P, none⟩) n n] 53)).drew.block b6 hb6w).trans hblk7.out)
            refine ⟨⟨k + 1, _, by omega, by go_num, hBx.setCell (by simp) _, (heap_setCell_same w1 b6 2 _ 73 _ hbl).trans rfl, own_setOther ?_ (by omega) _⟩, by simp [intOf]; omega⟩
            have hx := hown1'.out
            rw [List.range_succ, List.map_append]
            show w1.ownsRow _ _ _ _ _ (_ ++ [partV ga n k])
            unfold partV
            rw [← hP'.out]
            exact hx
        · obtain rfl : k = rows.length := by omega
          clear hlt
          have hmem0 : (w.heap.size + 1, (#[.int .i64 0, .int .i64 0, .slice none 0 0] : Array Value), 73) ∈ [(w.heap.size + 1, (#[.int .i64 0, .int .i64 0, .slice none 0 0] : Array Value), 73), (w.heap.size, #[.int .i64 (n : Int), .int .i64 at', .slice ad rows.length cap], 73)] := by simp
          have f0 : wx.frozen? ⟨w.heap.size + 1, 0, none⟩ = false := frozen_of_row wx _ 0 _ 73 (E7.out _ hmem0)
          have f1 : wx.frozen? ⟨w.heap.size + 1, 1, none⟩ = false := frozen_of_row wx _ 1 _ 73 (E7.out _ hmem0)
          have f2 : wx.frozen? ⟨w.heap.size + 1, 2, none⟩ = false := frozen_of_row wx _ 2 _ 73 (E7.out _ hmem0)
          have d0 : wx.cell? ⟨w.heap.size + 1, 0, none⟩ = some (.int .i64 0) := E7.out.cell hmem0 rfl
          have d1 : wx.cell? ⟨w.heap.size + 1, 1, none⟩ = some (.int .i64 0) := E7.out.cell hmem0 rfl
          have d2 : wx.cell? ⟨w.heap.size + 1, 2, none⟩ = some (.slice none 0 0) := E7.out.cell hmem0 rfl
          have s0 : wx.cell? ⟨b6, 0, none⟩ = some (.int .i64 (n : Int)) := by rw [cell_of_row wx b6 0 _ 73 (0, 0) hblk7.out]; rfl
          have s1 : wx.cell? ⟨b6, 1, none⟩ = some (.int .i64 at') := by rw [cell_of_row wx b6 1 _ 73 (0, 0) hblk7.out]; rfl
          have s2 : wx.cell? ⟨b6, 2, none⟩ = some rv := by rw [cell_of_row wx b6 2 _ 73 (0, 0) hblk7.out]; rfl
          have hBw : Hid (Below w.heap.size w wx) := hB6.out.trans (hB7.out.mono (by omega))
          have hb6g : W2.heap.size ≤ b6 := by have := hb6.out; have := hB'.out.size; omega
          have hbytes : Hid (wx.ownsRow W2.heap.size 5 1 u3 (rows.length * n) ((flatR rows rows.length).map yv)) := own_belowN hO6.out hB7.out (fun g hg => by
            rcases Nat.eq_zero_or_pos rows.length with h | h
            · rcases hO'.out.2 with ⟨e1, _⟩ | ⟨g', c', cur', e1, e2, e3, _⟩
              · rw [e1] at hg; cases hg
              · rw [e1] at hg
                injection hg with hg
                have hg : g' = g := hg
                have := (Array.getElem?_eq_some_iff.1 e3).1
                have := hb6.out
                omega
            · obtain ⟨e1, _, e3⟩ := hga'.out h
              rw [e1] at hg
              injection hg with hg
              have hg : ga = g := hg
              omega)
          obtain ⟨adr, capr, hrs⟩ := own_shape hO7.out
          have hHL : Hid (∀ W', (∀ g, W2.heap.size ≤ g → W'.heap[g]? = wx.heap[g]?) → HasL W' rv rows) := fun W' hE => by
            rcases hO7.out.2 with ⟨e1, e2⟩ | ⟨g, cp, cur, e1, _, hg, hle, _, _, _⟩
            · have : rows = [] := List.eq_nil_of_length_eq_zero e2
              rw [e1, this]
              exact HasL.nil W'
            · refine ⟨some ⟨g, 0, none⟩, cp, e1, hle, fun i hi' => ⟨g, 0, partV ga n i, rfl, ?_, ?_⟩⟩
              · have ho := own_heap hO7.out (w' := W') (fun g hg => hE g (by omega))
                rw [e1] at ho
                rw [Nat.zero_add, ho.cellAt i (by omega)]
                simp [hi']
              · obtain ⟨e3, e4, e5⟩ := hga'.out (by omega)
                have ho := own_heap hbytes.out (w' := W') hE
                rw [e3] at ho
                have hli := hl'.out i hi'
                refine ⟨some ⟨ga, i * n, none⟩, n, by unfold partV; rw [hli], fun j hj => ⟨ga, i * n, rfl, ?_⟩⟩
                rw [hli] at hj
                have h1 : i * n + j < rows.length * n := by
                  calc i * n + j < i * n + n := by omega
                    _ = (i + 1) * n := by rw [Nat.add_mul]; omega
                    _ ≤ rows.length * n := Nat.mul_le_mul_right n (by omega)
                have hfl := flatR_len hl'.out rows.length (Nat.le_refl _)
                rw [ho.cellAt (i * n + j) (by omega), ← flatR_get hl'.out hj rows.length (Nat.le_refl _) hi']
                have h2 : i * n + j < (flatR rows rows.length).length := by rw [hfl]; exact h1
                simp [h2, yv]
          have hb6e : W2.heap.size ≤ b6 := by have := hb6.out; have := hB'.out.size; omega
          have hBe : Hid (∀ x y z : Value, Below w.heap.size w (((wx.setCell ⟨w.heap.size + 1, 0, none⟩ x).setCell ⟨w.heap.size + 1, 1, none⟩ y).setCell ⟨w.heap.size + 1, 2, none⟩ z)) := fun x y z => ((hBw.out.setCell (by simp) _).setCell (by simp) _).setCell (by simp) _
          clear hmem0
          generalize hrv : rv = rv0 at *
          have hrv' := Lib.hid hrv
          clear hrv
          go_wp2
          refine bodyPost_ret (v := bandV (n : Int) at' rv0) ?_ rfl ⟨rv0, rfl, fun W' hE => hHL.out W' (fun g hg => (hE g (by omega)).trans ?_), hBe.out _ _ _⟩
          · rw [results_cell1 rfl]
            go_simp
          · rw [heap_setCell_other _ _ _ _ (by show g ≠ w.heap.size + 1; omega), heap_setCell_other _ _ _ _ (by show g ≠ w.heap.size + 1; omega), heap_setCell_other _ _ _ _ (by show g ≠ w.heap.size + 1; omega)]
end Go.Proofs.Ytigghbehnnghnaa
