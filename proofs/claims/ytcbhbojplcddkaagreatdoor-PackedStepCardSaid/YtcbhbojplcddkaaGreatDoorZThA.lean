import Derived.Test.YtcbhbojplcddkaaGreatDoorZFdQ
import Derived.Deep.RegionHeld3
namespace Go.Proofs.YtcbhbojplcddkaaGreatDoor
open Go.RowKit Go.RowBits
set_option linter.unusedSimpArgs false
set_option linter.unusedVariables false

/-! ### The document's field: New, Has, Set; and the program's Set with its number -/
def setE (w h s : Nat) (x y : Int) (v : Nat) : Int := if 0 ≤ x ∧ x < (w : Int) ∧ 0 ≤ y ∧ y < (h : Int) then (if v < s then 0 else 7) else 130
theorem setE_ok {w h s : Nat} {x y : Int} {v : Nat} (h1 : 0 ≤ x ∧ x < (w : Int) ∧ 0 ≤ y ∧ y < (h : Int)) (h2 : v < s) : setE w h s x y v = 0 := by unfold setE; rw [if_pos h1, if_pos h2]
theorem setE_bad {w h s : Nat} {x y : Int} {v : Nat} (h1 : 0 ≤ x ∧ x < (w : Int) ∧ 0 ≤ y ∧ y < (h : Int)) (h2 : ¬ v < s) : setE w h s x y v = 7 := by unfold setE; rw [if_pos h1, if_neg h2]
theorem setE_off {w h s : Nat} {x y : Int} {v : Nat} (h1 : ¬ (0 ≤ x ∧ x < (w : Int) ∧ 0 ≤ y ∧ y < (h : Int))) : setE w h s x y v = 130 := by unfold setE; rw [if_neg h1]
section
variable {B E : Nat} {W : World} {fb w h s : Nat} {pk : Bool} {c : Nat → Nat → Nat}
def SetPostR (B E : Nat) (W : World) (fb w h s : Nat) (pk : Bool) (c : Nat → Nat → Nat) (x y : Int) (v : Nat) (e : Ending) (w' : World) : Prop :=
  e = .returned (.int .i64 (setE w h s x y v)) ∧ (∃ c', Fld B E w' fb w h s pk c') ∧ Only B E W w'
theorem Fld.setR (f : Fld B E W fb w h s pk c) (x y : Int) {v : Nat} (hv8 : v < 256) : Calls Tryz.prog 19 #[.pointer (some ⟨fb, 0, none⟩), .int .i64 x, .int .i64 y, .int .u8 (v : Int)] W (SetPostR B E W fb w h s pk c x y v) := by
  obtain ⟨l1, l2, l3⟩ := f.lies
  by_cases hin : 0 ≤ x ∧ x < (w : Int) ∧ 0 ≤ y ∧ y < (h : Int)
  · have hb : hasB w h x y = true := by unfold hasB; exact decide_eq_true hin
    by_cases hv : v < s
    · obtain ⟨a, rfl⟩ : ∃ a : Nat, x = (a : Int) := ⟨x.toNat, by omega⟩
      obtain ⟨b, rfl⟩ : ∃ b : Nat, y = (b : Int) := ⟨y.toNat, by omega⟩
      rcases f.keeps with ⟨h1, u, gs, h2, h3⟩ | ⟨h1, h0, u, gs, h2, h3⟩
      · have hgs : ∀ W1, Below W.heap.size W W1 → B ≤ gs b ∧ gs b < E ∧ fb ≠ gs b := fun W1 hb' => by
          obtain ⟨gr, cap, cells, cs, _, e2, q1, q2, q3⟩ := h3
          obtain ⟨r1, _, cur, r2, _⟩ := own_slice (q1.row b (by omega))
          refine ⟨r1, q2.2 b (by omega), fun e => ?_⟩
          unfold FBlk at h2
          rw [e, r2] at h2
          injection h2 with h2
          injection h2 with _ h2 _
          cases h2
        refine (set32y (P := fun w' => ∃ c', Fld B E w' fb w h s pk c' ∧ c' = upd c b a v ∧ Only B E W w') h2 hb hv8 hv (fun W1 hb1 => ?_)).mono ?_
        · refine ((h3.kept hb1).set (by omega) (by omega)).mono ?_
          rintro e w' ⟨q1, q2, q3⟩
          obtain ⟨g1, g2, g3⟩ := hgs W1 hb1
          exact ⟨q1, _, ⟨f.side, ⟨l1, l2, Nat.le_trans (Nat.le_trans l3 hb1.size) q3.size⟩, .inl ⟨h1, u, gs, (h2.kept hb1).grown q3 g3, q2⟩, upd_low f.low hv⟩, rfl, (Only.of_below hb1).trans (Only.of_grown q3 ⟨g1, g2⟩)⟩
        · rintro e w' ⟨rfl, c', q1, q2, q3⟩
          exact ⟨by rw [setE_ok hin hv], ⟨c', q1⟩, q3⟩
      · have hgs : ∀ W1, Below W.heap.size W W1 → B ≤ gs b ∧ gs b < E ∧ fb ≠ gs b := fun W1 hb' => by
          obtain ⟨gr, cap, cells, cs, _, e2, q1, q2, q3⟩ := h3
          obtain ⟨r1, _, cur, r2, _⟩ := own_slice (q1.row b (by omega))
          refine ⟨r1, q2.2 b (by omega), fun e => ?_⟩
          unfold FBlk at h2
          rw [e, r2] at h2
          injection h2 with h2
          injection h2 with _ h2 _
          cases h2
        refine (set32w (P := fun w' => ∃ c', Fld B E w' fb w h s pk c' ∧ c' = upd c b a v ∧ Only B E W w') h2 hb hv8 hv (fun W1 hb1 => ?_)).mono ?_
        · refine ((h3.kept hb1).set f.side.1.2 f.side.2.1.2 (by omega) (by omega) (by omega)).mono ?_
          rintro e w' ⟨q1, q2, q3⟩
          obtain ⟨g1, g2, g3⟩ := hgs W1 hb1
          exact ⟨q1, _, ⟨f.side, ⟨l1, l2, Nat.le_trans (Nat.le_trans l3 hb1.size) q3.size⟩, .inr ⟨h1, h0, u, gs, (h2.kept hb1).grown q3 g3, q2⟩, upd_low f.low hv⟩, rfl, (Only.of_below hb1).trans (Only.of_grown q3 ⟨g1, g2⟩)⟩
        · rintro e w' ⟨rfl, c', q1, q2, q3⟩
          exact ⟨by rw [setE_ok hin hv], ⟨c', q1⟩, q3⟩
    · obtain ⟨T, u, hf⟩ := f.blk
      refine (set32bad hf hb hv8 (by omega)).mono ?_
      rintro e w' ⟨rfl, hb'⟩
      exact ⟨by rw [setE_bad hin hv], ⟨c, f.kept hb'⟩, Only.of_below hb'⟩
  · have hb : hasB w h x y = false := by unfold hasB; exact decide_eq_false hin
    obtain ⟨T, u, hf⟩ := f.blk
    refine (set32off hf hb).mono ?_
    rintro e w' ⟨rfl, hb'⟩
    exact ⟨by rw [setE_off hin], ⟨c, f.kept hb'⟩, Only.of_below hb'⟩
end
set_option maxHeartbeats 2000000 in
theorem new30bad {w h s : Int} {pk : Bool} (hb : ¬ newOk w h s) (W : World) : Calls Tryz.prog 17 #[.int .i64 w, .int .i64 h, .int .i64 s, .bool pk] W fun e w' => e = .returned (newErr 2) ∧ w' = W := by
  unfold newOk at hb
  by_cases h0 : 1 ≤ w
  · skip
    by_cases h1 : w ≤ 65536
    · skip
      by_cases h2 : 1 ≤ h
      · skip
        by_cases h3 : h ≤ 65536
        · skip
          by_cases h4 : 2 ≤ s
          · skip
            by_cases h5 : s ≤ 256
            · skip
              exact absurd ⟨h0, h1, h2, h3, h4, h5⟩ hb
            · clear hb
              go_enter Tryz.func17, Tryz.ntmps17
              go_wp2
              go_ret2
              exact ⟨rfl, rfl⟩
          · clear hb
            go_enter Tryz.func17, Tryz.ntmps17
            go_wp2
            go_ret2
            exact ⟨rfl, rfl⟩
        · clear hb
          go_enter Tryz.func17, Tryz.ntmps17
          go_wp2
          go_ret2
          exact ⟨rfl, rfl⟩
      · clear hb
        go_enter Tryz.func17, Tryz.ntmps17
        go_wp2
        go_ret2
        exact ⟨rfl, rfl⟩
    · clear hb
      go_enter Tryz.func17, Tryz.ntmps17
      go_wp2
      go_ret2
      exact ⟨rfl, rfl⟩
  · clear hb
    go_enter Tryz.func17, Tryz.ntmps17
    go_wp2
    go_ret2
    exact ⟨rfl, rfl⟩
set_option maxHeartbeats 2000000 in
theorem new30states {w h s : Int} (hb : newOk w h s) (hs : 2 < s) (W : World) : Calls Tryz.prog 17 #[.int .i64 w, .int .i64 h, .int .i64 s, .bool true] W fun e w' => e = .returned (newErr 132) ∧ w' = W := by
  obtain ⟨h0, h1, h2, h3, h4, h5⟩ := hb
  go_enter Tryz.func17, Tryz.ntmps17
  go_wp2
  go_ret2
  exact ⟨rfl, rfl⟩
set_option maxHeartbeats 2000000 in
theorem new30bigf {w h s : Int} (hb : newOk w h s) (hwh : 1048576 < w * h) (W : World) : Calls Tryz.prog 17 #[.int .i64 w, .int .i64 h, .int .i64 s, .bool false] W fun e w' => e = .returned (newErr 4) ∧ w' = W := by
  have hwr := wh_wrap hb
  obtain ⟨h0, h1, h2, h3, h4, h5⟩ := hb
  have hm : Hid (IntKind.i64.wrap (w * h) = w * h) := hwr
  go_enter Tryz.func17, Tryz.ntmps17
  go_wp2
  go_ret2
  exact ⟨rfl, rfl⟩
set_option maxHeartbeats 2000000 in
theorem new30bigt {w h s : Int} (hb : newOk w h s) (hs : s ≤ 2) (hwh : 1048576 < w * h) (W : World) : Calls Tryz.prog 17 #[.int .i64 w, .int .i64 h, .int .i64 s, .bool true] W fun e w' => e = .returned (newErr 4) ∧ w' = W := by
  have hwr := wh_wrap hb
  obtain ⟨h0, h1, h2, h3, h4, h5⟩ := hb
  have hm : Hid (IntKind.i64.wrap (w * h) = w * h) := hwr
  go_enter Tryz.func17, Tryz.ntmps17
  go_wp2
  go_ret2
  exact ⟨rfl, rfl⟩

structure RFld (B E : Nat) (W : World) (rb w h s : Nat) : Prop where
  side : (1 ≤ w ∧ w ≤ 65536) ∧ (1 ≤ h ∧ h ≤ 65536) ∧ (2 ≤ s ∧ s ≤ 256) ∧ w * h ≤ 1048576
  lies : B ≤ rb ∧ rb < E ∧ E ≤ W.heap.size
  keeps : ∃ (g : Nat) (l : List Nat) (pk : Bool), W.heap[rb]? = some (.cells #[.int .i64 (w : Int), .int .i64 (h : Int), .int .i64 (s : Int), .bool pk, .slice (some ⟨g, 0, none⟩) (w * h) (w * h)] 107 (0, 0)) ∧ YBlk W g l ∧ l.length = w * h ∧ B ≤ g ∧ g < E ∧ g ≠ rb
theorem RFld.kept {B E : Nat} {W W' : World} {rb w h s : Nat} (f : RFld B E W rb w h s) (hb : Below W.heap.size W W') : RFld B E W' rb w h s := by
  obtain ⟨h1, ⟨h2, h3, h4⟩, g, l, pk, h5, h6, h7⟩ := f
  exact ⟨h1, ⟨h2, h3, Nat.le_trans h4 hb.size⟩, g, l, pk, (hb.block rb (by omega)).trans h5, h6.kept hb, h7⟩
theorem RFld.only {B E B' E' : Nat} {W W' : World} {rb w h s : Nat} (f : RFld B E W rb w h s) (ho : Only B' E' W W') (hd : E ≤ B' ∨ E' ≤ B) : RFld B E W' rb w h s := by
  obtain ⟨h1, ⟨h2, h3, h4⟩, g, l, pk, h5, h6, h7, h8, h9, h10⟩ := f
  exact ⟨h1, ⟨h2, h3, Nat.le_trans h4 ho.size⟩, g, l, pk, (ho.block rb (by omega) (by omega)).trans h5, (ho.block g (by omega) (by omega)).trans h6, h7, h8, h9, h10⟩
theorem made69 (n : Nat) (h : (n : Int) ≤ 1048576) (W : World) : (Instr.makeSlice 51 (.int .i64 (n : Int)) (.int .i64 (n : Int))).run Tryz.prog W = .ok (.slice (some ⟨W.heap.size, 0, none⟩) n n) (W.alloc (.cells (madeCells #[.int .u8 0] (n * 1)) 5)) := by
  obtain ⟨i, hi, hzz⟩ := Option.map_eq_some_iff.1 info5'
  simp only [Prod.mk.injEq] at hzz
  obtain ⟨hz, hs, hb⟩ := hzz
  have hb' : (i.bytes : Int) * (n : Int) ≤ 281474976710656 := by rw [hb]; omega
  have hr := run_make (P := Tryz.prog) W 51 5 i _ Tryz.underlying51 hi hz .i64 .i64 n n (by omega) (Int.le_refl _) hb' (by omega)
  simp only [Int.toNat_natCast, hs] at hr
  exact hr
set_option maxRecDepth 20000 in
set_option maxHeartbeats 2000000 in
theorem new30good {w h s : Nat} {pk : Bool} (hok : newOk (w : Int) (h : Int) (s : Int)) (hwh : w * h ≤ 1048576) (hpk : pk = true → s ≤ 2) (W : World) :
    Calls Tryz.prog 17 #[.int .i64 (w : Int), .int .i64 (h : Int), .int .i64 (s : Int), .bool pk] W fun e w' => ∃ rb, e = .returned (.tuple #[.pointer (some ⟨rb, 0, none⟩), .int .i64 0]) ∧ RFld W.heap.size w'.heap.size w' rb w h s ∧ Below W.heap.size W w' := by
  have hwr := wh_wrap hok
  obtain ⟨h0, h1, h2, h3, h4, h5⟩ := hok
  have hm : IntKind.i64.wrap ((w : Int) * (h : Int)) = ((w * h : Nat) : Int) := by rw [hwr]; simp
  have hmm : ((w : Int) * (h : Int)) = ((w * h : Nat) : Int) := by simp
  obtain ⟨m, hm0⟩ : ∃ m, m = w * h := ⟨_, rfl⟩
  have FIN : Hid (∀ o1 o2 : Obj, o1 = .cells (madeCells #[.int .u8 0] m) 5 → o2 = .cells #[.int .i64 (w : Int), .int .i64 (h : Int), .int .i64 (s : Int), .bool pk, .slice (some ⟨W.heap.size, 0, none⟩) m m] 107 → RFld W.heap.size ((W.alloc o1).alloc o2).heap.size ((W.alloc o1).alloc o2) (W.heap.size + 1) w h s ∧ Below W.heap.size W ((W.alloc o1).alloc o2)) := fun o1 o2 e1 e2 => by
    subst e1 e2
    refine ⟨⟨⟨by omega, by omega, by omega, hwh⟩, ⟨by omega, by simp, Nat.le_refl _⟩, W.heap.size, List.replicate m 0, pk, ?_, ?_, by rw [List.length_replicate, hm0], by omega, by simp; omega, by omega⟩, (below_new _).alloc (by simp) _⟩
    · have := heap_alloc_new (W.alloc (.cells (madeCells #[.int .u8 0] m) 5)) (.cells #[.int .i64 (w : Int), .int .i64 (h : Int), .int .i64 (s : Int), .bool pk, .slice (some ⟨W.heap.size, 0, none⟩) m m] 107)
      rw [World.size_alloc] at this
      rw [← hm0]
      exact this
    · refine YBlk.kept (YBlk.new W _ _ ?_) (below_new _)
      exact made_bytes m
  rw [← hm0] at hmm hwh
  have hm1 : (0 : Int) ≤ (m : Int) := by omega
  clear hm hm0
  have hI : (m : Int) ≤ 1048576 := by omega
  have hp : pk = false ∨ (pk = true ∧ (s : Int) ≤ 2) := by
    cases pk with
    | false => exact .inl rfl
    | true => exact .inr ⟨rfl, by have := hpk rfl; omega⟩
  have hmk := made69 m hI
  clear hpk hwr hwh
  rcases hp with rfl | ⟨rfl, hs2⟩
  · go_enter Tryz.func17, Tryz.ntmps17
    go_wp2
    go_ret2
    exact ⟨_, rfl, FIN.out _ _ rfl rfl⟩
  · go_enter Tryz.func17, Tryz.ntmps17
    go_wp2
    go_ret2
    exact ⟨_, rfl, FIN.out _ _ rfl rfl⟩
section
variable {B E : Nat} {W : World} {rb w h s : Nat}
theorem has56 {x y : Int} (c0 : W.cell? ⟨rb, 0, none⟩ = some (.int .i64 (w : Int))) (c1 : W.cell? ⟨rb, 1, none⟩ = some (.int .i64 (h : Int))) : Calls Tryz.prog 39 #[.pointer (some ⟨rb, 0, none⟩), .int .i64 x, .int .i64 y] W fun e w' => e = .returned (.bool (hasB w h x y)) ∧ w' = W := by
  by_cases h1 : 0 ≤ x
  · by_cases h2 : x < (w : Int)
    · by_cases h3 : 0 ≤ y
      · by_cases h4 : y < (h : Int)
        · have hF : Hid (hasB w h x y = true) := by show _ = _; unfold hasB; exact decide_eq_true ⟨h1, h2, h3, h4⟩
          go_enter Tryz.func39, Tryz.ntmps39
          go_wp2
          go_ret
          exact ⟨by rw [hF.out]; rfl, rfl⟩
        · have hF : Hid (hasB w h x y = false) := by show _ = _; unfold hasB; exact decide_eq_false (by omega)
          go_enter Tryz.func39, Tryz.ntmps39
          go_wp2
          go_ret
          exact ⟨by rw [hF.out]; rfl, rfl⟩
      · have hF : Hid (hasB w h x y = false) := by show _ = _; unfold hasB; exact decide_eq_false (by omega)
        go_enter Tryz.func39, Tryz.ntmps39
        go_wp2
        go_ret
        exact ⟨by rw [hF.out]; rfl, rfl⟩
    · have hF : Hid (hasB w h x y = false) := by show _ = _; unfold hasB; exact decide_eq_false (by omega)
      go_enter Tryz.func39, Tryz.ntmps39
      go_wp2
      go_ret
      exact ⟨by rw [hF.out]; rfl, rfl⟩
  · have hF : Hid (hasB w h x y = false) := by show _ = _; unfold hasB; exact decide_eq_false (by omega)
    go_enter Tryz.func39, Tryz.ntmps39
    go_wp2
    go_ret
    exact ⟨by rw [hF.out]; rfl, rfl⟩
def RSetPost (B E : Nat) (W : World) (rb w h s : Nat) (x y : Int) (v : Nat) (e : Ending) (w' : World) : Prop := e = .returned (.int .i64 (setE w h s x y v)) ∧ RFld B E w' rb w h s ∧ Only B E W w'
theorem Only.drew' {B E : Nat} {W W' : World} (ho : Only B E W W') : Only B E W W'.drew := ⟨ho.os, ho.tape, ho.output, ho.size, ho.block⟩
set_option maxRecDepth 20000 in
set_option maxHeartbeats 2000000 in
theorem set31 (f : RFld B E W rb w h s) (x y : Int) {v : Nat} (hv8 : v < 256) : Calls Tryz.prog 18 #[.pointer (some ⟨rb, 0, none⟩), .int .i64 x, .int .i64 y, .int .u8 (v : Int)] W (RSetPost B E W rb w h s x y v) := by
  obtain ⟨g, l, pk, k1, k2, k3, k4, k5, k6⟩ := f.keeps
  obtain ⟨⟨s1, s2⟩, ⟨s3, s4⟩, ⟨s5, s6⟩, s7⟩ := f.side
  obtain ⟨l1, l2, l3⟩ := f.lies
  obtain ⟨m, hm⟩ : ∃ m, m = w * h := ⟨_, rfl⟩
  rw [← hm] at k1 k3 s7
  have c0 : W.cell? ⟨rb, 0, none⟩ = some (.int .i64 (w : Int)) := by rw [cell_of_row W _ 0 _ 107 (0, 0) k1]; rfl
  have c1 : W.cell? ⟨rb, 1, none⟩ = some (.int .i64 (h : Int)) := by rw [cell_of_row W _ 1 _ 107 (0, 0) k1]; rfl
  have c2 : W.cell? ⟨rb, 2, none⟩ = some (.int .i64 (s : Int)) := by rw [cell_of_row W _ 2 _ 107 (0, 0) k1]; rfl
  have c4 : W.cell? ⟨rb, 4, none⟩ = some (.slice (some ⟨g, 0, none⟩) m m) := by rw [cell_of_row W _ 4 _ 107 (0, 0) k1]; rfl
  have K := Lib.hid (has56 (x := x) (y := y) c0 c1)
  have hmk := Lib.hid hm
  by_cases hin : 0 ≤ x ∧ x < (w : Int) ∧ 0 ≤ y ∧ y < (h : Int)
  · have hb : hasB w h x y = true := by unfold hasB; exact decide_eq_true hin
    rw [hb] at K
    by_cases hv : v < s
    · obtain ⟨a, rfl⟩ : ∃ a : Nat, x = (a : Int) := ⟨x.toNat, by omega⟩
      obtain ⟨b, rfl⟩ : ∃ b : Nat, y = (b : Int) := ⟨y.toNat, by omega⟩
      have hq : b * w + a < m := by
        have h1 : (b + 1) * w ≤ h * w := Nat.mul_le_mul_right w (by omega)
        rw [Nat.add_mul, Nat.one_mul, Nat.mul_comm h w, ← hm] at h1
        omega
      obtain ⟨q, hqq⟩ : ∃ q, q = b * w + a := ⟨_, rfl⟩
      obtain ⟨p, hp⟩ : ∃ p, p = b * w := ⟨_, rfl⟩
      have hpI : ((b : Int) * (w : Int)) = (p : Int) := by rw [hp]; simp
      have hpq : (p : Int) + (a : Int) = (q : Int) := by omega
      have hwp : IntKind.i64.wrap (p : Int) = (p : Int) := IntWalk.i64_in _ (by omega)
      have hwq : IntKind.i64.wrap (q : Int) = (q : Int) := IntWalk.i64_in _ (by omega)
      rw [← hqq] at hq
      have hqm : (q : Int) < (m : Int) := by omega
      have hq0 : (0 : Int) ≤ (q : Int) := by omega
      have hE := Lib.hid (setE_ok (s := s) hin hv)
      have hvs : ¬ (s : Int) ≤ (v : Int) := by omega
      have d1 : W.cell? ⟨g, q, none⟩ = some (.int .u8 ((l.getD q 0 : Nat) : Int)) := k2.cell (by rw [k3]; exact hq)
      have e1 : W.frozen? ⟨g, q, none⟩ = false := k2.frozen q
      have FIN : Hid (RFld B E (W.setCell ⟨g, q, none⟩ (.int .u8 (v : Int))).drew rb w h s ∧ Only B E W (W.setCell ⟨g, q, none⟩ (.int .u8 (v : Int))).drew) := by
        have hg := grown_setCell W g q (.int .u8 (v : Int))
        have ho : Only B E W (W.setCell ⟨g, q, none⟩ (.int .u8 (v : Int))) := Only.of_grown hg ⟨k4, k5⟩
        refine ⟨⟨f.side, ⟨l1, l2, Nat.le_trans l3 hg.size⟩, g, l.set q v, pk, ?_, ?_, by rw [List.length_set, k3, ← hmk.out], k4, k5, k6⟩, ho.drew'⟩
        · rw [← hmk.out]
          exact (hg.block _ (Array.getElem?_eq_some_iff.1 k1).1 (fun e => by injection e with e; exact k6 e.symm)).trans k1
        · exact k2.set v
      clear k1 k2 k3 hqq hp hq hv hin hb f hm
      go_enter Tryz.func18, Tryz.ntmps18
      go_wp2_with fail
      refine (K.out).mono ?_
      rintro e w1 ⟨rfl, hw1⟩
      subst w1
      go_wp2_with fail
      go_region
      go_wp2
      go_ret
      exact ⟨congrArg (fun z => Ending.returned (Value.int .i64 z)) hE.out.symm, FIN.out.1, FIN.out.2⟩
    · have hE := Lib.hid (setE_bad (s := s) hin hv)
      have hvs : (s : Int) ≤ (v : Int) := by omega
      have ff := Lib.hid f
      clear k1 k2 k3 hv hin hb f hm
      go_enter Tryz.func18, Tryz.ntmps18
      go_wp2_with fail
      refine (K.out).mono ?_
      rintro e w1 ⟨rfl, hw1⟩
      subst w1
      go_wp2_with fail
      go_ret
      exact ⟨congrArg (fun z => Ending.returned (Value.int .i64 z)) hE.out.symm, ff.out, Only.refl _ _ _⟩
  · have hb : hasB w h x y = false := by unfold hasB; exact decide_eq_false hin
    rw [hb] at K
    have hE := Lib.hid (setE_off (s := s) (v := v) hin)
    have ff := Lib.hid f
    clear k1 k2 k3 hin hb f hm
    go_enter Tryz.func18, Tryz.ntmps18
    go_wp2_with fail
    refine (K.out).mono ?_
    rintro e w1 ⟨rfl, hw1⟩
    subst w1
    go_wp2_with fail
    go_ret
    exact ⟨congrArg (fun z => Ending.returned (Value.int .i64 z)) hE.out.symm, ff.out, Only.refl _ _ _⟩
end
end Go.Proofs.YtcbhbojplcddkaaGreatDoor
namespace Go.Proofs.YtcbhbojplcddkaaGreatDoor
open Go.RowKit Go.RowBits
set_option linter.unusedSimpArgs false
set_option linter.unusedVariables false

/-! ### made: a grid's field, by the document and by the program -/
def HasC (w : World) (v : Value) (l : List (Int × Int × Nat)) : Prop :=
  ∃ (ad : Option Addr) (cap : Nat), v = .slice ad l.length cap ∧ ∀ j, j < l.length → ∃ g o, ad = some ⟨g, o, none⟩ ∧ w.cell? ⟨g, o + j * 3, none⟩ = some (.int .i64 (l.getD j (0, 0, 0)).1) ∧
    w.cell? ⟨g, o + j * 3 + 1, none⟩ = some (.int .i64 (l.getD j (0, 0, 0)).2.1) ∧ w.cell? ⟨g, o + j * 3 + 2, none⟩ = some (.int .u8 ((l.getD j (0, 0, 0)).2.2 : Int)) ∧ (l.getD j (0, 0, 0)).2.2 < 256
theorem HasC.kept {w w' : World} {v : Value} {l : List (Int × Int × Nat)} (h : HasC w v l) (hb : Below w.heap.size w w') : HasC w' v l := by
  obtain ⟨ad, cap, hv, hc⟩ := h
  refine ⟨ad, cap, hv, fun j hj => ?_⟩
  obtain ⟨g, o, hg, c1, c2, c3, c4⟩ := hc j hj
  exact ⟨g, o, hg, cell_kept hb c1, cell_kept hb c2, cell_kept hb c3, c4⟩
abbrev mgridV (w h s : Int) (pk : Bool) (cv : Value) : Value := .agg #[.int .i64 w, .int .i64 h, .int .i64 s, .bool pk, cv]
def MadePost (W : World) (pk : Bool) (e : Ending) (w' : World) : Prop :=
  (e = .returned (.tuple #[.pointer none, .pointer none, .bool true]) ∧ Below W.heap.size W w') ∨
  ∃ (B E rb fb w h s : Nat) (c : Nat → Nat → Nat), e = .returned (.tuple #[.pointer (some ⟨rb, 0, none⟩), .pointer (some ⟨fb, 0, none⟩), .bool true]) ∧ W.heap.size ≤ B ∧ Fld B E w' fb w h s pk c ∧ Below W.heap.size W w'
set_option maxRecDepth 20000 in
set_option maxHeartbeats 4000000 in
theorem made12err {W : World} {w h s : Int} {pk : Bool} {cv : Value} {r : Int} (hcv : ∃ a b c, cv = .slice a b c)
    (K1 : ∀ W', Calls Tryz.prog 17 #[.int .i64 w, .int .i64 h, .int .i64 s, .bool pk] W' fun e w' => e = .returned (newErr r) ∧ w' = W')
    (K2 : ∀ W', Calls Tryz.prog 10 #[.int .i64 w, .int .i64 h, .int .i64 s, .bool pk] W' fun e w' => e = .returned (newErr r) ∧ w' = W') :
    Calls Tryz.prog 5 #[mgridV w h s pk cv] W fun e w' => e = .returned (.tuple #[.pointer none, .pointer none, .bool true]) ∧ Below W.heap.size W w' := by
  obtain ⟨a, b, c, rfl⟩ := hcv
  have K1' := Lib.hid K1
  have K2' := Lib.hid K2
  clear K1 K2
  go_enter Tryz.func5, Tryz.ntmps5
  go_wp2_with fail
  refine (K1'.out _).mono ?_
  rintro e w1 ⟨rfl, rfl⟩
  go_wp2_with fail
  refine (K2'.out _).mono ?_
  rintro e w2 ⟨rfl, rfl⟩
  go_wp2_with fail
  refine bodyPost_ret (v := .tuple #[.pointer none, .pointer none, .bool true]) ?_ rfl ⟨rfl, below_new _⟩
  simp only [results, Tryz.f5, Array.toList]
  go_simp
theorem cell_same' {W W' : World} {b o : Nat} {u : Value} (h : W.cell? ⟨b, o, none⟩ = some u) (hb : W'.heap[b]? = W.heap[b]?) : W'.cell? ⟨b, o, none⟩ = some u := by
  unfold World.cell? at *
  simp only at *
  rw [hb]
  exact h
theorem cell_only {B E : Nat} {W W' : World} {b o : Nat} {u : Value} (ho : Only B E W W') (hE : E ≤ b) (h : W.cell? ⟨b, o, none⟩ = some u) : W'.cell? ⟨b, o, none⟩ = some u :=
  cell_same' h (ho.block b (World.block_lt_of_cell? W _ h) (.inr hE))
def MadeRel (W2 : World) (B0 E0 B1 E1 rb fb w h s : Nat) (pk : Bool) (n : Nat) (i : Value) (wr : World) : Prop := ∃ j : Nat, j ≤ n ∧ i = .int .i64 (j : Int) ∧ RFld B0 E0 wr rb w h s ∧ (∃ c, Fld B1 E1 wr fb w h s pk c) ∧ Below W2.heap.size W2 wr
set_option maxRecDepth 20000 in
set_option maxHeartbeats 8000000 in
theorem made12good {W : World} {w h s : Nat} {pk : Bool} {cv : Value} {cl : List (Int × Int × Nat)} (hC : HasC W cv cl) (hcl : cl.length ≤ 9223372036854775807) (hok : newOk (w : Int) (h : Int) (s : Int)) (hwh : w * h ≤ 1048576) (hpk : pk = true → s ≤ 2) :
    Calls Tryz.prog 5 #[mgridV (w : Int) (h : Int) (s : Int) pk cv] W fun e w' => ∃ (B E rb fb : Nat) (c : Nat → Nat → Nat), e = .returned (.tuple #[.pointer (some ⟨rb, 0, none⟩), .pointer (some ⟨fb, 0, none⟩), .bool true]) ∧ W.heap.size ≤ B ∧ Fld B E w' fb w h s pk c ∧ Below W.heap.size W w' := by
  have K1 := Lib.hid (fun W' => new30good hok hwh hpk W')
  have K2 := Lib.hid (fun W' => new_fld hok hwh hpk W')
  have hC' := Lib.hid hC
  obtain ⟨ad, cap, rfl, _⟩ := hC
  obtain ⟨W2, hW2⟩ : ∃ W2, Hid (W2 = W.alloc (.cells #[.int .i64 (w : Int), .int .i64 (h : Int), .int .i64 (s : Int), .bool pk, .slice ad cl.length cap] 29)) := ⟨_, rfl⟩
  have hB2 : Hid (Below W.heap.size W W2) := by rw [hW2.out]; exact below_new _
  have E2 : Hid (W2.heap[W.heap.size]? = some (.cells #[.int .i64 (w : Int), .int .i64 (h : Int), .int .i64 (s : Int), .bool pk, .slice ad cl.length cap] 29 (0, 0))) := by rw [hW2.out]; exact heap_alloc_new W _
  obtain ⟨n, hn⟩ : ∃ n, Hid (n = cl.length) := ⟨_, rfl⟩
  rw [← hn.out] at hW2 E2 hcl ⊢
  clear hok hwh hpk
  go_enter Tryz.func5, Tryz.ntmps5
  go_wp2_with fail
  rw [← hW2.out]
  refine (K1.out _).mono ?_
  rintro e w1 ⟨rb, rfl, hR, hb⟩
  have hB1 := Lib.hid (below_then hB2.out hb hB2.out.size)
  have hW2l : W.heap.size < W2.heap.size := (Array.getElem?_eq_some_iff.1 E2.out).1
  have E1 : Hid (w1.heap[W.heap.size]? = some (.cells #[.int .i64 (w : Int), .int .i64 (h : Int), .int .i64 (s : Int), .bool pk, .slice ad n cap] 29 (0, 0))) := (hb.block _ hW2l).trans E2.out
  have q0 : w1.cell? ⟨W.heap.size, 0, none⟩ = some (.int .i64 (w : Int)) := by rw [cell_of_row w1 _ 0 _ 29 (0, 0) E1.out]; rfl
  have q1 : w1.cell? ⟨W.heap.size, 1, none⟩ = some (.int .i64 (h : Int)) := by rw [cell_of_row w1 _ 1 _ 29 (0, 0) E1.out]; rfl
  have q2 : w1.cell? ⟨W.heap.size, 2, none⟩ = some (.int .i64 (s : Int)) := by rw [cell_of_row w1 _ 2 _ 29 (0, 0) E1.out]; rfl
  have q3 : w1.cell? ⟨W.heap.size, 3, none⟩ = some (.bool pk) := by rw [cell_of_row w1 _ 3 _ 29 (0, 0) E1.out]; rfl
  have hb21 := Lib.hid hb
  have hR' := Lib.hid hR
  clear hb hR K1 hW2
  go_wp2_with fail
  refine (K2.out _).mono ?_
  rintro e w2 ⟨fb, rfl, hF, hb⟩
  have hz2 : w1.heap.size ≤ w2.heap.size := hb.size
  have hB3 := Lib.hid (below_then hB1.out hb hB1.out.size)
  have hb22 := Lib.hid (below_then hb21.out hb hb21.out.size)
  have hR2 := Lib.hid (hR'.out.kept hb)
  have hF' := Lib.hid hF
  clear q0 q1 q2 q3 hb hF K2
  go_wp2_with fail
  go_loopw [9] (fun i wr => MadeRel W2 W2.heap.size w1.heap.size w1.heap.size w2.heap.size rb fb w h s pk n i wr) (fun i _ => n - (intOf i).toNat)
  case atStart => exact ⟨0, by omega, by go_num, hR2.out, ⟨_, hF'.out⟩, hb22.out⟩
  case round =>
    obtain ⟨j, hj, rfl, hRr, ⟨c, hFr⟩, hBr⟩ := hrel
    have hRr' := Lib.hid hRr
    have hFr' := Lib.hid hFr
    have hBr' := Lib.hid hBr
    have Er : wr.heap[W.heap.size]? = some (.cells #[.int .i64 (w : Int), .int .i64 (h : Int), .int .i64 (s : Int), .bool pk, .slice ad n cap] 29 (0, 0)) := (hBr.block _ hW2l).trans E2.out
    have q4 : wr.cell? ⟨W.heap.size, 4, none⟩ = some (.slice ad n cap) := by rw [cell_of_row wr _ 4 _ 29 (0, 0) Er]; rfl
    clear hRr hFr hBr Er
    by_cases hlt : j < n
    · have hCr := (hC'.out.kept (below_then hB2.out hBr'.out hB2.out.size))
      obtain ⟨ad', cap', e', hcs⟩ := hCr
      cases e'
      obtain ⟨g, o, rfl, c0, c1, c2, c3⟩ := hcs j (by rw [← hn.out]; exact hlt)
      generalize (cl.getD j (0, 0, 0)).1 = x at *
      generalize (cl.getD j (0, 0, 0)).2.1 = y at *
      generalize (cl.getD j (0, 0, 0)).2.2 = v at *
      have hgl : g < wr.heap.size := World.block_lt_of_cell? wr _ c0
      clear hcs
      obtain ⟨wq, hwq⟩ : ∃ wq, Hid (wq = wr.alloc (.cells #[.int .i64 x, .int .i64 y, .int .u8 (v : Int)] 66)) := ⟨_, rfl⟩
      have hbq : Below wr.heap.size wr wq := by rw [hwq.out]; exact below_new _
      have Eq : wq.heap[wr.heap.size]? = some (.cells #[.int .i64 x, .int .i64 y, .int .u8 (v : Int)] 66 (0, 0)) := by rw [hwq.out]; exact heap_alloc_new wr _
      have hRq := Lib.hid (hRr'.out.kept hbq)
      have hFq := Lib.hid (hFr'.out.kept hbq)
      have hBq := Lib.hid (below_then hBr'.out hbq hBr'.out.size)
      have hji : (j : Int) < (n : Int) := by omega
      go_wp2_with fail
      rw [← hwq.out]
      clear hwq c0 c1 c2 q4
      have d0 : wq.cell? ⟨wr.heap.size, 0, none⟩ = some (.int .i64 x) := by rw [cell_of_row wq _ 0 _ 66 (0, 0) Eq]; rfl
      have d1 : wq.cell? ⟨wr.heap.size, 1, none⟩ = some (.int .i64 y) := by rw [cell_of_row wq _ 1 _ 66 (0, 0) Eq]; rfl
      have d2 : wq.cell? ⟨wr.heap.size, 2, none⟩ = some (.int .u8 (v : Int)) := by rw [cell_of_row wq _ 2 _ 66 (0, 0) Eq]; rfl
      have hE1 : w1.heap.size ≤ wr.heap.size := Nat.le_trans hz2 hFr'.out.lies.2.2
      have hE2 : w2.heap.size ≤ wr.heap.size := hFr'.out.lies.2.2
      have K31 : Hid (∀ w', Below wq.heap.size wq w' → Calls Tryz.prog 18 #[.pointer (some ⟨rb, 0, none⟩), .int .i64 x, .int .i64 y, .int .u8 (v : Int)] w' (RSetPost W2.heap.size w1.heap.size w' rb w h s x y v)) := fun w' hb => set31 (hRq.out.kept hb) x y c3
      have KF : Hid (∀ w' w'', Below wq.heap.size wq w' → Only W2.heap.size w1.heap.size w' w'' → Fld w1.heap.size w2.heap.size w'' fb w h s pk c) := fun w' w'' hb ho => (hFq.out.kept hb).only ho (.inr (Nat.le_refl _))
      have K32 : Hid (∀ w', Fld w1.heap.size w2.heap.size w' fb w h s pk c → Calls Tryz.prog 19 #[.pointer (some ⟨fb, 0, none⟩), .int .i64 x, .int .i64 y, .int .u8 (v : Int)] w' (SetPostR w1.heap.size w2.heap.size w' fb w h s pk c x y v)) := fun w' hf => hf.setR x y c3
      generalize hSE : setE w h s x y v = se at *
      have hd : Hid (Below wq.heap.size wq wq.drew) := (Below.refl _ _).drew
      have K31' : Hid (∀ w', Below wq.heap.size wq w' → Calls Tryz.prog 18 #[.pointer (some ⟨rb, 0, none⟩), .int .i64 x, .int .i64 y, .int .u8 (v : Int)] w' fun e w'' => e = .returned (.int .i64 se) ∧ RFld W2.heap.size w1.heap.size w'' rb w h s ∧ Only W2.heap.size w1.heap.size w' w'') := fun w' hb => by rw [← hSE]; exact K31.out w' hb
      have K32' : Hid (∀ w', Fld w1.heap.size w2.heap.size w' fb w h s pk c → Calls Tryz.prog 19 #[.pointer (some ⟨fb, 0, none⟩), .int .i64 x, .int .i64 y, .int .u8 (v : Int)] w' fun e w'' => e = .returned (.int .i64 se) ∧ (∃ c', Fld w1.heap.size w2.heap.size w'' fb w h s pk c') ∧ Only w1.heap.size w2.heap.size w' w'') := fun w' hf => by rw [← hSE]; exact K32.out w' hf
      have hE1' := Lib.hid hE1
      have hE2' := Lib.hid hE2
      have hz2' := Lib.hid hz2
      clear K31 K32 hSE hE1 hE2 hz2
      go_region_held3 (fun w' => w'.cell? ⟨wr.heap.size, 0, none⟩ = some (.int .i64 x) ∧ w'.cell? ⟨wr.heap.size, 1, none⟩ = some (.int .i64 y) ∧ w'.cell? ⟨wr.heap.size, 2, none⟩ = some (.int .u8 (v : Int))) (go_keep)
        (first
          | (go_at_call 18; refine (K31'.out _ hd.out).mono ?_; rintro e w9 ⟨rfl, hR9, hO9⟩; have z0 := cell_only hO9 hE1'.out (cell_kept hd.out d0); have z1 := cell_only hO9 hE1'.out (cell_kept hd.out d1); have z2 := cell_only hO9 hE1'.out (cell_kept hd.out d2); have hF9 := Lib.hid (KF.out _ _ hd.out hO9); have hO9' := Lib.hid hO9; have hR9' := Lib.hid hR9; clear hR9 hO9)
          | (go_at_call 19; refine (K32'.out _ hF9.out).mono ?_; rintro e w10 ⟨rfl, ⟨c9, hF10⟩, hO10⟩; have y0 := cell_only hO10 hE2'.out z0; have y1 := cell_only hO10 hE2'.out z1; have y2 := cell_only hO10 hE2'.out z2; have hF10' := Lib.hid hF10; have hO10' := Lib.hid hO10; clear hF10 hO10))
      have hwj : wrap64 ((j : Int) + 1) = (j : Int) + 1 := by unfold wrap64; omega
      have FIN : Hid (MadeRel W2 W2.heap.size w1.heap.size w1.heap.size w2.heap.size rb fb w h s pk n (.int .i64 ((j : Int) + 1)) w10) := by
        refine ⟨j + 1, by omega, by go_num, hR9'.out.only hO10'.out (.inl (Nat.le_refl _)), ⟨_, hF10'.out⟩, ?_⟩
        have b1 : Below W2.heap.size W2 wq := hBq.out
        have b2 : Below W2.heap.size wq w9 := (hd.out.mono b1.size).trans (hO9'.out.below (Nat.le_trans b1.size hd.out.size))
        exact (b1.trans b2).trans ((hO10'.out.below (Nat.le_trans hz2'.out hF9.out.lies.2.2)).mono hb21.out.size)
      go_wp2_with fail
      exact ⟨FIN.out, by simp [intOf]; omega⟩
    · obtain rfl : j = n := by omega
      go_wp2_with fail
      refine bodyPost_ret (v := .tuple #[.pointer (some ⟨rb, 0, none⟩), .pointer (some ⟨fb, 0, none⟩), .bool true]) ?_ rfl ⟨_, _, rb, fb, c, rfl, Nat.le_trans hB2.out.size hb21.out.size, hFr'.out, below_then hB2.out hBr'.out hB2.out.size⟩
      simp only [results, Tryz.f5, Array.toList]
      go_simp
/-- made, whatever the grid. -/
theorem made12 {W : World} {w h s : Int} {pk : Bool} {cv : Value} {cl : List (Int × Int × Nat)} (hC : HasC W cv cl) (hcl : cl.length ≤ 9223372036854775807) :
    Calls Tryz.prog 5 #[mgridV w h s pk cv] W (MadePost W pk) := by
  have hcv : ∃ a b c, cv = .slice a b c := by
    obtain ⟨a, c, e, _⟩ := hC
    exact ⟨_, _, _, e⟩
  by_cases hok : newOk w h s
  · have hok' := hok
    obtain ⟨h0, h1, h2, h3, h4, h5⟩ := hok'
    by_cases hs : pk = true ∧ 2 < s
    · obtain ⟨rfl, hs⟩ := hs
      exact (made12err hcv (fun W' => new30states hok hs W') (fun W' => new27states hok hs W')).mono fun e w' h => .inl h
    · by_cases hwh : 1048576 < w * h
      · cases pk with
        | false => exact (made12err hcv (fun W' => new30bigf hok hwh W') (fun W' => new27bigf hok hwh W')).mono fun e w' h => .inl h
        | true =>
          have hs2 : s ≤ 2 := by
            by_cases h : s ≤ 2
            · exact h
            · exact absurd ⟨rfl, by omega⟩ hs
          exact (made12err hcv (fun W' => new30bigt hok hs2 hwh W') (fun W' => new27bigt hok hs2 hwh W')).mono fun e w' h => .inl h
      · obtain ⟨a, rfl⟩ : ∃ a : Nat, w = (a : Int) := ⟨w.toNat, by omega⟩
        obtain ⟨b, rfl⟩ : ∃ b : Nat, h = (b : Int) := ⟨h.toNat, by omega⟩
        obtain ⟨c, rfl⟩ : ∃ c : Nat, s = (c : Int) := ⟨s.toNat, by omega⟩
        have hm : ((a : Int) * (b : Int)) = ((a * b : Nat) : Int) := by simp
        rw [hm] at hwh
        refine (made12good hC hcl hok (by omega) (fun hp => ?_)).mono ?_
        · by_cases h : c ≤ 2
          · exact h
          · exact absurd ⟨hp, by omega⟩ hs
        · rintro e w' ⟨B, E, rb, fb, cc, q1, q2, q3, q4⟩
          exact .inr ⟨B, E, rb, fb, a, b, c, cc, q1, q2, q3, q4⟩
  · exact (made12err hcv (fun W' => new30bad hok W') (fun W' => new27bad hok W')).mono fun e w' h => .inl h
end Go.Proofs.YtcbhbojplcddkaaGreatDoor
namespace Go.Proofs.YtcbhbojplcddkaaGreatDoor
open Go.RowKit Go.RowBits
set_option linter.unusedSimpArgs false
set_option linter.unusedVariables false

/-! ### Same: two fields of one shape whose cells are the same -/
set_option maxRecDepth 20000 in
set_option maxHeartbeats 8000000 in
theorem same13w {W : World} {fb fb' w h s : Nat} {pk pk' : Bool} {u u' : Value} {c : Nat → Nat → Nat} (hf : FBlk W fb w h s pk 147 u) (hf' : FBlk W fb' w h s pk' 147 u') (hw : w ≤ 65536) (hh : h ≤ 65536)
    (G1 : ∀ W' (y x : Nat), Below W.heap.size W W' → y < h → x < w → Calls Tryz.prog 114 #[u, .int .i64 (x : Int), .int .i64 (y : Int)] W' fun e w' => e = .returned (.int .u8 ((c y x : Nat) : Int)) ∧ Below W'.heap.size W' w')
    (G2 : ∀ W' (y x : Nat), Below W.heap.size W W' → y < h → x < w → Calls Tryz.prog 114 #[u', .int .i64 (x : Int), .int .i64 (y : Int)] W' fun e w' => e = .returned (.int .u8 ((c y x : Nat) : Int)) ∧ Below W'.heap.size W' w') :
    Calls Tryz.prog 9 #[.pointer (some ⟨fb, 0, none⟩), .pointer (some ⟨fb', 0, none⟩)] W fun e w' => e = .returned (.bool true) ∧ Below W.heap.size W w' := by
  have G1' := Lib.hid G1
  have G2' := Lib.hid G2
  have hfh := Lib.hid hf
  have hfh' := Lib.hid hf'
  have K1 : Hid (∀ W', Below W.heap.size W W' → Calls Tryz.prog 32 #[.pointer (some ⟨fb, 0, none⟩)] W' fun e w' => e = .returned (.bool false) ∧ w' = W') := fun W' hb => none33 (hf.kept hb)
  have K2 : Hid (∀ W', Below W.heap.size W W' → Calls Tryz.prog 32 #[.pointer (some ⟨fb', 0, none⟩)] W' fun e w' => e = .returned (.bool false) ∧ w' = W') := fun W' hb => none33 (hf'.kept hb)
  have hd : Hid (Below W.heap.size W W.drew) := (Below.refl _ _).drew
  have c0 : W.cell? ⟨fb, 0, none⟩ = some (.int .i64 (w : Int)) := hf.cell rfl
  have c1 : W.cell? ⟨fb, 1, none⟩ = some (.int .i64 (h : Int)) := hf.cell rfl
  have c2 : W.cell? ⟨fb, 2, none⟩ = some (.int .i64 (s : Int)) := hf.cell rfl
  have d0 : W.cell? ⟨fb', 0, none⟩ = some (.int .i64 (w : Int)) := hf'.cell rfl
  have d1 : W.cell? ⟨fb', 1, none⟩ = some (.int .i64 (h : Int)) := hf'.cell rfl
  have d2 : W.cell? ⟨fb', 2, none⟩ = some (.int .i64 (s : Int)) := hf'.cell rfl
  clear G1 G2 hf hf'
  go_enter Tryz.func9, Tryz.ntmps9
  go_wp2_with fail
  go_region_held3 (fun w' => w'.cell? ⟨fb, 0, none⟩ = some (.int .i64 (w : Int)) ∧ w'.cell? ⟨fb, 1, none⟩ = some (.int .i64 (h : Int)) ∧ w'.cell? ⟨fb, 2, none⟩ = some (.int .i64 (s : Int)) ∧ w'.cell? ⟨fb', 0, none⟩ = some (.int .i64 (w : Int)) ∧ w'.cell? ⟨fb', 1, none⟩ = some (.int .i64 (h : Int)) ∧ w'.cell? ⟨fb', 2, none⟩ = some (.int .i64 (s : Int))) (go_keep)
    (first
      | (go_at_call_of 32 (Value.pointer (some ⟨fb, 0, none⟩)); refine (K1.out _ hd.out).mono ?_; rintro e w1 ⟨rfl, hw1⟩; subst w1)
      | (go_at_call_of 32 (Value.pointer (some ⟨fb', 0, none⟩)); refine (K2.out _ hd.out).mono ?_; rintro e w1 ⟨rfl, hw1⟩; subst w1))
  go_wp2_with fail
  go_loopw [29] (fun i wr => ∃ y : Nat, y ≤ h ∧ i = .int .i64 (y : Int) ∧ Below W.heap.size W wr) (fun i _ => h - (intOf i).toNat)
  case atStart => exact ⟨0, by omega, by go_num, hd.out⟩
  case round =>
    obtain ⟨y, hy, rfl, hb⟩ := hrel
    have hb' := Lib.hid hb
    clear c0 c1 c2 d0 d1 d2
    have c0 : wr.cell? ⟨fb, 0, none⟩ = some (.int .i64 (w : Int)) := (hfh.out.kept hb).cell rfl
    clear hb
    by_cases hlt : y < h
    · have hyh : (y : Int) < (h : Int) := by omega
      go_wp2_with fail
      go_loopw [37] (fun i wx => ∃ x : Nat, x ≤ w ∧ i = .int .i64 (x : Int) ∧ Below W.heap.size W wx) (fun i _ => w - (intOf i).toNat)
      case atStart => exact ⟨0, by omega, by go_num, hb'.out⟩
      case round =>
        obtain ⟨x, hx, rfl, hb⟩ := hrel
        have hbx := Lib.hid hb
        clear c0
        have c4 : wr.cell? ⟨fb, 4, none⟩ = some (.iface 147 u) := (hfh.out.kept hb).cell rfl
        have d4 : wr.cell? ⟨fb', 4, none⟩ = some (.iface 147 u') := (hfh'.out.kept hb).cell rfl
        clear hb
        by_cases hlx : x < w
        · have hxw : (x : Int) < (w : Int) := by omega
          have k1 := Lib.hid (G1'.out _ y x (hbx.out.drew) hlt hlx)
          have hdx : Hid (Below wr.heap.size wr wr.drew) := (Below.refl _ _).drew
          have G2x : Hid (∀ w', Below wr.heap.size wr w' → Calls Tryz.prog 114 #[u', .int .i64 (x : Int), .int .i64 (y : Int)] w' fun e w'' => e = .returned (.int .u8 ((c y x : Nat) : Int)) ∧ Below w'.heap.size w' w'') := fun w' hb => G2'.out w' y x (below_then hbx.out hb hbx.out.size) hlt hlx
          have G1x : Hid (∀ w', Below wr.heap.size wr w' → Calls Tryz.prog 114 #[u, .int .i64 (x : Int), .int .i64 (y : Int)] w' fun e w'' => e = .returned (.int .u8 ((c y x : Nat) : Int)) ∧ Below w'.heap.size w' w'') := fun w' hb => G1'.out w' y x (below_then hbx.out hb hbx.out.size) hlt hlx
          generalize ((c y x : Nat) : Int) = q at *
          clear k1
          go_wp2_with fail
          go_region_held3 (fun w' => w'.cell? ⟨fb, 4, none⟩ = some (.iface 147 u) ∧ w'.cell? ⟨fb', 4, none⟩ = some (.iface 147 u')) (go_keep)
            (first
              | (go_at_call_of 114 u; refine (G1x.out _ hdx.out).mono ?_; rintro e w8 ⟨rfl, hb8⟩; have z4 := cell_kept hb8 (cell_kept hdx.out c4); have y4 := cell_kept hb8 (cell_kept hdx.out d4); have hb8' := Lib.hid (below_then hdx.out hb8 hdx.out.size); clear hb8)
              | (go_at_call_of 114 u'; refine (G2x.out _ hb8'.out).mono ?_; rintro e w9 ⟨rfl, hb9⟩; have z5 := cell_kept hb9 z4; have y5 := cell_kept hb9 y4; have hb9' := Lib.hid (below_then hbx.out (below_then hb8'.out hb9 hb8'.out.size) hbx.out.size); clear hb9))
          go_wp2_with fail
          exact ⟨⟨x + 1, by omega, by go_num, hb9'.out⟩, by simp [intOf]; omega⟩
        · obtain rfl : x = w := by omega
          go_wp2_with fail
          exact ⟨⟨y + 1, by omega, by go_num, hbx.out⟩, by simp [intOf]; omega⟩
    · obtain rfl : y = h := by omega
      go_wp2_with fail
      go_ret
      exact ⟨rfl, hb'.out⟩
set_option maxRecDepth 20000 in
set_option maxHeartbeats 8000000 in
theorem same13y {W : World} {fb fb' w h s : Nat} {pk pk' : Bool} {u u' : Value} {c : Nat → Nat → Nat} (hf : FBlk W fb w h s pk 147 u) (hf' : FBlk W fb' w h s pk' 151 u') (hw : w ≤ 65536) (hh : h ≤ 65536)
    (G1 : ∀ W' (y x : Nat), Below W.heap.size W W' → y < h → x < w → Calls Tryz.prog 114 #[u, .int .i64 (x : Int), .int .i64 (y : Int)] W' fun e w' => e = .returned (.int .u8 ((c y x : Nat) : Int)) ∧ Below W'.heap.size W' w')
    (G2 : ∀ W' (y x : Nat), Below W.heap.size W W' → y < h → x < w → Calls Tryz.prog 118 #[u', .int .i64 (x : Int), .int .i64 (y : Int)] W' fun e w' => e = .returned (.int .u8 ((c y x : Nat) : Int)) ∧ Below W'.heap.size W' w') :
    Calls Tryz.prog 9 #[.pointer (some ⟨fb, 0, none⟩), .pointer (some ⟨fb', 0, none⟩)] W fun e w' => e = .returned (.bool true) ∧ Below W.heap.size W w' := by
  have G1' := Lib.hid G1
  have G2' := Lib.hid G2
  have hfh := Lib.hid hf
  have hfh' := Lib.hid hf'
  have K1 : Hid (∀ W', Below W.heap.size W W' → Calls Tryz.prog 32 #[.pointer (some ⟨fb, 0, none⟩)] W' fun e w' => e = .returned (.bool false) ∧ w' = W') := fun W' hb => none33 (hf.kept hb)
  have K2 : Hid (∀ W', Below W.heap.size W W' → Calls Tryz.prog 32 #[.pointer (some ⟨fb', 0, none⟩)] W' fun e w' => e = .returned (.bool false) ∧ w' = W') := fun W' hb => none33 (hf'.kept hb)
  have hd : Hid (Below W.heap.size W W.drew) := (Below.refl _ _).drew
  have c0 : W.cell? ⟨fb, 0, none⟩ = some (.int .i64 (w : Int)) := hf.cell rfl
  have c1 : W.cell? ⟨fb, 1, none⟩ = some (.int .i64 (h : Int)) := hf.cell rfl
  have c2 : W.cell? ⟨fb, 2, none⟩ = some (.int .i64 (s : Int)) := hf.cell rfl
  have d0 : W.cell? ⟨fb', 0, none⟩ = some (.int .i64 (w : Int)) := hf'.cell rfl
  have d1 : W.cell? ⟨fb', 1, none⟩ = some (.int .i64 (h : Int)) := hf'.cell rfl
  have d2 : W.cell? ⟨fb', 2, none⟩ = some (.int .i64 (s : Int)) := hf'.cell rfl
  clear G1 G2 hf hf'
  go_enter Tryz.func9, Tryz.ntmps9
  go_wp2_with fail
  go_region_held3 (fun w' => w'.cell? ⟨fb, 0, none⟩ = some (.int .i64 (w : Int)) ∧ w'.cell? ⟨fb, 1, none⟩ = some (.int .i64 (h : Int)) ∧ w'.cell? ⟨fb, 2, none⟩ = some (.int .i64 (s : Int)) ∧ w'.cell? ⟨fb', 0, none⟩ = some (.int .i64 (w : Int)) ∧ w'.cell? ⟨fb', 1, none⟩ = some (.int .i64 (h : Int)) ∧ w'.cell? ⟨fb', 2, none⟩ = some (.int .i64 (s : Int))) (go_keep)
    (first
      | (go_at_call_of 32 (Value.pointer (some ⟨fb, 0, none⟩)); refine (K1.out _ hd.out).mono ?_; rintro e w1 ⟨rfl, hw1⟩; subst w1)
      | (go_at_call_of 32 (Value.pointer (some ⟨fb', 0, none⟩)); refine (K2.out _ hd.out).mono ?_; rintro e w1 ⟨rfl, hw1⟩; subst w1))
  go_wp2_with fail
  go_loopw [29] (fun i wr => ∃ y : Nat, y ≤ h ∧ i = .int .i64 (y : Int) ∧ Below W.heap.size W wr) (fun i _ => h - (intOf i).toNat)
  case atStart => exact ⟨0, by omega, by go_num, hd.out⟩
  case round =>
    obtain ⟨y, hy, rfl, hb⟩ := hrel
    have hb' := Lib.hid hb
    clear c0 c1 c2 d0 d1 d2
    have c0 : wr.cell? ⟨fb, 0, none⟩ = some (.int .i64 (w : Int)) := (hfh.out.kept hb).cell rfl
    clear hb
    by_cases hlt : y < h
    · have hyh : (y : Int) < (h : Int) := by omega
      go_wp2_with fail
      go_loopw [37] (fun i wx => ∃ x : Nat, x ≤ w ∧ i = .int .i64 (x : Int) ∧ Below W.heap.size W wx) (fun i _ => w - (intOf i).toNat)
      case atStart => exact ⟨0, by omega, by go_num, hb'.out⟩
      case round =>
        obtain ⟨x, hx, rfl, hb⟩ := hrel
        have hbx := Lib.hid hb
        clear c0
        have c4 : wr.cell? ⟨fb, 4, none⟩ = some (.iface 147 u) := (hfh.out.kept hb).cell rfl
        have d4 : wr.cell? ⟨fb', 4, none⟩ = some (.iface 151 u') := (hfh'.out.kept hb).cell rfl
        clear hb
        by_cases hlx : x < w
        · have hxw : (x : Int) < (w : Int) := by omega
          have k1 := Lib.hid (G1'.out _ y x (hbx.out.drew) hlt hlx)
          have hdx : Hid (Below wr.heap.size wr wr.drew) := (Below.refl _ _).drew
          have G2x : Hid (∀ w', Below wr.heap.size wr w' → Calls Tryz.prog 118 #[u', .int .i64 (x : Int), .int .i64 (y : Int)] w' fun e w'' => e = .returned (.int .u8 ((c y x : Nat) : Int)) ∧ Below w'.heap.size w' w'') := fun w' hb => G2'.out w' y x (below_then hbx.out hb hbx.out.size) hlt hlx
          have G1x : Hid (∀ w', Below wr.heap.size wr w' → Calls Tryz.prog 114 #[u, .int .i64 (x : Int), .int .i64 (y : Int)] w' fun e w'' => e = .returned (.int .u8 ((c y x : Nat) : Int)) ∧ Below w'.heap.size w' w'') := fun w' hb => G1'.out w' y x (below_then hbx.out hb hbx.out.size) hlt hlx
          generalize ((c y x : Nat) : Int) = q at *
          clear k1
          go_wp2_with fail
          go_region_held3 (fun w' => w'.cell? ⟨fb, 4, none⟩ = some (.iface 147 u) ∧ w'.cell? ⟨fb', 4, none⟩ = some (.iface 151 u')) (go_keep)
            (first
              | (go_at_call_of 114 u; refine (G1x.out _ hdx.out).mono ?_; rintro e w8 ⟨rfl, hb8⟩; have z4 := cell_kept hb8 (cell_kept hdx.out c4); have y4 := cell_kept hb8 (cell_kept hdx.out d4); have hb8' := Lib.hid (below_then hdx.out hb8 hdx.out.size); clear hb8)
              | (go_at_call_of 118 u'; refine (G2x.out _ hb8'.out).mono ?_; rintro e w9 ⟨rfl, hb9⟩; have z5 := cell_kept hb9 z4; have y5 := cell_kept hb9 y4; have hb9' := Lib.hid (below_then hbx.out (below_then hb8'.out hb9 hb8'.out.size) hbx.out.size); clear hb9))
          go_wp2_with fail
          exact ⟨⟨x + 1, by omega, by go_num, hb9'.out⟩, by simp [intOf]; omega⟩
        · obtain rfl : x = w := by omega
          go_wp2_with fail
          exact ⟨⟨y + 1, by omega, by go_num, hbx.out⟩, by simp [intOf]; omega⟩
    · obtain rfl : y = h := by omega
      go_wp2_with fail
      go_ret
      exact ⟨rfl, hb'.out⟩
end Go.Proofs.YtcbhbojplcddkaaGreatDoor
