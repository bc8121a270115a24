import Derived.Test.YtcbhbojplcddkaaGreatDoorZPkA
import Derived.Laws.CopyOwn
namespace Go.Proofs.YtcbhbojplcddkaaGreatDoor
open Go.RowKit Go.RowBits
set_option linter.unusedSimpArgs false
set_option linter.unusedVariables false

/-! ### A block of words -/
def WBlk (w : World) (g : Nat) (ws : List Nat) : Prop := w.heap[g]? = some (.cells (ws.map wv).toArray 61 (0, 0))
theorem WBlk.lt {w : World} {g : Nat} {ws : List Nat} (h : WBlk w g ws) : g < w.heap.size := (Array.getElem?_eq_some_iff.1 h).1
theorem WBlk.cell {w : World} {g : Nat} {ws : List Nat} (h : WBlk w g ws) {j : Nat} (hj : j < ws.length) : w.cell? ⟨g, j, none⟩ = some (.int .u64 ((ws.getD j 0 : Nat) : Int)) := by
  unfold WBlk at h
  simp [World.cell?, h, hj, wv]
theorem WBlk.frozen {w : World} {g : Nat} {ws : List Nat} (h : WBlk w g ws) (j : Nat) : w.frozen? ⟨g, j, none⟩ = false := by
  unfold WBlk at h
  simp [World.frozen?, h]
theorem WBlk.keptB {w w' : World} {N g : Nat} {ws : List Nat} (h : WBlk w g ws) (hb : Below N w w') (hN : g < N) : WBlk w' g ws := (hb.block g hN).trans h
theorem WBlk.kept {w w' : World} {g : Nat} {ws : List Nat} (h : WBlk w g ws) (hb : Below w.heap.size w w') : WBlk w' g ws := h.keptB hb h.lt
theorem WBlk.own {w : World} {g base : Nat} {ws : List Nat} (h : WBlk w g ws) (hb : base ≤ g) (hm : ws.length ≤ maxLen) : w.ownsRow base 61 1 (.slice (some ⟨g, 0, none⟩) ws.length ws.length) ws.length (ws.map wv) := by
  refine ⟨by simp, .inr ⟨g, ws.length, (ws.map wv).toArray, rfl, hb, h, by omega, hm, by simp, ?_⟩⟩
  rw [Nat.mul_one]
  exact List.take_of_length_le (by simp)
theorem WBlk.has {w : World} {g cap : Nat} {ws : List Nat} (h : WBlk w g ws) : HasW w (.slice (some ⟨g, 0, none⟩) ws.length cap) ws :=
  ⟨_, cap, rfl, fun j hj => ⟨g, 0, rfl, by rw [Nat.zero_add]; exact h.cell hj⟩⟩
theorem WBlk.set {w : World} {g j : Nat} {ws : List Nat} (h : WBlk w g ws) (x : Nat) : WBlk (w.setCell ⟨g, j, none⟩ (.int .u64 ((x : Nat) : Int))) g (ws.set j x) := by
  unfold WBlk at *
  have := heap_setCell_same w g j (ws.map wv).toArray 61 (.int .u64 ((x : Nat) : Int)) h
  rw [this, List.setIfInBounds_toArray, List.map_set]
  rfl
theorem WBlk.setOther {w : World} {g b o : Nat} {ws : List Nat} (h : WBlk w g ws) (hne : g ≠ b) (u : Value) : WBlk (w.setCell ⟨b, o, none⟩ u) g ws := (heap_setCell_other w ⟨b, o, none⟩ g u hne).trans h
theorem WBlk.new (w : World) (cs : Array Value) (ws : List Nat) (h : cs = (ws.map wv).toArray) : WBlk (w.alloc (.cells cs 61)) w.heap.size ws := by
  subst h
  exact heap_alloc_new w _
theorem made_words (m : Nat) : madeCells #[.int .u64 0] m = ((List.replicate m 0).map wv).toArray := by
  apply Array.ext'
  rw [toList_madeCells_one, List.map_replicate]
  rfl
theorem size_alloc (w : World) (o : Obj) : (w.alloc o).heap.size = w.heap.size + 1 := by simp

theorem info61' : (Tryz.prog.info? 61).map (fun i => (i.zero, i.size, i.bytes)) = some (some (.int .u64 0), 1, 8) := by kernel_rfl

set_option maxHeartbeats 1000000 in
theorem blank_any {n m : Nat} (hn : n ≤ 65538) (hm : m = (n + 63) / 64) (w : World) : Calls Tryz.prog 52 #[.int .i64 (n : Int)] w fun e w' => ∃ g, e = .returned (.agg #[.int .i64 (n : Int), .slice (some ⟨g, 0, none⟩) m m]) ∧
    w.heap.size ≤ g ∧ WBlk w' g (List.replicate m 0) ∧ Below w.heap.size w w' := by
  have h2 : ((n : Int) + 63) / 64 = (m : Int) := by omega
  have hmk := fun n => run_make_row' (P := Tryz.prog) 56 61 (.int .u64 0) 8 Tryz.underlying56 info61' rfl .i64 .i64 n
  have hmk' : ∀ W, (Instr.makeSlice 56 (.int .i64 (m : Int)) (.int .i64 (m : Int))).run Tryz.prog W = .ok (.slice (some ⟨W.heap.size, 0, none⟩) m m) (W.alloc (.cells (madeCells #[.int .u64 0] m) 61)) := fun W => hmk m (by omega) (by omega) W
  clear hmk hm
  go_enter Tryz.func52, Tryz.ntmps52
  go_wp2
  try simp only [Exit.inBlock, Exit.then]
  refine bodyPost_ret (v := .agg #[_, _]) ?_ rfl ⟨w.heap.size + 1, rfl, by omega, ?_, ?_⟩
  · rw [results_cell1 rfl]
    go_simp
  · have := WBlk.new (w.alloc (.cells #[.int .i64 (n : Int), .slice (some ⟨w.heap.size + 1, 0, none⟩) m m] 58)) _ _ (made_words m)
    rw [size_alloc] at this
    exact this
  · exact Below.alloc (below_new _) (by simp) _

theorem size33 : (Tryz.prog.info? 61).map (·.size) = some 1 := by kernel_rfl

/-- A copy of just so many words into a block of words. -/
theorem wpList_copy_words {P : Program} {w : World} {ops : Array Oper} {rest : List Oper} {o : Oper} {a : Act} {Q : Exit → Act → World → Prop} (hgd : o.guard = none) (d s : Operand) (dT sT : TypeId)
    (ho : o.op = .call { callee := .builtin .copy, args := #[d, s], argTypes := #[dT, sT] }) (elem : TypeId) (hu : P.underlying dT = some (.slice elem)) (hsz : (P.info? elem).map (·.size) = some 1)
    (sp : Option Addr) (n dCap sCap g : Nat) (hd : a.eval d = .slice (some ⟨g, 0, none⟩) n dCap) (hs : a.eval s = .slice sp n sCap)
    (cur : List Value) (t : TypeId) (hg : w.heap[g]? = some (.cells cur.toArray t (0, 0))) (cs : List Value) (hn : cs.length = n) (hc : cur.length = n)
    (hpos : 0 < n → ∃ ad, sp = some ad ∧ ∀ j v, cs[j]? = some v → w.cell? (ad.add j) = some v) (h1 : ∀ v ∈ cs, v.oneCell' = true)
    (h : ∀ w', w'.heap[g]? = some (.cells cs.toArray t (0, 0)) → w.grownBy w' (some g) → wpList P ops Q rest (a.put o.dst (goInt n)) w') : wpList P ops Q (o :: rest) a w := by
  by_cases h0 : n = 0
  · obtain rfl : cs = [] := List.eq_nil_of_length_eq_zero (hn.trans h0)
    obtain rfl : cur = [] := List.eq_nil_of_length_eq_zero (hc.trans h0)
    refine wpList_copy_nothing hgd d s dT sT ho elem hu hsz _ sp n dCap n sCap hd hs (by simp [h0]) ?_
    have := h w hg ⟨rfl, rfl, rfl, Nat.le_refl _, fun _ _ _ => rfl⟩
    rw [h0] at this
    exact this
  · obtain ⟨ad, rfl, hsrc⟩ := hpos (by omega)
    refine wpList_copy_own hgd d s dT sT ho elem hu hsz g 0 n dCap ad n sCap hd hs cur.toArray t hg cs (by simp [hn]) hsrc (by simp; omega) h1 ?_
    rw [hn]
    refine h _ ?_ ⟨rfl, rfl, rfl, by simp [World.setRow], fun k hk hne => setRow_other w g k _ (fun e => hne (by rw [e]))⟩
    rw [setRow_heap w g _ _ t _ hg]
    have : (cur.toArray.toList.take 0 ++ (cs ++ cur.toArray.toList.drop (0 + cs.length))) = cs := by
      rw [List.take_zero, List.nil_append, List.drop_eq_nil_of_le (by simp; omega), List.append_nil]
    rw [← hn, this]

set_option maxRecDepth 20000 in
set_option maxHeartbeats 1000000 in
theorem clone_any {n : Nat} {v : Value} {ws : List Nat} {w : World} (hn : n ≤ 65538) (hl : ws.length = (n + 63) / 64) (h : HasW w v ws) : Calls Tryz.prog 53 #[.agg #[.int .i64 (n : Int), v]] w fun e w' => ∃ g, e = .returned (.agg #[.int .i64 (n : Int), .slice (some ⟨g, 0, none⟩) ws.length ws.length]) ∧
    w.heap.size ≤ g ∧ WBlk w' g ws ∧ Below w.heap.size w w' := by
  obtain ⟨ad, cap, rfl, hc⟩ := h
  have hc' := Lib.hid hc
  clear hc
  have K1 := Lib.hid (fun W => blank_any hn hl W)
  generalize hL : ws.length = L at *
  have hL' := Lib.hid hL
  clear hl hL
  go_enter Tryz.func53, Tryz.ntmps53
  go_wp2_with fail
  refine (K1.out _).mono ?_
  rintro e w1 ⟨g, rfl, hg1, hg2, hb⟩
  have z1 : w.heap.size + 2 ≤ w1.heap.size := by have := hb.size; simp at this; omega
  have hg1' : w.heap.size + 2 ≤ g := by simp at hg1; omega
  obtain ⟨hc1, hf1⟩ := bcell hb
  have hz1 : w.heap.size < w1.heap.size := by omega
  have hz2 : w.heap.size + 1 < w1.heap.size := by omega
  have hB1 := Lib.hid (below_then (B := w.heap.size) (Below.alloc (below_new (w := w) (.cells #[.int .i64 (n : Int), .slice ad L cap] 58)) (by simp) (.cells #[.int .i64 0, .slice none 0 0] 58)) hb (by simp; omega))
  have hg2' := Lib.hid hg2
  have hgl := hg2.lt
  clear hb hg1 hg2
  have hbn : Hid (Below w1.heap.size w1 (w1.alloc (.cells #[.int .i64 (n : Int), .slice (some ⟨g, 0, none⟩) L L] 58))) := below_new _
  go_wp2_with (first
    | (refine wpList_copy_words rfl _ _ 56 56 rfl 61 Tryz.underlying56 size33 ad L L cap g rfl rfl ((List.replicate L 0).map wv) 61 (hg2'.out.kept hbn.out) (ws.map wv) (by rw [List.length_map]; exact hL'.out) (by simp) ?q4 ?q5 ?_)
    | go_in)
  case q4 =>
    intro hp
    obtain ⟨g0, o, rfl, _⟩ := hc'.out 0 hp
    refine ⟨_, rfl, fun j u hj => ?_⟩
    have hj' : j < L := by
      have := (List.getElem?_eq_some_iff.1 hj).1
      rw [List.length_map, hL'.out] at this
      exact this
    obtain ⟨g1, o1, he, hcell⟩ := hc'.out j hj'
    cases he
    have hlt := World.block_lt_of_cell? w _ hcell
    have e1 : u = .int .u64 ((ws.getD j 0 : Nat) : Int) := by
      have hj2 : j < ws.length := by rw [hL'.out]; exact hj'
      rw [List.getElem?_map, List.getElem?_eq_getElem hj2, Option.map_some] at hj
      rw [← Option.some.inj hj, List.getD_eq_getElem?_getD, List.getElem?_eq_getElem hj2]
      rfl
    rw [e1, Addr.add_lit]
    exact cellB (below_then hB1.out hbn.out (by omega)) hcell hlt
  case q5 =>
    intro u hu
    obtain ⟨x, _, rfl⟩ := List.mem_map.1 hu
    rfl
  intro w2 hblk hgr
  have hblk' := Lib.hid hblk
  have hgr' := Lib.hid hgr
  have c0 : w2.cell? ⟨w1.heap.size, 0, none⟩ = some (.int .i64 (n : Int)) := hgr.cell (by go_simp) (fun e => by have : w1.heap.size = g := Option.some.inj e; omega)
  have c1 : w2.cell? ⟨w1.heap.size, 1, none⟩ = some (.slice (some ⟨g, 0, none⟩) L L) := hgr.cell (by go_simp) (fun e => by have : w1.heap.size = g := Option.some.inj e; omega)
  have hb2 : Below (w.heap.size + 2) (w1.alloc (.cells #[.int .i64 (n : Int), .slice (some ⟨g, 0, none⟩) L L] 58)) w2 := (Below.refl _ _).grown hgr (by simp; omega) (fun k e => by cases e; omega)
  have hc2 : ∀ b o, b < w.heap.size + 2 → w2.cell? ⟨b, o, none⟩ = w1.cell? ⟨b, o, none⟩ := fun b o h => by
    rw [hb2.cell (p := ⟨b, o, none⟩) h]
    exact hbn.out.cell (p := ⟨b, o, none⟩) (by simp; omega)
  have hf2 : ∀ b o, b < w.heap.size + 2 → w2.frozen? ⟨b, o, none⟩ = w1.frozen? ⟨b, o, none⟩ := fun b o h => by
    rw [hb2.frozen (p := ⟨b, o, none⟩) h]
    exact hbn.out.frozen (p := ⟨b, o, none⟩) (by simp; omega)
  have s2 : w1.heap.size < w2.heap.size := by have := hgr.size; simp at this; omega
  have hB2 := Lib.hid (below_then hB1.out hbn.out (by omega))
  have hB3 : Hid (Below w.heap.size w w2) := hB2.out.grown hgr (by simp; omega) (fun k e => by cases e; omega)
  clear hblk hgr hb2
  go_wp2
  try simp only [Exit.inBlock, Exit.then]
  refine bodyPost_ret (v := .agg #[_, _]) ?_ rfl ⟨g, rfl, by omega, ?_, ?_⟩
  · rw [results_cell1 rfl]
    go_simp
  · exact (WBlk.setOther (WBlk.setOther hblk'.out (by omega) _) (by omega) _)
  · exact (hB3.out.setCell (by simp) _).setCell (by simp) _
end Go.Proofs.YtcbhbojplcddkaaGreatDoor
