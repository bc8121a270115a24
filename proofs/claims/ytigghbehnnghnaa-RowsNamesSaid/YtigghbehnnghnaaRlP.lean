import Derived.Test.YtigghbehnnghnaaRlM
import Derived.Deep.RegionHeld3
namespace Go.Proofs.Ytigghbehnnghnaa
open Go.RowKit Go.RowBits Go.MapRaw Go.Maps
set_option linter.unusedSimpArgs false
set_option linter.unusedVariables false

/-! ### Next of a book -/
def sel3 (rows : List (List Nat)) (a b c : Nat) : Nat → List Nat := fun i => if i = 0 then rows.getD a [] else if i = 1 then rows.getD b [] else rows.getD c []
def nextRow (p : BP) (rows : List (List Nat)) (a b c : Nat) : List Nat := winL p.h p.born p.stay p.k p.n (sel3 rows a b c)
/-- What was worked out is right. -/
def WkOk (p : BP) (rows : List (List Nat)) (wk : List ((Nat × Nat × Nat) × Nat)) : Prop := ∀ x ∈ wk, x.1.1 < rows.length ∧ x.1.2.1 < rows.length ∧ x.1.2.2 < rows.length ∧ x.2 < rows.length ∧ rows.getD x.2 [] = nextRow p rows x.1.1 x.1.2.1 x.1.2.2
theorem idv_inj {a b c a' b' c' : Nat} (h : idv a b c = idv a' b' c') : a = a' ∧ b = b' ∧ c = c' := by
  injection h with h
  simp at h
  omega
section
variable {p : BP} {B : Nat} {W W' : World} {bk bn bw : Nat} {kv : Value} {ks : List Value} {rows : List (List Nat)} {wk : List ((Nat × Nat × Nat) × Nat)}
theorem WkOk.id (hw : WkOk p rows wk) (hnd : rows.Nodup) {x : (Nat × Nat × Nat) × Nat} (hx : x ∈ wk) : nextRow p rows x.1.1 x.1.2.1 x.1.2.2 ∈ rows ∧ rows.idxOf (nextRow p rows x.1.1 x.1.2.1 x.1.2.2) = x.2 := by
  obtain ⟨_, _, _, h4, h5⟩ := hw x hx
  rw [← h5]
  have e : rows.getD x.2 [] = rows[x.2] := by simp [h4]
  rw [e]
  exact ⟨List.getElem_mem h4, hnd.idxOf_getElem _ h4⟩
set_option maxRecDepth 20000 in
set_option maxHeartbeats 2000000 in
theorem next22_hit (h : BookAt p B W bk bn bw kv ks rows wk) (hw : WkOk p rows wk) {a b c : Nat} (ha : a < rows.length) (hb : b < rows.length) (hc : c < rows.length) (hin : ∃ x ∈ wk, x.1 = (a, b, c)) : Calls Try.prog 22 #[.pointer (some ⟨bk, 0, none⟩), .int .i64 (a : Int), .int .i64 (b : Int), .int .i64 (c : Int)] W fun e w' =>
    e = .returned (.tuple #[.int .i64 (idOf rows p.most (nextRow p rows a b c) : Int), .int .i64 0]) ∧ Below W.heap.size W w' := by
  obtain ⟨x, hx, hx1⟩ := hin
  have hid := hw.id h.nodup hx
  rw [hx1] at hid
  have hidof : idOf rows p.most (nextRow p rows a b c) = x.2 := by unfold idOf; rw [if_pos hid.1]; exact hid.2
  rw [hidof]
  have hm1 := h.m1
  have hmo := h.most
  obtain ⟨lk, hlk⟩ := keyOfA a b c (by omega) (by omega) (by omega)
  have hlook : Hid (∀ W', MapIs Try.prog 104 W' bw (wrkL wk) → (Instr.lookup 58 (.map (some bw)) (idv a b c) true).run Try.prog W' = .ok (.tuple #[.int .i64 (x.2 : Int), .bool true]) W') := fun W' hM =>
    hM.hit keyA Try.underlying58 (zero3 _) hlk (List.mem_map.2 ⟨x, hx, by rw [hx1]⟩) (fun q hq e => by
      obtain ⟨y, hy, rfl⟩ := List.mem_map.1 hq
      have hxy := idv_inj e
      have hidy := (hw.id h.nodup hy).2
      have : y.1 = (a, b, c) := by obtain ⟨q1, q2, q3⟩ := hxy; rw [← q1, ← q2, ← q3]
      rw [this] at hidy
      have : y.2 = x.2 := by rw [← hidy]; exact hid.2
      simp [this]) true
  have K1 := Lib.hid (none51 h)
  have K2 := Lib.hid (has52 h (id := (a : Int)) ⟨by omega, by omega⟩)
  have K3 := Lib.hid (has52 h (id := (b : Int)) ⟨by omega, by omega⟩)
  have K4 := Lib.hid (has52 h (id := (c : Int)) ⟨by omega, by omega⟩)
  obtain ⟨W1, hW1⟩ : ∃ W1, W1 = W.alloc (.cells #[.int .i64 (a : Int), .int .i64 (b : Int), .int .i64 (c : Int)] 104) := ⟨_, rfl⟩
  have hB1 : Below W.heap.size W W1 := by rw [hW1]; exact below_new _
  have H1 := h.kept' hB1
  have hlook1 := hlook.out W1.drew (H1.wrk.of_block rfl)
  have c20 : W1.cell? ⟨bk, 20, none⟩ = some (.map (some bw)) := H1.cell rfl
  have q0 : W1.cell? ⟨W.heap.size, 0, none⟩ = some (.int .i64 (a : Int)) := by rw [hW1]; go_simp
  have q1 : W1.cell? ⟨W.heap.size, 1, none⟩ = some (.int .i64 (b : Int)) := by rw [hW1]; go_simp
  have q2 : W1.cell? ⟨W.heap.size, 2, none⟩ = some (.int .i64 (c : Int)) := by rw [hW1]; go_simp
  have hB2 : Hid (Below W.heap.size W W1.drew) := hB1.drew
  have hW1' := Lib.hid hW1
  clear h hw hx hx1 hid hidof hlk hB1 H1 hW1 hlook
  go_enter Try.func22, Try.ntmps22
  go_wp2_with fail
  refine (K1.out).mono ?_
  rintro e w' ⟨rfl, rfl⟩
  go_wp2_with fail
  refine (K2.out).mono ?_
  rintro e w' ⟨rfl, rfl⟩
  go_wp2_with fail
  refine (K3.out).mono ?_
  rintro e w' ⟨rfl, rfl⟩
  go_wp2_with fail
  refine (K4.out).mono ?_
  rintro e w' ⟨rfl, rfl⟩
  go_upto_region 6 with fail
  rw [← hW1'.out]
  go_still (by kernel_rfl)
  go_wp2
  go_ret2
  exact ⟨rfl, hB2.out⟩
end
end Go.Proofs.Ytigghbehnnghnaa
