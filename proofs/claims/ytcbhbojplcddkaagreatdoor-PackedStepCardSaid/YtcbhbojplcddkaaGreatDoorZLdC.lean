import Derived.Test.YtcbhbojplcddkaaGreatDoorZLdK
import Derived.Test.YtcbhbojplcddkaaGreatDoorZThA
import Derived.Deep.SlicePairs
import Derived.OpenShut
namespace Go.Proofs.YtcbhbojplcddkaaGreatDoor
open Go.ChangeShapes Go.WideShapes Go.ChangeAt Go.RowKit Go.Joins Go.Deep Go.RowLaw Go.RowBits
set_option linter.unusedVariables false
set_option linter.unusedSimpArgs false

/-! ### A slice of cells that came in -/
theorem cells82 : Tryz.prog.cellsOf 66 = 3 := by kernel_rfl
theorem cells3 : Tryz.prog.cellsOf 3 = 1 := by kernel_rfl
theorem cells5' : Tryz.prog.cellsOf 5 = 1 := by kernel_rfl
set_option maxRecDepth 20000 in
theorem open_cells {H : Type} {enc : TypeId × Value → H} {W : World} {n : Nat} {v : Value} {y : DataW H × List MemPlace} (h : DataW.trod enc Tryz.prog W 0 (fun _ => true) true n 27 [v] = some y) :
    ∃ cl : List (Int × Int × Nat), HasC W v cl ∧ cl.length ≤ 9223372036854775807 := by
  rcases open_slice Tryz.underlying27 h with ⟨hv, rfl⟩ | ⟨a, len, cap, m, k, D, Pl, hv, hb, hl, hm, hmm, rfl, hx⟩
  · injection hv with hv
    subst hv
    exact ⟨[], ⟨none, 0, rfl, fun j hj => by simp at hj⟩, by simp⟩
  · injection hv with hv
    subst hv
    have hmc : m = cap := by simpa using hmm
    have each : ∀ i, i < m → ∃ q : Int × Int × Nat, W.cell? (a.add (i * 3)) = some (.int .i64 q.1) ∧ W.cell? (a.add (i * 3 + 1)) = some (.int .i64 q.2.1) ∧ W.cell? (a.add (i * 3 + 2)) = some (.int .u8 ((q.2.2 : Nat) : Int)) ∧ q.2.2 < 256 := by
      intro i hi
      obtain ⟨cs', h1, h2⟩ := hx i hi
      rw [cells82] at h1
      obtain ⟨_, hlen, hcell⟩ := World.cells?_some h1
      obtain ⟨xs, k2, hk, hxy, _, hxl, hf⟩ := DataW.trod_struct Tryz.underlying66 h2
      match xs, hxl, cs', hlen with
      | [y0, y1, y2], _, [v0, v1, v2], _ =>
        have g0 := hf 0 _ rfl
        have g1 := hf 1 _ rfl
        have g2 := hf 2 _ rfl
        simp [cells3, cells5'] at g0 g1 g2
        have e0 := hcell 0 (by omega)
        have e1 := hcell 1 (by omega)
        have e2 := hcell 2 (by omega)
        rw [add_add] at e0 e1 e2
        obtain ⟨a0, p0, _, w0⟩ := DataW.trod_int Tryz.underlying3 g0
        obtain ⟨a1, p1, _, w1⟩ := DataW.trod_int Tryz.underlying3 g1
        obtain ⟨a2, p2, _, w2⟩ := DataW.trod_int Tryz.underlying5 g2
        simp only [List.cons.injEq, and_true] at p0 p1 p2
        subst p0 p1 p2
        have b2 : 0 ≤ a2 ∧ a2 < 256 := by simp [Lit.wf, IntKind.min, IntKind.max, IntKind.signed, IntKind.bits] at w2; omega
        refine ⟨(a0, a1, a2.toNat), by simpa using e0, by simpa using e1, ?_, by show a2.toNat < 256; omega⟩
        have : ((a2.toNat : Nat) : Int) = a2 := Int.toNat_of_nonneg b2.1
        rw [this]
        simpa using e2
    obtain ⟨q, hq⟩ := choose_lt each
    refine ⟨(List.range len).map q, ⟨some a, cap, by simp, fun j hj => ?_⟩, by simp; unfold maxLen at hm; omega⟩
    have hj' : j < len := by simpa using hj
    obtain ⟨c0, c1, c2, c3⟩ := hq j (by omega)
    have hs : a.spot = none := by simpa [Addr.add] using World.cell?_spot (hq 0 (by omega)).1
    obtain ⟨g, o, sp⟩ := a
    simp only at hs
    subst hs
    have e : ((List.range len).map q).getD j (0, 0, 0) = q j := by simp [List.getD, hj']
    rw [e]
    rw [Addr.add_lit] at c0 c1 c2
    exact ⟨g, o, rfl, c0, c1, c2, c3⟩
end Go.Proofs.YtcbhbojplcddkaaGreatDoor
