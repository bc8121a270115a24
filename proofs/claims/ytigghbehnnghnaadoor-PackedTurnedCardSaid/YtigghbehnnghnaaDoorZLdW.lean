import Derived.Test.YtigghbehnnghnaaDoorZLdK
import Derived.Test.YtigghbehnnghnaaDoorZPkA
import Derived.OpenShut
namespace Go.Proofs.YtigghbehnnghnaaDoor
open Go.ChangeShapes Go.WideShapes Go.ChangeAt Go.RowKit Go.Joins Go.Deep Go.RowLaw Go.RowBits
set_option linter.unusedVariables false
set_option linter.unusedSimpArgs false

/-! ### A slice of words that came in -/
theorem cells37 : Tryd.prog.cellsOf 37 = 1 := by kernel_rfl
theorem open_words {H : Type} {enc : TypeId × Value → H} {W : World} {n : Nat} {v : Value} {y : DataW H × List MemPlace} (h : DataW.trod enc Tryd.prog W 0 (fun _ => true) true n 31 [v] = some y) :
    ∃ ws : List Nat, HasW W v ws ∧ W64 ws := by
  rcases open_ints Tryd.underlying31 Tryd.underlying37 cells37 h with ⟨hv, rfl⟩ | ⟨a, len, cap, zs, hv, _, hlc, hcm, hzl, rfl, hcell, hwf⟩
  · injection hv with hv
    subst hv
    exact ⟨[], HasW.nil W, fun j => by simp⟩
  · injection hv with hv
    subst hv
    have hzl' : zs.length = cap := by simpa using hzl
    have hlen : (zs.take len).length = len := by simp; omega
    have hl2 : ((zs.take len).map Int.toNat).length = len := by simpa using hlen
    have hz : ∀ i, i < zs.length → 0 ≤ zs.getD i 0 ∧ zs.getD i 0 < 18446744073709551616 := fun i hi => by
      have := hwf (zs.getD i 0) (by simp [hi])
      simp [Lit.wf, IntKind.min, IntKind.max, IntKind.signed, IntKind.bits] at this
      simp
      omega
    refine ⟨(zs.take len).map Int.toNat, ⟨some a, cap, by rw [hl2], fun j hj => ?_⟩, fun j => ?_⟩
    · rw [hl2] at hj
      have h0 := hcell j (by omega)
      have hs : a.spot = none := by simpa [Addr.add] using World.cell?_spot (hcell 0 (by omega))
      obtain ⟨g, o, sp⟩ := a
      simp only at hs
      subst hs
      refine ⟨g, o, rfl, ?_⟩
      have e : (((zs.take len).map Int.toNat).getD j 0 : Nat) = (zs.getD j 0).toNat := by
        have : j < zs.length := by omega
        simp [hj, this]
      rw [e, Int.toNat_of_nonneg (hz j (by omega)).1]
      rw [Addr.add_lit] at h0
      exact h0
    · by_cases hj : j < len
      · have e : (((zs.take len).map Int.toNat).getD j 0 : Nat) = (zs.getD j 0).toNat := by
          have : j < zs.length := by omega
          simp [hj, this]
        rw [e]
        have := hz j (by omega)
        unfold U
        omega
      · have : ((zs.take len).map Int.toNat).length ≤ j := by omega
        rw [show ((zs.take len).map Int.toNat).getD j 0 = 0 from by unfold List.getD; rw [List.getElem?_eq_none this]; rfl]
        decide
end Go.Proofs.YtigghbehnnghnaaDoor
