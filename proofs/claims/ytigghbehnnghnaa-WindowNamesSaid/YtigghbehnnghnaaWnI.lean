import Derived.Test.YtigghbehnnghnaaWnG
import Derived.Test.YtigghbehnnghnaaWnH
namespace Go.Proofs.Ytigghbehnnghnaa
open Go.RowKit Go.RowBits
set_option linter.unusedSimpArgs false
set_option linter.unusedVariables false

/-! ### Run -/
section
variable {nx : Nat → List Nat → Nat} {h k : Int} {n : Nat}
def StepR (nx : Nat → List Nat → Nat) (h k : Int) (n : Nat) (a : Int) (R : List (List Nat)) (a' : Int) (R' : List (List Nat)) : Prop :=
  (R = [] ∧ a' = a ∧ R' = []) ∨ (0 < R.length ∧ ∃ kk m, Tr (stepRows nx h k n R) kk m ∧ a' = (if m = 0 then 0 else a - 1 + (kk : Int)) ∧ R' = cut (stepRows nx h k n R) kk m)
def StepsR (nx : Nat → List Nat → Nat) (h k : Int) (n : Nat) : Nat → Int → List (List Nat) → Int → List (List Nat) → Prop
  | 0, a, R, a', R' => a' = a ∧ R' = R
  | j + 1, a, R, a', R' => ∃ c C, StepsR nx h k n j a R c C ∧ StepR nx h k n c C a' R'
theorem StepR.uniq {a a1 a2 : Int} {R R1 R2 : List (List Nat)} (h1 : StepR nx h k n a R a1 R1) (h2 : StepR nx h k n a R a2 R2) : a1 = a2 ∧ R1 = R2 := by
  rcases h1 with ⟨e1, e2, e3⟩ | ⟨hp, kk, m, hT, e1, e2⟩
  · rcases h2 with ⟨f1, f2, f3⟩ | ⟨hp, _⟩
    · exact ⟨by rw [e2, f2], by rw [e3, f3]⟩
    · rw [e1] at hp; simp at hp
  · rcases h2 with ⟨f1, f2, f3⟩ | ⟨_, kk', m', hT', f1, f2⟩
    · rw [f1] at hp; simp at hp
    · obtain ⟨rfl, rfl⟩ := hT.uniq hT'
      exact ⟨by rw [e1, f1], by rw [e2, f2]⟩
theorem StepsR.uniq : ∀ {j : Nat} {a a1 a2 : Int} {R R1 R2 : List (List Nat)}, StepsR nx h k n j a R a1 R1 → StepsR nx h k n j a R a2 R2 → a1 = a2 ∧ R1 = R2
  | 0, _, _, _, _, _, _, ⟨e1, e2⟩, ⟨f1, f2⟩ => ⟨by rw [e1, f1], by rw [e2, f2]⟩
  | j + 1, _, _, _, _, _, _, ⟨c, C, h1, h2⟩, ⟨d, D, g1, g2⟩ => by
    obtain ⟨rfl, rfl⟩ := StepsR.uniq h1 g1
    exact h2.uniq g2
/-- What rows of a strip are. -/
structure RowsIn (ns n : Nat) (R : List (List Nat)) : Prop where
  len : ∀ i, i < R.length → (R.getD i []).length = n
  lt : ∀ i j, i < R.length → (R.getD i []).getD j 0 < ns
theorem RowsIn.cut {ns : Nat} {R : List (List Nat)} (hR : RowsIn ns n R) {kk m : Nat} (hl : kk + m ≤ R.length) : RowsIn ns n (cut R kk m) := by
  refine ⟨fun i hi => ?_, fun i j hi => ?_⟩
  · rw [cut_len hl] at hi
    rw [cut_get hl hi]
    exact hR.len _ (by omega)
  · rw [cut_len hl] at hi
    rw [cut_get hl hi]
    exact hR.lt _ _ (by omega)
theorem winG_lt {W0 : World} {r : RV} {ns : Nat} {W : Int} (S : StripG W0 r ns h nx k W) {R : Nat → List Nat} (h2 : ∀ i j, i < 3 → (R i).getD j 0 < ns) (j : Nat) : (winG nx h k n R).getD j 0 < ns := by
  have hns := S.ns2
  by_cases hj : j < n
  · unfold winG
    rw [markY_get _ _ (by simpa using hj), if_pos hj]
    unfold bitG
    exact S.lt _ _ (h2 1 _ (by omega)) (arnd_len _ _ _ _ _) (arnd_ltN hns.1 S.hh h2)
  · have : (winG nx h k n R).length ≤ j := by rw [winG_len]; omega
    simp [List.getD, List.getElem?_eq_none this]
    omega
theorem stepRows_in {W0 : World} {r : RV} {ns : Nat} {W : Int} (S : StripG W0 r ns h nx k W) {R : List (List Nat)} (hR : RowsIn ns n R) : RowsIn ns n (stepRows nx h k n R) := by
  refine ⟨fun i hi => ?_, fun i j hi => ?_⟩
  · rw [stepRows_len] at hi
    rw [stepRows_get _ _ _ _ _ hi]
    exact winG_len _ _ _ _ _
  · rw [stepRows_len] at hi
    rw [stepRows_get _ _ _ _ _ hi]
    exact winG_lt S (fun y x hy => rowZ_lt S.ns2.1 hR.lt _ _) j
theorem StepR.in {W0 : World} {r : RV} {ns : Nat} {W : Int} (S : StripG W0 r ns h nx k W) {a a' : Int} {R R' : List (List Nat)} (hs : StepR nx h k n a R a' R') (hR : RowsIn ns n R) : RowsIn ns n R' ∧ R'.length ≤ R.length + 2 := by
  rcases hs with ⟨e1, e2, e3⟩ | ⟨hp, kk, m, hT, e1, e2⟩
  · subst e3
    exact ⟨⟨fun i hi => by simp at hi, fun i j hi => by simp at hi⟩, by simp⟩
  · have hl := hT.le
    rw [e2]
    refine ⟨(stepRows_in S hR).cut hl, ?_⟩
    rw [cut_len hl]
    rw [stepRows_len] at hl
    omega
/-- Where a band lies after j generations. -/
def AtOk (j : Nat) (a : Int) (R : List (List Nat)) : Prop := 0 < R.length → -1099511627776 - (j : Int) ≤ a ∧ a + (R.length : Int) ≤ 1099511627777 + (j : Int)
theorem StepR.at {a a' : Int} {R R' : List (List Nat)} {j : Nat} (hs : StepR nx h k n a R a' R') (hA : AtOk j a R) : AtOk (j + 1) a' R' := by
  rcases hs with ⟨e1, e2, e3⟩ | ⟨hp, kk, m, hT, e1, e2⟩
  · intro hp; rw [e3] at hp; simp at hp
  · intro hp'
    have hl := hT.le
    have hA' := hA hp
    rw [e2, cut_len hl] at hp'
    rw [stepRows_len] at hl
    rw [e1, if_neg (by omega), e2, cut_len (by rw [stepRows_len]; exact hl)]
    omega
end
theorem HasO.nil (B : Nat) (w : World) (ad : Option Addr) (cap : Nat) : HasO B w (.slice ad 0 cap) [] := fun W' _ => ⟨ad, cap, rfl, Nat.zero_le _, fun i hi => by simp at hi⟩
set_option maxRecDepth 20000 in
set_option maxHeartbeats 2000000 in
theorem later63_nil {r : RV} {k : Int} {n : Nat} {w : World} {at' : Int} {ad : Option Addr} {cap : Nat} :
    Calls Try.prog 63 #[ruleV r, topoV k (n : Int) 0, bandV (n : Int) at' (.slice ad 0 cap)] w fun e w' => e = .returned (bandV (n : Int) at' (.slice ad 0 cap)) ∧ Below w.heap.size w w' := by
  go_enter Try.func63, Try.ntmps63
  go_wp2_with fail
  refine bodyPost_ret (v := bandV (n : Int) at' (.slice ad 0 cap)) ?_ rfl ⟨rfl, ?_⟩
  · rw [results_cell1 rfl]
    go_simp
  · repeat (first | exact Below.refl _ _ | refine Below.alloc ?_ (by first | omega | (simp; done) | (simp; omega)) _ | refine Below.setCell ?_ (by first | omega | (simp; done) | (simp; omega)) _)
end Go.Proofs.Ytigghbehnnghnaa
