import Derived.Test.YtjomgjlicfoehaaHoodK
namespace Go.Proofs.Ytjomgjlicfoehaa
open Go.RowKit Flt
set_option linter.unusedSimpArgs false
set_option linter.unusedVariables false

/-- How often a number is told among the first k. -/
def toldK (l : List Int) (a : Int) : Nat → Int
  | 0 => 0
  | k + 1 => if l.getD k 0 = a then toldK l a k + 1 else toldK l a k
structure PartsFacts (h : Int) : Prop where
  len : (partsR h).length ≤ 8
  range : ∀ k, k < (partsR h).length → 0 ≤ (partsR h).getD k 0 ∧ (partsR h).getD k 0 ≤ 7
  rising : ∀ k, k < (partsR h).length → 0 < k → (partsR h).getD (k - 1) 0 < (partsR h).getD k 0
  told : ∀ p : Nat, p < 8 → toldK (partsR h) (p : Int) (partsR h).length = if permOk h (p : Int) then 1 else 0
theorem toldK_none {l : List Int} {a : Int} (h : ∀ k, k < l.length → l.getD k 0 ≠ a) : ∀ k, k ≤ l.length → toldK l a k = 0
  | 0, _ => rfl
  | k + 1, hk => by
    show (if l.getD k 0 = a then toldK l a k + 1 else toldK l a k) = 0
    rw [if_neg (h k hk)]
    exact toldK_none h k (by omega)
theorem pfacts_of {h : Int} (h0 : (partsR h).length ≤ 8) (h1 : ∀ k : Fin 8, k.val < (partsR h).length → 0 ≤ (partsR h).getD k.val 0 ∧ (partsR h).getD k.val 0 ≤ 7)
    (h2 : ∀ k : Fin 8, k.val < (partsR h).length → 0 < k.val → (partsR h).getD (k.val - 1) 0 < (partsR h).getD k.val 0)
    (h3 : ∀ p : Fin 8, toldK (partsR h) (p.val : Int) (partsR h).length = if permOk h (p.val : Int) then 1 else 0) : PartsFacts h :=
  ⟨h0, fun k hk => h1 ⟨k, by omega⟩ hk, fun k hk => h2 ⟨k, by omega⟩ hk, fun p hp => h3 ⟨p, hp⟩⟩
theorem partsFacts {h : Int} (hh : h = 1 ∨ h = 2 ∨ h = 3) : PartsFacts h := by
  rcases hh with rfl | rfl | rfl
  · exact pfacts_of (by decide +kernel) (by decide +kernel) (by decide +kernel) (by decide +kernel)
  · exact pfacts_of (by decide +kernel) (by decide +kernel) (by decide +kernel) (by decide +kernel)
  · exact pfacts_of (by decide +kernel) (by decide +kernel) (by decide +kernel) (by decide +kernel)

/-- Two parts one behind the other. -/
structure BothFacts (L : List (Int × Int)) (p q c : Nat) : Prop where
  kept : keptB L c = true
  len1 : (permL L p).length = L.length
  len2 : (permL L q).length = L.length
  len3 : (permL L c).length = L.length
  at_ : ∀ v, v < L.length → 0 ≤ (permL L p).getD v 0 ∧ (permL L p).getD v 0 < L.length ∧ (permL L c).getD v 0 = (permL L q).getD ((permL L p).getD v 0).toNat 0
/-- The number of both together. -/
def bothN (p q : Nat) : Nat := (linN (thenK (p % 4) (q % 4) (decide (4 ≤ q))) (decide (4 ≤ p) != decide (4 ≤ q))).toNat
theorem bfacts_of {L : List (Int × Int)} (h0 : L.length ≤ 8) (h1 : ∀ p q : Fin 8, keptB L p.val = true → keptB L q.val = true → keptB L (bothN p.val q.val) = true ∧ (permL L p.val).length = L.length ∧ (permL L q.val).length = L.length ∧ (permL L (bothN p.val q.val)).length = L.length)
    (h2 : ∀ p q : Fin 8, keptB L p.val = true → keptB L q.val = true → ∀ v : Fin 8, v.val < L.length → 0 ≤ (permL L p.val).getD v.val 0 ∧ (permL L p.val).getD v.val 0 < L.length ∧ (permL L (bothN p.val q.val)).getD v.val 0 = (permL L q.val).getD ((permL L p.val).getD v.val 0).toNat 0)
    {p q : Nat} (hp : p < 8) (hq : q < 8) (kp : keptB L p = true) (kq : keptB L q = true) : BothFacts L p q (bothN p q) := by
  obtain ⟨a, b, c, d⟩ := h1 ⟨p, hp⟩ ⟨q, hq⟩ kp kq
  exact ⟨a, b, c, d, fun v hv => h2 ⟨p, hp⟩ ⟨q, hq⟩ kp kq ⟨v, by omega⟩ hv⟩
theorem bothFacts {h : Int} (hh : h = 1 ∨ h = 2 ∨ h = 3) {p q : Nat} (hp : p < 8) (hq : q < 8) (kp : keptB (offs h) p = true) (kq : keptB (offs h) q = true) : BothFacts (offs h) p q (bothN p q) := by
  rcases hh with rfl | rfl | rfl
  · rw [offs_1] at *; exact bfacts_of (by decide) (by decide +kernel) (by decide +kernel) hp hq kp kq
  · rw [offs_2] at *; exact bfacts_of (by decide) (by decide +kernel) (by decide +kernel) hp hq kp kq
  · rw [offs_3] at *; exact bfacts_of (by decide) (by decide +kernel) (by decide +kernel) hp hq kp kq
end Go.Proofs.Ytjomgjlicfoehaa
