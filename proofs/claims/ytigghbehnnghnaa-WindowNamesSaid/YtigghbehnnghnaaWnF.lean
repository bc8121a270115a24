import Derived.Test.YtigghbehnnghnaaWnE
import Derived.Test.YtigghbehnnghnaaRegL
namespace Go.Proofs.Ytigghbehnnghnaa
open Go.RowKit Go.RowBits
set_option linter.unusedSimpArgs false
set_option linter.unusedVariables false

/-! ### later's closure: a row, or none -/
def rowZ (n : Nat) (rows : List (List Nat)) (i : Int) : List Nat := if 0 ≤ i ∧ i < (rows.length : Int) then rows.getD i.toNat [] else List.replicate n 0
theorem rowZ_len {n : Nat} {rows : List (List Nat)} (h : ∀ i, i < rows.length → (rows.getD i []).length = n) (i : Int) : (rowZ n rows i).length = n := by
  unfold rowZ
  split
  · exact h _ (by omega)
  · simp
theorem rowZ_lt {n ns : Nat} {rows : List (List Nat)} (hns : 2 ≤ ns) (h : ∀ i j, i < rows.length → (rows.getD i []).getD j 0 < ns) (i : Int) (j : Nat) : (rowZ n rows i).getD j 0 < ns := by
  unfold rowZ
  split
  · exact h _ _ (by omega)
  · have : (List.replicate n 0 : List Nat).getD j 0 = 0 := by
      by_cases hj : j < n
      · simp [hj]
      · simp [List.getD, List.getElem?_eq_none (l := List.replicate n 0) (i := j) (by simp; omega)]
    rw [this]
    omega
set_option maxHeartbeats 1000000 in
theorem later86 {n : Nat} {w : World} {bb nb : Nat} {v u : Value} {rows : List (List Nat)} {i : Int} (hr : rows.length ≤ 1000000000000) (hl : ∀ i, i < rows.length → (rows.getD i []).length = n) (hc : w.cell? ⟨bb, 2, none⟩ = some v) (hd : w.cell? ⟨nb, 0, none⟩ = some u) (hv : HasL w v rows) (hu : HasY w u (List.replicate n 0)) :
    Calls Try.prog 86 #[.int .i64 i, .pointer (some ⟨bb, 0, none⟩), .pointer (some ⟨nb, 0, none⟩)] w fun e w' => (∃ a c, e = .returned (.slice a n c) ∧ HasY w (.slice a n c) (rowZ n rows i)) ∧ w' = w := by
  obtain ⟨au, cu, rfl, hcu⟩ := hu
  have hu' : Hid (HasY w (.slice au n cu) (List.replicate n 0)) := by
    refine ⟨au, cu, by simp, ?_⟩
    exact hcu
  have hd' : w.cell? ⟨nb, 0, none⟩ = some (.slice au n cu) := by simpa using hd
  obtain ⟨ad, cap, rfl, hcap, hg⟩ := hv
  by_cases h1 : i < 0
  · have hz : Hid (rowZ n rows i = List.replicate n 0) := by show rowZ n rows i = _; unfold rowZ; rw [if_neg (by omega)]
    clear hg hcu hd hl hcap
    go_enter Try.func86, Try.ntmps86
    go_wp2
    go_ret
    exact ⟨⟨_, _, rfl, by rw [hz.out]; exact hu'.out⟩, rfl⟩
  · by_cases h2 : i < (rows.length : Int)
    · obtain ⟨m, rfl⟩ : ∃ m : Nat, i = (m : Int) := ⟨i.toNat, by omega⟩
      obtain ⟨g, o, ur, rfl, c1, hy⟩ := hg m (by omega)
      have hz : Hid (rowZ n rows (m : Int) = rows.getD m []) := by show rowZ n rows _ = _; unfold rowZ; rw [if_pos ⟨by omega, h2⟩]; rfl
      have hln := hl m (by omega)
      have hy' := Lib.hid hy
      obtain ⟨ar, cr, rfl, _⟩ := hy
      rw [hln] at c1 hy'
      have h2' : m < rows.length := by omega
      clear hg hcu hd hl hcap hln h1 h2 hd'
      go_enter Try.func86, Try.ntmps86
      go_wp2
      go_ret
      exact ⟨⟨_, _, rfl, by rw [hz.out]; exact hy'.out⟩, rfl⟩
    · have hz : Hid (rowZ n rows i = List.replicate n 0) := by show rowZ n rows i = _; unfold rowZ; rw [if_neg (by omega)]
      clear hg hcu hd hl hcap
      go_enter Try.func86, Try.ntmps86
      go_wp2
      go_ret
      exact ⟨⟨_, _, rfl, by rw [hz.out]; exact hu'.out⟩, rfl⟩
end Go.Proofs.Ytigghbehnnghnaa
