import Derived.Test.YtigghbehnnghnaaStrK
namespace Go.Proofs.Ytigghbehnnghnaa
open Go.RowKit Go.RowBits
set_option linter.unusedSimpArgs false
set_option linter.unusedVariables false

/-! ### Lists of rows; the small functions of window -/
def HasL (w : World) (v : Value) (rows : List (List Nat)) : Prop :=
  ∃ ad cap, v = .slice ad rows.length cap ∧ rows.length ≤ cap ∧ ∀ i, i < rows.length → ∃ g o u, ad = some ⟨g, o, none⟩ ∧ w.cell? ⟨g, o + i, none⟩ = some u ∧ HasY w u (rows.getD i [])
theorem HasL.keptB {w w' : World} {N : Nat} {v : Value} {l : List (List Nat)} (h : HasL w v l) (hb : Below N w w') (hN : w.heap.size ≤ N) : HasL w' v l := by
  obtain ⟨ad, cap, rfl, hl, hc⟩ := h
  refine ⟨ad, cap, rfl, hl, fun i hi => ?_⟩
  obtain ⟨g, o, u, h1, h2, h3⟩ := hc i hi
  have := World.block_lt_of_cell? w _ h2
  exact ⟨g, o, u, h1, cellB hb h2 (Nat.lt_of_lt_of_le this hN), h3.keptB hb hN⟩
theorem HasL.kept {w w' : World} {v : Value} {l : List (List Nat)} (h : HasL w v l) (hb : Below w.heap.size w w') : HasL w' v l := h.keptB hb (Nat.le_refl _)
theorem HasL.nil (w : World) : HasL w (.slice none 0 0) [] := ⟨none, 0, rfl, by simp, fun i hi => by simp at hi⟩
abbrev bandV (n at' : Int) (v : Value) : Value := .agg #[.int .i64 n, .int .i64 at', v]
def emptyB (l : List Nat) : Bool := l.all (· == 0)
theorem emptyB_false {l : List Nat} {k : Nat} (hk : k < l.length) (h : l.getD k 0 ≠ 0) : emptyB l = false := by
  unfold emptyB
  rw [Bool.eq_false_iff]
  intro hall
  rw [List.all_eq_true] at hall
  have := hall (l[k]) (List.getElem_mem hk)
  simp [hk] at h
  simp at this
  exact h this
theorem emptyB_true {l : List Nat} (h : ∀ k, k < l.length → l.getD k 0 = 0) : emptyB l = true := by
  unfold emptyB
  rw [List.all_eq_true]
  intro x hx
  obtain ⟨k, hk, rfl⟩ := List.mem_iff_getElem.1 hx
  have := h k hk
  simp [hk] at this
  simp [this]
set_option maxHeartbeats 1000000 in
theorem empty83 {w : World} {v : Value} {l : List Nat} (hl : l.length ≤ 1000000) (hv : HasY w v l) : Calls Try.prog 83 #[v] w fun e w' => e = .returned (.bool (emptyB l)) ∧ w' = w := by
  obtain ⟨ad, cap, rfl, hc⟩ := hv
  have hc' := Lib.hid hc
  clear hc
  go_enter Try.func83, Try.ntmps83
  go_wp2
  go_loop [7] (fun i => ∃ k : Nat, k ≤ l.length ∧ i = .int .i64 (k : Int) ∧ ∀ j, j < k → l.getD j 0 = 0) (fun i => l.length - (intOf i).toNat)
  case atStart => exact ⟨0, by omega, by go_num, fun j hj => by omega⟩
  case round =>
    obtain ⟨k, hk, rfl, hz⟩ := hrel
    have hz' := Lib.hid hz
    clear hz
    by_cases hlt : k < l.length
    · obtain ⟨g, o, rfl, c1⟩ := hc'.out k hlt
      by_cases hx : l.getD k 0 = 0
      · have hx' := Lib.hid hx
        rw [hx] at c1
        clear hx
        go_wp2
        go_round
        case rel => exact ⟨k + 1, by omega, by go_num, fun j hj => by
          by_cases e : j = k
          · rw [e]; exact hx'.out
          · exact hz'.out j (by omega)⟩
        case measure => simp [intOf]; omega
      · have hF := Lib.hid (emptyB_false hlt hx)
        generalize l.getD k 0 = x at *
        have hx1 : ¬ (x : Int) = 0 := by omega
        go_wp2
        go_ret
        exact ⟨by rw [hF.out]; rfl, rfl⟩
    · obtain rfl : k = l.length := by omega
      have hT := Lib.hid (emptyB_true hz'.out)
      clear hlt
      go_wp2
      go_ret
      exact ⟨by rw [hT.out]; rfl, rfl⟩
set_option maxHeartbeats 1000000 in
theorem near84 (a lo hi : Int) (h : lo ≤ hi) (w : World) : Calls Try.prog 84 #[.int .i64 a, .int .i64 lo, .int .i64 hi] w fun e w' => e = .returned (.int .i64 (if a < lo then lo else if hi < a then hi else a)) ∧ w' = w := by
  have h0 : ¬ hi < lo := by omega
  by_cases h1 : a < lo
  · rw [if_pos h1]
    go_enter Try.func84, Try.ntmps84
    go_wp2
    go_ret
    exact ⟨rfl, rfl⟩
  · rw [if_neg h1]
    by_cases h2 : hi < a
    · rw [if_pos h2]
      go_enter Try.func84, Try.ntmps84
      go_wp2
      go_ret
      exact ⟨rfl, rfl⟩
    · rw [if_neg h2]
      go_enter Try.func84, Try.ntmps84
      go_wp2
      go_ret
      exact ⟨rfl, rfl⟩
def farB (a : Int) : Bool := decide (a < -1099511627776) || decide (1099511627776 < a)
set_option maxHeartbeats 1000000 in
theorem far61 (a : Int) (w : World) : Calls Try.prog 61 #[.int .i64 a] w fun e w' => e = .returned (.bool (farB a)) ∧ w' = w := by
  have K := Lib.hid (near84 a (-1099511627776) 1099511627776 (by omega) w)
  by_cases h1 : a < -1099511627776
  · have hF : Hid (farB a = true) := by show farB a = true; unfold farB; simp [h1]
    rw [if_pos h1] at K
    go_enter Try.func61, Try.ntmps61
    go_wp2_with fail
    refine (K.out).mono ?_
    rintro e w' ⟨rfl, rfl⟩
    have hne : (a != -1099511627776) = true := by simp; omega
    go_wp2
    go_ret
    exact ⟨by rw [hF.out]; rfl, rfl⟩
  · rw [if_neg h1] at K
    by_cases h2 : 1099511627776 < a
    · have hF : Hid (farB a = true) := by show farB a = true; unfold farB; simp [h2]
      rw [if_pos h2] at K
      go_enter Try.func61, Try.ntmps61
      go_wp2_with fail
      refine (K.out).mono ?_
      rintro e w' ⟨rfl, rfl⟩
      have hne : (a != 1099511627776) = true := by simp; omega
      go_wp2
      go_ret
      exact ⟨by rw [hF.out]; rfl, rfl⟩
    · have hF : Hid (farB a = false) := by show farB a = false; unfold farB; simp [h1, h2]
      rw [if_neg h2] at K
      clear h1 h2
      go_enter Try.func61, Try.ntmps61
      go_wp2_with fail
      refine (K.out).mono ?_
      rintro e w' ⟨rfl, rfl⟩
      go_wp2
      go_ret
      exact ⟨by rw [hF.out]; rfl, rfl⟩
end Go.Proofs.Ytigghbehnnghnaa
