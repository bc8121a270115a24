import Derived.Test.YtigghbehnnghnaaPkD
namespace Go.Proofs.Ytigghbehnnghnaa
open Go.RowKit Go.RowBits
set_option linter.unusedSimpArgs false
set_option linter.unusedVariables false

/-! ### A rule of births and stays -/
def ruleOk (h : Int) (born stay : Nat) : Prop := ∀ j, (offs h).length < j → j < 16 → born.testBit j = false ∧ stay.testBit j = false
noncomputable instance (h : Int) (born stay : Nat) : Decidable (ruleOk h born stay) := Classical.propDecidable _
noncomputable def lifeE (h : Int) (born stay : Nat) : Int := if h = 1 ∨ h = 2 ∨ h = 3 then (if ruleOk h born stay then 0 else 82) else 70

theorem or_small {a b n : Nat} (ha : a < 65536) (hb : b < 65536) : (a ||| b) / 2 ^ (n + 1) = 0 ↔ ∀ j, n < j → j < 16 → a.testBit j = false ∧ b.testBit j = false := by
  rw [Nat.div_eq_zero_iff_lt (Nat.two_pow_pos _)]
  constructor
  · intro h j hj _
    have : (a ||| b).testBit j = false := Nat.testBit_lt_two_pow (Nat.lt_of_lt_of_le h (Nat.pow_le_pow_right (by decide) (by omega)))
    rw [Nat.testBit_or] at this
    simpa using this
  · intro h
    apply lt_pow_of_bits
    intro j hj
    rw [Nat.testBit_or]
    by_cases h16 : j < 16
    · obtain ⟨h1, h2⟩ := h j (by omega) h16
      rw [h1, h2]; rfl
    · have e : ∀ x, x < 65536 → x.testBit j = false := fun x hx => Nat.testBit_lt_two_pow (Nat.lt_of_lt_of_le (show x < 2 ^ 16 by omega) (Nat.pow_le_pow_right (by decide) (by omega)))
      rw [e a ha, e b hb]; rfl

set_option maxHeartbeats 1000000 in
theorem greatest64 (h : Int) (w : World) : Calls Try.prog 64 #[.int .u8 h] w fun e w' => e = .returned (.int .i64 (if h = 1 ∨ h = 2 ∨ h = 3 then ((offs h).length : Int) else -1)) ∧ w' = w := by
  by_cases h1 : h = 1
  · subst h1
    rw [if_pos (.inl rfl), show ((offs 1).length : Int) = 8 from by decide]
    go_enter Try.func64, Try.ntmps64
    go_wp2
    go_ret
    exact ⟨rfl, rfl⟩
  by_cases h2 : h = 2
  · subst h2
    rw [if_pos (.inr (.inl rfl)), show ((offs 2).length : Int) = 4 from by decide]
    go_enter Try.func64, Try.ntmps64
    go_wp2
    go_ret
    exact ⟨rfl, rfl⟩
  by_cases h3 : h = 3
  · subst h3
    rw [if_pos (.inr (.inr rfl)), show ((offs 3).length : Int) = 6 from by decide]
    go_enter Try.func64, Try.ntmps64
    go_wp2
    go_ret
    exact ⟨rfl, rfl⟩
  rw [if_neg (by omega)]
  go_enter Try.func64, Try.ntmps64
  go_wp2
  go_ret
  exact ⟨rfl, rfl⟩

def BRel (v n : Nat) (w : World) (x i : Value) (wr : World) : Prop := ∃ k : Nat, k ≤ n ∧ i = .int .i64 (k : Int) ∧ x = .int .u16 ((v / 2 ^ k : Nat) : Int) ∧ wr = w
theorem half_again (v k : Nat) : v / 2 ^ (k + 1) = v / 2 ^ k / 2 := by rw [Nat.pow_succ, Nat.div_div_eq_div_mul]
set_option maxHeartbeats 1000000 in
theorem bit65 {v : Nat} (hv : v < 65536) (n : Nat) (hn : n ≤ 1000) (w : World) : Calls Try.prog 65 #[.int .u16 (v : Int), .int .i64 (n : Int)] w fun e w' => e = .returned (.bool (v.testBit n)) ∧ w' = w := by
  go_enter Try.func65, Try.ntmps65
  go_wp2
  go_loopw [0, 5] (fun x i wr => BRel v n w x i wr) (fun _ i _ => n - (intOf i).toNat)
  case atStart => exact ⟨0, by omega, by go_num, by simp, rfl⟩
  case round =>
    obtain ⟨k, hk, rfl, rfl, rfl⟩ := hrel
    have h2 := Lib.hid (half_again v k)
    have hxl : v / 2 ^ k < 65536 := Nat.lt_of_le_of_lt (Nat.div_le_self _ _) hv
    by_cases hlt : k < n
    · generalize v / 2 ^ k = x at *
      go_wp2
      exact ⟨⟨k + 1, by omega, by go_num, by rw [h2.out]; simp, rfl⟩, by simp [intOf]; omega⟩
    · obtain rfl : k = n := by omega
      have e : Hid (v.testBit k = decide (v / 2 ^ k % 2 = 1)) := by rw [Nat.testBit_eq_decide_div_mod_eq]; rfl
      generalize v / 2 ^ k = x at *
      go_wp2
      go_ret
      refine ⟨?_, rfl⟩
      have e2 : ((x : Int) % 2 == 1) = decide (x % 2 = 1) := by rw [Bool.eq_iff_iff]; simp; omega
      rw [e.out, ← e2]
      rfl

set_option maxHeartbeats 1000000 in
theorem greatest67 (h : Int) (born stay : Nat) (w : World) : Calls Try.prog 67 #[.agg #[.int .u8 h, .int .u16 (born : Int), .int .u16 (stay : Int)]] w fun e w' =>
    e = .returned (.tuple #[.int .i64 (if h = 1 ∨ h = 2 ∨ h = 3 then ((offs h).length : Int) else 0), .int .i64 (if h = 1 ∨ h = 2 ∨ h = 3 then 0 else 70)]) ∧ Below w.heap.size w w' := by
  have K10 := fun W => size_any h W
  by_cases hh : h = 1 ∨ h = 2 ∨ h = 3
  · rw [hoodErr_good hh] at K10
    rw [if_pos hh, if_pos hh]
    have K1 := Lib.hid K10
    clear K10 hh
    generalize (offs h).length = n at *
    go_enter Try.func67, Try.ntmps67
    go_wp2_with fail
    refine (K1.out _).mono ?_
    rintro e w1 ⟨rfl, hb⟩
    have hB := Lib.hid (below_then (B := w.heap.size) (below_new _) hb (by simp))
    clear hb
    go_wp2
    go_ret2
    exact ⟨rfl, hB.out⟩
  · rw [hoodErr_bad hh] at K10
    rw [if_neg hh, if_neg hh]
    have K1 := Lib.hid K10
    clear K10 hh
    generalize (offs h).length = n at *
    go_enter Try.func67, Try.ntmps67
    go_wp2_with fail
    refine (K1.out _).mono ?_
    rintro e w1 ⟨rfl, hb⟩
    have hB := Lib.hid (below_then (B := w.heap.size) (below_new _) hb (by simp))
    clear hb
    go_wp2
    go_ret2
    exact ⟨rfl, hB.out⟩

set_option maxHeartbeats 1000000 in
theorem lifeCheck {h : Int} {born stay : Nat} (hb1 : born < 65536) (hs1 : stay < 65536) (w : World) : Calls Try.prog 45 #[.agg #[.int .u8 h, .int .u16 (born : Int), .int .u16 (stay : Int)]] w fun e w' =>
    e = .returned (.int .i64 (lifeE h born stay)) ∧ Below w.heap.size w w' := by
  have K10 := fun W => greatest67 h born stay W
  by_cases hh : h = 1 ∨ h = 2 ∨ h = 3
  · rw [if_pos hh, if_pos hh] at K10
    have hl := offs_len h
    have hE : lifeE h born stay = if (born ||| stay) / 2 ^ ((offs h).length + 1) = 0 then 0 else 82 := by
      unfold lifeE
      rw [if_pos hh]
      by_cases e : ruleOk h born stay
      · rw [if_pos e, if_pos ((or_small hb1 hs1).2 e)]
      · rw [if_neg e, if_neg (fun e' => e ((or_small hb1 hs1).1 e'))]
    rw [hE]
    have hor := u16_or_nat born stay hb1 hs1
    have K1 := Lib.hid K10
    clear K10 hh hE
    generalize (offs h).length = n at *
    by_cases hz : (born ||| stay) / 2 ^ (n + 1) = 0
    · rw [if_pos hz]
      have hz2 : ((born ||| stay : Nat) : Int) / 2 ^ (n + 1) = 0 := by exact_mod_cast hz
      clear hz
      go_enter Try.func45, Try.ntmps45
      go_wp2_with fail
      refine (K1.out _).mono ?_
      rintro e w1 ⟨rfl, hb⟩
      obtain ⟨hc1, hf1⟩ := bcell hb
      have hz1 : w.heap.size < w1.heap.size := by have := hb.size; simp at this; omega
      have hB := Lib.hid (below_then (B := w.heap.size) (below_new _) hb (by simp))
      clear hb
      go_wp2
      go_ret
      exact ⟨rfl, hB.out⟩
    · rw [if_neg hz]
      have hz2 : ¬ (((born ||| stay : Nat) : Int) / 2 ^ (n + 1) = 0) := by exact_mod_cast hz
      clear hz
      go_enter Try.func45, Try.ntmps45
      go_wp2_with fail
      refine (K1.out _).mono ?_
      rintro e w1 ⟨rfl, hb⟩
      obtain ⟨hc1, hf1⟩ := bcell hb
      have hz1 : w.heap.size < w1.heap.size := by have := hb.size; simp at this; omega
      have hB := Lib.hid (below_then (B := w.heap.size) (below_new _) hb (by simp))
      clear hb
      go_wp2
      go_ret
      exact ⟨rfl, hB.out⟩
  · rw [if_neg hh, if_neg hh] at K10
    have hE : lifeE h born stay = 70 := by unfold lifeE; rw [if_neg hh]
    rw [hE]
    have K1 := Lib.hid K10
    clear K10 hh hE
    go_enter Try.func45, Try.ntmps45
    go_wp2_with fail
    refine (K1.out _).mono ?_
    rintro e w1 ⟨rfl, hb⟩
    have hB := Lib.hid (below_then (B := w.heap.size) (below_new _) hb (by simp))
    clear hb
    go_wp2
    go_ret
    exact ⟨rfl, hB.out⟩
end Go.Proofs.Ytigghbehnnghnaa
