import Derived.Test.YtigghbehnnghnaaWnA
import Derived.IntWalk
namespace Go.Proofs.Ytigghbehnnghnaa
open Go.RowKit Go.RowBits
set_option linter.unusedSimpArgs false
set_option linter.unusedVariables false

/-! ### Mul and cheap -/
theorem quo_wrap {a b p : Int} (ha : 1 ≤ a) (hb : 1 ≤ b) (hp : a * b ≤ 9223372036854775807) : (a * b).tdiv b = a ∧ (a * b).tdiv a = b := by
  constructor
  · exact Int.mul_tdiv_cancel _ (by omega)
  · rw [Int.mul_comm]; exact Int.mul_tdiv_cancel _ (by omega)
theorem quo_over {a b p : Int} (ha : 1 ≤ a) (hb : 1 ≤ b) (hp : p ≤ 9223372036854775807) (h : 9223372036854775807 < a * b) : ¬ p.tdiv b = a := by
  intro e
  rcases Int.lt_or_le p 0 with h0 | h0
  · have h1 : 0 ≤ (-p).tdiv b := Int.tdiv_nonneg (by omega) (by omega)
    rw [Int.neg_tdiv] at h1
    omega
  · have h1 : p.tdiv b = p / b := Int.tdiv_eq_ediv_of_nonneg h0
    have h2 : p / b * b ≤ p := Int.ediv_mul_le p (by omega)
    rw [← h1, e] at h2
    omega
set_option maxHeartbeats 1000000 in
theorem mul85 (a b : Nat) (ha : a ≤ 9223372036854775807) (hb : b ≤ 9223372036854775807) (w : World) : Calls Try.prog 85 #[.int .i64 (a : Int), .int .i64 (b : Int)] w fun e w' => e = .returned (if a * b ≤ 9223372036854775807 then .tuple #[.int .i64 ((a * b : Nat) : Int), .bool true] else .tuple #[.int .i64 0, .bool false]) ∧ w' = w := by
  by_cases h0 : a = 0
  · subst h0
    rw [if_pos (by simp), Nat.zero_mul]
    go_enter Try.func85, Try.ntmps85
    go_wp2
    go_ret2
    exact ⟨rfl, rfl⟩
  · by_cases h1 : b = 0
    · subst h1
      rw [if_pos (by simp), Nat.mul_zero]
      have h0' : ((a : Int) == 0) = false := beq_eq_false_iff_ne.2 (by omega)
      go_enter Try.func85, Try.ntmps85
      go_wp2
      go_ret2
      exact ⟨rfl, rfl⟩
    · have h0' : ((a : Int) == 0) = false := beq_eq_false_iff_ne.2 (by omega)
      have h1' : ((b : Int) == 0) = false := beq_eq_false_iff_ne.2 (by omega)
      by_cases hm : a * b ≤ 9223372036854775807
      · rw [if_pos hm]
        have hmi : (a : Int) * (b : Int) = ((a * b : Nat) : Int) := (Int.natCast_mul a b).symm
        have hq := quo_wrap (p := 0) (show (1 : Int) ≤ a by omega) (show (1 : Int) ≤ b by omega) (by rw [hmi]; omega)
        have hw : IntKind.i64.wrap ((a : Int) * (b : Int)) = ((a * b : Nat) : Int) := by rw [hmi]; exact IntWalk.i64_in _ (by omega)
        rw [hmi] at hq
        obtain ⟨q1, q2⟩ := hq
        generalize a * b = p at *
        clear hmi
        go_enter Try.func85, Try.ntmps85
        go_wp2
        go_ret2
        exact ⟨rfl, rfl⟩
      · rw [if_neg hm]
        have hmi : (a : Int) * (b : Int) = ((a * b : Nat) : Int) := (Int.natCast_mul a b).symm
        have hq := fun p hp => quo_over (p := p) (show (1 : Int) ≤ a by omega) (show (1 : Int) ≤ b by omega) hp (by rw [hmi]; omega)
        obtain ⟨p, hp⟩ : ∃ p, p = IntKind.i64.wrap ((a : Int) * (b : Int)) := ⟨_, rfl⟩
        have hpr : p ≤ 9223372036854775807 ∧ -9223372036854775808 ≤ p := by rw [hp, IntKind.wrap_i64]; generalize (a : Int) * (b : Int) = x; omega
        have hq1 : (p.tdiv (b : Int) != (a : Int)) = true := bne_iff_ne.2 (hq p hpr.1)
        have hw := hp.symm
        clear hmi hq hp
        go_enter Try.func85, Try.ntmps85
        go_wp2
        go_ret2
        exact ⟨rfl, rfl⟩
def cheapB (n m N : Nat) : Bool := decide (n * (m + 2 * N) ≤ 1048576) && decide (n * (m + 2 * N) * N ≤ 67108864)
set_option maxHeartbeats 1000000 in
theorem cheap62 (n m N : Nat) (hn : n ≤ 65536) (hm : m ≤ 1000000000000) (hN : N ≤ 1125899906842624) (w : World) : Calls Try.prog 62 #[.int .i64 (n : Int), .int .i64 (m : Int), .int .i64 (N : Int)] w fun e w' => e = .returned (.bool (cheapB n m N)) ∧ w' = w := by
  have K1 := mul85 n (m + 2 * N) (by omega) (by omega) w
  have hs : (m : Int) + 2 * (N : Int) = ((m + 2 * N : Nat) : Int) := by omega
  have hw1 : IntKind.i64.wrap (2 * (N : Int)) = 2 * (N : Int) := IntWalk.i64_in _ (by omega)
  have hw2 : IntKind.i64.wrap ((m : Int) + 2 * (N : Int)) = (m : Int) + 2 * (N : Int) := IntWalk.i64_in _ (by omega)
  by_cases h1 : n * (m + 2 * N) ≤ 9223372036854775807
  · rw [if_pos h1] at K1
    by_cases h2 : n * (m + 2 * N) ≤ 1048576
    · have K2 := mul85 (n * (m + 2 * N)) N (by omega) (by omega) w
      have h3 : n * (m + 2 * N) * N ≤ 9223372036854775807 := by
        have h4 : n * (m + 2 * N) * N ≤ 1048576 * N := Nat.mul_le_mul_right N h2
        have h5 : 1048576 * N ≤ 1048576 * 1125899906842624 := Nat.mul_le_mul_left _ hN
        have : 1048576 * N ≤ 1180591620717411303424 := by omega
        by_cases hp : 0 < n * (m + 2 * N)
        · have hn0 : 0 < n := Nat.pos_of_mul_pos_right hp
          have : 1 * (m + 2 * N) ≤ n * (m + 2 * N) := Nat.mul_le_mul_right _ hn0
          have hN2 : N ≤ 1048576 := by omega
          have h6 : 1048576 * N ≤ 1048576 * 1048576 := Nat.mul_le_mul_left _ hN2
          omega
        · have : n * (m + 2 * N) = 0 := by omega
          rw [this]
          omega
      rw [if_pos h3] at K2
      have hF : Hid (cheapB n m N = decide (((n * (m + 2 * N) * N : Nat) : Int) ≤ 67108864)) := by
        show cheapB n m N = _
        unfold cheapB
        rw [decide_eq_true h2, Bool.true_and, Bool.eq_iff_iff, decide_eq_true_eq, decide_eq_true_eq]
        omega
      generalize hA : n * (m + 2 * N) = A at *
      generalize A * N = Bb at *
      have K1' := Lib.hid K1
      have K2' := Lib.hid K2
      have h2i : ¬ (1048576 : Int) < (A : Int) := by omega
      clear K1 K2 hA h1 h2 h3
      rw [← hs] at K1'
      clear hn hm hN hs
      go_enter Try.func62, Try.ntmps62
      go_wp2_with fail
      refine (K1'.out).mono ?_
      rintro e w' ⟨rfl, rfl⟩
      go_wp2_with fail
      refine (K2'.out).mono ?_
      rintro e w' ⟨rfl, rfl⟩
      go_wp2
      go_ret
      exact ⟨by rw [hF.out]; rfl, rfl⟩
    · have hF : Hid (cheapB n m N = false) := by
        show cheapB n m N = false
        unfold cheapB
        rw [decide_eq_false h2, Bool.false_and]
      generalize hA : n * (m + 2 * N) = A at *
      have K1' := Lib.hid K1
      have h2i : (1048576 : Int) < (A : Int) := by omega
      clear K1 hA h1 h2
      rw [← hs] at K1'
      clear hn hm hN hs
      go_enter Try.func62, Try.ntmps62
      go_wp2_with fail
      refine (K1'.out).mono ?_
      rintro e w' ⟨rfl, rfl⟩
      go_wp2
      go_ret
      exact ⟨by rw [hF.out]; rfl, rfl⟩
  · rw [if_neg h1] at K1
    have hF : Hid (cheapB n m N = false) := by
      show cheapB n m N = false
      unfold cheapB
      rw [decide_eq_false (by omega), Bool.false_and]
    have K1' := Lib.hid K1
    clear K1 h1
    rw [← hs] at K1'
    clear hn hm hN hs
    go_enter Try.func62, Try.ntmps62
    go_wp2_with fail
    refine (K1'.out).mono ?_
    rintro e w' ⟨rfl, rfl⟩
    go_wp2
    go_ret
    exact ⟨by rw [hF.out]; rfl, rfl⟩
end Go.Proofs.Ytigghbehnnghnaa
