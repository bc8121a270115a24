import Derived.Test.YtcbhbojplcddkaaGreatDoorZBits
import Derived.Test.YtcbhbojplcddkaaGreatDoorZFdT
namespace Go.RowBits
set_option linter.unusedSimpArgs false
set_option linter.unusedVariables false

/-! ### The lowest bit of a word -/
theorem odd_part : ∀ (f w : Nat), w ≤ f → w ≠ 0 → ∃ k m, w = 2 ^ k * (2 * m + 1)
  | 0, w, h, h0 => by omega
  | f + 1, w, h, h0 => by
    by_cases e : w % 2 = 1
    · exact ⟨0, w / 2, by simp; omega⟩
    · obtain ⟨k, m, h1⟩ := odd_part f (w / 2) (by omega) (by omega)
      refine ⟨k + 1, m, ?_⟩
      rw [Nat.pow_succ, Nat.mul_comm (2 ^ k) 2, Nat.mul_assoc, ← h1]
      omega
theorem low_bits {k m i : Nat} : (2 ^ k * (2 * m + 1)).testBit i = if i < k then false else if i = k then true else m.testBit (i - k - 1) := by
  rw [Nat.testBit_two_pow_mul]
  by_cases h1 : i < k
  · rw [if_pos h1]
    have : ¬ k ≤ i := by omega
    simp [this]
  · rw [if_neg h1]
    by_cases h2 : i = k
    · subst h2
      rw [if_pos rfl]
      simp [Nat.testBit_zero]
    · rw [if_neg h2]
      obtain ⟨j, rfl⟩ : ∃ j, i = k + (j + 1) := ⟨i - k - 1, by omega⟩
      rw [show k + (j + 1) - k = j + 1 from by omega, show j + 1 - 1 = j from by omega, Nat.testBit_succ]
      simp
      rw [show (2 * m + 1) / 2 = m from by omega]
theorem pred_bits {k m i : Nat} : (2 ^ k * (2 * m + 1) - 1).testBit i = if i < k then true else if i = k then false else m.testBit (i - k - 1) := by
  have hp : 0 < 2 ^ k := Nat.two_pow_pos k
  have e : 2 ^ k * (2 * m + 1) - 1 = 2 ^ k * (2 * m) + (2 ^ k - 1) := by
    rw [Nat.mul_add, Nat.mul_one]
    omega
  rw [e, Nat.testBit_two_pow_mul_add _ (by omega)]
  by_cases h1 : i < k
  · rw [if_pos h1, if_pos h1, Nat.testBit_two_pow_sub_one]
    simp [h1]
  · rw [if_neg h1, if_neg h1]
    by_cases h2 : i = k
    · subst h2
      rw [if_pos rfl]
      simp [Nat.testBit_zero]
    · rw [if_neg h2]
      obtain ⟨j, rfl⟩ : ∃ j, i = k + (j + 1) := ⟨i - k - 1, by omega⟩
      rw [show k + (j + 1) - k = j + 1 from by omega, show j + 1 - 1 = j from by omega, Nat.testBit_succ]
      simp
/-- The lowest bit's place. -/
structure Low (w k : Nat) : Prop where
  bit : w.testBit k = true
  below : ∀ i, i < k → w.testBit i = false
theorem low_ex {w : Nat} (hw : w < U) (h0 : w ≠ 0) : ∃ k, k < 64 ∧ Low w k ∧ w &&& (U - w) = 2 ^ k ∧ ∀ i, (w &&& (w - 1)).testBit i = (w.testBit i && !decide (i = k)) := by
  obtain ⟨k, m, rfl⟩ := odd_part w w (Nat.le_refl _) h0
  have hp : 0 < 2 ^ k := Nat.two_pow_pos k
  have hk : k < 64 := by
    apply Classical.byContradiction
    intro hk
    have h1 : (2 : Nat) ^ 64 ≤ 2 ^ k := Nat.pow_le_pow_right (by decide) (by omega)
    have h2 : 2 ^ k ≤ 2 ^ k * (2 * m + 1) := Nat.le_mul_of_pos_right _ (by omega)
    rw [U_eq] at hw
    omega
  refine ⟨k, hk, ⟨by rw [low_bits]; simp, fun i hi => by rw [low_bits, if_pos hi]⟩, ?_, fun i => ?_⟩
  · have hl : 2 ^ k < U := by rw [U_eq]; exact Nat.pow_lt_pow_right (by decide) hk
    refine word_ext (and_lt_U hw) hl fun i hi => ?_
    have hpos : 1 ≤ 2 ^ k * (2 * m + 1) := by omega
    rw [Nat.testBit_and, show U - 2 ^ k * (2 * m + 1) = U - 1 - (2 ^ k * (2 * m + 1) - 1) from by omega, not_bit (by omega) hi, low_bits, pred_bits, Nat.testBit_two_pow]
    by_cases h1 : i < k
    · have : ¬ k = i := by omega
      simp [h1, this]
    · by_cases h2 : i = k
      · subst h2; simp
      · have : ¬ k = i := by omega
        simp [h1, h2, this]
  · rw [Nat.testBit_and, low_bits, pred_bits]
    by_cases h1 : i < k
    · simp [h1]
    · by_cases h2 : i = k
      · subst h2; simp
      · simp [h1, h2]
/-- The table of the numbers of trailing noughts, as the library has it. -/
def bruijn (k : Nat) : Nat := 2 ^ k * 285870213051353865 % 18446744073709551616 / 288230376151711744
end Go.RowBits
namespace Go.Proofs.YtcbhbojplcddkaaGreatDoor
open Go.RowKit Go.RowBits Go.Shelf
set_option linter.unusedSimpArgs false
set_option linter.unusedVariables false

/-! ### TrailingZeros64 -/
def dbt : List Nat := [0, 1, 56, 2, 57, 49, 28, 3, 61, 58, 42, 50, 38, 29, 17, 4, 62, 47, 59, 36, 45, 43, 51, 22, 53, 39, 33, 30, 24, 18, 12, 5, 63, 55, 48, 27, 60, 41, 37, 16, 46, 35, 44, 21, 52, 32, 23, 11, 54, 26, 40, 15, 34, 20, 31, 10, 25, 14, 19, 9, 13, 8, 7, 6]
def dbm (k : Nat) : Nat := 2 ^ k * 285870213051353865 % 18446744073709551616
theorem dbt_at : ∀ k, k < 64 → dbm k / 288230376151711744 < 64 ∧ dbt.getD (dbm k / 288230376151711744) 0 = k := by decide +kernel
/-- The listed table. -/
def Tab (W : World) : Prop := ∀ i, i < 64 → W.cell? ⟨0, i, none⟩ = some (.int .u8 ((dbt.getD i 0 : Nat) : Int))
theorem Tab.lt {W : World} (h : Tab W) : 0 < W.heap.size := World.block_lt_of_cell? W _ (h 0 (by omega))
theorem Tab.keptB {B : Nat} {W W' : World} (h : Tab W) (hb : Below B W W') (hB : 0 < B) : Tab W' := fun i hi => cellB hb (h i hi) hB
theorem Tab.kept {W W' : World} (h : Tab W) (hb : Below W.heap.size W W') : Tab W' := h.keptB hb h.lt
set_option maxHeartbeats 2000000 in
theorem tz52 {W : World} {w k : Nat} (hT : Tab W) (hw : w < U) (h0 : w ≠ 0) (hk : k < 64) (hl : w &&& (U - w) = 2 ^ k) : Calls Tryz.prog 55 #[.int .u64 (w : Int)] W fun e w' => e = .returned (.int .i64 (k : Int)) ∧ w' = W := by
  have h1 : ((w : Int) == 0) = false := by rw [beq_eq_false_iff_ne]; omega
  obtain ⟨p, hp⟩ : ∃ p : Nat, p = 2 ^ k := ⟨_, rfl⟩
  obtain ⟨q, hq⟩ : ∃ q : Nat, q = dbm k / 288230376151711744 := ⟨_, rfl⟩
  obtain ⟨m, hm⟩ : ∃ m : Nat, m = dbm k := ⟨_, rfl⟩
  have hd := dbt_at k hk
  rw [← hq] at hd
  have hA : bits .and .u64 (w : Int) (IntKind.u64.wrap (-(w : Int))) = (p : Int) := by
    have e1 : IntKind.u64.wrap (-(w : Int)) = ((U - w : Nat) : Int) := by
      rw [IntKind.wrap_u64]
      unfold U at *
      omega
    rw [e1, u64_and_nat _ _ hw (by unfold U at *; omega), hl, hp]
  have hM : IntKind.u64.wrap ((p : Int) * 285870213051353865) = (m : Int) := by
    rw [IntKind.wrap_u64, hm, hp]
    unfold dbm
    omega
  have hQ : (m : Int) / 288230376151711744 = (q : Int) := by rw [hq, hm]; omega
  have hT0 := hT q hd.1
  rw [hd.2] at hT0
  have hq64 : q < 64 := hd.1
  clear hT h0 hl hp hq hm hd
  go_enter Tryz.func55, Tryz.ntmps55
  go_wp2
  go_ret
  exact ⟨rfl, rfl⟩
end Go.Proofs.YtcbhbojplcddkaaGreatDoor
namespace Go.Proofs.YtcbhbojplcddkaaGreatDoor
open Go.RowKit Go.RowBits Go.Shelf
set_option linter.unusedSimpArgs false
set_option linter.unusedVariables false
attribute [local go_sem] Oper.semAt_some

/-! ### words.Bits -/
/-- A place of a bit that is set. -/
def BitPt (n : Nat) (ws : List Nat) := { i : Nat // i < n ∧ bitw ws i = true }
def encBit {n : Nat} {ws : List Nat} (p : BitPt n ws) : Array Value := #[.int .i64 ((p.1 : Nat) : Int)]
def posL (ws : List Nat) (m : Nat) : List Nat := (List.range m).filter fun i => bitw ws i
theorem posL_succ (ws : List Nat) (m : Nat) : posL ws (m + 1) = if bitw ws m then posL ws m ++ [m] else posL ws m := by
  unfold posL
  rw [List.range_succ, List.filter_append]
  by_cases h : bitw ws m <;> simp [h]
theorem posL_len (ws : List Nat) (m : Nat) : (posL ws m).length ≤ m := by
  unfold posL
  exact Nat.le_trans (List.length_filter_le _ _) (by simp)
theorem posL_skip (ws : List Nat) (m : Nat) : ∀ d, (∀ i, m ≤ i → i < m + d → bitw ws i = false) → posL ws (m + d) = posL ws m
  | 0, _ => rfl
  | d + 1, h => by
    rw [show m + (d + 1) = (m + d) + 1 from by omega, posL_succ, h (m + d) (by omega) (by omega)]
    simp only [Bool.false_eq_true, if_false]
    exact posL_skip ws m d fun i h1 h2 => h i h1 (by omega)
/-- What is left of a word when the places below m are gone. -/
def LeftW (x w m : Nat) : Prop := w < U ∧ ∀ j, j < 64 → w.testBit j = (decide (m ≤ j) && x.testBit j)
def AllBits (n : Nat) (ws : List Nat) (xs : List (BitPt n ws)) : Prop := xs.map (·.1) = posL ws n
section
variable {n : Nat} {ws : List Nat}
def BtRel (Pf : World → Prop) (J : List (BitPt n ws) → World → Prop) (i : Value) (wx : World) : Prop :=
  ∃ (k : Nat) (pre : List (BitPt n ws)), k ≤ ws.length ∧ i = .int .i64 (k : Int) ∧ pre.map (·.1) = posL ws (64 * k) ∧ J pre wx ∧ Pf wx
def BtRel2 (Pf : World → Prop) (J : List (BitPt n ws) → World → Prop) (k : Nat) (u : Value) (wx : World) : Prop :=
  ∃ (m w : Nat) (pre : List (BitPt n ws)), m ≤ 64 ∧ u = .int .u64 (w : Int) ∧ LeftW (ws.getD k 0) w m ∧ pre.map (·.1) = posL ws (64 * k + m) ∧ J pre wx ∧ Pf wx
theorem bit_at (ws : List Nat) {k j : Nat} (hj : j < 64) : bitw ws (64 * k + j) = (ws.getD k 0).testBit j := by
  unfold bitw
  rw [show (64 * k + j) / 64 = k from by omega, show (64 * k + j) % 64 = j from by omega]
set_option maxRecDepth 100000 in
set_option maxHeartbeats 4000000 in
theorem bits51 (d : Nat) (hd : 1 ≤ d) (l bx g cap : Nat) (Pf : World → Prop) (Kp : World → World → Prop) (J Jx : List (BitPt n ws) → World → Prop) (hn : n ≤ 65538) (hg : RowGood n ws)
    (hY : ∀ pre x W, J pre W → pre.length < n → YieldAt Fence.wide (d - 1) Tryz.prog l (encBit x) W fun e W' =>
      (e = .returned (.bool true) ∧ J (pre ++ [x]) W' ∧ Kp W W') ∨ (e = .returned (.bool false) ∧ Jx (pre ++ [x]) W'))
    (hP : ∀ W, Pf W → WBlk W g ws ∧ Tab W) (hPk : ∀ W W', Pf W → Kp W W' → Pf W')
    (W : World) (hbx : W.cell? ⟨bx, 0, none⟩ = some (.slice (some ⟨g, 0, none⟩) ws.length cap)) (h0 : J [] W) (hp : Pf W) :
    CallsIn Fence.wide d Tryz.prog 54 #[.func (.yield l) #[] #[], .pointer (some ⟨bx, 0, none⟩)] W fun e W' => (∃ v, e = .returned v) ∧
      ((∃ xs, AllBits n ws xs ∧ J xs W') ∨ (∃ pre, True ∧ Jx pre W')) := by
  refine callsIn_of_wp Tryz.func54 rfl trivial ?_ rfl
  simp only [Tryz.ntmps54, List.size_toArray, List.length_cons, List.length_nil, Nat.reduceAdd, Nat.reduceSub, Array.replicate_succ, Array.replicate_zero, List.push_toArray, List.append_toArray, List.nil_append, List.cons_append]
  have hY' := Lib.hid hY
  have hP' := Lib.hid hP
  have hPk' := Lib.hid hPk
  have h0' := Lib.hid h0
  have hp' := Lib.hid hp
  have hg' := Lib.hid hg
  have hL : ws.length ≤ 1025 := by have := hg.len; omega
  clear hY hP hPk h0 hp hg
  gi_wp2
  clear hbx
  gi_loopw [7] (fun i wr => BtRel Pf J i wr) (fun i _ => ws.length - (intOf i).toNat)
  case atStart => exact ⟨0, [], by omega, by go_num, by simp [posL], h0'.out, hp'.out⟩
  case round =>
    obtain ⟨k, pre, hk, rfl, hpre, hJ1, hP1⟩ := hrel
    have hpre' := Lib.hid hpre
    have hJ1' := Lib.hid hJ1
    have hP1' := Lib.hid hP1
    by_cases hlt : k < ws.length
    · have c1 := (hP'.out _ hP1).1.cell hlt
      have hwU := Lib.hid (hg'.out.w64 k)
      clear hpre hJ1 hP1
      obtain ⟨x, hx⟩ : ∃ x, Hid (x = ws.getD k 0) := ⟨_, rfl⟩
      rw [← hx.out] at c1 hwU
      gi_wp2
      clear c1
      gi_loopw [4] (fun u wr => BtRel2 Pf J k u wr) (fun u _ => (intOf u).toNat)
      case atStart => exact ⟨0, x, pre, by omega, rfl, ⟨hwU.out, fun j hj => by simp [hx.out]⟩, hpre'.out, hJ1'.out, hP1'.out⟩
      case round =>
        rename World => wx
        obtain ⟨m, w, pre2, hm, rfl, hl, hpre2, hJ2, hP2⟩ := hrel
        have hpre2' := Lib.hid hpre2
        have hJ2' := Lib.hid hJ2
        have hP2' := Lib.hid hP2
        have hl' := Lib.hid hl
        clear hpre2 hJ2 hP2 hl
        by_cases hz : w = 0
        · subst hz
          have hnx : Hid (pre2.map (·.1) = posL ws (64 * (k + 1))) := by
            have hq : posL ws (64 * k + m + (64 - m)) = posL ws (64 * k + m) := posL_skip ws (64 * k + m) (64 - m) fun i h1 h2 => by
              have h3 := hl'.out.2 (i - 64 * k) (by omega)
              have h4 := bit_at ws (k := k) (j := i - 64 * k) (by omega)
              rw [show 64 * k + (i - 64 * k) = i from by omega] at h4
              have e : decide (m ≤ i - 64 * k) = true := decide_eq_true (by omega)
              rw [e, Bool.true_and, Nat.zero_testBit] at h3
              rw [h4, ← h3]
            show _ = _
            rw [hpre2'.out, show 64 * (k + 1) = 64 * k + m + (64 - m) from by omega, hq]
          gi_wp2
          go_roundw
          case rel => exact ⟨k + 1, pre2, by omega, by go_num, hnx.out, hJ2'.out, hP2'.out⟩
          case measure => simp [intOf]; omega
        · obtain ⟨b, hb64, hlow, hand, hnext⟩ := low_ex hl'.out.1 hz
          have hmb : m ≤ b := by
            have := hl'.out.2 b hb64
            rw [hlow.bit] at this
            simp at this
            exact this.1
          have hxb : bitw ws (64 * k + b) = true := by
            have := hl'.out.2 b hb64
            rw [hlow.bit] at this
            simp at this
            rw [bit_at ws hb64]
            exact this.2
          have hbn : 64 * k + b < n := by
            apply Classical.byContradiction
            intro q
            have := hg'.out.top (64 * k + b) (by omega)
            rw [this] at hxb
            cases hxb
          have hstep : Hid (posL ws (64 * k + (b + 1)) = posL ws (64 * k + m) ++ [64 * k + b]) := by
            show _ = _
            have hq : posL ws (64 * k + m + (b - m)) = posL ws (64 * k + m) := posL_skip ws (64 * k + m) (b - m) fun i h1 h2 => by
              have h3 := hl'.out.2 (i - 64 * k) (by omega)
              rw [hlow.below (i - 64 * k) (by omega)] at h3
              have h4 := bit_at ws (k := k) (j := i - 64 * k) (by omega)
              rw [show 64 * k + (i - 64 * k) = i from by omega] at h4
              have e : decide (m ≤ i - 64 * k) = true := decide_eq_true (by omega)
              rw [e, Bool.true_and] at h3
              rw [h4, ← h3]
            rw [show 64 * k + (b + 1) = (64 * k + b) + 1 from by omega, posL_succ, if_pos hxb, show 64 * k + b = 64 * k + m + (b - m) from by omega, hq]
          have hleft : Hid (LeftW (ws.getD k 0) (w &&& (w - 1)) (b + 1)) := ⟨and_lt_U hl'.out.1, fun j hj => by
            rw [hnext, hl'.out.2 j hj]
            by_cases e1 : j = b
            · subst e1
              have : ¬ j + 1 ≤ j := by omega
              simp [this]
            · by_cases e2 : j < b
              · have h3 := hl'.out.2 j hj
                rw [hlow.below j e2] at h3
                rw [← h3]
                have : ¬ b + 1 ≤ j := by omega
                simp [this]
              · have q1 : m ≤ j := by omega
                have q2 : b + 1 ≤ j := by omega
                simp [e1, q1, q2]⟩
          have hlen : pre2.length < n := by
            have e1 : pre2.length = (pre2.map (·.1)).length := by simp
            have := posL_len ws (64 * k + m)
            rw [hpre2'.out] at e1
            omega
          obtain ⟨fn, tmps, assign, body, hy, hR⟩ := hY'.out pre2 ⟨64 * k + b, hbn, hxb⟩ wx hJ2'.out hlen
          have hR' := Lib.hid hR
          dsimp only [encBit] at hy
          rw [show (((64 * k + b : Nat) : Int)) = 64 * (k : Int) + (b : Int) from by omega] at hy
          have KT := Lib.hid (tz52 (hP'.out _ hP2'.out).2 hl'.out.1 hz hb64 hand)
          have hand2 : bits .and .u64 (w : Int) ((w : Int) - 1) = ((w &&& (w - 1) : Nat) : Int) := by
            have hw1 := hl'.out.1
            rw [show ((w : Int) - 1) = ((w - 1 : Nat) : Int) from by omega, u64_and_nat _ _ hw1 (by unfold U at *; omega)]
          have hlt2 : Hid (w &&& (w - 1) < w) := by
            have : w &&& (w - 1) ≤ w - 1 := Nat.and_le_right
            show _ < _
            omega
          have hw64 : w ≤ 18446744073709551615 := by have := hl'.out.1; unfold U at this; omega
          have hz1 : ((w : Int) == 0) = false := by rw [beq_eq_false_iff_ne]; omega
          have hz2 : ((w : Int) != 0) = true := by simp [bne, hz1]
          have hk1025 : k ≤ 1025 := by omega
          generalize hv : (w &&& (w - 1)) = v at *
          clear hR hlow hand hnext hlen hv
          gi_wp2_with fail
          refine ⟨trivial, callsIn_wide.2 ((KT.out).mono ?_)⟩
          rintro e w' ⟨rfl, hw'⟩
          subst w'
          gi_wp2_with fail
          refine hR'.out.mono ?_
          rintro e w4 (⟨rfl, hJ4, hk4⟩ | ⟨rfl, hJx4⟩)
          · have hJ4' := Lib.hid hJ4
            have hP4' := Lib.hid (hPk'.out _ _ hP2'.out hk4)
            clear hJ4 hk4
            gi_wp2
            go_roundw
            case rel => exact ⟨b + 1, v, _, by omega, rfl, hleft.out, by rw [List.map_append, hpre2'.out, hstep.out]; rfl, hJ4'.out, hP4'.out⟩
            case measure => have := hlt2.out; simp [intOf]; omega
          · have hJx4' := Lib.hid hJx4
            clear hJx4
            gi_wp2
            refine bodyPost_ret (results_none rfl _ _ _) rfl ?_
            exact ⟨⟨_, rfl⟩, .inr ⟨_, trivial, hJx4'.out⟩⟩
    · obtain rfl : k = ws.length := by omega
      have hfin : Hid (AllBits n ws pre) := by
        show _ = _
        have hl := hg'.out.len
        have hq : posL ws (n + (64 * ws.length - n)) = posL ws n := posL_skip ws n _ fun i h1 h2 => hg'.out.top i h1
        rw [hpre, show 64 * ws.length = n + (64 * ws.length - n) from by omega, hq]
      clear hlt hpre hJ1 hP1
      gi_wp2
      go_end0
      exact ⟨⟨_, rfl⟩, .inl ⟨pre, hfin.out, hJ1'.out⟩⟩
end
end Go.Proofs.YtcbhbojplcddkaaGreatDoor
namespace Go.Proofs.YtcbhbojplcddkaaGreatDoor
open Go.RowKit Go.RowBits Go.Shelf
set_option linter.unusedSimpArgs false
set_option linter.unusedVariables false
attribute [local go_sem] Oper.semAt_some

/-! ### words.Bits: what it hands back -/
theorem field33_1 (a : Int) (p : Option Addr) (m c : Nat) (W : World) : Sem.run Tryz.prog (Instr.field 58 (.agg #[.int .i64 a, .slice p m c]) 1) W = .ok (.slice p m c) W := by kernel_rfl
def BitsPost (W : World) (ws : List Nat) (e : Ending) (w' : World) : Prop :=
  ∃ bx g, e = .returned (.func (.func 54) #[] #[.pointer (some ⟨bx, 0, none⟩)]) ∧ w'.cell? ⟨bx, 0, none⟩ = some (.slice (some ⟨g, 0, none⟩) ws.length ws.length) ∧ WBlk w' g ws ∧ W.heap.size ≤ bx ∧ W.heap.size ≤ g ∧ Below W.heap.size W w'
set_option maxRecDepth 20000 in
set_option maxHeartbeats 2000000 in
theorem bits24 {W : World} {v : Value} {ws : List Nat} {n : Nat} (hn : n ≤ 65538) (hg : RowGood n ws) (h : HasW W v ws) : Calls Tryz.prog 25 #[.agg #[.int .i64 (n : Int), v]] W (BitsPost W ws) := by
  have hok : rowOk (n : Int) ws = true := by
    rw [rowOk_iff]
    exact ⟨by omega, by omega, hg⟩
  obtain ⟨W2, hW2⟩ : ∃ W2, Hid (W2 = W.alloc (.cells #[.int .i64 (n : Int), v] 58)) := ⟨_, rfl⟩
  have hB2 : Hid (Below W.heap.size W W2) := by rw [hW2.out]; exact below_new _
  have hbk : W2.heap[W.heap.size]? = some (.cells #[.int .i64 (n : Int), v] 58 (0, 0)) := by rw [hW2.out]; exact heap_alloc_new W _
  have hsh : ∃ ad cap, v = .slice ad ws.length cap := by obtain ⟨ad, cap, e, _⟩ := h; exact ⟨ad, cap, e⟩
  have K := Lib.hid (fun W' (hb : Below W2.heap.size W2 W') => valid_any (n : Int) ((h.kept hB2.out).kept hb) hg.w64)
  have K2 := Lib.hid (fun W' (hb : Below W2.heap.size W2 W') => clone_any hn hg.len ((h.kept hB2.out).kept hb))
  rw [hok] at K
  have c0 : W2.cell? ⟨W.heap.size, 0, none⟩ = some (.int .i64 (n : Int)) := by rw [cell_of_row W2 _ 0 _ 58 (0, 0) hbk]; rfl
  have c1 : W2.cell? ⟨W.heap.size, 1, none⟩ = some v := by rw [cell_of_row W2 _ 1 _ 58 (0, 0) hbk]; rfl
  obtain ⟨ad, cap, rfl⟩ := hsh
  have hz2 : Hid (W.heap.size < W2.heap.size) := (Array.getElem?_eq_some_iff.1 hbk).1
  clear hok h hbk
  go_enter Tryz.func25, Tryz.ntmps25
  go_wp2_with fail
  rw [← hW2.out]
  refine (K.out _ (Below.refl _ _)).mono ?_
  rintro e w1 ⟨rfl, hb1⟩
  have d0 := cell_kept hb1 c0
  have d1 := cell_kept hb1 c1
  have K3 := Lib.hid (K2.out _ hb1)
  have hb1' := Lib.hid hb1
  clear hb1 c0 c1 K K2
  go_wp2_with fail
  refine (K3.out).mono ?_
  rintro e w2 ⟨g, rfl, hgl, hg2, hb2⟩
  have hg2' := Lib.hid hg2
  have hb2' := Lib.hid hb2
  clear d0 d1 hb2 hg2 K3
  go_wp2
  rw [field33_1]
  go_wp2
  go_ret
  have z1 := hB2.out.size
  have z2 := hb1'.out.size
  have z3 := hb2'.out.size
  have hB : Below W.heap.size W w2 := below_then (below_then hB2.out hb1'.out z1) hb2'.out (by omega)
  exact ⟨w2.heap.size, g, rfl, by rw [cell_of_row _ _ 0 _ 56 (0, 0) (heap_alloc_new w2 _)]; rfl, hg2'.out.kept (below_new _), by omega, by omega, hB.alloc (by omega) _⟩
theorem WBlk.block_same {W W' : World} {g : Nat} {ws : List Nat} (h : WBlk W g ws) (hb : W'.heap[g]? = W.heap[g]?) : WBlk W' g ws := hb.trans h
theorem Tab.same {W W' : World} (h : Tab W) (hb : W'.heap[0]? = W.heap[0]?) : Tab W' := fun i hi => by
  have := h i hi
  unfold World.cell? at *
  simp only at *
  rw [hb]
  exact this
/-- What Bits hands back, in a loop that leaves the blocks below D but for those from B1 up to E1. -/
theorem bits_stops {W : World} {ws : List Nat} {n d bx g D B1 E1 : Nat} (hd : 1 ≤ d) (hn : n ≤ 65538) (hg : RowGood n ws) (hT : Tab W) (hbx : W.cell? ⟨bx, 0, none⟩ = some (.slice (some ⟨g, 0, none⟩) ws.length ws.length)) (hw : WBlk W g ws) (hgD : g < D) (hD0 : 0 < D) (h0 : 0 < B1) (hdg : g < B1 ∨ E1 ≤ g) :
    SeqStopsK Fence.wide d Tryz.prog 54 #[.pointer (some ⟨bx, 0, none⟩)] (encBit (n := n) (ws := ws)) (KpO D B1 E1) (AllBits n ws) (fun _ => True) n W := fun l J Jx W1 hW1 hJ _ hY hJ0 => by
  refine bits51 d hd l bx g ws.length (fun W => WBlk W g ws ∧ Tab W) (KpO D B1 E1) J Jx hn hg hY (fun A q => q) (fun A C q hk => ⟨q.1.block_same (hk.block g hgD hdg), q.2.same (hk.block 0 hD0 (.inl h0))⟩) W1 (cell_kept hW1 hbx) hJ0 ⟨hw.kept hW1, hT.kept hW1⟩
end Go.Proofs.YtcbhbojplcddkaaGreatDoor
namespace Go.Proofs.YtcbhbojplcddkaaGreatDoor
open Go.RowKit Go.RowBits
set_option linter.unusedSimpArgs false
set_option linter.unusedVariables false

/-! ### words.Of -/
def bv (x : Bool) : Value := .bool x
/-- A slice of bools. -/
def HasB (w : World) (v : Value) (bs : List Bool) : Prop :=
  ∃ (ad : Option Addr) (cap : Nat), v = .slice ad bs.length cap ∧ ∀ j, j < bs.length → ∃ g o, ad = some ⟨g, o, none⟩ ∧ w.cell? ⟨g, o + j, none⟩ = some (.bool (bs.getD j false))
theorem HasB.kept {w w' : World} {v : Value} {l : List Bool} (h : HasB w v l) (hb : Below w.heap.size w w') : HasB w' v l := by
  obtain ⟨ad, cap, hv, hc⟩ := h
  refine ⟨ad, cap, hv, fun j hj => ?_⟩
  obtain ⟨g, o, hg, c1⟩ := hc j hj
  exact ⟨g, o, hg, cell_kept hb c1⟩
/-- A block of bools, known whole. -/
def BBlk (w : World) (g : Nat) (bs : List Bool) : Prop := w.heap[g]? = some (.cells (bs.map bv).toArray 4 (0, 0))
theorem BBlk.lt {w : World} {g : Nat} {ws : List Bool} (h : BBlk w g ws) : g < w.heap.size := (Array.getElem?_eq_some_iff.1 h).1
theorem BBlk.cell {w : World} {g : Nat} {ws : List Bool} (h : BBlk w g ws) {j : Nat} (hj : j < ws.length) : w.cell? ⟨g, j, none⟩ = some (.bool (ws.getD j false)) := by
  rw [cell_of_row w g j _ 4 (0, 0) h]
  simp [hj, bv]
theorem BBlk.frozen {w : World} {g : Nat} {ws : List Bool} (h : BBlk w g ws) (j : Nat) : w.frozen? ⟨g, j, none⟩ = false := frozen_of_row w g j _ 4 h
theorem BBlk.kept {w w' : World} {g : Nat} {ws : List Bool} (h : BBlk w g ws) (hb : Below w.heap.size w w') : BBlk w' g ws := (hb.block g h.lt).trans h
theorem BBlk.set {w : World} {g j : Nat} {ws : List Bool} (h : BBlk w g ws) (x : Bool) : BBlk (w.setCell ⟨g, j, none⟩ (.bool x)) g (ws.set j x) := by
  unfold BBlk
  rw [heap_setCell_same w g j _ 4 _ h, List.map_set]
  simp [bv]
theorem BBlk.setOther {w : World} {g b o : Nat} {ws : List Bool} (h : BBlk w g ws) (hne : g ≠ b) (u : Value) : BBlk (w.setCell ⟨b, o, none⟩ u) g ws := (heap_setCell_other w ⟨b, o, none⟩ g u hne).trans h
theorem BBlk.part {w : World} {g o n cap : Nat} {ws : List Bool} (h : BBlk w g ws) (hn : o + n ≤ ws.length) : HasB w (.slice (some ⟨g, o, none⟩) n cap) ((ws.drop o).take n) := by
  have hl : ((ws.drop o).take n).length = n := by simp; omega
  refine ⟨some ⟨g, o, none⟩, cap, by rw [hl], fun j hj => ⟨g, o, rfl, ?_⟩⟩
  rw [hl] at hj
  rw [h.cell (by omega)]
  congr 2
  simp [List.getD, List.getElem?_take, hj]
theorem packK_yes {bs : List Bool} {k : Nat} (h : bs.getD k false = true) : packK bs (k + 1) = (packK bs k).set (k / 64) ((packK bs k).getD (k / 64) 0 + 2 ^ (k % 64)) := by
  show (if bs.getD k false then _ else _) = _
  rw [if_pos h]
theorem packK_no {bs : List Bool} {k : Nat} (h : bs.getD k false = false) : packK bs (k + 1) = packK bs k := by
  show (if bs.getD k false then _ else _) = _
  rw [h]; rfl
theorem pack_or {bs : List Bool} {k : Nat} (hk : k < bs.length) (h : bs.getD k false = true) : (packK bs k).getD (k / 64) 0 + 2 ^ (k % 64) = (packK bs k).getD (k / 64) 0 ||| 2 ^ (k % 64) := by
  have h0 := packK_bits bs k (by omega)
  have h1 := packK_bits bs (k + 1) (by omega)
  have e0 : (packK bs (k + 1)).getD (k / 64) 0 = (packK bs k).getD (k / 64) 0 + 2 ^ (k % 64) := by
    rw [packK_yes h, getD_set_self (by rw [packK_len]; omega)]
  have hp : 2 ^ (k % 64) < U := by rw [U_eq]; exact Nat.pow_lt_pow_right (by decide) (by omega)
  rw [← e0]
  refine word_ext (h1.1 _) (or_lt_U (h0.1 _) hp) fun j hj => ?_
  rw [Nat.testBit_or, ← bit_at _ hj, ← bit_at _ hj, h1.2, h0.2, Nat.testBit_two_pow]
  by_cases e : k % 64 = j
  · have e2 : 64 * (k / 64) + j = k := by omega
    rw [e2, h]
    simp [e]
  · have e2 : 64 * (k / 64) + j ≠ k := by omega
    have e3 : decide (64 * (k / 64) + j < k + 1) = decide (64 * (k / 64) + j < k) := by
      rw [decide_eq_decide]; omega
    rw [e3]
    simp [e]
def OfRel (w3 : World) (g : Nat) (bs : List Bool) (i : Value) (wr : World) : Prop := ∃ k : Nat, k ≤ bs.length ∧ i = .int .i64 (k : Int) ∧ WBlk wr g (packK bs k) ∧ w3.grownBy wr (some g)
def OfPost (W : World) (bs : List Bool) (e : Ending) (w' : World) : Prop := ∃ g, e = .returned (.tuple #[.agg #[.int .i64 (bs.length : Int), .slice (some ⟨g, 0, none⟩) (pack bs).length (pack bs).length], .int .i64 0]) ∧ W.heap.size ≤ g ∧ WBlk w' g (pack bs) ∧ Below W.heap.size W w'
theorem wrap_pow {m : Nat} (hm : m < 64) : IntKind.u64.wrap ((2 : Int) ^ m) = ((2 ^ m : Nat) : Int) := by
  have h1 := pow_64 hm
  have e : ((2 : Int) ^ m) = ((2 ^ m : Nat) : Int) := by simp
  rw [e, IntKind.wrap_u64]
  generalize 2 ^ m = p at *
  omega
set_option maxRecDepth 20000 in
set_option maxHeartbeats 4000000 in
theorem of46 {W : World} {v : Value} {bs : List Bool} (hn : bs.length ≤ 65538) (h : HasB W v bs) : Calls Tryz.prog 48 #[v] W (OfPost W bs) := by
  have hpl : (pack bs).length = (bs.length + 63) / 64 := (pack_good bs).len
  obtain ⟨m, hm⟩ : ∃ m, m = (bs.length + 63) / 64 := ⟨_, rfl⟩
  have hpk : Hid (packK bs bs.length = pack bs) := rfl
  have hlen0 : Hid (packK bs 0 = List.replicate m 0) := by show packK bs 0 = _; rw [hm]; rfl
  have K := Lib.hid (fun W' => blank_any (n := bs.length) (m := m) hn hm W')
  have hm' := Lib.hid hm
  have h' := Lib.hid h
  obtain ⟨ad, cap, rfl, hc⟩ := h
  rw [← hm] at hpl
  have hpl' := Lib.hid hpl
  clear hm hc hpl
  obtain ⟨n, hbn⟩ : ∃ n, bs.length = n := ⟨_, rfl⟩
  rw [hbn] at hn K h' hm'
  rw [hbn]
  have hbn' := Lib.hid hbn
  clear hbn
  go_enter Tryz.func48, Tryz.ntmps48
  go_wp2_with fail
  refine (K.out _).mono ?_
  rintro e w1 ⟨g, rfl, hg1, hg2, hb⟩
  have hg1' : W.heap.size + 1 ≤ g := by simpa using hg1
  obtain ⟨o0, ho0⟩ : ∃ o0 : Obj, Hid (o0 = .cells #[.int .i64 0, .slice none 0 0] 58) := ⟨_, rfl⟩
  have hr1 : Hid (w1.heap[W.heap.size]? = some (.cells #[.int .i64 0, .slice none 0 0] 58 (0, 0))) := (hb.block _ (by simp)).trans (heap_alloc_new W _)
  have hgl := hg2.lt
  obtain ⟨W3, hW3⟩ : ∃ W3, Hid (W3 = w1.alloc (.cells #[.int .i64 (n : Int), .slice (some ⟨g, 0, none⟩) m m] 58)) := ⟨_, rfl⟩
  have hB3 : Hid (Below W.heap.size W W3) := by rw [hW3.out]; exact (below_then (below_new _) hb (by simp)).alloc (by have := hb.size; simp at this; omega) _
  have hr3 : Hid (W3.heap[W.heap.size]? = some (.cells #[.int .i64 0, .slice none 0 0] 58 (0, 0))) := by rw [hW3.out]; exact ((below_new (w := w1) _).block _ (by omega)).trans hr1.out
  have hb3 : Hid (W3.heap[w1.heap.size]? = some (.cells #[.int .i64 (n : Int), .slice (some ⟨g, 0, none⟩) m m] 58 (0, 0))) := by rw [hW3.out]; exact heap_alloc_new w1 _
  have hg3 : Hid (WBlk W3 g (packK bs 0)) := by rw [hW3.out, hlen0.out]; exact hg2.kept (below_new _)
  have hz3 : Hid (W3.heap.size = w1.heap.size + 1) := by rw [hW3.out]; show _ = _; simp
  clear hb hg2 hg1 K hr1
  go_wp2_with fail
  rw [← hW3.out]
  clear hW3
  go_loopw [16] (fun i wr => OfRel W3 g bs i wr) (fun i _ => n - (intOf i).toNat)
  case atStart => exact ⟨0, by omega, by go_num, hg3.out, ⟨rfl, rfl, rfl, Nat.le_refl _, fun _ _ _ => rfl⟩⟩
  case round =>
    obtain ⟨k, hk, rfl, hW, hG⟩ := hrel
    rw [hbn'.out] at hk
    have hW' := Lib.hid hW
    have hG' := Lib.hid hG
    have hzr : w1.heap.size + 1 ≤ wr.heap.size := by have := hG.size; rw [hz3.out] at this; exact this
    have hbb : wr.heap[w1.heap.size]? = some (.cells #[.int .i64 (n : Int), .slice (some ⟨g, 0, none⟩) m m] 58 (0, 0)) := (hG.block _ (by rw [hz3.out]; omega) (fun e => by injection e with e; omega)).trans hb3.out
    have cc0 : wr.cell? ⟨w1.heap.size, 0, none⟩ = some (.int .i64 (n : Int)) := by rw [cell_of_row wr _ 0 _ 58 (0, 0) hbb]; rfl
    have cc1 : wr.cell? ⟨w1.heap.size, 1, none⟩ = some (.slice (some ⟨g, 0, none⟩) m m) := by rw [cell_of_row wr _ 1 _ 58 (0, 0) hbb]; rfl
    have hbW : Below W.heap.size W wr := hB3.out.grown hG hB3.out.size (fun q e => by injection e with e; omega)
    have hbW' := Lib.hid hbW
    clear hW hG hbb
    by_cases hlt : k < n
    · have hB1 := Lib.hid (HasB.kept h'.out hbW'.out)
      obtain ⟨ad1, cap1, hv, hcs⟩ := hB1.out
      cases hv
      obtain ⟨gb, ob, hgb, cb⟩ := hcs k (by rw [hbn'.out]; exact hlt)
      cases hgb
      clear hcs hbW
      cases hbk : bs.getD k false with
      | false =>
        rw [hbk] at cb
        have R : OfRel W3 g bs (.int .i64 ((k : Int) + 1)) wr := ⟨k + 1, by rw [hbn'.out]; omega, by go_num, by rw [packK_no hbk]; exact hW'.out, hG'.out⟩
        have R' := Lib.hid R
        clear R
        go_wp2
        exact ⟨R'.out, by simp [intOf]; omega⟩
      | true =>
        rw [hbk] at cb
        have hkm : k / 64 < m := by have := hm'.out; omega
        have hxU : (packK bs k).getD (k / 64) 0 < U := (packK_bits bs k (by rw [hbn'.out]; omega)).1 _
        have hor := pack_or (bs := bs) (k := k) (by rw [hbn'.out]; exact hlt) hbk
        have d1 : wr.cell? ⟨g, k / 64, none⟩ = some (.int .u64 (((packK bs k).getD (k / 64) 0 : Nat) : Int)) := hW'.out.cell (by rw [packK_len, hbn'.out, ← hm'.out]; exact hkm)
        have f1 := hW'.out.frozen (k / 64)
        have hst := Lib.hid (hW'.out.set (j := k / 64) ((packK bs k).getD (k / 64) 0 + 2 ^ (k % 64)))
        have hpy := Lib.hid (packK_yes hbk)
        rw [hor] at hst hpy
        clear hor
        generalize (packK bs k).getD (k / 64) 0 = x at *
        have hbor : bits .or .u64 (x : Int) (IntKind.u64.wrap ((2 : Int) ^ (k % 64))) = ((x ||| 2 ^ (k % 64) : Nat) : Int) := by
          rw [wrap_pow (by omega), u64_or_nat _ _ hxU (by have := pow_64 (m := k % 64) (by omega); omega)]
        have hkm' : (k : Int) / 64 < (m : Int) := by omega
        have hkt : ((k : Int) / 64).toNat = k / 64 := by omega
        have R : OfRel W3 g bs (.int .i64 ((k : Int) + 1)) ((wr.setCell ⟨g, k / 64, none⟩ (.int .u64 ((x ||| 2 ^ (k % 64) : Nat) : Int))).drew) := by
          refine ⟨k + 1, by have := hbn'.out; omega, by go_num, ?_, ?_⟩
          · rw [hpy.out]
            exact hst.out.kept (Below.refl _ _).drew
          · have g1 := hG'.out.trans (grown_setCell wr g (k / 64) (.int .u64 ((x ||| 2 ^ (k % 64) : Nat) : Int)))
            exact ⟨g1.os, g1.tape, g1.output, g1.size, g1.block⟩
        have R' := Lib.hid R
        clear R
        go_wp2
        go_region
        go_wp2
        exact ⟨R'.out, by simp [intOf]; omega⟩
    · obtain rfl : k = n := by omega
      clear hlt
      have hrr : wr.heap[W.heap.size]? = some (.cells #[.int .i64 0, .slice none 0 0] 58 (0, 0)) := (hG'.out.block _ (by have := hz3.out; omega) (fun e => by injection e with e; omega)).trans hr3.out
      have rr0 : wr.cell? ⟨W.heap.size, 0, none⟩ = some (.int .i64 0) := by rw [cell_of_row wr _ 0 _ 58 (0, 0) hrr]; rfl
      have rr1 : wr.cell? ⟨W.heap.size, 1, none⟩ = some (.slice none 0 0) := by rw [cell_of_row wr _ 1 _ 58 (0, 0) hrr]; rfl
      have rf0 : wr.frozen? ⟨W.heap.size, 0, none⟩ = false := frozen_of_row wr _ 0 _ 58 hrr
      have rf1 : wr.frozen? ⟨W.heap.size, 1, none⟩ = false := frozen_of_row wr _ 1 _ 58 hrr
      clear hbW hrr
      go_wp2
      try simp only [Exit.inBlock, Exit.then]
      refine bodyPost_ret (v := .tuple #[.agg #[.int .i64 (k : Int), .slice (some ⟨g, 0, none⟩) m m], .int .i64 0]) ?_ rfl ⟨g, by rw [hbn'.out, hpl'.out], by omega, ?_, ?_⟩
      · rw [results_cell2 rfl]
        go_simp
      · rw [← hpk.out, hbn'.out]
        exact WBlk.setOther (WBlk.setOther hW'.out (by omega) _) (by omega) _
      · exact (hbW'.out.setCell (by simp) _).setCell (by simp) _
end Go.Proofs.YtcbhbojplcddkaaGreatDoor
