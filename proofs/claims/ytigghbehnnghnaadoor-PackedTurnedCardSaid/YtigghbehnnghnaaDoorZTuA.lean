import Derived.Test.YtigghbehnnghnaaDoorZPkC
import Derived.Test.YtigghbehnnghnaaDoorZDrA
import Derived.Test.YtigghbehnnghnaaDoorZBitZ
import Derived.Test.YtigghbehnnghnaaDoorZRegInv
import Derived.Test.YtigghbehnnghnaaDoorZGdT2
namespace Go.Proofs.YtigghbehnnghnaaDoor
open Go.RowKit Go.RowBits
set_option linter.unusedSimpArgs false
set_option linter.unusedVariables false

/-! ### Rows turned bit by bit, and the rule turned: plain -/
def notB (n : Nat) (ws : List Nat) : List Nat := pack ((List.range n).map fun i => !bitw ws i)
theorem notB_good (n : Nat) (ws : List Nat) : RowGood n (notB n ws) := by
  have := pack_good ((List.range n).map fun i => !bitw ws i)
  rw [List.length_map, List.length_range] at this
  exact this
theorem notB_bit {n i : Nat} (ws : List Nat) (hi : i < n) : bitw (notB n ws) i = !bitw ws i := by
  unfold notB
  rw [pack_bit _ (by simpa using hi)]
  simp [hi]
def notX (ws : List Nat) (j : Nat) : Nat := U - 1 - ws.getD j 0
def notM (n : Nat) (ws : List Nat) : List Nat := (markY (notX ws) ws ws.length).set (ws.length - 1) (notX ws (ws.length - 1) &&& lastW n)
theorem notM_len (n : Nat) (ws : List Nat) : (notM n ws).length = ws.length := by unfold notM; rw [List.length_set, markY_len]
theorem notX_lt (ws : List Nat) (j : Nat) : notX ws j < U := by unfold notX U; omega
theorem notM_get {n j : Nat} {ws : List Nat} (hj : j < ws.length) : (notM n ws).getD j 0 = if j = ws.length - 1 then notX ws j &&& lastW n else notX ws j := by
  unfold notM
  by_cases e : j = ws.length - 1
  · subst e
    rw [getD_set_self (by rw [markY_len]; exact hj), if_pos rfl]
  · rw [Go.RowBits.getD_set_ne (fun h => e h.symm), markY_get _ _ hj, if_pos hj, if_neg e]
theorem notM_bit {n i : Nat} {ws : List Nat} (hg : RowGood n ws) (hi : i < 64 * ws.length) : bitw (notM n ws) i = (decide (i < n) && !bitw ws i) := by
  have hl := hg.len
  have hj : i / 64 < ws.length := by omega
  have hnb : (notX ws (i / 64)).testBit (i % 64) = !bitw ws i := not_bit (hg.w64 _) (by omega)
  show ((notM n ws).getD (i / 64) 0).testBit (i % 64) = _
  rw [notM_get hj]
  by_cases e : i / 64 = ws.length - 1
  · rw [if_pos e, Nat.testBit_and, hnb, lastW_bit n (by omega)]
    by_cases h : i < n
    · have : (decide (n % 64 = 0) || decide (i % 64 < n % 64)) = true := by
        rw [Bool.or_eq_true, decide_eq_true_eq, decide_eq_true_eq]; omega
      rw [this]
      simp [h]
    · have : (decide (n % 64 = 0) || decide (i % 64 < n % 64)) = false := by
        rw [Bool.or_eq_false_iff, decide_eq_false_iff_not, decide_eq_false_iff_not]; omega
      rw [this]
      simp [h]
  · rw [if_neg e, hnb]
    have : i < n := by omega
    simp [this]
theorem notM_eq {n : Nat} {ws : List Nat} (hg : RowGood n ws) : notM n ws = notB n ws := by
  have hl := hg.len
  have hw : W64 (notM n ws) := fun j => by
    by_cases hj : j < ws.length
    · rw [notM_get hj]
      split
      · exact and_lt_U (notX_lt _ _)
      · exact notX_lt _ _
    · rw [List.getD_eq_getElem?_getD, List.getElem?_eq_none (by rw [notM_len]; omega), Option.getD_none]
      unfold U; omega
  have hG : RowGood n (notM n ws) := (good_iff (by rw [notM_len]; exact hl) hw).2 fun i hi h2 => by
    rw [notM_len] at h2
    rw [notM_bit hg h2]
    have : ¬ i < n := by omega
    simp [this]
  refine RowGood.ext hG (notB_good n ws) fun i hi => ?_
  rw [notM_bit hg (by omega), notB_bit ws hi]
  simp [hi]

/-- The list of a rule turned, k rounds done. -/
def turnK (n s : Nat) : Nat → Nat
  | 0 => 2 ^ (n + 1) - 1
  | k + 1 => if s / 2 ^ k % 2 = 1 then turnK n s k &&& (65535 - 2 ^ (n - k)) else turnK n s k
theorem turnK_lt {n s : Nat} (hn : n ≤ 8) : ∀ k, turnK n s k < 65536
  | 0 => by
    have : (2 : Nat) ^ (n + 1) ≤ 2 ^ 9 := Nat.pow_le_pow_right (by decide) (by omega)
    have e : (2 : Nat) ^ 9 = 512 := by decide
    unfold turnK
    omega
  | k + 1 => by
    unfold turnK
    split
    · exact Nat.lt_of_le_of_lt Nat.and_le_left (turnK_lt hn k)
    · exact turnK_lt hn k
theorem turnK_bit {n s : Nat} (hn : n ≤ 8) : ∀ k, k ≤ n + 1 → ∀ j, (turnK n s k).testBit j = (decide (j ≤ n) && !(decide (n - j < k) && s.testBit (n - j)))
  | 0, _, j => by
    unfold turnK
    rw [Nat.testBit_two_pow_sub_one]
    by_cases h : j ≤ n
    · have : j < n + 1 := by omega
      simp [h, this]
    · have : ¬ j < n + 1 := by omega
      simp [h, this]
  | k + 1, hk, j => by
    have ih := turnK_bit (s := s) hn k (by omega) j
    have hb : s.testBit k = decide (s / 2 ^ k % 2 = 1) := Nat.testBit_eq_decide_div_mod_eq
    have hp : (2 : Nat) ^ (n - k) ≤ 2 ^ 8 := Nat.pow_le_pow_right (by decide) (by omega)
    have h8 : (2 : Nat) ^ 8 = 256 := by decide
    have h1 : 1 ≤ (2 : Nat) ^ (n - k) := Nat.one_le_two_pow
    unfold turnK
    by_cases hs : s / 2 ^ k % 2 = 1
    · rw [if_pos hs, Nat.testBit_and, ih]
      rw [decide_eq_true hs] at hb
      by_cases h : j ≤ n
      · have h16 : (65535 - 2 ^ (n - k)).testBit j = !decide (n - k = j) := by
          have e : (65535 - 2 ^ (n - k)) = 2 ^ 16 - (2 ^ (n - k) + 1) := by
            have : (2 : Nat) ^ 16 = 65536 := by decide
            omega
          rw [e, Nat.testBit_two_pow_sub_succ (by have : (2 : Nat) ^ 16 = 65536 := by decide
                                                  omega), Nat.testBit_two_pow]
          have : j < 16 := by omega
          simp [this]
        rw [h16]
        by_cases e : n - k = j
        · have e2 : n - j = k := by omega
          rw [e2, hb]
          simp [e]
        · have e3 : (decide (n - j < k + 1)) = decide (n - j < k) := by
            rw [Bool.eq_iff_iff, decide_eq_true_eq, decide_eq_true_eq]; omega
          rw [e3]
          simp [e]
      · simp [h]
    · rw [if_neg hs, ih]
      rw [decide_eq_false hs] at hb
      by_cases e : n - j = k
      · rw [e, hb]; simp
      · have e3 : (decide (n - j < k + 1)) = decide (n - j < k) := by
          rw [Bool.eq_iff_iff, decide_eq_true_eq, decide_eq_true_eq]; omega
        rw [e3]
/-- The list of the rule turned. -/
def turnW (n s : Nat) : Nat := turnK n s (n + 1)
theorem turnW_lt {n s : Nat} (hn : n ≤ 8) : turnW n s < 65536 := turnK_lt hn _
theorem turnW_bit {n s j : Nat} (hn : n ≤ 8) : (turnW n s).testBit j = (decide (j ≤ n) && !s.testBit (n - j)) := by
  unfold turnW
  rw [turnK_bit hn _ (Nat.le_refl _)]
  by_cases h : j ≤ n
  · have : n - j < n + 1 := by omega
    simp [h, this]
  · simp [h]
theorem turned_ok {h : Int} {born stay : Nat} : ruleOk h (turnW (offs h).length stay) (turnW (offs h).length born) := fun j h1 _ => by
  have h8 : (offs h).length ≤ 8 := by
    have := offs_len h
    omega
  rw [turnW_bit h8, turnW_bit h8]
  have : ¬ j ≤ (offs h).length := by omega
  simp [this]

/-! ### What is behind three rows turned -/
section
variable {L : List (Int × Int)} {born stay : Nat} {a h b a' h' b' : List Nat}
theorem cntTo_not {N i : Nat} (ha : ∀ p, p < N → bitw a' p = !bitw a p) (hh : ∀ p, p < N → bitw h' p = !bitw h p) (hb : ∀ p, p < N → bitw b' p = !bitw b p)
    (hL : ∀ k, k < L.length → -1 ≤ (L.getD k (0, 0)).1 ∧ (L.getD k (0, 0)).1 ≤ 1) (hi : i + 2 < N) : ∀ k, k ≤ L.length → cntTo L a' h' b' i k = k - cntTo L a h b i k
  | 0, _ => rfl
  | k + 1, hk => by
    have ih := cntTo_not ha hh hb hL hi k (by omega)
    have hle := cntTo_le L a h b i k
    obtain ⟨h1, h2⟩ := hL k (by omega)
    have hp : ((i : Int) + 1 + (L.getD k (0, 0)).1).toNat < N := by omega
    have hbit : bitw (Go.RowBits.rowAt a' h' b' (L.getD k (0, 0)).2) ((i : Int) + 1 + (L.getD k (0, 0)).1).toNat = !bitw (Go.RowBits.rowAt a h b (L.getD k (0, 0)).2) ((i : Int) + 1 + (L.getD k (0, 0)).1).toNat := by
      unfold Go.RowBits.rowAt
      split
      · exact ha _ hp
      · split
        · exact hh _ hp
        · exact hb _ hp
    show cntTo L a' h' b' i k + _ = k + 1 - (cntTo L a h b i k + _)
    rw [ih, hbit]
    cases bitw (Go.RowBits.rowAt a h b (L.getD k (0, 0)).2) ((i : Int) + 1 + (L.getD k (0, 0)).1).toNat
    · simp; omega
    · simp
theorem line_not {N : Nat} (ha : ∀ p, p < N → bitw a' p = !bitw a p) (hh : ∀ p, p < N → bitw h' p = !bitw h p) (hb : ∀ p, p < N → bitw b' p = !bitw b p)
    (hL : ∀ k, k < L.length → -1 ≤ (L.getD k (0, 0)).1 ∧ (L.getD k (0, 0)).1 ≤ 1) (h8 : L.length ≤ 8) :
    lineB L (turnW L.length stay) (turnW L.length born) a' h' b' (N - 2) = (lineB L born stay a h b (N - 2)).map not := by
  unfold lineB
  rw [List.map_map]
  apply List.map_congr_left
  intro i hi
  have hi := List.mem_range.1 hi
  have hle := cntTo_le L a h b i L.length
  show lineBit _ _ _ _ = !(lineBit _ _ _ _)
  rw [cntTo_not ha hh hb hL (by omega) L.length (Nat.le_refl _), hh (i + 1) (by omega)]
  unfold lineBit
  have e : L.length - (L.length - cntTo L a h b i L.length) = cntTo L a h b i L.length := by omega
  rw [turnW_bit h8, turnW_bit h8, e]
  have : L.length - cntTo L a h b i L.length ≤ L.length := by omega
  cases bitw h (i + 1)
  · simp
  · simp
end
end Go.Proofs.YtigghbehnnghnaaDoor
namespace Go.Proofs.YtigghbehnnghnaaDoor
open Go.RowKit Go.RowBits
set_option linter.unusedSimpArgs false
set_option linter.unusedVariables false

/-! ### words.Not -/
def NotRel (w3 : World) (g : Nat) (ws : List Nat) (i : Value) (wr : World) : Prop := ∃ k : Nat, k ≤ ws.length ∧ i = .int .i64 (k : Int) ∧ WBlk wr g (markY (notX ws) ws k) ∧ w3.grownBy wr (some g)
theorem xor_ones {x : Nat} (hx : x < U) : bits .xor .u64 (x : Int) 18446744073709551615 = ((U - 1 - x : Nat) : Int) := by
  rw [show (18446744073709551615 : Int) = ((18446744073709551615 : Nat) : Int) from rfl, u64_xor_nat x 18446744073709551615 hx (by decide)]
  congr 1
  refine word_ext (xor_lt_U hx (by unfold U; omega)) (by unfold U; omega) fun i hi => ?_
  have h1 := ones_bit hi
  rw [show U - 1 = 18446744073709551615 from rfl] at h1
  rw [Nat.testBit_xor, not_bit hx hi, h1]
  simp
def PrT (b g k n : Nat) (lw x0 x1 : Int) : Nat → Value → World → Prop
  | 0, v, _ => v = .pointer (some ⟨b, 1, none⟩)
  | 1, v, _ => v = .slice (some ⟨g, 0, none⟩) k k
  | 2, v, _ => v = .pointer (some ⟨b, 1, none⟩)
  | 3, v, _ => v = .slice (some ⟨g, 0, none⟩) k k
  | 4, v, _ => v = .int .i64 (k : Int)
  | 5, v, _ => v = .int .i64 ((k : Int) - 1)
  | 6, v, _ => v = .pointer (some ⟨g, k - 1, none⟩)
  | 7, v, _ => v = .int .u64 x0
  | 8, v, _ => v = .pointer (some ⟨b, 0, none⟩)
  | 9, v, _ => v = .int .i64 (n : Int)
  | 10, v, _ => v = .int .u64 lw
  | 11, v, _ => v = .int .u64 x1
  | _, _, _ => True
theorem PrT.mono {b g k n : Nat} {lw x0 x1 : Int} : ∀ i v w1 w2, PrT b g k n lw x0 x1 i v w1 → Below w1.heap.size w1 w2 → PrT b g k n lw x0 x1 i v w2 := fun i v w1 w2 hp hb => by
  match i, hp with
  | 0, hp => exact hp
  | 1, hp => exact hp
  | 2, hp => exact hp
  | 3, hp => exact hp
  | 4, hp => exact hp
  | 5, hp => exact hp
  | 6, hp => exact hp
  | 7, hp => exact hp
  | 8, hp => exact hp
  | 9, hp => exact hp
  | 10, hp => exact hp
  | 11, hp => exact hp
  | _ + 12, _ => trivial
attribute [local go_sem] RegInv.putAll
set_option maxRecDepth 20000 in
set_option maxHeartbeats 4000000 in
theorem not16 {W : World} {v : Value} {ws : List Nat} {n : Nat} (hn : n ≤ 65538) (h0 : 0 < n) (hg : RowGood n ws) (h : HasW W v ws) :
    Calls Tryd.prog 16 #[.agg #[.int .i64 (n : Int), v]] W fun e w' => ∃ g, e = .returned (.tuple #[.agg #[.int .i64 (n : Int), .slice (some ⟨g, 0, none⟩) ws.length ws.length], .int .i64 0]) ∧
    W.heap.size ≤ g ∧ WBlk w' g (notB n ws) ∧ Below W.heap.size W w' := by
  have hl := hg.len
  have hL0 : 0 < ws.length := by omega
  have K1 : Hid (∀ W, HasW W v ws → Calls Tryd.prog 18 #[.agg #[.int .i64 (n : Int), v]] W fun e w' => e = .returned (.bool true) ∧ Below W.heap.size W w') := fun W hW => by
    have := valid_any (n : Int) hW hg.w64
    rw [rowOk_yes (N := (n : Int)) ⟨by omega, by omega, by simpa using hg⟩] at this
    exact this
  have K2 : Hid (∀ W, HasW W v ws → Calls Tryd.prog 35 #[.agg #[.int .i64 (n : Int), v]] W fun e w' => ∃ g, e = .returned (.agg #[.int .i64 (n : Int), .slice (some ⟨g, 0, none⟩) ws.length ws.length]) ∧
    W.heap.size ≤ g ∧ WBlk w' g ws ∧ Below W.heap.size W w') := fun W hW => clone_any hn hl hW
  have h' := Lib.hid h
  obtain ⟨ad, cap, rfl, hc⟩ := h
  have hw := Lib.hid hg.w64
  have hM : Hid ((markY (notX ws) ws ws.length).set (ws.length - 1) (notX ws (ws.length - 1) &&& lastW n) = notB n ws) := notM_eq hg
  have hL1 : ws.length ≤ 1025 := by omega
  have hml := Lib.hid (fun k => markY_len (notX ws) ws k)
  generalize hL : ws.length = L at *
  have hL' := Lib.hid hL
  clear hc hl hL hg
  obtain ⟨W2, hW2⟩ : ∃ W2, Hid (W2 = (W.alloc (.cells #[.int .i64 (n : Int), .slice ad L cap] 33)).alloc (.cells #[.int .i64 0, .slice none 0 0] 33)) := ⟨_, rfl⟩
  have hB2 : Hid (Below W.heap.size W W2) := by rw [hW2.out]; exact (below_new _).alloc (by simp) _
  have E2 : Blks W2 [(W.heap.size + 1, #[.int .i64 0, .slice none 0 0], 33), (W.heap.size, #[.int .i64 (n : Int), .slice ad L cap], 33)] := by
    rw [hW2.out]
    exact ((Blks.nil W).alloc rfl _ _).alloc (by simp) _ _
  have E2' := Lib.hid E2
  have hz2 : W.heap.size + 2 ≤ W2.heap.size := by rw [hW2.out]; simp
  clear E2
  go_enter Tryd.func16, Tryd.ntmps16
  go_wp2_with fail
  rw [← hW2.out]
  clear hW2
  refine (K1.out _ (h'.out.kept hB2.out)).mono ?_
  rintro e w1 ⟨rfl, hb⟩
  have hB1 := Lib.hid (below_then hB2.out hb hB2.out.size)
  have hz1 : W.heap.size + 2 ≤ w1.heap.size := by have := hb.size; omega
  have E1 := Lib.hid (E2'.out.kept hb)
  have q0 : w1.cell? ⟨W.heap.size, 0, none⟩ = some (.int .i64 (n : Int)) := E1.out.cell (cs := #[.int .i64 (n : Int), .slice ad L cap]) (T := 33) (by simp) rfl
  have q1 : w1.cell? ⟨W.heap.size, 1, none⟩ = some (.slice ad L cap) := E1.out.cell (cs := #[.int .i64 (n : Int), .slice ad L cap]) (T := 33) (by simp) rfl
  clear hb E2'
  go_wp2_with fail
  refine (K2.out _ (h'.out.kept hB1.out)).mono ?_
  rintro e w2 ⟨g, rfl, hgl, hblk, hb⟩
  obtain ⟨w3, hw3⟩ : ∃ w3, Hid (w3 = w2.alloc (.cells #[.int .i64 (n : Int), .slice (some ⟨g, 0, none⟩) L L] 33)) := ⟨_, rfl⟩
  have hz5 : w1.heap.size ≤ w2.heap.size := hb.size
  have hgl2 := hblk.lt
  have hz3 : w3.heap.size = w2.heap.size + 1 := by rw [hw3.out]; simp
  have E3 : Hid (Blks w3 [(w2.heap.size, #[.int .i64 (n : Int), .slice (some ⟨g, 0, none⟩) L L], 33), (W.heap.size + 1, #[.int .i64 0, .slice none 0 0], 33), (W.heap.size, #[.int .i64 (n : Int), .slice ad L cap], 33)]) := by
    rw [hw3.out]; exact (E1.out.kept hb).alloc rfl _ _
  have hB3 : Hid (Below W.heap.size W w3) := by rw [hw3.out]; exact (below_then hB1.out hb hB1.out.size).alloc (by omega) _
  have hblk' : Hid (WBlk w3 g ws) := by rw [hw3.out]; exact hblk.kept (below_new _)
  have hz3' := Lib.hid hz3
  clear hb hblk E1 hB1 hB2
  have Q0 : w3.cell? ⟨w2.heap.size, 0, none⟩ = some (.int .i64 (n : Int)) := E3.out.cell (cs := #[.int .i64 (n : Int), .slice (some ⟨g, 0, none⟩) L L]) (T := 33) (by simp) rfl
  have Q1 : w3.cell? ⟨w2.heap.size, 1, none⟩ = some (.slice (some ⟨g, 0, none⟩) L L) := E3.out.cell (cs := #[.int .i64 (n : Int), .slice (some ⟨g, 0, none⟩) L L]) (T := 33) (by simp) rfl
  clear hz3
  go_wp2_with fail
  rw [← hw3.out]
  clear hw3
  go_loopw [15] (fun i wr => NotRel w3 g ws i wr) (fun i _ => L - (intOf i).toNat)
  case atStart => exact ⟨0, by omega, by go_num, by rw [markY_zero]; exact hblk'.out, grown_refl _ _⟩
  case round =>
    obtain ⟨k, hk, rfl, hW, hG⟩ := hrel
    rw [hL'.out] at hk
    have hW' := Lib.hid hW
    have hG' := Lib.hid hG
    have hzr : w2.heap.size < wr.heap.size := by have := hG.size; rw [hz3'.out] at this; omega
    have cc0 : wr.cell? ⟨w2.heap.size, 0, none⟩ = some (.int .i64 (n : Int)) := hG.cell Q0 (fun e => by have : w2.heap.size = g := Option.some.inj e; omega)
    have cc1 : wr.cell? ⟨w2.heap.size, 1, none⟩ = some (.slice (some ⟨g, 0, none⟩) L L) := hG.cell Q1 (fun e => by have : w2.heap.size = g := Option.some.inj e; omega)
    clear hW hG
    by_cases hlt : k < L
    · have d1 : wr.cell? ⟨g, k, none⟩ = some (.int .u64 ((ws.getD k 0 : Nat) : Int)) := by
        rw [hW'.out.cell (by rw [hml.out]; exact hlt), markY_get _ _ (by rw [hL'.out]; exact hlt), if_neg (by omega)]
      have f1 := hW'.out.frozen k
      have hx := xor_ones (hw.out k)
      have hst : Hid (NotRel w3 g ws (.int .i64 ((k : Int) + 1)) (wr.setCell ⟨g, k, none⟩ (.int .u64 ((U - 1 - ws.getD k 0 : Nat) : Int)))) := by
        refine ⟨k + 1, by rw [hL'.out]; omega, by go_num, ?_, grown_set hG'.out _⟩
        rw [markY_succ _ _ (by rw [hL'.out]; exact hlt)]
        exact hW'.out.set (j := k) (notX ws k)
      generalize hx0 : ((U - 1 - ws.getD k 0 : Nat) : Int) = x0 at *
      generalize ws.getD k 0 = x at *
      have hlt' : (k : Int) < (L : Int) := by omega
      go_wp2_with fail
      exact ⟨hst.out, by simp [intOf]; omega⟩
    · obtain rfl : k = L := by omega
      clear hlt
      have hgt : (0 : Int) < (k : Int) := by omega
      have d1h : Hid (wr.cell? ⟨g, k - 1, none⟩ = some (.int .u64 ((notX ws (k - 1) : Nat) : Int))) := by
        show _ = _
        rw [hW'.out.cell (by rw [hml.out]; omega), markY_get _ _ (by rw [hL'.out]; omega), if_pos (by omega)]
      have f1h := Lib.hid (hW'.out.frozen (k - 1))
      have hgr : g < wr.heap.size := hW'.out.lt
      have hx : Hid (bits .and .u64 ((notX ws (k - 1) : Nat) : Int) ((lastW n : Nat) : Int) = ((notX ws (k - 1) &&& lastW n : Nat) : Int)) := u64_and_nat _ _ (notX_lt _ _) (lastW_lt n)
      have FIN : Hid (∀ w', Below wr.heap.size wr w' → WBlk (w'.setCell ⟨g, k - 1, none⟩ (.int .u64 ((notX ws (k - 1) &&& lastW n : Nat) : Int))) g (notB n ws)) := fun w' hb => by
        rw [← hM.out]
        exact (hW'.out.kept hb).set (j := k - 1) _
      have hr1 : wr.heap[W.heap.size + 1]? = some (.cells #[.int .i64 0, .slice none 0 0] 33 (0, 0)) := (hG'.out.block _ (by have := hz3'.out; omega) (fun e => by injection e with e; omega)).trans (E3.out (W.heap.size + 1, _, _) (by simp))
      have rr0h : Hid (wr.cell? ⟨W.heap.size + 1, 0, none⟩ = some (.int .i64 0)) := by show _ = _; rw [cell_of_row wr _ 0 _ 33 (0, 0) hr1]; rfl
      have rr1h : Hid (wr.cell? ⟨W.heap.size + 1, 1, none⟩ = some (.slice none 0 0)) := by show _ = _; rw [cell_of_row wr _ 1 _ 33 (0, 0) hr1]; rfl
      have rf0h : Hid (wr.frozen? ⟨W.heap.size + 1, 0, none⟩ = false) := frozen_of_row wr _ 0 _ 33 hr1
      have rf1h : Hid (wr.frozen? ⟨W.heap.size + 1, 1, none⟩ = false) := frozen_of_row wr _ 1 _ 33 hr1
      have hbW : Hid (Below W.heap.size W wr) := hB3.out.grown hG'.out hB3.out.size (fun q e => by injection e with e; omega)
      have cc0h := Lib.hid cc0
      have cc1h := Lib.hid cc1
      clear hr1
      generalize ((notX ws (k - 1) &&& lastW n : Nat) : Int) = x1 at *
      generalize ((notX ws (k - 1) : Nat) : Int) = x0 at *
      generalize hlw : ((lastW n : Nat) : Int) = lw at *
      have KL : Hid (∀ W, Calls Tryd.prog 36 #[.int .i64 (n : Int)] W fun e w' => e = .returned (.int .u64 lw) ∧ w' = W) := fun W => by
        rw [← hlw]; exact last_any hn W
      clear hlw
      go_wp2_with fail
      clear cc0 cc1
      refine RegInv.wp_region_inv 12 [30, 31, 32, 33, 34, 35, 36, 37, 38, 39, 40, 41] (RegInv.ILv (PrT w2.heap.size g k n lw x0 x1) 12 wr) (by kernel_rfl) (by kernel_rfl) (RegInv.ILv.start _ 12 (by simp) (Below.refl _ _).drew) (fun i hi L9 vs w' hLi hd9 hI K hK => ?s0) (fun vs w' hI => ?s1)
      case s0 =>
        obtain ⟨hlen, hB9, hA0⟩ := hI
        obtain ⟨us, rfl⟩ := RegInv.list_fn hlen
        have hA9 : ∀ i, i < 12 → L9 i = true → (PrT w2.heap.size g k n lw x0 x1) i ([us 0, us 1, us 2, us 3, us 4, us 5, us 6, us 7, us 8, us 9, us 10, us 11].getD i undef) w' := hA0
        change wpOp _ _ _ _ _ (RegInv.putAll _ _ [us 0, us 1, us 2, us 3, us 4, us 5, us 6, us 7, us 8, us 9, us 10, us 11]) _
        clear hlen hA0
        generalize us 0 = u90 at hA9 ⊢
        generalize us 1 = u91 at hA9 ⊢
        generalize us 2 = u92 at hA9 ⊢
        generalize us 3 = u93 at hA9 ⊢
        generalize us 4 = u94 at hA9 ⊢
        generalize us 5 = u95 at hA9 ⊢
        generalize us 6 = u96 at hA9 ⊢
        generalize us 7 = u97 at hA9 ⊢
        generalize us 8 = u98 at hA9 ⊢
        generalize us 9 = u99 at hA9 ⊢
        generalize us 10 = u910 at hA9 ⊢
        generalize us 11 = u911 at hA9 ⊢
        clear us
        match i, hi with
        | 0, _ =>
          refine wpOp_step rfl (fun K' hK' => ?_)
          go_simp
          have hI : RegInv.ILv (PrT w2.heap.size g k n lw x0 x1) 12 wr (fun j => decide (j = 0) || L9 j) [(.pointer (some ⟨w2.heap.size, 1, none⟩)), u91, u92, u93, u94, u95, u96, u97, u98, u99, u910, u911] w' := RegInv.ILv.step (Pr := (PrT w2.heap.size g k n lw x0 x1)) (n := 12) (vs := [u90, u91, u92, u93, u94, u95, u96, u97, u98, u99, u910, u911]) PrT.mono rfl hB9 hA9 0 (.pointer (some ⟨w2.heap.size, 1, none⟩)) (Below.refl _ _) (rfl)
          have hk := hK' _ _ (hK _ _ hI)
          revert hk
          go_simp
        | 1, _ =>
          have hd' : ([0] : List Nat).all L9 = true := hd9
          simp only [List.all_cons, List.all_nil, Bool.and_true, Bool.and_eq_true] at hd'
          have hp0 : (PrT w2.heap.size g k n lw x0 x1) 0 u90 w' := hA9 0 (by omega) (hd')
          obtain rfl : u90 = .pointer (some ⟨w2.heap.size, 1, none⟩) := hp0
          have z1 := cell_kept hB9 cc1h.out
          refine wpOp_step rfl (fun K' hK' => ?_)
          go_simp
          have hI : RegInv.ILv (PrT w2.heap.size g k n lw x0 x1) 12 wr (fun j => decide (j = 1) || L9 j) [(.pointer (some ⟨w2.heap.size, 1, none⟩)), (.slice (some ⟨g, 0, none⟩) k k), u92, u93, u94, u95, u96, u97, u98, u99, u910, u911] w' := RegInv.ILv.step (Pr := (PrT w2.heap.size g k n lw x0 x1)) (n := 12) (vs := [(.pointer (some ⟨w2.heap.size, 1, none⟩)), u91, u92, u93, u94, u95, u96, u97, u98, u99, u910, u911]) PrT.mono rfl hB9 hA9 1 (.slice (some ⟨g, 0, none⟩) k k) (Below.refl _ _) (rfl)
          have hk := hK' _ _ (hK _ _ hI)
          revert hk
          go_simp
        | 2, _ =>
          refine wpOp_step rfl (fun K' hK' => ?_)
          go_simp
          have hI : RegInv.ILv (PrT w2.heap.size g k n lw x0 x1) 12 wr (fun j => decide (j = 2) || L9 j) [u90, u91, (.pointer (some ⟨w2.heap.size, 1, none⟩)), u93, u94, u95, u96, u97, u98, u99, u910, u911] w' := RegInv.ILv.step (Pr := (PrT w2.heap.size g k n lw x0 x1)) (n := 12) (vs := [u90, u91, u92, u93, u94, u95, u96, u97, u98, u99, u910, u911]) PrT.mono rfl hB9 hA9 2 (.pointer (some ⟨w2.heap.size, 1, none⟩)) (Below.refl _ _) (rfl)
          have hk := hK' _ _ (hK _ _ hI)
          revert hk
          go_simp
        | 3, _ =>
          have hd' : ([2] : List Nat).all L9 = true := hd9
          simp only [List.all_cons, List.all_nil, Bool.and_true, Bool.and_eq_true] at hd'
          have hp2 : (PrT w2.heap.size g k n lw x0 x1) 2 u92 w' := hA9 2 (by omega) (hd')
          obtain rfl : u92 = .pointer (some ⟨w2.heap.size, 1, none⟩) := hp2
          have z1 := cell_kept hB9 cc1h.out
          refine wpOp_step rfl (fun K' hK' => ?_)
          go_simp
          have hI : RegInv.ILv (PrT w2.heap.size g k n lw x0 x1) 12 wr (fun j => decide (j = 3) || L9 j) [u90, u91, (.pointer (some ⟨w2.heap.size, 1, none⟩)), (.slice (some ⟨g, 0, none⟩) k k), u94, u95, u96, u97, u98, u99, u910, u911] w' := RegInv.ILv.step (Pr := (PrT w2.heap.size g k n lw x0 x1)) (n := 12) (vs := [u90, u91, (.pointer (some ⟨w2.heap.size, 1, none⟩)), u93, u94, u95, u96, u97, u98, u99, u910, u911]) PrT.mono rfl hB9 hA9 3 (.slice (some ⟨g, 0, none⟩) k k) (Below.refl _ _) (rfl)
          have hk := hK' _ _ (hK _ _ hI)
          revert hk
          go_simp
        | 4, _ =>
          have hd' : ([3] : List Nat).all L9 = true := hd9
          simp only [List.all_cons, List.all_nil, Bool.and_true, Bool.and_eq_true] at hd'
          have hp3 : (PrT w2.heap.size g k n lw x0 x1) 3 u93 w' := hA9 3 (by omega) (hd')
          obtain rfl : u93 = .slice (some ⟨g, 0, none⟩) k k := hp3
          refine wpOp_step rfl (fun K' hK' => ?_)
          go_simp
          have hI : RegInv.ILv (PrT w2.heap.size g k n lw x0 x1) 12 wr (fun j => decide (j = 4) || L9 j) [u90, u91, u92, (.slice (some ⟨g, 0, none⟩) k k), (.int .i64 (k : Int)), u95, u96, u97, u98, u99, u910, u911] w' := RegInv.ILv.step (Pr := (PrT w2.heap.size g k n lw x0 x1)) (n := 12) (vs := [u90, u91, u92, (.slice (some ⟨g, 0, none⟩) k k), u94, u95, u96, u97, u98, u99, u910, u911]) PrT.mono rfl hB9 hA9 4 (.int .i64 (k : Int)) (Below.refl _ _) (rfl)
          have hk := hK' _ _ (hK _ _ hI)
          revert hk
          go_simp
        | 5, _ =>
          have hd' : ([4] : List Nat).all L9 = true := hd9
          simp only [List.all_cons, List.all_nil, Bool.and_true, Bool.and_eq_true] at hd'
          have hp4 : (PrT w2.heap.size g k n lw x0 x1) 4 u94 w' := hA9 4 (by omega) (hd')
          obtain rfl : u94 = .int .i64 (k : Int) := hp4
          have hk4 : IntKind.i64.wrap ((k : Int) - 1) = (k : Int) - 1 := by rw [IntKind.wrap_i64]; omega
          refine wpOp_step rfl (fun K' hK' => ?_)
          go_simp
          have hI : RegInv.ILv (PrT w2.heap.size g k n lw x0 x1) 12 wr (fun j => decide (j = 5) || L9 j) [u90, u91, u92, u93, (.int .i64 (k : Int)), (.int .i64 ((k : Int) - 1)), u96, u97, u98, u99, u910, u911] w' := RegInv.ILv.step (Pr := (PrT w2.heap.size g k n lw x0 x1)) (n := 12) (vs := [u90, u91, u92, u93, (.int .i64 (k : Int)), u95, u96, u97, u98, u99, u910, u911]) PrT.mono rfl hB9 hA9 5 (.int .i64 ((k : Int) - 1)) (Below.refl _ _) (rfl)
          have hk := hK' _ _ (hK _ _ hI)
          revert hk
          go_simp
        | 6, _ =>
          have hd' : ([1, 5] : List Nat).all L9 = true := hd9
          simp only [List.all_cons, List.all_nil, Bool.and_true, Bool.and_eq_true] at hd'
          have hp1 : (PrT w2.heap.size g k n lw x0 x1) 1 u91 w' := hA9 1 (by omega) (hd'.1)
          obtain rfl : u91 = .slice (some ⟨g, 0, none⟩) k k := hp1
          have hp5 : (PrT w2.heap.size g k n lw x0 x1) 5 u95 w' := hA9 5 (by omega) (hd'.2)
          obtain rfl : u95 = .int .i64 ((k : Int) - 1) := hp5
          have hk1 : (k : Int) - 1 < (k : Int) := by omega
          have hk2 : (0 : Int) ≤ (k : Int) - 1 := by omega
          have hk3 : ((k : Int) - 1).toNat = k - 1 := by omega
          have hk5 : (1 : Int) ≤ (k : Int) := by omega
          refine wpOp_step rfl (fun K' hK' => ?_)
          go_simp
          have hI : RegInv.ILv (PrT w2.heap.size g k n lw x0 x1) 12 wr (fun j => decide (j = 6) || L9 j) [u90, (.slice (some ⟨g, 0, none⟩) k k), u92, u93, u94, (.int .i64 ((k : Int) - 1)), (.pointer (some ⟨g, k - 1, none⟩)), u97, u98, u99, u910, u911] w' := RegInv.ILv.step (Pr := (PrT w2.heap.size g k n lw x0 x1)) (n := 12) (vs := [u90, (.slice (some ⟨g, 0, none⟩) k k), u92, u93, u94, (.int .i64 ((k : Int) - 1)), u96, u97, u98, u99, u910, u911]) PrT.mono rfl hB9 hA9 6 (.pointer (some ⟨g, k - 1, none⟩)) (Below.refl _ _) (rfl)
          have hk := hK' _ _ (hK _ _ hI)
          revert hk
          go_simp
        | 7, _ =>
          have hd' : ([6] : List Nat).all L9 = true := hd9
          simp only [List.all_cons, List.all_nil, Bool.and_true, Bool.and_eq_true] at hd'
          have hp6 : (PrT w2.heap.size g k n lw x0 x1) 6 u96 w' := hA9 6 (by omega) (hd')
          obtain rfl : u96 = .pointer (some ⟨g, k - 1, none⟩) := hp6
          have z2 := cell_kept hB9 d1h.out
          refine wpOp_step rfl (fun K' hK' => ?_)
          go_simp
          have hI : RegInv.ILv (PrT w2.heap.size g k n lw x0 x1) 12 wr (fun j => decide (j = 7) || L9 j) [u90, u91, u92, u93, u94, u95, (.pointer (some ⟨g, k - 1, none⟩)), (.int .u64 x0), u98, u99, u910, u911] w' := RegInv.ILv.step (Pr := (PrT w2.heap.size g k n lw x0 x1)) (n := 12) (vs := [u90, u91, u92, u93, u94, u95, (.pointer (some ⟨g, k - 1, none⟩)), u97, u98, u99, u910, u911]) PrT.mono rfl hB9 hA9 7 (.int .u64 x0) (Below.refl _ _) (rfl)
          have hk := hK' _ _ (hK _ _ hI)
          revert hk
          go_simp
        | 8, _ =>
          refine wpOp_step rfl (fun K' hK' => ?_)
          go_simp
          have hI : RegInv.ILv (PrT w2.heap.size g k n lw x0 x1) 12 wr (fun j => decide (j = 8) || L9 j) [u90, u91, u92, u93, u94, u95, u96, u97, (.pointer (some ⟨w2.heap.size, 0, none⟩)), u99, u910, u911] w' := RegInv.ILv.step (Pr := (PrT w2.heap.size g k n lw x0 x1)) (n := 12) (vs := [u90, u91, u92, u93, u94, u95, u96, u97, u98, u99, u910, u911]) PrT.mono rfl hB9 hA9 8 (.pointer (some ⟨w2.heap.size, 0, none⟩)) (Below.refl _ _) (rfl)
          have hk := hK' _ _ (hK _ _ hI)
          revert hk
          go_simp
        | 9, _ =>
          have hd' : ([8] : List Nat).all L9 = true := hd9
          simp only [List.all_cons, List.all_nil, Bool.and_true, Bool.and_eq_true] at hd'
          have hp8 : (PrT w2.heap.size g k n lw x0 x1) 8 u98 w' := hA9 8 (by omega) (hd')
          obtain rfl : u98 = .pointer (some ⟨w2.heap.size, 0, none⟩) := hp8
          have z0 := cell_kept hB9 cc0h.out
          refine wpOp_step rfl (fun K' hK' => ?_)
          go_simp
          have hI : RegInv.ILv (PrT w2.heap.size g k n lw x0 x1) 12 wr (fun j => decide (j = 9) || L9 j) [u90, u91, u92, u93, u94, u95, u96, u97, (.pointer (some ⟨w2.heap.size, 0, none⟩)), (.int .i64 (n : Int)), u910, u911] w' := RegInv.ILv.step (Pr := (PrT w2.heap.size g k n lw x0 x1)) (n := 12) (vs := [u90, u91, u92, u93, u94, u95, u96, u97, (.pointer (some ⟨w2.heap.size, 0, none⟩)), u99, u910, u911]) PrT.mono rfl hB9 hA9 9 (.int .i64 (n : Int)) (Below.refl _ _) (rfl)
          have hk := hK' _ _ (hK _ _ hI)
          revert hk
          go_simp
        | 10, _ =>
          have hd' : ([9] : List Nat).all L9 = true := hd9
          simp only [List.all_cons, List.all_nil, Bool.and_true, Bool.and_eq_true] at hd'
          have hp9 : (PrT w2.heap.size g k n lw x0 x1) 9 u99 w' := hA9 9 (by omega) (hd')
          obtain rfl : u99 = .int .i64 (n : Int) := hp9
          refine wpOp_step rfl (fun K' hK' => ?_)
          go_simp
          refine (KL.out _).mono ?_
          rintro e w9 ⟨rfl, hw9⟩
          subst w9
          have hI : RegInv.ILv (PrT w2.heap.size g k n lw x0 x1) 12 wr (fun j => decide (j = 10) || L9 j) [u90, u91, u92, u93, u94, u95, u96, u97, u98, (.int .i64 (n : Int)), (.int .u64 lw), u911] w' := RegInv.ILv.step (Pr := (PrT w2.heap.size g k n lw x0 x1)) (n := 12) (vs := [u90, u91, u92, u93, u94, u95, u96, u97, u98, (.int .i64 (n : Int)), u910, u911]) PrT.mono rfl hB9 hA9 10 (.int .u64 lw) (Below.refl _ _) (rfl)
          have hk := hK' _ _ (hK _ _ hI)
          revert hk
          go_simp
        | 11, _ =>
          have hd' : ([7, 10] : List Nat).all L9 = true := hd9
          simp only [List.all_cons, List.all_nil, Bool.and_true, Bool.and_eq_true] at hd'
          have hp7 : (PrT w2.heap.size g k n lw x0 x1) 7 u97 w' := hA9 7 (by omega) (hd'.1)
          obtain rfl : u97 = .int .u64 x0 := hp7
          have hp10 : (PrT w2.heap.size g k n lw x0 x1) 10 u910 w' := hA9 10 (by omega) (hd'.2)
          obtain rfl : u910 = .int .u64 lw := hp10
          have hx2 := hx.out
          refine wpOp_step rfl (fun K' hK' => ?_)
          go_simp
          have hI : RegInv.ILv (PrT w2.heap.size g k n lw x0 x1) 12 wr (fun j => decide (j = 11) || L9 j) [u90, u91, u92, u93, u94, u95, u96, (.int .u64 x0), u98, u99, (.int .u64 lw), (.int .u64 x1)] w' := RegInv.ILv.step (Pr := (PrT w2.heap.size g k n lw x0 x1)) (n := 12) (vs := [u90, u91, u92, u93, u94, u95, u96, (.int .u64 x0), u98, u99, (.int .u64 lw), u911]) PrT.mono rfl hB9 hA9 11 (.int .u64 x1) (Below.refl _ _) (rfl)
          have hk := hK' _ _ (hK _ _ hI)
          revert hk
          go_simp
        | (_ + 12), h18 => exact absurd h18 (by omega)
      case s1 =>
        obtain ⟨hlen, hB9, hA0⟩ := hI
        obtain ⟨us, rfl⟩ := RegInv.list_fn hlen
        have hq0 : us 0 = .pointer (some ⟨w2.heap.size, 1, none⟩) := (hA0 0 (by omega) (by decide) : (PrT w2.heap.size g k n lw x0 x1) 0 (us 0) w')
        have hq1 : us 1 = .slice (some ⟨g, 0, none⟩) k k := (hA0 1 (by omega) (by decide) : (PrT w2.heap.size g k n lw x0 x1) 1 (us 1) w')
        have hq2 : us 2 = .pointer (some ⟨w2.heap.size, 1, none⟩) := (hA0 2 (by omega) (by decide) : (PrT w2.heap.size g k n lw x0 x1) 2 (us 2) w')
        have hq3 : us 3 = .slice (some ⟨g, 0, none⟩) k k := (hA0 3 (by omega) (by decide) : (PrT w2.heap.size g k n lw x0 x1) 3 (us 3) w')
        have hq4 : us 4 = .int .i64 (k : Int) := (hA0 4 (by omega) (by decide) : (PrT w2.heap.size g k n lw x0 x1) 4 (us 4) w')
        have hq5 : us 5 = .int .i64 ((k : Int) - 1) := (hA0 5 (by omega) (by decide) : (PrT w2.heap.size g k n lw x0 x1) 5 (us 5) w')
        have hq6 : us 6 = .pointer (some ⟨g, k - 1, none⟩) := (hA0 6 (by omega) (by decide) : (PrT w2.heap.size g k n lw x0 x1) 6 (us 6) w')
        have hq7 : us 7 = .int .u64 x0 := (hA0 7 (by omega) (by decide) : (PrT w2.heap.size g k n lw x0 x1) 7 (us 7) w')
        have hq8 : us 8 = .pointer (some ⟨w2.heap.size, 0, none⟩) := (hA0 8 (by omega) (by decide) : (PrT w2.heap.size g k n lw x0 x1) 8 (us 8) w')
        have hq9 : us 9 = .int .i64 (n : Int) := (hA0 9 (by omega) (by decide) : (PrT w2.heap.size g k n lw x0 x1) 9 (us 9) w')
        have hq10 : us 10 = .int .u64 lw := (hA0 10 (by omega) (by decide) : (PrT w2.heap.size g k n lw x0 x1) 10 (us 10) w')
        have hq11 : us 11 = .int .u64 x1 := (hA0 11 (by omega) (by decide) : (PrT w2.heap.size g k n lw x0 x1) 11 (us 11) w')
        change wpList _ _ _ _ (RegInv.putAll _ _ [us 0, us 1, us 2, us 3, us 4, us 5, us 6, us 7, us 8, us 9, us 10, us 11]) _
        rw [hq0, hq1, hq2, hq3, hq4, hq5, hq6, hq7, hq8, hq9, hq10, hq11]
        clear hlen hA0 hq0 hq1 hq2 hq3 hq4 hq5 hq6 hq7 hq8 hq9 hq10 hq11
        clear us
        have hk1 : (k : Int) - 1 < (k : Int) := by omega
        have hk2 : (0 : Int) ≤ (k : Int) - 1 := by omega
        have hk3 : ((k : Int) - 1).toNat = k - 1 := by omega
        have hk5 : (1 : Int) ≤ (k : Int) := by omega
        have f1 : w'.frozen? ⟨g, k - 1, none⟩ = false := ((bcell hB9).2 _ _ hgr).trans f1h.out
        have z0 := cell_kept hB9 cc0h.out
        have z1 := cell_kept hB9 cc1h.out
        have z2 := cell_kept hB9 d1h.out
        have r0 := cell_kept hB9 rr0h.out
        have r1 := cell_kept hB9 rr1h.out
        have s0 : w'.frozen? ⟨W.heap.size + 1, 0, none⟩ = false := ((bcell hB9).2 _ _ (by omega)).trans rf0h.out
        have s1 : w'.frozen? ⟨W.heap.size + 1, 1, none⟩ = false := ((bcell hB9).2 _ _ (by omega)).trans rf1h.out
        have FN := Lib.hid (FIN.out w' hB9)
        have hbN := Lib.hid (below_then hbW.out hB9 hbW.out.size)
        clear hB9
        go_wp2_with fail
        try simp only [Exit.inBlock, Exit.then]
        refine bodyPost_ret (v := .tuple #[.agg #[.int .i64 (n : Int), .slice (some ⟨g, 0, none⟩) k k], .int .i64 0]) ?_ rfl ⟨g, rfl, by omega, ?_, ?_⟩
        · rw [results_cell2 rfl]
          go_simp
        · exact WBlk.setOther (WBlk.setOther FN.out (by omega) _) (by omega) _
        · exact ((hbN.out.setCell (by show W.heap.size ≤ g; omega) _).setCell (by simp) _).setCell (by simp) _
end Go.Proofs.YtigghbehnnghnaaDoor
namespace Go.Proofs.YtigghbehnnghnaaDoor
open Go.RowKit Go.RowBits
set_option linter.unusedSimpArgs false
set_option linter.unusedVariables false

/-! ### life.Turned -/
theorem wrap16_mask {m : Nat} (h : m ≤ 9) : IntKind.u16.wrap (IntKind.u16.wrap ((2 : Int) ^ m) - 1) = ((2 ^ m - 1 : Nat) : Int) := by
  have e : ((2 : Int) ^ m) = ((2 ^ m : Nat) : Int) := by simp
  have h1 : (2 : Nat) ^ m ≤ 2 ^ 9 := Nat.pow_le_pow_right (by decide) h
  have h2 : 1 ≤ (2 : Nat) ^ m := Nat.one_le_two_pow
  have h3 : (2 : Nat) ^ 9 = 512 := by decide
  rw [e, IntKind.wrap_u16, IntKind.wrap_u16]
  generalize 2 ^ m = p at *
  omega
theorem wrap16_pow {m : Nat} (h : m ≤ 9) : IntKind.u16.wrap ((2 : Int) ^ m) = ((2 ^ m : Nat) : Int) := by
  have e : ((2 : Int) ^ m) = ((2 ^ m : Nat) : Int) := by simp
  have h1 : (2 : Nat) ^ m ≤ 2 ^ 9 := Nat.pow_le_pow_right (by decide) h
  have h3 : (2 : Nat) ^ 9 = 512 := by decide
  rw [e, IntKind.wrap_u16]
  generalize 2 ^ m = p at *
  omega
theorem u16_bit {x k : Nat} (hx : x < 65536) : bits .and .u16 ((x : Int) / 2 ^ k) 1 = ((x / 2 ^ k % 2 : Nat) : Int) := by
  have e3 : ((x : Int) / 2 ^ k) = ((x / 2 ^ k : Nat) : Int) := by simp
  have hle : x / 2 ^ k ≤ x := Nat.div_le_self _ _
  rw [e3, show (1 : Int) = ((1 : Nat) : Int) from rfl, u16_and_nat _ _ (by omega) (by omega), Nat.and_one_is_mod]
theorem set1 {w : World} {b : Nat} {v0 v1 v2 : Value} {u : Value} (h : w.heap[b]? = some (.cells #[v0, v1, v2] 28 (0, 0))) : (w.setCell ⟨b, 1, none⟩ u).drew.heap[b]? = some (.cells #[v0, u, v2] 28 (0, 0)) := by
  show (w.setCell ⟨b, 1, none⟩ u).heap[b]? = _
  rw [heap_setCell_same w b 1 _ 28 _ h]
  rfl
theorem set2 {w : World} {b : Nat} {v0 v1 v2 : Value} {u : Value} (h : w.heap[b]? = some (.cells #[v0, v1, v2] 28 (0, 0))) : (w.setCell ⟨b, 2, none⟩ u).drew.heap[b]? = some (.cells #[v0, v1, u] 28 (0, 0)) := by
  show (w.setCell ⟨b, 2, none⟩ u).heap[b]? = _
  rw [heap_setCell_same w b 2 _ 28 _ h]
  rfl
/-- The rule's block after k rounds. -/
def TurRel (w3 : World) (b n : Nat) (hd : Int) (born stay : Nat) (i : Value) (wr : World) : Prop := ∃ k : Nat, k ≤ n + 1 ∧ i = .int .i64 (k : Int) ∧
  wr.heap[b]? = some (.cells #[.int .u8 hd, .int .u16 ((turnK n stay k : Nat) : Int), .int .u16 ((turnK n born k : Nat) : Int)] 28 (0, 0)) ∧ w3.grownBy wr (some b)
set_option maxRecDepth 20000 in
set_option maxHeartbeats 4000000 in
theorem turned15 {W : World} {hd : Int} {born stay : Nat} (hb1 : born < 65536) (hs1 : stay < 65536) (hE : lifeE hd born stay = 0) :
    Calls Tryd.prog 15 #[.agg #[.int .u8 hd, .int .u16 (born : Int), .int .u16 (stay : Int)]] W fun e w' => e = .returned (.tuple #[.agg #[.int .u8 hd, .int .u16 ((turnW (offs hd).length stay : Nat) : Int), .int .u16 ((turnW (offs hd).length born : Nat) : Int)], .int .i64 0]) ∧ Below W.heap.size W w' := by
  have hh : hd = 1 ∨ hd = 2 ∨ hd = 3 := by
    by_cases h : hd = 1 ∨ hd = 2 ∨ hd = 3
    · exact h
    · unfold lifeE at hE
      rw [if_neg h] at hE
      exact absurd hE (by decide)
  have K1 : Hid (∀ W', Calls Tryd.prog 26 #[.agg #[.int .u8 hd, .int .u16 (born : Int), .int .u16 (stay : Int)]] W' fun e w' => e = .returned (.int .i64 0) ∧ Below W'.heap.size W' w') := fun W' => by
    have := lifeCheck (h := hd) hb1 hs1 W'
    rw [hE] at this
    exact this
  have K2 : Hid (∀ W', Calls Tryd.prog 34 #[.agg #[.int .u8 hd, .int .u16 (born : Int), .int .u16 (stay : Int)]] W' fun e w' => e = .returned (.tuple #[.int .i64 ((offs hd).length : Int), .int .i64 0]) ∧ Below W'.heap.size W' w') := fun W' => by
    have := greatest67 hd born stay W'
    rw [if_pos hh, if_pos hh] at this
    exact this
  have h8 : (offs hd).length ≤ 8 := offs_len hd
  have hW : Hid (∀ s, turnW (offs hd).length s = turnK (offs hd).length s ((offs hd).length + 1)) := fun s => rfl
  have hb1' := Lib.hid hb1
  have hs1' := Lib.hid hs1
  clear hE hh
  generalize hn : (offs hd).length = n at *
  clear hn
  obtain ⟨W2, hW2⟩ : ∃ W2, Hid (W2 = (W.alloc (.cells #[.int .u8 hd, .int .u16 (born : Int), .int .u16 (stay : Int)] 28)).alloc (.cells #[.int .u8 0, .int .u16 0, .int .u16 0] 28)) := ⟨_, rfl⟩
  have hB2 : Hid (Below W.heap.size W W2) := by rw [hW2.out]; exact (below_new _).alloc (by simp) _
  have E2 : Hid (Blks W2 [(W.heap.size + 1, #[.int .u8 0, .int .u16 0, .int .u16 0], 28), (W.heap.size, #[.int .u8 hd, .int .u16 (born : Int), .int .u16 (stay : Int)], 28)]) := by
    rw [hW2.out]
    exact ((Blks.nil W).alloc rfl _ _).alloc (by simp) _ _
  have hz2 : W.heap.size + 2 ≤ W2.heap.size := by rw [hW2.out]; simp
  go_enter Tryd.func15, Tryd.ntmps15
  go_wp2_with fail
  rw [← hW2.out]
  clear hW2
  refine (K1.out _).mono ?_
  rintro e w1 ⟨rfl, hb⟩
  have hB1 := Lib.hid (below_then hB2.out hb hB2.out.size)
  have hz1 : W.heap.size + 2 ≤ w1.heap.size := by have := hb.size; omega
  have E1 := Lib.hid (E2.out.kept hb)
  have q0 : w1.cell? ⟨W.heap.size, 0, none⟩ = some (.int .u8 hd) := E1.out.cell (cs := #[.int .u8 hd, .int .u16 (born : Int), .int .u16 (stay : Int)]) (T := 28) (by simp) rfl
  have q1 : w1.cell? ⟨W.heap.size, 1, none⟩ = some (.int .u16 (born : Int)) := E1.out.cell (cs := #[.int .u8 hd, .int .u16 (born : Int), .int .u16 (stay : Int)]) (T := 28) (by simp) rfl
  have q2 : w1.cell? ⟨W.heap.size, 2, none⟩ = some (.int .u16 (stay : Int)) := E1.out.cell (cs := #[.int .u8 hd, .int .u16 (born : Int), .int .u16 (stay : Int)]) (T := 28) (by simp) rfl
  clear hb E2 hB2
  go_wp2_with fail
  refine (K2.out _).mono ?_
  rintro e w2 ⟨rfl, hb⟩
  have hB3 := Lib.hid (below_then hB1.out hb hB1.out.size)
  have hz3 : W.heap.size + 2 ≤ w2.heap.size := by have := hb.size; omega
  have E3 := Lib.hid (E1.out.kept hb)
  clear q0 q1 q2 hb E1 hB1
  have q0 : w2.cell? ⟨W.heap.size, 0, none⟩ = some (.int .u8 hd) := E3.out.cell (cs := #[.int .u8 hd, .int .u16 (born : Int), .int .u16 (stay : Int)]) (T := 28) (by simp) rfl
  have q1 : w2.cell? ⟨W.heap.size, 1, none⟩ = some (.int .u16 (born : Int)) := E3.out.cell (cs := #[.int .u8 hd, .int .u16 (born : Int), .int .u16 (stay : Int)]) (T := 28) (by simp) rfl
  have q2 : w2.cell? ⟨W.heap.size, 2, none⟩ = some (.int .u16 (stay : Int)) := E3.out.cell (cs := #[.int .u8 hd, .int .u16 (born : Int), .int .u16 (stay : Int)]) (T := 28) (by simp) rfl
  have hm := wrap16_mask (m := n + 1) (by omega)
  have hz4 : W.heap.size < w2.heap.size := by omega
  go_wp2_with fail
  have hw1 : IntKind.i64.wrap ((n : Int) + 1) = (n : Int) + 1 := by rw [IntKind.wrap_i64]; omega
  have hw2 : (0 : Int) ≤ (n : Int) + 1 := by omega
  have hw3 : ((n : Int) + 1).toNat = n + 1 := by omega
  go_region
  obtain ⟨W4, hW4⟩ : ∃ W4, Hid (W4 = (w2.alloc (.cells #[.int .u8 hd, .int .u16 ((2 ^ (n + 1) - 1 : Nat) : Int), .int .u16 ((2 ^ (n + 1) - 1 : Nat) : Int)] 28)).drew) := ⟨_, rfl⟩
  have hb4 : Below w2.heap.size w2 W4 := by rw [hW4.out]; exact (below_new _).drew
  have hk4 : Hid (W4.heap[w2.heap.size]? = some (.cells #[.int .u8 hd, .int .u16 ((2 ^ (n + 1) - 1 : Nat) : Int), .int .u16 ((2 ^ (n + 1) - 1 : Nat) : Int)] 28 (0, 0))) := by rw [hW4.out]; exact heap_alloc_new w2 _
  have hz5 : w2.heap.size < W4.heap.size := (Array.getElem?_eq_some_iff.1 hk4.out).1
  have E4 := Lib.hid (E3.out.kept hb4)
  have hB4 := Lib.hid (below_then hB3.out hb4 hB3.out.size)
  clear q0 q1 q2 hm hw1 hw2 hw3 hb4 E3 hB3
  rw [← hW4.out]
  clear hW4
  go_wp2_with fail
  go_loopw [33] (fun i wr => TurRel W4 w2.heap.size n hd born stay i wr) (fun i _ => n + 1 - (intOf i).toNat)
  case atStart => exact ⟨0, by omega, by go_num, hk4.out, grown_refl _ _⟩
  case round =>
    obtain ⟨k, hk, rfl, hC, hG⟩ := hrel
    have hG' := Lib.hid hG
    have hzr : w2.heap.size < wr.heap.size := by have := hG.size; omega
    have hP : wr.heap[W.heap.size]? = some (.cells #[.int .u8 hd, .int .u16 (born : Int), .int .u16 (stay : Int)] 28 (0, 0)) := (hG.block _ (by omega) (fun e => by injection e with e; omega)).trans (E4.out (W.heap.size, _, _) (by simp))
    have q0 : wr.cell? ⟨W.heap.size, 0, none⟩ = some (.int .u8 hd) := by rw [cell_of_row wr _ 0 _ 28 (0, 0) hP]; rfl
    have q1 : wr.cell? ⟨W.heap.size, 1, none⟩ = some (.int .u16 (born : Int)) := by rw [cell_of_row wr _ 1 _ 28 (0, 0) hP]; rfl
    have q2 : wr.cell? ⟨W.heap.size, 2, none⟩ = some (.int .u16 (stay : Int)) := by rw [cell_of_row wr _ 2 _ 28 (0, 0) hP]; rfl
    have d0 : wr.cell? ⟨w2.heap.size, 0, none⟩ = some (.int .u8 hd) := by rw [cell_of_row wr _ 0 _ 28 (0, 0) hC]; rfl
    have d1 : wr.cell? ⟨w2.heap.size, 1, none⟩ = some (.int .u16 ((turnK n stay k : Nat) : Int)) := by rw [cell_of_row wr _ 1 _ 28 (0, 0) hC]; rfl
    have d2 : wr.cell? ⟨w2.heap.size, 2, none⟩ = some (.int .u16 ((turnK n born k : Nat) : Int)) := by rw [cell_of_row wr _ 2 _ 28 (0, 0) hC]; rfl
    have f0 : wr.frozen? ⟨w2.heap.size, 0, none⟩ = false := frozen_of_row wr _ 0 _ 28 hC
    have f1 : wr.frozen? ⟨w2.heap.size, 1, none⟩ = false := frozen_of_row wr _ 1 _ 28 hC
    have f2 : wr.frozen? ⟨w2.heap.size, 2, none⟩ = false := frozen_of_row wr _ 2 _ 28 hC
    have hC' := Lib.hid hC
    clear hG hP hC
    by_cases hlt : k < n + 1
    · have hkn : k ≤ n := by omega
      have us := u16_bit (k := k) hs1'.out
      have ub := u16_bit (k := k) hb1'.out
      have hs01 : stay / 2 ^ k % 2 = 0 ∨ stay / 2 ^ k % 2 = 1 := by omega
      have hb01 : born / 2 ^ k % 2 = 0 ∨ born / 2 ^ k % 2 = 1 := by omega
      have hpw := wrap16_pow (m := n - k) (by omega)
      have h2p : 2 ^ (n - k) < 65536 := by
        have : (2 : Nat) ^ (n - k) ≤ 2 ^ 8 := Nat.pow_le_pow_right (by decide) (by omega)
        have e : (2 : Nat) ^ 8 = 256 := by decide
        omega
      have uA := u16_andNot_nat (turnK n stay k) (2 ^ (n - k)) (turnK_lt h8 k) h2p
      have uB := u16_andNot_nat (turnK n born k) (2 ^ (n - k)) (turnK_lt h8 k) h2p
      have yA : ∀ s, s / 2 ^ k % 2 = 1 → turnK n s (k + 1) = turnK n s k &&& (65535 - 2 ^ (n - k)) := fun s h => by
        show (if s / 2 ^ k % 2 = 1 then _ else _) = _
        rw [if_pos h]
      have nA : ∀ s, s / 2 ^ k % 2 = 0 → turnK n s (k + 1) = turnK n s k := fun s h => by
        show (if s / 2 ^ k % 2 = 1 then _ else _) = _
        rw [if_neg (by omega)]
      have yAs := Lib.hid (yA stay)
      have yAb := Lib.hid (yA born)
      have nAs := Lib.hid (nA stay)
      have nAb := Lib.hid (nA born)
      have R : Hid (∀ (w' : World) (x y : Nat), turnK n stay (k + 1) = x → turnK n born (k + 1) = y → w'.heap[w2.heap.size]? = some (.cells #[.int .u8 hd, .int .u16 (x : Int), .int .u16 (y : Int)] 28 (0, 0)) → wr.grownBy w' (some w2.heap.size) → TurRel W4 w2.heap.size n hd born stay (.int .i64 ((k : Int) + 1)) w') := fun w' x y e1 e2 h3 h4 => by
        subst e1 e2
        exact ⟨k + 1, by omega, by go_num, h3, hG'.out.trans h4⟩
      have hw1 : IntKind.i64.wrap ((n : Int) - (k : Int)) = (n : Int) - (k : Int) := by rw [IntKind.wrap_i64]; omega
      have hw2 : (0 : Int) ≤ (n : Int) - (k : Int) := by omega
      have hw3 : ((n : Int) - (k : Int)).toNat = n - k := by omega
      have hki : (k : Int) < (n : Int) + 1 := by omega
      rw [← hpw] at uA uB
      clear hpw h2p yA nA
      generalize turnK n stay (k + 1) = x1 at *
      generalize turnK n born (k + 1) = y1 at *
      generalize turnK n stay k &&& (65535 - 2 ^ (n - k)) = x2 at *
      generalize turnK n born k &&& (65535 - 2 ^ (n - k)) = y2 at *
      generalize turnK n stay k = x0 at *
      generalize turnK n born k = y0 at *
      rcases hs01 with hs01 | hs01 <;> rcases hb01 with hb01 | hb01
      · rw [hs01] at us
        rw [hb01] at ub
        go_wp2_with fail
        exact ⟨R.out wr x0 y0 (nAs.out hs01) (nAb.out hb01) hC'.out (grown_refl _ _), by simp [intOf]; omega⟩
      · rw [hs01] at us
        rw [hb01] at ub
        go_wp2_with fail
        go_region
        go_wp2_with fail
        exact ⟨R.out _ x0 y2 (nAs.out hs01) (yAb.out hb01) (set2 hC'.out) (grown_drew (grown_set (grown_refl _ _) _)), by simp [intOf]; omega⟩
      · rw [hs01] at us
        rw [hb01] at ub
        go_wp2_with fail
        go_region
        go_wp2_with fail
        exact ⟨R.out _ x2 y0 (yAs.out hs01) (nAb.out hb01) (set1 hC'.out) (grown_drew (grown_set (grown_refl _ _) _)), by simp [intOf]; omega⟩
      · rw [hs01] at us
        rw [hb01] at ub
        go_wp2_with fail
        go_region
        go_wp2_with fail
        go_region
        go_wp2_with fail
        exact ⟨R.out _ x2 y2 (yAs.out hs01) (yAb.out hb01) (set2 (w := (wr.setCell ⟨w2.heap.size, 1, none⟩ (.int .u16 (x2 : Int))).drew) (set1 hC'.out)) (grown_drew (grown_set (grown_drew (grown_set (grown_refl _ _) _)) _)), by simp [intOf]; omega⟩
    · obtain rfl : k = n + 1 := by omega
      have hr1 : wr.heap[W.heap.size + 1]? = some (.cells #[.int .u8 0, .int .u16 0, .int .u16 0] 28 (0, 0)) := (hG'.out.block _ (by omega) (fun e => by injection e with e; omega)).trans (E4.out (W.heap.size + 1, _, _) (by simp))
      have r0 : wr.cell? ⟨W.heap.size + 1, 0, none⟩ = some (.int .u8 0) := by rw [cell_of_row wr _ 0 _ 28 (0, 0) hr1]; rfl
      have r1 : wr.cell? ⟨W.heap.size + 1, 1, none⟩ = some (.int .u16 0) := by rw [cell_of_row wr _ 1 _ 28 (0, 0) hr1]; rfl
      have r2 : wr.cell? ⟨W.heap.size + 1, 2, none⟩ = some (.int .u16 0) := by rw [cell_of_row wr _ 2 _ 28 (0, 0) hr1]; rfl
      have s0 : wr.frozen? ⟨W.heap.size + 1, 0, none⟩ = false := frozen_of_row wr _ 0 _ 28 hr1
      have s1 : wr.frozen? ⟨W.heap.size + 1, 1, none⟩ = false := frozen_of_row wr _ 1 _ 28 hr1
      have s2 : wr.frozen? ⟨W.heap.size + 1, 2, none⟩ = false := frozen_of_row wr _ 2 _ 28 hr1
      have hbW : Hid (Below W.heap.size W wr) := hB4.out.grown hG'.out hB4.out.size (fun q e => by injection e with e; omega)
      clear hr1
      have hA := Lib.hid (hW.out stay)
      have hB := Lib.hid (hW.out born)
      generalize turnK n stay (n + 1) = x0 at *
      generalize turnK n born (n + 1) = y0 at *
      go_wp2_with fail
      try simp only [Exit.inBlock, Exit.then]
      refine bodyPost_ret (v := .tuple #[.agg #[.int .u8 hd, .int .u16 (x0 : Int), .int .u16 (y0 : Int)], .int .i64 0]) ?_ rfl ⟨by rw [hA.out, hB.out], ?_⟩
      · rw [results_cell2 rfl]
        go_simp
      · exact ((hbW.out.setCell (by simp) _).setCell (by simp) _).setCell (by simp) _
end Go.Proofs.YtigghbehnnghnaaDoor
namespace Go.Proofs.YtigghbehnnghnaaDoor
open Go.RowKit Go.RowBits Go.Shelf
set_option linter.unusedSimpArgs false
set_option linter.unusedVariables false

/-! ### PackedTurned's walk -/
/-- What a good Line says of its rows. -/
theorem lineE_good {hd : Int} {born stay : Nat} {N0 N1 N2 : Int} {a h b : List Nat} (hE : lineE hd born stay N0 N1 N2 a h b = 0) :
    lifeE hd born stay = 0 ∧ ∃ n : Nat, 3 ≤ n ∧ n ≤ 65538 ∧ N0 = (n : Int) ∧ N1 = (n : Int) ∧ N2 = (n : Int) ∧ RowGood n a ∧ RowGood n h ∧ RowGood n b := by
  unfold lineE at hE
  by_cases h1 : lifeE hd born stay = 0
  · rw [if_pos h1] at hE
    by_cases h2 : rowsOk N0 N1 N2 a h b
    · rw [if_pos h2] at hE
      by_cases h3 : N0 = N1 ∧ N2 = N1
      · obtain ⟨⟨⟨p1, p2, p3⟩, p4⟩, ⟨⟨q1, q2, q3⟩, q4⟩, ⟨⟨r1, r2, r3⟩, r4⟩⟩ := h2
        obtain ⟨e1, e2⟩ := h3
        rw [e1] at p3
        rw [e2] at r3
        exact ⟨h1, N1.toNat, by omega, by omega, by omega, by omega, by omega, p3, q3, r3⟩
      · rw [if_neg h3] at hE
        exact absurd hE (by decide)
    · rw [if_neg h2] at hE
      exact absurd hE (by decide)
  · rw [if_neg h1] at hE
    exact absurd hE (by decide)
theorem lineE_of {hd : Int} {born stay n : Nat} {a h b : List Nat} (h1 : lifeE hd born stay = 0) (h3 : 3 ≤ n) (hn : n ≤ 65538) (ga : RowGood n a) (gh : RowGood n h) (gb : RowGood n b) :
    lineE hd born stay (n : Int) (n : Int) (n : Int) a h b = 0 := by
  unfold lineE
  rw [if_pos h1, if_pos, if_pos ⟨rfl, rfl⟩]
  have k0 : (0 : Int) ≤ (n : Int) := by omega
  have k1 : (n : Int) ≤ 65538 := by omega
  have k3 : (3 : Int) ≤ (n : Int) := by omega
  exact ⟨⟨⟨k0, k1, by rw [Int.toNat_natCast]; exact ga⟩, k3⟩, ⟨⟨k0, k1, by rw [Int.toNat_natCast]; exact gh⟩, k3⟩, ⟨⟨k0, k1, by rw [Int.toNat_natCast]; exact gb⟩, k3⟩⟩
theorem lifeE_turned {hd : Int} {born stay : Nat} (h1 : lifeE hd born stay = 0) : lifeE hd (turnW (offs hd).length stay) (turnW (offs hd).length born) = 0 := by
  obtain ⟨hh, _⟩ := lifeE_good h1
  unfold lifeE
  rw [if_pos hh, if_pos turned_ok]
theorem lineB_len (L : List (Int × Int)) (born stay : Nat) (a h b : List Nat) (m : Nat) : (lineB L born stay a h b m).length = m := by
  unfold lineB
  rw [List.length_map, List.length_range]
/-- The row behind rows turned, turned, is the row. -/
theorem turned_back {hd : Int} {born stay n : Nat} {a h b : List Nat} (h1 : lifeE hd born stay = 0) {i : Nat} (hi : i < n - 2) :
    bitw (notB (n - 2) (pack (lineB (offs hd) (turnW (offs hd).length stay) (turnW (offs hd).length born) (notB n a) (notB n h) (notB n b) (n - 2)))) i = bitw (pack (lineB (offs hd) born stay a h b (n - 2))) i := by
  obtain ⟨hh, _⟩ := lifeE_good h1
  rw [notB_bit _ hi, line_not (a := a) (h := h) (b := b) (fun p hp => notB_bit a hp) (fun p hp => notB_bit h hp) (fun p hp => notB_bit b hp) (fun k hk => ⟨(offs_near hh k hk).1, (offs_near hh k hk).2.1⟩) (offs_len hd)]
  rw [pack_bit _ (by rw [List.length_map, lineB_len]; exact hi), pack_bit _ (by rw [lineB_len]; exact hi)]
  have hl : i < (lineB (offs hd) born stay a h b (n - 2)).length := by rw [lineB_len]; exact hi
  simp [List.getD, hl]
theorem row_cells {w : World} {b : Nat} {N : Int} {v : Value} {l : List (Nat × Array Value × Nat)} (h : Blks w l) (hm : (b, #[.int .i64 N, v], 33) ∈ l) :
    w.cell? ⟨b, 0, none⟩ = some (.int .i64 N) ∧ w.cell? ⟨b, 1, none⟩ = some v := ⟨h.cell hm rfl, h.cell hm rfl⟩
theorem life_cells' {w : World} {b : Nat} {hd : Int} {born stay : Nat} {l : List (Nat × Array Value × Nat)} (h : Blks w l) (hm : (b, #[.int .u8 hd, .int .u16 (born : Int), .int .u16 (stay : Int)], 28) ∈ l) :
    w.cell? ⟨b, 0, none⟩ = some (.int .u8 hd) ∧ w.cell? ⟨b, 1, none⟩ = some (.int .u16 (born : Int)) ∧ w.cell? ⟨b, 2, none⟩ = some (.int .u16 (stay : Int)) := ⟨h.cell hm rfl, h.cell hm rfl, h.cell hm rfl⟩
/-- The good answer of Line. -/
theorem line8_good {w w' : World} {hd : Int} {born stay n : Nat} {a h b : List Nat} {e : Ending} (hE : lineE hd born stay (n : Int) (n : Int) (n : Int) a h b = 0) (h3 : 3 ≤ n) (hq : LineIs w w' hd born stay (n : Int) (n : Int) (n : Int) a h b e) :
    ∃ g, e = .returned (.tuple #[.agg #[.int .i64 ((n - 2 : Nat) : Int), .slice (some ⟨g, 0, none⟩) ((n - 2 + 63) / 64) ((n - 2 + 63) / 64)], .int .i64 0]) ∧ w.heap.size ≤ g ∧ WBlk w' g (pack (lineB (offs hd) born stay a h b (n - 2))) ∧ Below w.heap.size w w' := by
  unfold LineIs at hq
  rw [if_pos hE] at hq
  have e2 : ((n : Int) - 2) = ((n - 2 : Nat) : Int) := by omega
  rw [e2, Int.toNat_natCast] at hq
  have hl := (pack_good (lineB (offs hd) born stay a h b (n - 2))).len
  rw [lineB_len] at hl
  rw [hl] at hq
  exact hq
def PrB (g16 g4 L m x : Nat) (bx : Bool) : Nat → Value → World → Prop
  | 0, v, _ => v = .agg #[.int .i64 (m : Int), .slice (some ⟨g16, 0, none⟩) L L]
  | 1, v, _ => v = .int .i64 (x : Int)
  | 2, v, _ => v = .bool bx
  | 3, v, _ => v = .agg #[.int .i64 (m : Int), .slice (some ⟨g4, 0, none⟩) L L]
  | 4, v, _ => v = .int .i64 (x : Int)
  | 5, v, _ => v = .bool bx
  | _, _, _ => True
theorem PrB.mono {g16 g4 L m x : Nat} {bx : Bool} : ∀ i v w1 w2, PrB g16 g4 L m x bx i v w1 → Below w1.heap.size w1 w2 → PrB g16 g4 L m x bx i v w2 := fun i v w1 w2 hp hb => by
  match i, hp with
  | 0, hp => exact hp
  | 1, hp => exact hp
  | 2, hp => exact hp
  | 3, hp => exact hp
  | 4, hp => exact hp
  | 5, hp => exact hp
  | _ + 6, _ => trivial
attribute [local go_sem] RegInv.putAll
def BackRel (w6 : World) (m : Nat) (i : Value) (wr : World) : Prop := ∃ x : Nat, x ≤ m ∧ i = .int .i64 (x : Int) ∧ Below w6.heap.size w6 wr
set_option maxRecDepth 100000 in
set_option maxHeartbeats 8000000 in
theorem turned6 (W : World) (hT : Tab W) {hd : Int} {born stay : Nat} (hb1 : born < 65536) (hs1 : stay < 65536) {N0 N1 N2 : Int} {v0 v1 v2 : Value} {a h b : List Nat} (A : HasW W v0 a) (H : HasW W v1 h) (B : HasW W v2 b) (a6 : W64 a) (h6 : W64 h) (b6 : W64 b) :
    Calls Tryd.prog 6 #[lifeV hd born stay, .agg #[.int .i64 N0, v0], .agg #[.int .i64 N1, v1], .agg #[.int .i64 N2, v2]] W fun e w' => e = .returned (.bool true) ∧ Below W.heap.size W w' := by
  obtain ⟨W2, hW2⟩ : ∃ W2, Hid (W2 = (((W.alloc (.cells #[.int .u8 hd, .int .u16 (born : Int), .int .u16 (stay : Int)] 28)).alloc (.cells #[.int .i64 N0, v0] 33)).alloc (.cells #[.int .i64 N1, v1] 33)).alloc (.cells #[.int .i64 N2, v2] 33)) := ⟨_, rfl⟩
  have hB2 : Hid (Below W.heap.size W W2) := by rw [hW2.out]; exact (((below_new _).alloc (by simp) _).alloc (by simp; omega) _).alloc (by simp; omega) _
  have E2 : Hid (Blks W2 [(W.heap.size + 1 + 1 + 1, #[.int .i64 N2, v2], 33), (W.heap.size + 1 + 1, #[.int .i64 N1, v1], 33), (W.heap.size + 1, #[.int .i64 N0, v0], 33), (W.heap.size, #[.int .u8 hd, .int .u16 (born : Int), .int .u16 (stay : Int)], 28)]) := by
    rw [hW2.out]
    exact ((((Blks.nil W).alloc rfl _ _).alloc (by simp) _ _).alloc (by simp) _ _).alloc (by simp) _ _
  have K1 := Lib.hid (alive10 W2 (hT.kept hB2.out))
  have KL : Hid (∀ W', HasW W' v0 a → HasW W' v1 h → HasW W' v2 b → Calls Tryd.prog 8 #[lifeV hd born stay, .agg #[.int .i64 N0, v0], .agg #[.int .i64 N1, v1], .agg #[.int .i64 N2, v2]] W' fun e w' => LineIs W' w' hd born stay N0 N1 N2 a h b e) := fun W' h0 h1 h2 =>
    pline14 (w := W') (hood := hd) hb1 hs1 (fn3 N0 N1 N2) (fn3 v0 v1 v2) (fn3 a h b)
      (fun j hj => by
        match j, hj with
        | 0, _ => exact h0
        | 1, _ => exact h1
        | 2, _ => exact h2)
      (fun j hj => by
        match j, hj with
        | 0, _ => exact a6
        | 1, _ => exact h6
        | 2, _ => exact b6)
  have A' := Lib.hid A
  have H' := Lib.hid H
  have B' := Lib.hid B
  have hb1' := Lib.hid hb1
  have hs1' := Lib.hid hs1
  have hv : (∃ x y z, v0 = .slice x y z) ∧ (∃ x y z, v1 = .slice x y z) ∧ (∃ x y z, v2 = .slice x y z) := by
    obtain ⟨x0, z0, e0, _⟩ := A
    obtain ⟨x1, z1, e1, _⟩ := H
    obtain ⟨x2, z2, e2, _⟩ := B
    exact ⟨⟨_, _, _, e0⟩, ⟨_, _, _, e1⟩, ⟨_, _, _, e2⟩⟩
  obtain ⟨⟨x0, y0, z0, rfl⟩, ⟨x1, y1, z1, rfl⟩, ⟨x2, y2, z2, rfl⟩⟩ := hv
  clear hT A H B a6 h6 b6 hb1 hs1
  go_enter Tryd.func6, Tryd.ntmps6
  go_wp2_with fail
  rw [← hW2.out]
  clear hW2
  refine (K1.out).mono ?_
  rintro e w3 ⟨rfl, hb⟩
  have hB3 := Lib.hid (below_then hB2.out hb hB2.out.size)
  have E3 := Lib.hid (E2.out.kept hb)
  have hz3 : W.heap.size + 1 + 1 + 1 < w3.heap.size := E3.out.lt (x := (W.heap.size + 1 + 1 + 1, #[.int .i64 N2, .slice x2 y2 z2], 33)) (by simp)
  clear hb E2 hB2 K1
  obtain ⟨l0, l1, l2⟩ := life_cells' (hd := hd) (born := born) (stay := stay) E3.out (b := W.heap.size) (by simp)
  obtain ⟨p0, p1⟩ := row_cells (N := N0) (v := .slice x0 y0 z0) E3.out (b := W.heap.size + 1) (by simp)
  obtain ⟨q0, q1⟩ := row_cells (N := N1) (v := .slice x1 y1 z1) E3.out (b := W.heap.size + 1 + 1) (by simp)
  obtain ⟨r0, r1⟩ := row_cells (N := N2) (v := .slice x2 y2 z2) E3.out (b := W.heap.size + 1 + 1 + 1) (by simp)
  go_wp2_with fail
  refine (KL.out _ (A'.out.kept hB3.out) (H'.out.kept hB3.out) (B'.out.kept hB3.out)).mono ?_
  rintro e w4 hq
  clear l0 l1 l2 p0 p1 q0 q1 r0 r1
  by_cases hE : lineE hd born stay N0 N1 N2 a h b = 0
  · obtain ⟨hl, n, hn3, hn, rfl, rfl, rfl, ga, gh, gb⟩ := lineE_good hE
    obtain ⟨m, hm⟩ : ∃ m, m = n - 2 := ⟨_, rfl⟩
    have hm2 : (n : Int) - 2 = (m : Int) := by omega
    have hmh := Lib.hid hm
    have hm2h := Lib.hid hm2
    obtain ⟨g4, rfl, hg4, hW4, hb⟩ := line8_good hE hn3 hq
    rw [← hm] at hW4 ⊢
    obtain ⟨R, hR⟩ : ∃ R, Hid (R = pack (lineB (offs hd) born stay a h b m)) := ⟨_, rfl⟩
    have hRg : Hid (RowGood m R) := by
      have := pack_good (lineB (offs hd) born stay a h b m)
      rw [lineB_len, ← hR.out] at this
      exact this
    rw [← hR.out] at hW4
    have KT : Hid (∀ W', _) := Lib.hid fun W' => turned15 (W := W') hb1'.out hs1'.out hl
    have hlT := lifeE_turned hl
    have hET := Lib.hid (lineE_of hlT hn3 hn (notB_good n a) (notB_good n h) (notB_good n b))
    have hbk : Hid (∀ i, i < m → bitw (notB m (pack (lineB (offs hd) (turnW (offs hd).length stay) (turnW (offs hd).length born) (notB n a) (notB n h) (notB n b) m))) i = bitw R i) := fun i hi => by
      rw [hR.out, hm]
      rw [hm] at hi
      exact turned_back hl hi
    have hT1 : turnW (offs hd).length stay < 65536 := turnW_lt (offs_len hd)
    have hT2 : turnW (offs hd).length born < 65536 := turnW_lt (offs_len hd)
    have hT1h := Lib.hid hT1
    have hT2h := Lib.hid hT2
    have hm3 : 0 < m := by omega
    have hm4 : m ≤ 65538 := by omega
    have la := Lib.hid ga.len
    have lh := Lib.hid gh.len
    have lb := Lib.hid gb.len
    have gah := Lib.hid ga
    have ghh := Lib.hid gh
    have gbh := Lib.hid gb
    clear hE hq hl hlT hT1 hT2 ga gh gb hm
    obtain ⟨L, hL⟩ : ∃ L, Hid (L = (m + 63) / 64) := ⟨_, rfl⟩
    rw [← hL.out]
    have hB4 := Lib.hid (below_then hB3.out hb hB3.out.size)
    have E4 := Lib.hid (E3.out.kept hb)
    have hz4 : W.heap.size + 1 + 1 + 1 < w4.heap.size := by have := hb.size; omega
    have hW4h := Lib.hid hW4
    have hgl4 : g4 < w4.heap.size := hW4.lt
    clear hb hW4
    have Fg4_w4 := hW4h
    obtain ⟨w5, hw5⟩ : ∃ w5, Hid (w5 = w4.alloc (.cells #[.int .i64 (m : Int), .slice (some ⟨g4, 0, none⟩) L L] 33)) := ⟨_, rfl⟩
    have hbw5 : Below w4.heap.size w4 w5 := by rw [hw5.out]; exact below_new _
    have hB5 := Lib.hid (below_then hB4.out hbw5 hB4.out.size)
    have E5 : Hid (Blks w5 [(w4.heap.size, #[.int .i64 (m : Int), .slice (some ⟨g4, 0, none⟩) L L], 33), (W.heap.size + 1 + 1 + 1, #[.int .i64 (n : Int), .slice x2 y2 z2], 33), (W.heap.size + 1 + 1, #[.int .i64 (n : Int), .slice x1 y1 z1], 33), (W.heap.size + 1, #[.int .i64 (n : Int), .slice x0 y0 z0], 33), (W.heap.size, #[.int .u8 hd, .int .u16 (born : Int), .int .u16 (stay : Int)], 28)]) := by rw [hw5.out]; exact E4.out.alloc rfl _ _
    have Fg4_w5 := Lib.hid (Fg4_w4.out.kept hbw5)
    have hz5 : w4.heap.size < w5.heap.size := by rw [hw5.out]; simp
    clear hbw5
    obtain ⟨l0, l1, l2⟩ := life_cells' (hd := hd) (born := born) (stay := stay) E4.out (b := W.heap.size) (by simp)
    have lL : W.heap.size < w4.heap.size := by omega
    go_wp2_with fail
    rw [← hw5.out]
    clear hw5 l0 l1 l2 lL
    refine (KT.out _).mono ?_
    rintro e w6 ⟨rfl, hb⟩
    have hB6 := Lib.hid (below_then hB5.out hb hB5.out.size)
    have E6 := Lib.hid (E5.out.kept hb)
    have hz6 : w5.heap.size ≤ w6.heap.size := hb.size
    have Fg4_w6 := Lib.hid (Fg4_w5.out.kept hb)
    clear hb
    generalize hTs : turnW (offs hd).length stay = Ts at *
    generalize hTb : turnW (offs hd).length born = Tb at *
    obtain ⟨w7, hw7⟩ : ∃ w7, Hid (w7 = w6.alloc (.cells #[.int .u8 hd, .int .u16 (Ts : Int), .int .u16 (Tb : Int)] 28)) := ⟨_, rfl⟩
    have hbw7 : Below w6.heap.size w6 w7 := by rw [hw7.out]; exact below_new _
    have hB7 := Lib.hid (below_then hB6.out hbw7 hB6.out.size)
    have E7 : Hid (Blks w7 [(w6.heap.size, #[.int .u8 hd, .int .u16 (Ts : Int), .int .u16 (Tb : Int)], 28), (w4.heap.size, #[.int .i64 (m : Int), .slice (some ⟨g4, 0, none⟩) L L], 33), (W.heap.size + 1 + 1 + 1, #[.int .i64 (n : Int), .slice x2 y2 z2], 33), (W.heap.size + 1 + 1, #[.int .i64 (n : Int), .slice x1 y1 z1], 33), (W.heap.size + 1, #[.int .i64 (n : Int), .slice x0 y0 z0], 33), (W.heap.size, #[.int .u8 hd, .int .u16 (born : Int), .int .u16 (stay : Int)], 28)]) := by rw [hw7.out]; exact E6.out.alloc rfl _ _
    have Fg4_w7 := Lib.hid (Fg4_w6.out.kept hbw7)
    have hz7 : w6.heap.size < w7.heap.size := by rw [hw7.out]; simp
    clear hbw7
    have pL : W.heap.size + 1 < w6.heap.size := E6.out.lt (x := (W.heap.size + 1, #[.int .i64 ((n : Int)), .slice x0 y0 z0], 33)) (by simp)
    obtain ⟨p0, p1⟩ := row_cells (N := (n : Int)) (v := .slice x0 y0 z0) E6.out (b := W.heap.size + 1) (by simp)
    have KN := Lib.hid (not16 (W := w7) (n := n) hn (by omega) gah.out (A'.out.kept hB7.out))
    rw [la.out] at KN
    generalize hLn : (n + 63) / 64 = Ln at *
    go_wp2_with fail
    rw [← hw7.out]
    clear hw7 p0 p1 pL
    refine (KN.out).mono ?_
    rintro e w8 ⟨g8, rfl, hgg, hWW, hb⟩
    have hB8 := Lib.hid (below_then hB7.out hb hB7.out.size)
    have E8 := Lib.hid (E7.out.kept hb)
    have hz8 : w7.heap.size ≤ w8.heap.size := hb.size
    have Fg4_w8 := Lib.hid (Fg4_w7.out.kept hb)
    have Fg8_w8 := Lib.hid hWW
    have hglg8 : g8 < w8.heap.size := hWW.lt
    clear hb hWW hgg KN
    obtain ⟨w9, hw9⟩ : ∃ w9, Hid (w9 = w8.alloc (.cells #[.int .i64 (n : Int), .slice (some ⟨g8, 0, none⟩) Ln Ln] 33)) := ⟨_, rfl⟩
    have hbw9 : Below w8.heap.size w8 w9 := by rw [hw9.out]; exact below_new _
    have hB9 := Lib.hid (below_then hB8.out hbw9 hB8.out.size)
    have E9 : Hid (Blks w9 [(w8.heap.size, #[.int .i64 (n : Int), .slice (some ⟨g8, 0, none⟩) Ln Ln], 33), (w6.heap.size, #[.int .u8 hd, .int .u16 (Ts : Int), .int .u16 (Tb : Int)], 28), (w4.heap.size, #[.int .i64 (m : Int), .slice (some ⟨g4, 0, none⟩) L L], 33), (W.heap.size + 1 + 1 + 1, #[.int .i64 (n : Int), .slice x2 y2 z2], 33), (W.heap.size + 1 + 1, #[.int .i64 (n : Int), .slice x1 y1 z1], 33), (W.heap.size + 1, #[.int .i64 (n : Int), .slice x0 y0 z0], 33), (W.heap.size, #[.int .u8 hd, .int .u16 (born : Int), .int .u16 (stay : Int)], 28)]) := by rw [hw9.out]; exact E8.out.alloc rfl _ _
    have Fg4_w9 := Lib.hid (Fg4_w8.out.kept hbw9)
    have Fg8_w9 := Lib.hid (Fg8_w8.out.kept hbw9)
    have hz9 : w8.heap.size < w9.heap.size := by rw [hw9.out]; simp
    clear hbw9
    have pL : W.heap.size + 1 + 1 < w8.heap.size := E8.out.lt (x := (W.heap.size + 1 + 1, #[.int .i64 ((n : Int)), .slice x1 y1 z1], 33)) (by simp)
    obtain ⟨p0, p1⟩ := row_cells (N := (n : Int)) (v := .slice x1 y1 z1) E8.out (b := W.heap.size + 1 + 1) (by simp)
    have KN := Lib.hid (not16 (W := w9) (n := n) hn (by omega) ghh.out (H'.out.kept hB9.out))
    rw [lh.out] at KN
    go_wp2_with fail
    rw [← hw9.out]
    clear hw9 p0 p1 pL
    refine (KN.out).mono ?_
    rintro e w10 ⟨g10, rfl, hgg, hWW, hb⟩
    have hB10 := Lib.hid (below_then hB9.out hb hB9.out.size)
    have E10 := Lib.hid (E9.out.kept hb)
    have hz10 : w9.heap.size ≤ w10.heap.size := hb.size
    have Fg4_w10 := Lib.hid (Fg4_w9.out.kept hb)
    have Fg8_w10 := Lib.hid (Fg8_w9.out.kept hb)
    have Fg10_w10 := Lib.hid hWW
    have hglg10 : g10 < w10.heap.size := hWW.lt
    clear hb hWW hgg KN
    obtain ⟨w11, hw11⟩ : ∃ w11, Hid (w11 = w10.alloc (.cells #[.int .i64 (n : Int), .slice (some ⟨g10, 0, none⟩) Ln Ln] 33)) := ⟨_, rfl⟩
    have hbw11 : Below w10.heap.size w10 w11 := by rw [hw11.out]; exact below_new _
    have hB11 := Lib.hid (below_then hB10.out hbw11 hB10.out.size)
    have E11 : Hid (Blks w11 [(w10.heap.size, #[.int .i64 (n : Int), .slice (some ⟨g10, 0, none⟩) Ln Ln], 33), (w8.heap.size, #[.int .i64 (n : Int), .slice (some ⟨g8, 0, none⟩) Ln Ln], 33), (w6.heap.size, #[.int .u8 hd, .int .u16 (Ts : Int), .int .u16 (Tb : Int)], 28), (w4.heap.size, #[.int .i64 (m : Int), .slice (some ⟨g4, 0, none⟩) L L], 33), (W.heap.size + 1 + 1 + 1, #[.int .i64 (n : Int), .slice x2 y2 z2], 33), (W.heap.size + 1 + 1, #[.int .i64 (n : Int), .slice x1 y1 z1], 33), (W.heap.size + 1, #[.int .i64 (n : Int), .slice x0 y0 z0], 33), (W.heap.size, #[.int .u8 hd, .int .u16 (born : Int), .int .u16 (stay : Int)], 28)]) := by rw [hw11.out]; exact E10.out.alloc rfl _ _
    have Fg4_w11 := Lib.hid (Fg4_w10.out.kept hbw11)
    have Fg8_w11 := Lib.hid (Fg8_w10.out.kept hbw11)
    have Fg10_w11 := Lib.hid (Fg10_w10.out.kept hbw11)
    have hz11 : w10.heap.size < w11.heap.size := by rw [hw11.out]; simp
    clear hbw11
    have pL : W.heap.size + 1 + 1 + 1 < w10.heap.size := E10.out.lt (x := (W.heap.size + 1 + 1 + 1, #[.int .i64 ((n : Int)), .slice x2 y2 z2], 33)) (by simp)
    obtain ⟨p0, p1⟩ := row_cells (N := (n : Int)) (v := .slice x2 y2 z2) E10.out (b := W.heap.size + 1 + 1 + 1) (by simp)
    have KN := Lib.hid (not16 (W := w11) (n := n) hn (by omega) gbh.out (B'.out.kept hB11.out))
    rw [lb.out] at KN
    go_wp2_with fail
    rw [← hw11.out]
    clear hw11 p0 p1 pL
    refine (KN.out).mono ?_
    rintro e w12 ⟨g12, rfl, hgg, hWW, hb⟩
    have hB12 := Lib.hid (below_then hB11.out hb hB11.out.size)
    have E12 := Lib.hid (E11.out.kept hb)
    have hz12 : w11.heap.size ≤ w12.heap.size := hb.size
    have Fg4_w12 := Lib.hid (Fg4_w11.out.kept hb)
    have Fg8_w12 := Lib.hid (Fg8_w11.out.kept hb)
    have Fg10_w12 := Lib.hid (Fg10_w11.out.kept hb)
    have Fg12_w12 := Lib.hid hWW
    have hglg12 : g12 < w12.heap.size := hWW.lt
    clear hb hWW hgg KN
    obtain ⟨w13, hw13⟩ : ∃ w13, Hid (w13 = w12.alloc (.cells #[.int .i64 (n : Int), .slice (some ⟨g12, 0, none⟩) Ln Ln] 33)) := ⟨_, rfl⟩
    have hbw13 : Below w12.heap.size w12 w13 := by rw [hw13.out]; exact below_new _
    have hB13 := Lib.hid (below_then hB12.out hbw13 hB12.out.size)
    have E13 : Hid (Blks w13 [(w12.heap.size, #[.int .i64 (n : Int), .slice (some ⟨g12, 0, none⟩) Ln Ln], 33), (w10.heap.size, #[.int .i64 (n : Int), .slice (some ⟨g10, 0, none⟩) Ln Ln], 33), (w8.heap.size, #[.int .i64 (n : Int), .slice (some ⟨g8, 0, none⟩) Ln Ln], 33), (w6.heap.size, #[.int .u8 hd, .int .u16 (Ts : Int), .int .u16 (Tb : Int)], 28), (w4.heap.size, #[.int .i64 (m : Int), .slice (some ⟨g4, 0, none⟩) L L], 33), (W.heap.size + 1 + 1 + 1, #[.int .i64 (n : Int), .slice x2 y2 z2], 33), (W.heap.size + 1 + 1, #[.int .i64 (n : Int), .slice x1 y1 z1], 33), (W.heap.size + 1, #[.int .i64 (n : Int), .slice x0 y0 z0], 33), (W.heap.size, #[.int .u8 hd, .int .u16 (born : Int), .int .u16 (stay : Int)], 28)]) := by rw [hw13.out]; exact E12.out.alloc rfl _ _
    have Fg4_w13 := Lib.hid (Fg4_w12.out.kept hbw13)
    have Fg8_w13 := Lib.hid (Fg8_w12.out.kept hbw13)
    have Fg10_w13 := Lib.hid (Fg10_w12.out.kept hbw13)
    have Fg12_w13 := Lib.hid (Fg12_w12.out.kept hbw13)
    have hz13 : w12.heap.size < w13.heap.size := by rw [hw13.out]; simp
    clear hbw13
    obtain ⟨l0, l1, l2⟩ := life_cells' (hd := hd) (born := Ts) (stay := Tb) E12.out (b := w6.heap.size) (by simp)
    have lL : w6.heap.size < w12.heap.size := by omega
    have pL : w8.heap.size < w12.heap.size := E12.out.lt (x := (w8.heap.size, #[.int .i64 ((n : Int)), .slice (some ⟨g8, 0, none⟩) Ln Ln], 33)) (by simp)
    obtain ⟨p0, p1⟩ := row_cells (N := (n : Int)) (v := .slice (some ⟨g8, 0, none⟩) Ln Ln) E12.out (b := w8.heap.size) (by simp)
    have qL : w10.heap.size < w12.heap.size := E12.out.lt (x := (w10.heap.size, #[.int .i64 ((n : Int)), .slice (some ⟨g10, 0, none⟩) Ln Ln], 33)) (by simp)
    obtain ⟨q0, q1⟩ := row_cells (N := (n : Int)) (v := .slice (some ⟨g10, 0, none⟩) Ln Ln) E12.out (b := w10.heap.size) (by simp)
    have KL2 : Hid (Calls Tryd.prog 8 #[lifeV hd Ts Tb, .agg #[.int .i64 (n : Int), .slice (some ⟨g8, 0, none⟩) Ln Ln], .agg #[.int .i64 (n : Int), .slice (some ⟨g10, 0, none⟩) Ln Ln], .agg #[.int .i64 (n : Int), .slice (some ⟨g12, 0, none⟩) Ln Ln]] w13 fun e w' => LineIs w13 w' hd Ts Tb (n : Int) (n : Int) (n : Int) (notB n a) (notB n h) (notB n b) e) :=
      pline14 (w := w13) (hood := hd) hT1h.out hT2h.out (fn3 (n : Int) (n : Int) (n : Int)) (fn3 (.slice (some ⟨g8, 0, none⟩) Ln Ln) (.slice (some ⟨g10, 0, none⟩) Ln Ln) (.slice (some ⟨g12, 0, none⟩) Ln Ln)) (fn3 (notB n a) (notB n h) (notB n b))
        (fun j hj => by
          match j, hj with
          | 0, _ => have := Fg8_w13.out.has (cap := Ln); rw [(notB_good n a).len, hLn] at this; exact this
          | 1, _ => have := Fg10_w13.out.has (cap := Ln); rw [(notB_good n h).len, hLn] at this; exact this
          | 2, _ => have := Fg12_w13.out.has (cap := Ln); rw [(notB_good n b).len, hLn] at this; exact this)
        (fun j hj => by
          match j, hj with
          | 0, _ => exact (notB_good n a).w64
          | 1, _ => exact (notB_good n h).w64
          | 2, _ => exact (notB_good n b).w64)
    go_wp2_with fail
    rw [← hw13.out]
    clear hw13 l0 l1 l2 lL p0 p1 pL q0 q1 qL
    refine (KL2.out).mono ?_
    rintro e w14 hq
    obtain ⟨g14, rfl, hgg, hWW, hb⟩ := line8_good hET.out hn3 hq
    rw [← hmh.out] at hWW ⊢
    obtain ⟨S, hS⟩ : ∃ S, Hid (S = pack (lineB (offs hd) Ts Tb (notB n a) (notB n h) (notB n b) m)) := ⟨_, rfl⟩
    rw [← hS.out] at hWW
    have hSg : Hid (RowGood m S) := by
      have := pack_good (lineB (offs hd) Ts Tb (notB n a) (notB n h) (notB n b) m)
      rw [lineB_len, ← hS.out] at this
      exact this
    rw [← hL.out]
    have hB14 := Lib.hid (below_then hB13.out hb hB13.out.size)
    have E14 := Lib.hid (E13.out.kept hb)
    have hz14 : w13.heap.size ≤ w14.heap.size := hb.size
    have Fg4_w14 := Lib.hid (Fg4_w13.out.kept hb)
    have Fg8_w14 := Lib.hid (Fg8_w13.out.kept hb)
    have Fg10_w14 := Lib.hid (Fg10_w13.out.kept hb)
    have Fg12_w14 := Lib.hid (Fg12_w13.out.kept hb)
    have Fg14_w14 := Lib.hid hWW
    have hglg14 : g14 < w14.heap.size := hWW.lt
    clear hb hWW hgg KL2 hq hET
    rw [← hS.out] at hbk
    obtain ⟨w15, hw15⟩ : ∃ w15, Hid (w15 = w14.alloc (.cells #[.int .i64 (m : Int), .slice (some ⟨g14, 0, none⟩) L L] 33)) := ⟨_, rfl⟩
    have hbw15 : Below w14.heap.size w14 w15 := by rw [hw15.out]; exact below_new _
    have hB15 := Lib.hid (below_then hB14.out hbw15 hB14.out.size)
    have E15 : Hid (Blks w15 [(w14.heap.size, #[.int .i64 (m : Int), .slice (some ⟨g14, 0, none⟩) L L], 33), (w12.heap.size, #[.int .i64 (n : Int), .slice (some ⟨g12, 0, none⟩) Ln Ln], 33), (w10.heap.size, #[.int .i64 (n : Int), .slice (some ⟨g10, 0, none⟩) Ln Ln], 33), (w8.heap.size, #[.int .i64 (n : Int), .slice (some ⟨g8, 0, none⟩) Ln Ln], 33), (w6.heap.size, #[.int .u8 hd, .int .u16 (Ts : Int), .int .u16 (Tb : Int)], 28), (w4.heap.size, #[.int .i64 (m : Int), .slice (some ⟨g4, 0, none⟩) L L], 33), (W.heap.size + 1 + 1 + 1, #[.int .i64 (n : Int), .slice x2 y2 z2], 33), (W.heap.size + 1 + 1, #[.int .i64 (n : Int), .slice x1 y1 z1], 33), (W.heap.size + 1, #[.int .i64 (n : Int), .slice x0 y0 z0], 33), (W.heap.size, #[.int .u8 hd, .int .u16 (born : Int), .int .u16 (stay : Int)], 28)]) := by rw [hw15.out]; exact E14.out.alloc rfl _ _
    have Fg4_w15 := Lib.hid (Fg4_w14.out.kept hbw15)
    have Fg8_w15 := Lib.hid (Fg8_w14.out.kept hbw15)
    have Fg10_w15 := Lib.hid (Fg10_w14.out.kept hbw15)
    have Fg12_w15 := Lib.hid (Fg12_w14.out.kept hbw15)
    have Fg14_w15 := Lib.hid (Fg14_w14.out.kept hbw15)
    have hz15 : w14.heap.size < w15.heap.size := by rw [hw15.out]; simp
    clear hbw15
    have hSl : S.length = L := by rw [hSg.out.len, hL.out]
    have hRl : Hid (R.length = L) := by show _ = _; rw [hRg.out.len, hL.out]
    have hS15 : HasW w15 (.slice (some ⟨g14, 0, none⟩) L L) S := by
      have := Fg14_w15.out.has (cap := L)
      rw [hSl] at this
      exact this
    have KN := Lib.hid (not16 (W := w15) (n := m) hm4 hm3 hSg.out hS15)
    rw [hSl] at KN
    clear hS15 hSl
    go_wp2_with fail
    rw [← hw15.out]
    clear hw15
    refine (KN.out).mono ?_
    rintro e w16 ⟨g16, rfl, hgg, hWW, hb⟩
    have hB16 := Lib.hid (below_then hB15.out hb hB15.out.size)
    have E16 := Lib.hid (E15.out.kept hb)
    have hz16 : w15.heap.size ≤ w16.heap.size := hb.size
    have Fg4_w16 := Lib.hid (Fg4_w15.out.kept hb)
    have Fg8_w16 := Lib.hid (Fg8_w15.out.kept hb)
    have Fg10_w16 := Lib.hid (Fg10_w15.out.kept hb)
    have Fg12_w16 := Lib.hid (Fg12_w15.out.kept hb)
    have Fg14_w16 := Lib.hid (Fg14_w15.out.kept hb)
    have Fg16_w16 := Lib.hid hWW
    have hglg16 : g16 < w16.heap.size := hWW.lt
    clear hb hWW hgg KN
    obtain ⟨w17, hw17⟩ : ∃ w17, Hid (w17 = w16.alloc (.cells #[.int .i64 (m : Int), .slice (some ⟨g16, 0, none⟩) L L] 33)) := ⟨_, rfl⟩
    have hbw17 : Below w16.heap.size w16 w17 := by rw [hw17.out]; exact below_new _
    have hB17 := Lib.hid (below_then hB16.out hbw17 hB16.out.size)
    have E17 : Hid (Blks w17 [(w16.heap.size, #[.int .i64 (m : Int), .slice (some ⟨g16, 0, none⟩) L L], 33), (w14.heap.size, #[.int .i64 (m : Int), .slice (some ⟨g14, 0, none⟩) L L], 33), (w12.heap.size, #[.int .i64 (n : Int), .slice (some ⟨g12, 0, none⟩) Ln Ln], 33), (w10.heap.size, #[.int .i64 (n : Int), .slice (some ⟨g10, 0, none⟩) Ln Ln], 33), (w8.heap.size, #[.int .i64 (n : Int), .slice (some ⟨g8, 0, none⟩) Ln Ln], 33), (w6.heap.size, #[.int .u8 hd, .int .u16 (Ts : Int), .int .u16 (Tb : Int)], 28), (w4.heap.size, #[.int .i64 (m : Int), .slice (some ⟨g4, 0, none⟩) L L], 33), (W.heap.size + 1 + 1 + 1, #[.int .i64 (n : Int), .slice x2 y2 z2], 33), (W.heap.size + 1 + 1, #[.int .i64 (n : Int), .slice x1 y1 z1], 33), (W.heap.size + 1, #[.int .i64 (n : Int), .slice x0 y0 z0], 33), (W.heap.size, #[.int .u8 hd, .int .u16 (born : Int), .int .u16 (stay : Int)], 28)]) := by rw [hw17.out]; exact E16.out.alloc rfl _ _
    have Fg4_w17 := Lib.hid (Fg4_w16.out.kept hbw17)
    have Fg8_w17 := Lib.hid (Fg8_w16.out.kept hbw17)
    have Fg10_w17 := Lib.hid (Fg10_w16.out.kept hbw17)
    have Fg12_w17 := Lib.hid (Fg12_w16.out.kept hbw17)
    have Fg14_w17 := Lib.hid (Fg14_w16.out.kept hbw17)
    have Fg16_w17 := Lib.hid (Fg16_w16.out.kept hbw17)
    have hz17 : w16.heap.size < w17.heap.size := by rw [hw17.out]; simp
    clear hbw17
    have pL : w16.heap.size < w17.heap.size := E17.out.lt (x := (w16.heap.size, #[.int .i64 ((m : Int)), .slice (some ⟨g16, 0, none⟩) L L], 33)) (by simp)
    obtain ⟨p0, p1⟩ := row_cells (N := (m : Int)) (v := .slice (some ⟨g16, 0, none⟩) L L) E17.out (b := w16.heap.size) (by simp)
    have qL : w4.heap.size < w17.heap.size := E17.out.lt (x := (w4.heap.size, #[.int .i64 ((m : Int)), .slice (some ⟨g4, 0, none⟩) L L], 33)) (by simp)
    obtain ⟨q0, q1⟩ := row_cells (N := (m : Int)) (v := .slice (some ⟨g4, 0, none⟩) L L) E17.out (b := w4.heap.size) (by simp)
    have p0h := Lib.hid p0
    have p1h := Lib.hid p1
    have q0h := Lib.hid q0
    have q1h := Lib.hid q1
    clear p0 p1 pL q0 q1 qL
    have qL : w4.heap.size < w16.heap.size := E16.out.lt (x := (w4.heap.size, #[.int .i64 ((m : Int)), .slice (some ⟨g4, 0, none⟩) L L], 33)) (by simp)
    obtain ⟨q0, q1⟩ := row_cells (N := (m : Int)) (v := .slice (some ⟨g4, 0, none⟩) L L) E16.out (b := w4.heap.size) (by simp)
    have rL : W.heap.size + 1 + 1 < w16.heap.size := E16.out.lt (x := (W.heap.size + 1 + 1, #[.int .i64 ((n : Int)), .slice x1 y1 z1], 33)) (by simp)
    obtain ⟨r0, r1⟩ := row_cells (N := (n : Int)) (v := .slice x1 y1 z1) E16.out (b := W.heap.size + 1 + 1) (by simp)
    have hbl : Hid (RowGood m (notB m S)) := notB_good m S
    have hbl2 : Hid ((notB m S).length = L) := by show _ = _; rw [(notB_good m S).len, hL.out]
    have hB17h := hB17
    go_wp2_with fail
    rw [← hw17.out]
    clear hw17
    go_loopw [24] (fun i wr => BackRel w17 m i wr) (fun i _ => m - (intOf i).toNat)
    case atStart => exact ⟨0, by omega, by go_num, Below.refl _ _⟩
    case round =>
      obtain ⟨x, hx, rfl, hbr⟩ := hrel
      have hbr' := Lib.hid hbr
      have u0 := cell_kept hbr p0h.out
      have u1 := cell_kept hbr p1h.out
      have t0 := cell_kept hbr q0h.out
      have t1 := cell_kept hbr q1h.out
      clear q0 q1 qL r0 r1 rL
      by_cases hlt : x < m
      · have hxm : (x : Int) < (m : Int) := by omega
        have G1 : Hid (∀ w', Below wr.heap.size wr w' → Calls Tryd.prog 17 #[.agg #[.int .i64 (m : Int), .slice (some ⟨g16, 0, none⟩) L L], .int .i64 (x : Int)] w' fun e w'' => e = .returned (.bool (bitw R x)) ∧ Below w'.heap.size w' w'') := fun w' hb => by
          have hh : HasW w' (.slice (some ⟨g16, 0, none⟩) L L) (notB m S) := by
            have := ((Fg16_w17.out.kept hbr'.out).kept hb).has (cap := L)
            rw [hbl2.out] at this
            exact this
          have := get17 hm4 hbl.out hh hlt
          rw [hbk.out x hlt] at this
          exact this
        have G2 : Hid (∀ w', Below wr.heap.size wr w' → Calls Tryd.prog 17 #[.agg #[.int .i64 (m : Int), .slice (some ⟨g4, 0, none⟩) L L], .int .i64 (x : Int)] w' fun e w'' => e = .returned (.bool (bitw R x)) ∧ Below w'.heap.size w' w'') := fun w' hb => by
          have hh : HasW w' (.slice (some ⟨g4, 0, none⟩) L L) R := by
            have := ((Fg4_w17.out.kept hbr'.out).kept hb).has (cap := L)
            rw [hRl.out] at this
            exact this
          exact get17 hm4 hRg.out hh hlt
        generalize bitw R x = bx at *
        have u0h := Lib.hid u0
        have u1h := Lib.hid u1
        have t0h := Lib.hid t0
        have t1h := Lib.hid t1
        go_wp2_with fail
        clear u0 u1 t0 t1
        refine RegInv.wp_region_inv 6 [128, 129, 130, 131, 132, 133] (RegInv.ILv (PrB g16 g4 L m x bx) 6 wr) (by kernel_rfl) (by kernel_rfl) (RegInv.ILv.start _ 6 (by simp) (Below.refl _ _).drew) (fun i hi L9 vs w' hLi hd9 hI K hK => ?s0) (fun vs w' hI => ?s1)
        case s0 =>
          obtain ⟨hlen, hB9, hA0⟩ := hI
          obtain ⟨us, rfl⟩ := RegInv.list_fn hlen
          have hA9 : ∀ i, i < 6 → L9 i = true → (PrB g16 g4 L m x bx) i ([us 0, us 1, us 2, us 3, us 4, us 5].getD i undef) w' := hA0
          change wpOp _ _ _ _ _ (RegInv.putAll _ _ [us 0, us 1, us 2, us 3, us 4, us 5]) _
          clear hlen hA0
          generalize us 0 = u90 at hA9 ⊢
          generalize us 1 = u91 at hA9 ⊢
          generalize us 2 = u92 at hA9 ⊢
          generalize us 3 = u93 at hA9 ⊢
          generalize us 4 = u94 at hA9 ⊢
          generalize us 5 = u95 at hA9 ⊢
          clear us
          match i, hi with
          | 0, _ =>
            have z0 := cell_kept hB9 u0h.out
            have z1 := cell_kept hB9 u1h.out
            refine wpOp_step rfl (fun K' hK' => ?_)
            go_simp
            have hI : RegInv.ILv (PrB g16 g4 L m x bx) 6 wr (fun j => decide (j = 0) || L9 j) [(.agg #[.int .i64 (m : Int), .slice (some ⟨g16, 0, none⟩) L L]), u91, u92, u93, u94, u95] w' := RegInv.ILv.step (Pr := (PrB g16 g4 L m x bx)) (n := 6) (vs := [u90, u91, u92, u93, u94, u95]) PrB.mono rfl hB9 hA9 0 (.agg #[.int .i64 (m : Int), .slice (some ⟨g16, 0, none⟩) L L]) (Below.refl _ _) (rfl)
            have hk := hK' _ _ (hK _ _ hI)
            revert hk
            go_simp
          | 1, _ =>
            refine wpOp_step rfl (fun K' hK' => ?_)
            go_simp
            have hI : RegInv.ILv (PrB g16 g4 L m x bx) 6 wr (fun j => decide (j = 1) || L9 j) [u90, (.int .i64 (x : Int)), u92, u93, u94, u95] w' := RegInv.ILv.step (Pr := (PrB g16 g4 L m x bx)) (n := 6) (vs := [u90, u91, u92, u93, u94, u95]) PrB.mono rfl hB9 hA9 1 (.int .i64 (x : Int)) (Below.refl _ _) (rfl)
            have hk := hK' _ _ (hK _ _ hI)
            revert hk
            go_simp
          | 2, _ =>
            have hd' : ([0, 1] : List Nat).all L9 = true := hd9
            simp only [List.all_cons, List.all_nil, Bool.and_true, Bool.and_eq_true] at hd'
            have hp0 : (PrB g16 g4 L m x bx) 0 u90 w' := hA9 0 (by omega) (hd'.1)
            obtain rfl : u90 = .agg #[.int .i64 (m : Int), .slice (some ⟨g16, 0, none⟩) L L] := hp0
            have hp1 : (PrB g16 g4 L m x bx) 1 u91 w' := hA9 1 (by omega) (hd'.2)
            obtain rfl : u91 = .int .i64 (x : Int) := hp1
            refine wpOp_step rfl (fun K' hK' => ?_)
            go_simp
            refine (G1.out w' hB9).mono ?_
            rintro e w9 ⟨rfl, hb9⟩
            have hI : RegInv.ILv (PrB g16 g4 L m x bx) 6 wr (fun j => decide (j = 2) || L9 j) [(.agg #[.int .i64 (m : Int), .slice (some ⟨g16, 0, none⟩) L L]), (.int .i64 (x : Int)), (.bool bx), u93, u94, u95] w9 := RegInv.ILv.step (Pr := (PrB g16 g4 L m x bx)) (n := 6) (vs := [(.agg #[.int .i64 (m : Int), .slice (some ⟨g16, 0, none⟩) L L]), (.int .i64 (x : Int)), u92, u93, u94, u95]) PrB.mono rfl hB9 hA9 2 (.bool bx) hb9 (rfl)
            have hk := hK' _ _ (hK _ _ hI)
            revert hk
            go_simp
          | 3, _ =>
            have z0 := cell_kept hB9 t0h.out
            have z1 := cell_kept hB9 t1h.out
            refine wpOp_step rfl (fun K' hK' => ?_)
            go_simp
            have hI : RegInv.ILv (PrB g16 g4 L m x bx) 6 wr (fun j => decide (j = 3) || L9 j) [u90, u91, u92, (.agg #[.int .i64 (m : Int), .slice (some ⟨g4, 0, none⟩) L L]), u94, u95] w' := RegInv.ILv.step (Pr := (PrB g16 g4 L m x bx)) (n := 6) (vs := [u90, u91, u92, u93, u94, u95]) PrB.mono rfl hB9 hA9 3 (.agg #[.int .i64 (m : Int), .slice (some ⟨g4, 0, none⟩) L L]) (Below.refl _ _) (rfl)
            have hk := hK' _ _ (hK _ _ hI)
            revert hk
            go_simp
          | 4, _ =>
            refine wpOp_step rfl (fun K' hK' => ?_)
            go_simp
            have hI : RegInv.ILv (PrB g16 g4 L m x bx) 6 wr (fun j => decide (j = 4) || L9 j) [u90, u91, u92, u93, (.int .i64 (x : Int)), u95] w' := RegInv.ILv.step (Pr := (PrB g16 g4 L m x bx)) (n := 6) (vs := [u90, u91, u92, u93, u94, u95]) PrB.mono rfl hB9 hA9 4 (.int .i64 (x : Int)) (Below.refl _ _) (rfl)
            have hk := hK' _ _ (hK _ _ hI)
            revert hk
            go_simp
          | 5, _ =>
            have hd' : ([3, 4, 2] : List Nat).all L9 = true := hd9
            simp only [List.all_cons, List.all_nil, Bool.and_true, Bool.and_eq_true] at hd'
            have hp3 : (PrB g16 g4 L m x bx) 3 u93 w' := hA9 3 (by omega) (hd'.1)
            obtain rfl : u93 = .agg #[.int .i64 (m : Int), .slice (some ⟨g4, 0, none⟩) L L] := hp3
            have hp4 : (PrB g16 g4 L m x bx) 4 u94 w' := hA9 4 (by omega) (hd'.2.1)
            obtain rfl : u94 = .int .i64 (x : Int) := hp4
            have hp2 : (PrB g16 g4 L m x bx) 2 u92 w' := hA9 2 (by omega) (hd'.2.2)
            obtain rfl : u92 = .bool bx := hp2
            refine wpOp_step rfl (fun K' hK' => ?_)
            go_simp
            refine (G2.out w' hB9).mono ?_
            rintro e w9 ⟨rfl, hb9⟩
            have hI : RegInv.ILv (PrB g16 g4 L m x bx) 6 wr (fun j => decide (j = 5) || L9 j) [u90, u91, (.bool bx), (.agg #[.int .i64 (m : Int), .slice (some ⟨g4, 0, none⟩) L L]), (.int .i64 (x : Int)), (.bool bx)] w9 := RegInv.ILv.step (Pr := (PrB g16 g4 L m x bx)) (n := 6) (vs := [u90, u91, (.bool bx), (.agg #[.int .i64 (m : Int), .slice (some ⟨g4, 0, none⟩) L L]), (.int .i64 (x : Int)), u95]) PrB.mono rfl hB9 hA9 5 (.bool bx) hb9 (rfl)
            have hk := hK' _ _ (hK _ _ hI)
            revert hk
            go_simp
          | (_ + 6), h18 => exact absurd h18 (by omega)
        case s1 =>
          obtain ⟨hlen, hB9, hA0⟩ := hI
          obtain ⟨us, rfl⟩ := RegInv.list_fn hlen
          have hq0 : us 0 = .agg #[.int .i64 (m : Int), .slice (some ⟨g16, 0, none⟩) L L] := (hA0 0 (by omega) (by decide) : (PrB g16 g4 L m x bx) 0 (us 0) w')
          have hq1 : us 1 = .int .i64 (x : Int) := (hA0 1 (by omega) (by decide) : (PrB g16 g4 L m x bx) 1 (us 1) w')
          have hq2 : us 2 = .bool bx := (hA0 2 (by omega) (by decide) : (PrB g16 g4 L m x bx) 2 (us 2) w')
          have hq3 : us 3 = .agg #[.int .i64 (m : Int), .slice (some ⟨g4, 0, none⟩) L L] := (hA0 3 (by omega) (by decide) : (PrB g16 g4 L m x bx) 3 (us 3) w')
          have hq4 : us 4 = .int .i64 (x : Int) := (hA0 4 (by omega) (by decide) : (PrB g16 g4 L m x bx) 4 (us 4) w')
          have hq5 : us 5 = .bool bx := (hA0 5 (by omega) (by decide) : (PrB g16 g4 L m x bx) 5 (us 5) w')
          change wpList _ _ _ _ (RegInv.putAll _ _ [us 0, us 1, us 2, us 3, us 4, us 5]) _
          rw [hq0, hq1, hq2, hq3, hq4, hq5]
          clear hlen hA0 hq0 hq1 hq2 hq3 hq4 hq5
          clear us
          have hBr := Lib.hid (below_then hbr'.out hB9 hbr'.out.size)
          clear hB9 hbr
          go_wp2_with fail
          exact ⟨⟨x + 1, by omega, by go_num, hBr.out⟩, by simp [intOf]; omega⟩
      · obtain rfl : x = m := by omega
        have hR9 : HasW wr (.slice (some ⟨g4, 0, none⟩) L L) R := by
          have := (Fg4_w17.out.kept hbr'.out).has (cap := L)
          rw [hRl.out] at this
          exact this
        have KV : Hid (Calls Tryd.prog 18 #[.agg #[.int .i64 (x : Int), .slice (some ⟨g4, 0, none⟩) L L]] wr fun e w' => e = .returned (.bool true) ∧ Below wr.heap.size wr w') := by
          have := valid_any (x : Int) hR9 hRg.out.w64
          rw [rowOk_yes (N := (x : Int)) ⟨by omega, by omega, by rw [Int.toNat_natCast]; exact hRg.out⟩] at this
          exact this
        have hB9 := Lib.hid (below_then hB17h.out hbr'.out hB17h.out.size)
        clear hbr hR9
        go_wp2_with fail
        refine (KV.out).mono ?_
        rintro e w20 ⟨rfl, hb⟩
        have hB20 := Lib.hid (below_then hB9.out hb hB9.out.size)
        clear hb
        go_wp2_with fail
        try simp only [Exit.inBlock, Exit.then]
        refine bodyPost_ret (v := .bool true) ?_ rfl ⟨rfl, hB20.out⟩
        simp only [results, Tryd.f6, Array.toList]
        go_simp
  · unfold LineIs at hq
    rw [if_neg hE] at hq
    obtain ⟨rfl, hb⟩ := hq
    have hB4 := Lib.hid (below_then hB3.out hb hB3.out.size)
    generalize lineE hd born stay N0 N1 N2 a h b = er at *
    clear hb
    go_wp2_with fail
    refine bodyPost_ret (v := .bool true) ?_ rfl ⟨rfl, hB4.out.alloc hB4.out.size _⟩
    simp only [results, Tryd.f6, Array.toList]
    go_simp
end Go.Proofs.YtigghbehnnghnaaDoor
