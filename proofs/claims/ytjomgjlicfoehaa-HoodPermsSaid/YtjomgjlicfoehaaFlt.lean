import Derived.Laws.ComplexArith
namespace Flt
open Ieee

/-- The rung of a whole number below 2^53. -/
def R (v : Nat) : Nat := if v = 0 then 0 else (v.log2 + 1022) * 4503599627370496 + v * 2 ^ (52 - v.log2)

/-- The word of a whole number with a sign of its own (a nought may have one). -/
def G (s : Bool) (v : Nat) : Nat := double.word s (R v)

theorem log2_lt53 {v : Nat} (h0 : v ≠ 0) (h : v < 9007199254740992) : v.log2 ≤ 52 := by
  have := (Nat.log2_lt h0 (k := 53)).2 (by simpa using h)
  omega

theorem pow_le_self {v : Nat} (h0 : v ≠ 0) : 2 ^ v.log2 ≤ v := Nat.log2_self_le h0
theorem lt_pow_self (v : Nat) : v < 2 ^ (v.log2 + 1) := Nat.lt_log2_self

theorem scaled_lo {v : Nat} (h0 : v ≠ 0) (h : v < 9007199254740992) : 4503599627370496 ≤ v * 2 ^ (52 - v.log2) := by
  have h1 := pow_le_self h0
  have h2 := log2_lt53 h0 h
  calc 4503599627370496 = 2 ^ v.log2 * 2 ^ (52 - v.log2) := by rw [← Nat.pow_add, show v.log2 + (52 - v.log2) = 52 from by omega]
    _ ≤ v * 2 ^ (52 - v.log2) := Nat.mul_le_mul_right _ h1

theorem scaled_hi {v : Nat} (h0 : v ≠ 0) (h : v < 9007199254740992) : v * 2 ^ (52 - v.log2) < 9007199254740992 := by
  have h1 := lt_pow_self v
  have h2 := log2_lt53 h0 h
  calc v * 2 ^ (52 - v.log2) < 2 ^ (v.log2 + 1) * 2 ^ (52 - v.log2) := Nat.mul_lt_mul_of_pos_right h1 (Nat.two_pow_pos _)
    _ = 9007199254740992 := by rw [← Nat.pow_add, show v.log2 + 1 + (52 - v.log2) = 53 from by omega]

theorem log2_scaled {v k : Nat} (h0 : v ≠ 0) : (v * 2 ^ k).log2 = v.log2 + k := by
  have hne : v * 2 ^ k ≠ 0 := Nat.mul_ne_zero h0 (Nat.pos_iff_ne_zero.1 (Nat.two_pow_pos _))
  have h1 : v.log2 + k ≤ (v * 2 ^ k).log2 := by
    rw [Nat.le_log2 hne, Nat.pow_add]
    exact Nat.mul_le_mul_right _ (pow_le_self h0)
  have h2 : (v * 2 ^ k).log2 < v.log2 + k + 1 := by
    rw [Nat.log2_lt hne, show v.log2 + k + 1 = v.log2 + 1 + k from by omega, Nat.pow_add]
    exact Nat.mul_lt_mul_of_pos_right (lt_pow_self v) (Nat.two_pow_pos _)
  omega

theorem R_lt {v : Nat} (h : v < 9007199254740992) : R v < 9218868437227405312 := by
  unfold R
  split
  · omega
  · rename_i h0
    have := log2_lt53 h0 h
    have := scaled_hi h0 h
    omega

theorem cut_whole (s : Bool) (a d : Nat) (way : Toward) (hl : a * 2 ^ d ≠ 0) : way.cut s (a * 2 ^ d) d = a := by
  have hp : 0 < 2 ^ d := Nat.two_pow_pos _
  have ha : a ≠ 0 := by intro e; simp [e] at hl
  have hlog := log2_scaled (v := a) (k := d) ha
  unfold Toward.cut
  have hmin : min d ((a * 2 ^ d).log2 + 2) = d := by omega
  simp only [hmin, Nat.one_shiftLeft, Nat.mul_div_cancel _ hp, Nat.mul_mod_left]
  cases way <;> simp <;> omega

theorem fractionBits_double : double.fractionBits = 52 := rfl
theorem leastPlace_double : double.leastPlace = -1074 := by simp [Format.leastPlace, double]
theorem binade_double : double.binade = 4503599627370496 := by simp [Format.binade, double]
theorem infRung_double : double.infRung = 9218868437227405312 := by simp [Format.infRung, Format.binade, double]
theorem signWeight_double : double.signWeight = 9223372036854775808 := by simp [Format.signWeight, double]

theorem min_aux (N M : Nat) (h1 : N ≤ 1074 * 4503599627370496) (h2 : M < 9007199254740992) : min (N + M) 9218868437227405312 = N + M := by omega

theorem nearest_scaled (s : Bool) (v k : Nat) (h : v < 9007199254740992) : double.nearest s (v * 2 ^ k) (-(k : Int)) = G s v := by
  unfold Format.nearest G R
  by_cases h0 : v = 0
  · simp [h0]
  · have hne : v * 2 ^ k ≠ 0 := Nat.mul_ne_zero h0 (Nat.pos_iff_ne_zero.1 (Nat.two_pow_pos _))
    rw [if_neg hne, if_neg h0]
    have hL := log2_lt53 h0 h
    have hlo := scaled_lo h0 h
    have hhi := scaled_hi h0 h
    have hlp := leastPlace_double
    have hfb := fractionBits_double
    have hbi := binade_double
    have hir := infRung_double
    rw [log2_scaled h0, hlp, hfb, hbi, hir]
    have hmax : max (-(k : Int) + ((v.log2 + k : Nat) : Int) - 52) (-1074) = (v.log2 : Int) - 52 := by omega
    dsimp only
    rw [show ((52 : Nat) : Int) = 52 from rfl, hmax]
    have hkept : Toward.even.cut s ((v * 2 ^ k) <<< (-(k : Int) - ((v.log2 : Int) - 52)).toNat) ((v.log2 : Int) - 52 - -(k : Int)).toNat = v * 2 ^ (52 - v.log2) := by
      by_cases hk : k ≤ 52 - v.log2
      · have e1 : (-(k : Int) - ((v.log2 : Int) - 52)).toNat = 52 - v.log2 - k := by omega
        have e2 : ((v.log2 : Int) - 52 - -(k : Int)).toNat = 0 := by omega
        rw [e1, e2, Nat.shiftLeft_eq, Nat.mul_assoc, ← Nat.pow_add, show k + (52 - v.log2 - k) = 52 - v.log2 from by omega]
        have := cut_whole s (v * 2 ^ (52 - v.log2)) 0 .even (by rw [Nat.pow_zero]; omega)
        simpa using this
      · have e1 : (-(k : Int) - ((v.log2 : Int) - 52)).toNat = 0 := by omega
        have e2 : ((v.log2 : Int) - 52 - -(k : Int)).toNat = v.log2 + k - 52 := by omega
        rw [e1, e2, Nat.shiftLeft_eq, Nat.pow_zero, Nat.mul_one]
        have e3 : v * 2 ^ k = v * 2 ^ (52 - v.log2) * 2 ^ (v.log2 + k - 52) := by
          rw [Nat.mul_assoc, ← Nat.pow_add, show 52 - v.log2 + (v.log2 + k - 52) = k from by omega]
        rw [e3]
        refine cut_whole s _ _ .even ?_
        rw [← e3]; exact hne
    rw [hkept]
    have e4 : ((v.log2 : Int) - 52 - -1074).toNat = v.log2 + 1022 := by omega
    rw [e4]
    have hL2 : (v.log2 + 1022) * 4503599627370496 ≤ 1074 * 4503599627370496 := Nat.mul_le_mul_right _ (by omega)
    exact congrArg (double.word s) (min_aux _ _ hL2 hhi)

/-- The whole number of a sign and a size. -/
def sg (s : Bool) (v : Nat) : Int := if s then -(v : Int) else v

/-- A float that is a whole number (a nought may have a sign). -/
def IsInt (x : Nat) (z : Int) : Prop := ∃ s v, x = G s v ∧ z = sg s v ∧ v < 9007199254740992

/-- The float of a whole number, a nought without a sign. -/
def F (z : Int) : Nat := G (decide (z < 0)) z.natAbs

theorem signWeight_pos : 0 < double.signWeight := by rw [signWeight_double]; omega

theorem G_div (s : Bool) {v : Nat} (h : v < 9007199254740992) : (G s v / double.signWeight % 2 == 1) = s := by
  have hr := R_lt h
  unfold G Format.word
  rw [signWeight_double]
  generalize R v = r at hr
  cases s <;> simp <;> omega

theorem G_mod (s : Bool) {v : Nat} (h : v < 9007199254740992) : G s v % double.signWeight = R v := by
  have hr := R_lt h
  unfold G Format.word
  rw [signWeight_double]
  generalize R v = r at hr
  cases s <;> simp <;> omega

theorem rung_aux (r L M : Nat) (hr : r = (L + 1022) * 4503599627370496 + M) (h1 : 4503599627370496 ≤ M) (h2 : M < 9007199254740992) (hL : L ≤ 52) :
    ¬ (r < 4503599627370496) ∧ r < 9218868437227405312 ∧ 4503599627370496 + r % 4503599627370496 = M ∧ r / 4503599627370496 = L + 1023 := by
  subst hr
  omega

theorem read_G (s : Bool) (v : Nat) (h : v < 9007199254740992) : ∃ k : Nat, double.read (G s v) = .number s (v * 2 ^ k) (-(k : Int)) := by
  have hd := G_div s h
  have hm := G_mod s h
  unfold Format.read
  dsimp only
  rw [hd, hm, binade_double, infRung_double, leastPlace_double]
  by_cases h0 : v = 0
  · subst h0
    obtain ⟨k, hk⟩ : ∃ k : Nat, k = 1074 := ⟨_, rfl⟩
    refine ⟨k, ?_⟩
    have : R 0 = 0 := by simp [R]
    rw [this, if_pos (by omega), Nat.zero_mul, hk]
    rfl
  · have hL := log2_lt53 h0 h
    refine ⟨52 - v.log2, ?_⟩
    have hlo := scaled_lo h0 h
    have hhi := scaled_hi h0 h
    have hR : R v = (v.log2 + 1022) * 4503599627370496 + v * 2 ^ (52 - v.log2) := by unfold R; rw [if_neg h0]
    obtain ⟨a1, a2, a3, a4⟩ := rung_aux _ v.log2 _ hR hlo hhi hL
    have e : (-1074 : Int) + ((v.log2 + 1023 - 1 : Nat) : Int) = -((52 - v.log2 : Nat) : Int) := by omega
    rw [if_neg a1, if_pos a2, a3, a4, e]

theorem signed_scaled (s : Bool) (v k K : Nat) (h : k ≤ K) : signed s (v * 2 ^ k) (-(k : Int) - -(K : Int)).toNat = sg s v * (2 ^ K : Nat) := by
  have e : (-(k : Int) - -(K : Int)).toNat = K - k := by omega
  unfold signed sg
  rw [e, Nat.shiftLeft_eq, Nat.mul_assoc, ← Nat.pow_add, show k + (K - k) = K from by omega]
  cases s <;> simp [Int.neg_mul]

theorem sg_natAbs (s : Bool) (v : Nat) : (sg s v).natAbs = v := by unfold sg; cases s <;> simp
theorem sg_neg (s : Bool) (v : Nat) : sg (!s) v = - sg s v := by unfold sg; cases s <;> simp
theorem sg_self (z : Int) : sg (decide (z < 0)) z.natAbs = z := by unfold sg; by_cases h : z < 0 <;> simp [h] <;> omega
theorem sg_if (c : Bool) (z : Int) : sg (if z = 0 then c else decide (z < 0)) z.natAbs = z := by
  by_cases h : z = 0
  · subst h; cases c <;> simp [sg]
  · rw [if_neg h]; exact sg_self z

theorem isInt_F (z : Int) (h : z.natAbs < 9007199254740992) : IsInt (F z) z := ⟨_, _, rfl, (sg_self z).symm, h⟩
theorem IsInt.bound {x : Nat} {z : Int} (h : IsInt x z) : z.natAbs < 9007199254740992 := by
  obtain ⟨s, v, _, rfl, hv⟩ := h
  rwa [sg_natAbs]

theorem floatOfInt_F (z : Int) (h : z.natAbs < 9007199254740992) : Go.floatOfInt .f64 z = F z := by
  have := nearest_scaled (decide (z < 0)) z.natAbs 0 h
  simpa [Go.FloatKind.nearest, Go.FloatKind.encode, Format.write, F, Go.FloatKind.format, Go.floatOfInt] using this

theorem pow_pos' (K : Nat) : (0 : Int) < (2 ^ K : Nat) := by have := Nat.two_pow_pos K; omega

/-- The sum of two whole numbers: exact; its sign. -/
theorem add_G (s t : Bool) (v u : Nat) (hv : v < 9007199254740992) (hu : u < 9007199254740992) (hs : (sg s v + sg t u).natAbs < 9007199254740992) :
    double.add (G s v) (G t u) = some (G (if sg s v + sg t u = 0 then s && t else decide (sg s v + sg t u < 0)) (sg s v + sg t u).natAbs) := by
  obtain ⟨k, hk⟩ := read_G s v hv
  obtain ⟨j, hj⟩ := read_G t u hu
  unfold Format.add
  rw [hk, hj]
  unfold Datum.sum
  have hb : min (-(k : Int)) (-(j : Int)) = -((max k j : Nat) : Int) := by omega
  dsimp only
  rw [hb, signed_scaled s v k _ (Nat.le_max_left ..), signed_scaled t u j _ (Nat.le_max_right ..), ← Int.add_mul]
  generalize sg s v + sg t u = z at hs
  have hp := pow_pos' (max k j)
  have hz : (z * ((2 ^ max k j : Nat) : Int) = 0) ↔ z = 0 := by
    constructor
    · intro h
      rcases Int.mul_eq_zero.1 h with h | h
      · exact h
      · omega
    · rintro rfl; simp
  have hlt : (z * ((2 ^ max k j : Nat) : Int) < 0) ↔ z < 0 := by
    constructor
    · intro h
      rcases Int.lt_or_le z 0 with h' | h'
      · exact h'
      · have := Int.mul_nonneg h' (Int.le_of_lt hp); omega
    · intro h; exact Int.mul_neg_of_neg_of_pos h hp
  have habs : (z * ((2 ^ max k j : Nat) : Int)).natAbs = z.natAbs * 2 ^ max k j := by rw [Int.natAbs_mul, Int.natAbs_natCast]
  simp only [Option.map_some, Format.write, habs]
  rw [nearest_scaled _ _ _ hs]
  simp only [hz, hlt]

theorem mul_G (s t : Bool) (v u : Nat) (hv : v < 9007199254740992) (hu : u < 9007199254740992) (hs : v * u < 9007199254740992) :
    double.mul (G s v) (G t u) = some (G (s ^^ t) (v * u)) := by
  obtain ⟨k, hk⟩ := read_G s v hv
  obtain ⟨j, hj⟩ := read_G t u hu
  unfold Format.mul
  rw [hk, hj]
  unfold Datum.product
  simp only [Option.map_some, Format.write]
  have e : v * 2 ^ k * (u * 2 ^ j) = v * u * 2 ^ (k + j) := by
    rw [Nat.pow_add, Nat.mul_assoc, Nat.mul_left_comm (2 ^ k), ← Nat.mul_assoc v u]
  rw [e, show -(k : Int) + -(j : Int) = -((k + j : Nat) : Int) from by omega, nearest_scaled _ _ _ hs]

theorem sg_mul (s t : Bool) (v u : Nat) : sg (s ^^ t) (v * u) = sg s v * sg t u := by
  unfold sg; cases s <;> cases t <;> simp [Int.neg_mul, Int.mul_neg]

theorem G_xor (s : Bool) {v : Nat} (h : v < 9007199254740992) : G s v ^^^ 9223372036854775808 = G (!s) v := by
  have hr := R_lt h
  unfold G Format.word
  rw [signWeight_double]
  generalize R v = r at hr
  have hlt : r < 2 ^ 63 := by have : (2 : Nat) ^ 63 = 9223372036854775808 := by decide
                              omega
  have e : 9223372036854775808 + r = 9223372036854775808 ^^^ r := by
    have h1 := Nat.two_pow_add_eq_or_of_lt (i := 63) hlt 1
    apply Nat.eq_of_testBit_eq
    intro i
    rw [show (9223372036854775808 : Nat) = 2 ^ 63 * 1 from by decide, h1]
    simp only [Nat.testBit_or, Nat.testBit_xor, Nat.mul_one, Nat.testBit_two_pow]
    by_cases hi : i = 63
    · subst hi; simp [Nat.testBit_lt_two_pow hlt]
    · simp [show ¬ 63 = i from fun e => hi e.symm]
  cases s
  · simp only [Bool.not_false, if_true, Bool.false_eq_true, if_false]; rw [e, Nat.xor_comm]
  · simp only [Bool.not_true, if_true, Bool.false_eq_true, if_false]; rw [e, Nat.xor_comm, ← Nat.xor_assoc, Nat.xor_self, Nat.zero_xor]

theorem sub_G (s t : Bool) (v u : Nat) (hv : v < 9007199254740992) (hu : u < 9007199254740992) (hs : (sg s v - sg t u).natAbs < 9007199254740992) :
    double.sub (G s v) (G t u) = some (G (if sg s v - sg t u = 0 then s && !t else decide (sg s v - sg t u < 0)) (sg s v - sg t u).natAbs) := by
  have h := add_G s (!t) v u hv hu (by rw [sg_neg]; exact hs)
  rw [sg_neg, ← Int.sub_eq_add_neg] at h
  rw [← h]
  obtain ⟨j, hj⟩ := read_G t u hu
  obtain ⟨j', hj'⟩ := read_G (!t) u hu
  unfold Format.sub Format.add
  have : (double.read (G t u)).opposite = double.read (G (!t) u) := by
    have hd := G_div t hu
    have hm := G_mod t hu
    have hd' := G_div (!t) hu
    have hm' := G_mod (!t) hu
    unfold Format.read
    dsimp only
    rw [hd, hm, hd', hm']
    split
    · rfl
    · split
      · rfl
      · split <;> rfl
  rw [this]

theorem order_G (s t : Bool) (v u : Nat) (hv : v < 9007199254740992) (hu : u < 9007199254740992) : double.order (G s v) (G t u) = some (compare (sg s v) (sg t u)) := by
  obtain ⟨k, hk⟩ := read_G s v hv
  obtain ⟨j, hj⟩ := read_G t u hu
  unfold Format.order
  rw [hk, hj]
  unfold Datum.order
  have hb : min (-(k : Int)) (-(j : Int)) = -((max k j : Nat) : Int) := by omega
  dsimp only
  rw [hb, signed_scaled s v k _ (Nat.le_max_left ..), signed_scaled t u j _ (Nat.le_max_right ..)]
  have hp := pow_pos' (max k j)
  congr 1
  simp only [compare, compareOfLessAndEq]
  have h1 : (sg s v * ((2 ^ max k j : Nat) : Int) < sg t u * ((2 ^ max k j : Nat) : Int)) ↔ sg s v < sg t u := Int.mul_lt_mul_right hp
  have h2 : (sg s v * ((2 ^ max k j : Nat) : Int) = sg t u * ((2 ^ max k j : Nat) : Int)) ↔ sg s v = sg t u := Int.mul_eq_mul_right_iff (by omega)
  simp only [h1, h2]

theorem toInt_G (s : Bool) (v : Nat) (hv : v < 9007199254740992) : (double.read (G s v)).toInt .zero = some (sg s v) := by
  obtain ⟨k, hk⟩ := read_G s v hv
  rw [hk]
  unfold Datum.toInt Datum.integral
  have hcut : Toward.zero.cut s ((v * 2 ^ k) <<< (-(k : Int)).toNat) (- -(k : Int)).toNat = v := by
    have e1 : (-(k : Int)).toNat = 0 := by omega
    have e2 : (- -(k : Int)).toNat = k := by omega
    rw [e1, e2, Nat.shiftLeft_eq, Nat.pow_zero, Nat.mul_one]
    by_cases h0 : v = 0
    · subst h0
      simp [Toward.cut]
    · exact cut_whole s v k .zero (Nat.mul_ne_zero h0 (Nat.pos_iff_ne_zero.1 (Nat.two_pow_pos _)))
  simp only [hcut]
  unfold signed sg
  simp [Nat.shiftLeft_zero]

theorem nearest_kept (s : Bool) (m : Nat) (e : Int) (q : Nat) (h0 : m ≠ 0) (he : e = -1074 + (q : Int)) (hm : m < 9007199254740992) (hq : q = 0 ∨ 4503599627370496 ≤ m) (hi : q * 4503599627370496 + m < 9218868437227405312) :
    double.nearest s m e = double.word s (q * 4503599627370496 + m) := by
  unfold Format.nearest
  have hL := log2_lt53 h0 hm
  rw [if_neg h0, leastPlace_double, fractionBits_double, binade_double, infRung_double]
  dsimp only
  have hlog : 4503599627370496 ≤ m → m.log2 = 52 := fun h => by
    have h1 : 52 ≤ m.log2 := (Nat.le_log2 h0).2 (by simpa using h)
    omega
  have hlast : max (e + (m.log2 : Int) - ((52 : Nat) : Int)) (-1074) = e := by
    rcases hq with h | h
    · omega
    · have := hlog h
      omega
  rw [hlast, Int.sub_self]
  have e1 : (e - -1074).toNat = q := by omega
  have hcut := cut_whole s m 0 .even (by rw [Nat.pow_zero, Nat.mul_one]; exact h0)
  rw [Nat.pow_zero, Nat.mul_one] at hcut
  rw [e1, show (0 : Int).toNat = 0 from rfl, Nat.shiftLeft_zero, hcut]
  exact congrArg (double.word s) (Nat.min_eq_left (Nat.le_of_lt hi))

theorem read_aux (r : Nat) (h1 : ¬ r < 4503599627370496) (h2 : r < 9218868437227405312) :
    (r / 4503599627370496 - 1) * 4503599627370496 + (4503599627370496 + r % 4503599627370496) = r ∧ 4503599627370496 + r % 4503599627370496 < 9007199254740992 := by omega

theorem word_back (x : Nat) (hx : x < 18446744073709551616) : double.word (x / double.signWeight % 2 == 1) (x % double.signWeight) = x := by
  unfold Format.word
  rw [signWeight_double]
  by_cases h : x / 9223372036854775808 % 2 = 1
  · simp only [h, beq_self_eq_true, if_true]; omega
  · have : (x / 9223372036854775808 % 2 == 1) = false := by simpa using h
    simp only [this, Bool.false_eq_true, if_false]; omega

/-- What a number's word is. -/
theorem read_number (x : Nat) (hx : x < 18446744073709551616) {s : Bool} {m : Nat} {e : Int} (h : double.read x = .number s m e) :
    double.nearest s m e = x ∧ m < 9007199254740992 ∧ (e = -1074 ∨ -1074 < e ∧ 4503599627370496 ≤ m) := by
  have hb := word_back x hx
  unfold Format.read at h
  dsimp only at h
  rw [binade_double, infRung_double, leastPlace_double] at h
  generalize (x / double.signWeight % 2 == 1) = sx at h hb
  generalize x % double.signWeight = r at h hb
  by_cases h1 : r < 4503599627370496
  · rw [if_pos h1] at h
    injection h with a b c
    subst a b c
    refine ⟨?_, by omega, .inl rfl⟩
    by_cases h0 : r = 0
    · subst h0
      rw [← hb]
      simp [Format.nearest]
    · have := nearest_kept sx r (-1074) 0 h0 (by omega) (by omega) (.inl rfl) (by omega)
      rw [this, Nat.zero_mul, Nat.zero_add, hb]
  · rw [if_neg h1] at h
    by_cases h2 : r < 9218868437227405312
    · rw [if_pos h2] at h
      injection h with a b c
      subst a b c
      obtain ⟨e1, e2⟩ := read_aux r h1 h2
      refine ⟨?_, e2, ?_⟩
      · have := nearest_kept sx (4503599627370496 + r % 4503599627370496) (-1074 + ((r / 4503599627370496 - 1 : Nat) : Int)) (r / 4503599627370496 - 1) (by omega) rfl e2 (.inr (by omega)) (by rw [e1]; exact h2)
        rw [this, e1, hb]
      · by_cases hq : r / 4503599627370496 - 1 = 0
        · left; rw [hq]; rfl
        · right; omega
    · rw [if_neg h2] at h
      by_cases h3 : r = 9218868437227405312
      · rw [if_pos h3] at h; cases h
      · rw [if_neg h3] at h; cases h

theorem signed_up (s : Bool) (m n : Nat) : signed s m n = sg s m * (2 ^ n : Nat) := by
  unfold signed sg
  rw [Nat.shiftLeft_eq]
  cases s <;> simp [Int.neg_mul]

theorem sg_le {s : Bool} {m : Nat} {a b : Nat} (h1 : sg s m * (a : Int) ≤ (b : Int)) (h2 : -(b : Int) ≤ sg s m * (a : Int)) : m * a ≤ b := by
  cases s
  · simp only [sg, Bool.false_eq_true, if_false] at h1
    exact_mod_cast h1
  · simp only [sg, if_true, Int.neg_mul] at h2
    have h3 : (m : Int) * (a : Int) ≤ (b : Int) := by omega
    exact_mod_cast h3

theorem cmp_ge {a b : Int} (h : some (compare a b) = some Ordering.gt ∨ some (compare a b) = some Ordering.eq) : b ≤ a := by
  simp only [Option.some.injEq, compare, compareOfLessAndEq] at h
  rcases Int.lt_or_le a b with c | c
  · simp [c] at h
  · exact c
theorem cmp_le {a b : Int} (h : some (compare a b) = some Ordering.lt ∨ some (compare a b) = some Ordering.eq) : a ≤ b := by
  simp only [Option.some.injEq, compare, compareOfLessAndEq] at h
  rcases Int.lt_or_le b a with c | c
  · have c1 : ¬ a < b := by omega
    have c2 : ¬ a = b := by omega
    simp [c1, c2] at h
  · exact c
theorem cmp_eq {a b : Int} (h : some (compare a b) = some Ordering.eq) : a = b := Int.le_antisymm (cmp_le (.inr h)) (cmp_ge (.inr h))

/-- Between two whole numbers: a number, whose size is told. -/
theorem between {x lim : Nat} (hl : lim < 9007199254740992)
    (h1 : double.order x (G true lim) = some .gt ∨ double.order x (G true lim) = some .eq) (h2 : double.order x (G false lim) = some .lt ∨ double.order x (G false lim) = some .eq) :
    ∃ s m e, double.read x = .number s m e ∧ (∀ n : Nat, e = (n : Int) → m * 2 ^ n ≤ lim) ∧ (∀ n : Nat, e = -(n : Int) → m ≤ lim * 2 ^ n) := by
  obtain ⟨k, hk⟩ := read_G true lim hl
  obtain ⟨j, hj⟩ := read_G false lim hl
  unfold Format.order at h1 h2
  rw [hk] at h1
  rw [hj] at h2
  cases hx : double.read x with
  | nan a b => rw [hx] at h1; simp [Datum.order] at h1
  | infinity a => rw [hx] at h1 h2; cases a <;> simp [Datum.order] at h1 h2
  | number s m e =>
    refine ⟨s, m, e, rfl, ?_, ?_⟩
    · rintro n rfl
      rw [hx] at h1 h2
      unfold Datum.order at h1 h2
      dsimp only at h1 h2
      have b1 : min (n : Int) (-(k : Int)) = -(k : Int) := by omega
      have b2 : min (n : Int) (-(j : Int)) = -(j : Int) := by omega
      rw [b1, signed_scaled true lim k k (Nat.le_refl _), signed_up, show ((n : Int) - -(k : Int)).toNat = n + k from by omega] at h1
      rw [b2, signed_scaled false lim j j (Nat.le_refl _), signed_up, show ((n : Int) - -(j : Int)).toNat = n + j from by omega] at h2
      have g1 : -(lim : Int) ≤ sg s m * ((2 ^ n : Nat) : Int) := by
        have h1' : sg true lim * ((2 ^ k : Nat) : Int) ≤ sg s m * ((2 ^ (n + k) : Nat) : Int) := cmp_ge h1
        rw [Nat.pow_add, Int.natCast_mul, ← Int.mul_assoc] at h1'
        have := Int.le_of_mul_le_mul_right h1' (pow_pos' k)
        simpa [sg] using this
      have g2 : sg s m * ((2 ^ n : Nat) : Int) ≤ (lim : Int) := by
        have h2' : sg s m * ((2 ^ (n + j) : Nat) : Int) ≤ sg false lim * ((2 ^ j : Nat) : Int) := cmp_le h2
        rw [Nat.pow_add, Int.natCast_mul, ← Int.mul_assoc] at h2'
        have := Int.le_of_mul_le_mul_right h2' (pow_pos' j)
        simpa [sg] using this
      exact sg_le g2 g1
    · rintro n rfl
      rw [hx] at h1 h2
      unfold Datum.order at h1 h2
      dsimp only at h1 h2
      have b1 : min (-(n : Int)) (-(k : Int)) = -((max n k : Nat) : Int) := by omega
      have b2 : min (-(n : Int)) (-(j : Int)) = -((max n j : Nat) : Int) := by omega
      have u : ∀ K, n ≤ K → signed s m (-(n : Int) - -(K : Int)).toNat * ((2 ^ n : Nat) : Int) = sg s m * ((2 ^ K : Nat) : Int) := fun K hK => by
        rw [signed_up, show (-(n : Int) - -(K : Int)).toNat = K - n from by omega, Int.mul_assoc, ← Int.natCast_mul, ← Nat.pow_add, show K - n + n = K from by omega]
      have u1 := u _ (Nat.le_max_left n k)
      have u2 := u _ (Nat.le_max_left n j)
      rw [b1, signed_scaled true lim k _ (Nat.le_max_right ..)] at h1
      rw [b2, signed_scaled false lim j _ (Nat.le_max_right ..)] at h2
      generalize signed s m (-(n : Int) - -((max n k : Nat) : Int)).toNat = A at h1 u1
      generalize signed s m (-(n : Int) - -((max n j : Nat) : Int)).toNat = B at h2 u2
      have g1 : -((lim * 2 ^ n : Nat) : Int) ≤ sg s m := by
        have h1' : sg true lim * ((2 ^ max n k : Nat) : Int) ≤ A := cmp_ge h1
        have h3 := Int.mul_le_mul_of_nonneg_right h1' (Int.le_of_lt (pow_pos' n))
        rw [u1, Int.mul_assoc, Int.mul_comm ((2 ^ max n k : Nat) : Int), ← Int.mul_assoc] at h3
        have := Int.le_of_mul_le_mul_right h3 (pow_pos' _)
        rw [Int.natCast_mul, ← Int.neg_mul]
        simpa only [sg, if_true] using this
      have g2 : sg s m ≤ ((lim * 2 ^ n : Nat) : Int) := by
        have h2' : B ≤ sg false lim * ((2 ^ max n j : Nat) : Int) := cmp_le h2
        have h3 := Int.mul_le_mul_of_nonneg_right h2' (Int.le_of_lt (pow_pos' n))
        rw [u2, Int.mul_assoc, Int.mul_comm ((2 ^ max n j : Nat) : Int), ← Int.mul_assoc] at h3
        have := Int.le_of_mul_le_mul_right h3 (pow_pos' _)
        simpa [sg] using this
      have := sg_le (s := s) (m := m) (a := 1) (b := lim * 2 ^ n) (by simpa using g2) (by simpa using g1)
      simpa using this

/-- What lies between two whole numbers is cut to one that does, too. -/
theorem cut_between {x lim : Nat} (hl : lim ≤ 9007199254740991)
    (h1 : double.order x (G true lim) = some .gt ∨ double.order x (G true lim) = some .eq) (h2 : double.order x (G false lim) = some .lt ∨ double.order x (G false lim) = some .eq) :
    ∃ t : Int, Go.floatToIntVal .f64 x .i64 = some t ∧ t.natAbs ≤ lim := by
  obtain ⟨s, m, e, hr, hn, hm⟩ := between (by omega) h1 h2
  have key : ∃ v, (double.read x).toInt .zero = some (sg s v) ∧ v ≤ lim := by
    rw [hr]
    unfold Datum.toInt Datum.integral
    rcases Int.eq_nat_or_neg e with ⟨n, rfl | rfl⟩
    · refine ⟨m * 2 ^ n, ?_, hn n rfl⟩
      have e1 : (-(n : Int)).toNat = 0 := by omega
      have hc : Toward.zero.cut s (m <<< (n : Int).toNat) (-(n : Int)).toNat = m * 2 ^ n := by
        rw [e1, Int.toNat_natCast, Nat.shiftLeft_eq]
        by_cases h0 : m * 2 ^ n = 0
        · rw [h0]; simp [Toward.cut]
        · have := cut_whole s (m * 2 ^ n) 0 .zero (by rw [Nat.pow_zero, Nat.mul_one]; exact h0)
          rwa [Nat.pow_zero, Nat.mul_one] at this
      simp only [hc]
      unfold signed sg
      simp
    · have hle := hm n rfl
      refine ⟨m / 2 ^ min n (m.log2 + 2), ?_, ?_⟩
      · have e1 : (-(n : Int)).toNat = 0 := by omega
        have e2 : (- -(n : Int)).toNat = n := by omega
        have hc : Toward.zero.cut s (m <<< (-(n : Int)).toNat) (- -(n : Int)).toNat = m / 2 ^ min n (m.log2 + 2) := by
          rw [e1, e2, Nat.shiftLeft_zero]
          simp [Toward.cut, Nat.one_shiftLeft]
        simp only [hc]
        unfold signed sg
        simp
      · by_cases hk : n ≤ m.log2 + 2
        · rw [Nat.min_eq_left hk]
          exact Nat.div_le_of_le_mul (by rw [Nat.mul_comm]; exact hle)
        · rw [Nat.min_eq_right (by omega)]
          have : m < 2 ^ (m.log2 + 2) := Nat.lt_of_lt_of_le (lt_pow_self m) (Nat.pow_le_pow_right (by omega) (by omega))
          rw [Nat.div_eq_of_lt this]
          omega
  obtain ⟨v, hv, hle⟩ := key
  refine ⟨sg s v, ?_, by rw [sg_natAbs]; exact hle⟩
  unfold Go.floatToIntVal
  have hv' : (Go.FloatKind.f64.decode x).toInt .zero = some (sg s v) := hv
  rw [hv']
  have : (Go.IntKind.i64.min ≤ sg s v ∧ sg s v ≤ Go.IntKind.i64.max) := by
    have := sg_natAbs s v
    have a1 : Go.IntKind.i64.min = -9223372036854775808 := by decide
    have a2 : Go.IntKind.i64.max = 9223372036854775807 := by decide
    rw [a1, a2]
    omega
  simp only [this, and_self, if_true]

/-- A float that is equal to a whole number is that number. -/
theorem isInt_of_eq {x : Nat} (hx : x < 18446744073709551616) {t : Bool} {u : Nat} (hu : u < 9007199254740992) (h : double.order x (G t u) = some .eq) : IsInt x (sg t u) := by
  obtain ⟨j, hj⟩ := read_G t u hu
  unfold Format.order at h
  rw [hj] at h
  cases hr : double.read x with
  | nan a b => rw [hr] at h; simp [Datum.order] at h
  | infinity a => rw [hr] at h; cases a <;> simp [Datum.order] at h
  | number s m e =>
    obtain ⟨hback, hm, he⟩ := read_number x hx hr
    rw [hr] at h
    unfold Datum.order at h
    dsimp only at h
    rcases Int.eq_nat_or_neg e with ⟨n, rfl | rfl⟩
    · have b1 : min (n : Int) (-(j : Int)) = -(j : Int) := by omega
      rw [b1, signed_scaled t u j j (Nat.le_refl _), signed_up, show ((n : Int) - -(j : Int)).toNat = n + j from by omega] at h
      have h' := cmp_eq h
      rw [Nat.pow_add, Int.natCast_mul, ← Int.mul_assoc] at h'
      have h3 := Int.eq_of_mul_eq_mul_right (Int.ne_of_gt (pow_pos' j)) h'
      have h4 : m * 2 ^ n = u := by
        have := congrArg Int.natAbs h3
        rwa [Int.natAbs_mul, sg_natAbs, sg_natAbs, Int.natAbs_natCast] at this
      rcases he with he | he
      · omega
      · by_cases hn0 : n = 0
        · subst hn0
          rw [Nat.pow_zero, Nat.mul_one] at h4
          have hg := nearest_scaled s m 0 hm
          rw [Nat.pow_zero, Nat.mul_one] at hg
          refine ⟨s, m, ?_, ?_, hm⟩
          · rw [← hback]; exact hg
          · simpa using h3.symm
        · exfalso
          have : 2 ^ 1 ≤ 2 ^ n := Nat.pow_le_pow_right (by omega) (by omega)
          have : 4503599627370496 * 2 ≤ m * 2 ^ n := Nat.mul_le_mul he.2 (by simpa using this)
          omega
    · have b1 : min (-(n : Int)) (-(j : Int)) = -((max n j : Nat) : Int) := by omega
      have u1 : signed s m (-(n : Int) - -((max n j : Nat) : Int)).toNat * ((2 ^ n : Nat) : Int) = sg s m * ((2 ^ max n j : Nat) : Int) := by
        have hK := Nat.le_max_left n j
        rw [signed_up, show (-(n : Int) - -((max n j : Nat) : Int)).toNat = max n j - n from by omega, Int.mul_assoc, ← Int.natCast_mul, ← Nat.pow_add, show max n j - n + n = max n j from by omega]
      rw [b1, signed_scaled t u j _ (Nat.le_max_right ..)] at h
      have h' := cmp_eq h
      rw [h'] at u1
      rw [Int.mul_assoc, Int.mul_comm ((2 ^ max n j : Nat) : Int), ← Int.mul_assoc] at u1
      have h3 := Int.eq_of_mul_eq_mul_right (Int.ne_of_gt (pow_pos' _)) u1
      have h4 : u * 2 ^ n = m := by
        have := congrArg Int.natAbs h3
        rwa [Int.natAbs_mul, sg_natAbs, sg_natAbs, Int.natAbs_natCast] at this
      refine ⟨s, u, ?_, ?_, hu⟩
      · rw [← hback, ← h4]; exact nearest_scaled s u n hu
      · have hp := pow_pos' n
        rw [← h4] at h3
        cases s <;> cases t <;> simp only [sg, Bool.false_eq_true, if_false, if_true, Int.natCast_mul, Int.neg_mul] at h3 ⊢ <;>
          (have hx0 : (0 : Int) ≤ (u : Int) * ((2 ^ n : Nat) : Int) := Int.mul_nonneg (by omega) (Int.le_of_lt hp)
           first | rfl | (have h5 : (u : Int) * ((2 ^ n : Nat) : Int) = 0 := by omega
                          rcases Int.mul_eq_zero.1 h5 with h6 | h6 <;> omega))
end Flt
