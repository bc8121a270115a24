import Derived.Test.YtjomgjlicfoehaaIsoB
namespace Go.Proofs.Ytjomgjlicfoehaa
open Go.RowKit Flt
attribute [local go_sem] run_store_float run_store_complex unary_neg_float unary_neg_complex

theorem fmul_int {p q : Nat} {a b : Int} (hp : IsInt p a) (hq : IsInt q b) (h : (a * b).natAbs < 9007199254740992) : ∃ r, floatBits .mul .f64 p q = some r ∧ IsInt r (a * b) := by
  obtain ⟨s, v, rfl, rfl, hv⟩ := hp
  obtain ⟨t, u, rfl, rfl, hu⟩ := hq
  rw [← sg_mul, sg_natAbs] at h
  exact ⟨_, mul_G s t v u hv hu h, _, _, rfl, (sg_mul s t v u).symm, h⟩
theorem fadd_int {p q : Nat} {a b : Int} (hp : IsInt p a) (hq : IsInt q b) (h : (a + b).natAbs < 9007199254740992) : ∃ r, floatBits .add .f64 p q = some r ∧ IsInt r (a + b) := by
  obtain ⟨s, v, rfl, rfl, hv⟩ := hp
  obtain ⟨t, u, rfl, rfl, hu⟩ := hq
  exact ⟨_, add_G s t v u hv hu h, _, _, rfl, (sg_if _ _).symm, h⟩
theorem fsub_int {p q : Nat} {a b : Int} (hp : IsInt p a) (hq : IsInt q b) (h : (a - b).natAbs < 9007199254740992) : ∃ r, floatBits .sub .f64 p q = some r ∧ IsInt r (a - b) := by
  obtain ⟨s, v, rfl, rfl, hv⟩ := hp
  obtain ⟨t, u, rfl, rfl, hu⟩ := hq
  exact ⟨_, sub_G s t v u hv hu h, _, _, rfl, (sg_if _ _).symm, h⟩
theorem fclean_int {p : Nat} {a : Int} (hp : IsInt p a) : floatBits .add .f64 p 0 = some (F a) := by
  obtain ⟨s, v, rfl, rfl, hv⟩ := hp
  have h := add_G s false v 0 hv (by omega) (by have : sg false 0 = 0 := rfl; rw [this, Int.add_zero, sg_natAbs]; exact hv)
  rw [← G_zero, show sg false 0 = 0 from rfl, Int.add_zero] at h
  show Ieee.double.add (G s v) 0 = _
  rw [h]
  unfold F
  by_cases h0 : sg s v = 0
  · simp [h0]
  · simp [h0]
theorem neg_int {p : Nat} {a : Int} (hp : IsInt p a) : IsInt (Op.negFloat .f64 p) (-a) := by
  obtain ⟨s, v, rfl, rfl, hv⟩ := hp
  refine ⟨!s, v, ?_, (sg_neg s v).symm, hv⟩
  have e : 2 ^ (FloatKind.f64.format.exponentBits + FloatKind.f64.format.fractionBits) = 9223372036854775808 := by decide +kernel
  unfold Op.negFloat
  rw [e]
  exact G_xor s hv

theorem tv_cases {k : Nat} (hk : k < 4) : (tvx k = 1 ∧ tvy k = 0) ∨ (tvx k = 0 ∧ tvy k = 1) ∨ (tvx k = -1 ∧ tvy k = 0) ∨ (tvx k = 0 ∧ tvy k = -1) := by
  match k, hk with
  | 0, _ => exact .inl ⟨rfl, rfl⟩
  | 1, _ => exact .inr (.inl ⟨rfl, rfl⟩)
  | 2, _ => exact .inr (.inr (.inl ⟨rfl, rfl⟩))
  | 3, _ => exact .inr (.inr (.inr ⟨rfl, rfl⟩))

theorem cmul_int {a b p q k : Nat} {u v : Int} (ht : IsTurn a b k) (hp : IsInt p u) (hq : IsInt q v) (hu : u.natAbs ≤ 4398046511104) (hv : v.natAbs ≤ 4398046511104) :
    ∃ re im, cMulBits a b p q = some (re, im) ∧ IsInt re (tvx k * u - tvy k * v) ∧ IsInt im (tvx k * v + tvy k * u) := by
  obtain ⟨hk, ha, hb⟩ := ht
  have hc := tv_cases hk
  generalize tvx k = x at *
  generalize tvy k = y at *
  have b1 : (x * u).natAbs ≤ 4398046511104 := by rcases hc with ⟨rfl, rfl⟩ | ⟨rfl, rfl⟩ | ⟨rfl, rfl⟩ | ⟨rfl, rfl⟩ <;> simp <;> omega
  have b2 : (y * v).natAbs ≤ 4398046511104 := by rcases hc with ⟨rfl, rfl⟩ | ⟨rfl, rfl⟩ | ⟨rfl, rfl⟩ | ⟨rfl, rfl⟩ <;> simp <;> omega
  have b3 : (x * v).natAbs ≤ 4398046511104 := by rcases hc with ⟨rfl, rfl⟩ | ⟨rfl, rfl⟩ | ⟨rfl, rfl⟩ | ⟨rfl, rfl⟩ <;> simp <;> omega
  have b4 : (y * u).natAbs ≤ 4398046511104 := by rcases hc with ⟨rfl, rfl⟩ | ⟨rfl, rfl⟩ | ⟨rfl, rfl⟩ | ⟨rfl, rfl⟩ <;> simp <;> omega
  obtain ⟨ac, e1, h1⟩ := fmul_int ha hp (by omega)
  obtain ⟨bd, e2, h2⟩ := fmul_int hb hq (by omega)
  obtain ⟨ad, e3, h3⟩ := fmul_int ha hq (by omega)
  obtain ⟨bc, e4, h4⟩ := fmul_int hb hp (by omega)
  obtain ⟨re, e5, h5⟩ := fsub_int h1 h2 (by omega)
  obtain ⟨im, e6, h6⟩ := fadd_int h3 h4 (by omega)
  refine ⟨re, im, ?_, h5, h6⟩
  simp [cMulBits, e1, e2, e3, e4, e5, e6]

theorem csum_int {a b c d : Nat} {x y u v : Int} (ha : IsInt a x) (hb : IsInt b y) (hc : IsInt c u) (hd : IsInt d v) (h1 : (x + u).natAbs < 9007199254740992) (h2 : (y + v).natAbs < 9007199254740992) :
    ∃ re im, cSumBits .add .f64 a b c d = some (re, im) ∧ IsInt re (x + u) ∧ IsInt im (y + v) := by
  obtain ⟨re, e1, k1⟩ := fadd_int ha hc h1
  obtain ⟨im, e2, k2⟩ := fadd_int hb hd h2
  exact ⟨re, im, by simp [cSumBits, e1, e2], k1, k2⟩

/-- What a map does to a number: the whole numbers of it. -/
def fl (f : Bool) (v : Int) : Int := if f then -v else v
def dox (k : Nat) (f : Bool) (x u v : Int) : Int := tvx k * u - tvy k * fl f v + x
def doy (k : Nat) (f : Bool) (y u v : Int) : Int := tvx k * fl f v + tvy k * u + y

set_option maxHeartbeats 400000 in
theorem conj_any (a b : Nat) (w : World) : Calls Try.prog 67 #[.complex .f64 a b] w fun e w' => e = .returned (.complex .f64 a (Op.negFloat .f64 b)) ∧ w = w' := by
  go_enter Try.func67, Try.ntmps67
  go_wp2
  go_ret
  exact ⟨rfl, rfl⟩

set_option maxHeartbeats 400000 in
theorem clean_int {a b : Nat} {x y : Int} (ha : IsInt a x) (hb : IsInt b y) (w : World) : Calls Try.prog 73 #[.complex .f64 a b] w fun e w' => e = .returned (.complex .f64 (F x) (F y)) ∧ w = w' := by
  have h1 := fun W t => run_float_arith (P := Try.prog) W .add t .f64 a 0 _ (fclean_int ha)
  have h2 := fun W t => run_float_arith (P := Try.prog) W .add t .f64 b 0 _ (fclean_int hb)
  clear ha hb
  go_enter Try.func73, Try.ntmps73
  go_wp2
  go_ret
  exact ⟨rfl, rfl⟩

set_option maxHeartbeats 400000 in
theorem made_int {a b c d : Nat} {p q x y : Int} (f : Bool) (ha : IsInt a p) (hb : IsInt b q) (hc : IsInt c x) (hd : IsInt d y) (w : World) :
    Calls Try.prog 62 #[.complex .f64 a b, .bool f, .complex .f64 c d] w fun e w' => e = .returned (.agg #[.complex .f64 (F p) (F q), .bool f, .complex .f64 (F x) (F y)]) ∧ Below w.heap.size w w' := by
  have H1 := fun W => clean_int ha hb W
  have H2 := fun W => clean_int hc hd W
  have K1 := Lib.hid H1
  have K2 := Lib.hid H2
  clear ha hb hc hd H1 H2
  go_enter Try.func62, Try.ntmps62
  go_wp2_with fail
  refine (K1.out _).mono ?_
  rintro e w1 ⟨rfl, rfl⟩
  go_wp2_with fail
  refine (K2.out _).mono ?_
  rintro e w1 ⟨rfl, rfl⟩
  go_wp2
  exact bodyPost_ret (v := .agg #[.complex .f64 (F p) (F q), .bool f, .complex .f64 (F x) (F y)]) (by simp [results, Try.results62, go_sem]) rfl ⟨rfl, below_new _⟩

/-- The answer of 'does'. -/
def CInt (x y : Int) (w : World) (e : Ending) (w' : World) : Prop := ∃ r i, e = .returned (.complex .f64 r i) ∧ IsInt r x ∧ IsInt i y ∧ Below w.heap.size w w'

set_option maxHeartbeats 400000 in
theorem does_int {a b c d p q k : Nat} {x y u v : Int} (f : Bool) (ht : IsTurn a b k) (hc : IsInt c x) (hd : IsInt d y) (hp : IsInt p u) (hq : IsInt q v)
    (hx : x.natAbs ≤ 4398046511104) (hy : y.natAbs ≤ 4398046511104) (hu : u.natAbs ≤ 4398046511104) (hv : v.natAbs ≤ 4398046511104) (w : World) :
    Calls Try.prog 58 #[.agg #[.complex .f64 a b, .bool f, .complex .f64 c d], .complex .f64 p q] w (CInt (dox k f x u v) (doy k f y u v) w) := by
  have hb4 : ∀ v' : Int, v'.natAbs ≤ 4398046511104 → (tvx k * u - tvy k * v' + x).natAbs < 9007199254740992 ∧ (tvx k * v' + tvy k * u + y).natAbs < 9007199254740992 := by
    intro v' hv'
    rcases tv_cases ht.1 with ⟨h1, h2⟩ | ⟨h1, h2⟩ | ⟨h1, h2⟩ | ⟨h1, h2⟩ <;> rw [h1, h2] <;> constructor <;> omega
  cases f
  · obtain ⟨re, im, e1, h1, h2⟩ := cmul_int ht hp hq hu hv
    obtain ⟨r, i, e2, h3, h4⟩ := csum_int h1 h2 hc hd (hb4 v hv).1 (hb4 v hv).2
    have m1 := fun W => run_complex_mul (P := Try.prog) W 36 a b p q re im e1
    have m2 := fun W => run_complex_sum (P := Try.prog) W .add (.inl rfl) 36 .f64 re im c d r i e2
    have hpost : ∀ w', Below w.heap.size w w' → CInt (dox k false x u v) (doy k false y u v) w (.returned (.complex .f64 r i)) w' := fun w' hb => ⟨r, i, rfl, by simpa [dox, fl] using h3, by simpa [doy, fl] using h4, hb⟩
    have hpost' := Lib.hid hpost
    clear hpost e1 h1 h2 e2 h3 h4 hb4 ht hc hd hp hq
    go_enter Try.func58, Try.ntmps58
    go_wp2
    go_ret
    exact hpost'.out _ (below_new _)
  · have hq' := neg_int hq
    obtain ⟨re, im, e1, h1, h2⟩ := cmul_int ht hp hq' hu (by omega)
    obtain ⟨r, i, e2, h3, h4⟩ := csum_int h1 h2 hc hd (hb4 (-v) (by omega)).1 (hb4 (-v) (by omega)).2
    have m1 := fun W => run_complex_mul (P := Try.prog) W 36 a b p _ re im e1
    have m2 := fun W => run_complex_sum (P := Try.prog) W .add (.inl rfl) 36 .f64 re im c d r i e2
    have hpost : ∀ w', Below w.heap.size w w' → CInt (dox k true x u v) (doy k true y u v) w (.returned (.complex .f64 r i)) w' := fun w' hb => ⟨r, i, rfl, by simpa [dox, fl] using h3, by simpa [doy, fl] using h4, hb⟩
    have hpost' := Lib.hid hpost
    clear hpost e1 h1 h2 e2 h3 h4 hb4 ht hc hd hp hq hq'
    go_enter Try.func58, Try.ntmps58
    go_wp2_with (go_at_call 67; refine (conj_any _ _ _).mono ?_; rintro e w' ⟨rfl, rfl⟩)
    go_ret
    exact hpost'.out _ (below_new _)
end Go.Proofs.Ytjomgjlicfoehaa
