import Derived.Test.YtjomgjlicfoehaaIsoA
import Derived.Handy
namespace Go.Proofs.Ytjomgjlicfoehaa
open Go.RowKit Flt
attribute [local go_sem] run_store_float run_store_complex unary_neg_float unary_neg_complex

theorem eqc_1 {a : Nat} {p : Int} (h : IsInt a p) : (FloatKind.f64.format.order 4607182418800017408 a == some .eq) = decide ((1 : Int) = p) := eq_int isInt_one h
theorem eqc_m {a : Nat} {p : Int} (h : IsInt a p) : (FloatKind.f64.format.order 13830554455654793216 a == some .eq) = decide ((-1 : Int) = p) := eq_int isInt_mone h
theorem eqc_0 {a : Nat} {p : Int} (h : IsInt a p) : (FloatKind.f64.format.order 0 a == some .eq) = decide ((0 : Int) = p) := eq_int isInt_zero h

/-- The two parts of a Turn. -/
def tvx (k : Nat) : Int := match k with | 0 => 1 | 2 => -1 | _ => 0
def tvy (k : Nat) : Int := match k with | 1 => 1 | 3 => -1 | _ => 0
/-- A Turn, in its parts. -/
def IsTurn (a b k : Nat) : Prop := k < 4 ∧ IsInt a (tvx k) ∧ IsInt b (tvy k)

def turnsV : Value := .agg #[.complex .f64 4607182418800017408 0, .complex .f64 0 4607182418800017408, .complex .f64 13830554455654793216 0, .complex .f64 0 13830554455654793216]

theorem below_new {w : World} (o : Obj) : Below w.heap.size w (w.alloc o) := (Below.refl _ _).alloc (Nat.le_refl _) _

set_option maxHeartbeats 400000 in
theorem turns_any (w : World) : Calls Try.prog 69 #[] w fun e w' => e = .returned turnsV ∧ Below w.heap.size w w' := by
  go_enter Try.func69, Try.ntmps69
  go_wp2
  exact bodyPost_ret (v := turnsV) (by simp [results, Try.results69, go_sem, turnsV]) rfl ⟨rfl, below_new _⟩

theorem tidx0 (w : World) : (Instr.index 107 turnsV (.int .i64 0)).run Try.prog w = .ok (.complex .f64 4607182418800017408 0) w := by kernel_rfl
theorem tidx1 (w : World) : (Instr.index 107 turnsV (.int .i64 1)).run Try.prog w = .ok (.complex .f64 0 4607182418800017408) w := by kernel_rfl
theorem tidx2 (w : World) : (Instr.index 107 turnsV (.int .i64 2)).run Try.prog w = .ok (.complex .f64 13830554455654793216 0) w := by kernel_rfl
theorem tidx3 (w : World) : (Instr.index 107 turnsV (.int .i64 3)).run Try.prog w = .ok (.complex .f64 0 13830554455654793216) w := by kernel_rfl

set_option maxRecDepth 10000 in
set_option maxHeartbeats 1000000 in
theorem quarter_walk (a b : Nat) (t0 t1 t2 t3 : Bool)
    (h0 : ((FloatKind.f64.format.order 4607182418800017408 a == some .eq) && (FloatKind.f64.format.order 0 b == some .eq)) = t0)
    (h1 : ((FloatKind.f64.format.order 0 a == some .eq) && (FloatKind.f64.format.order 4607182418800017408 b == some .eq)) = t1)
    (h2 : ((FloatKind.f64.format.order 13830554455654793216 a == some .eq) && (FloatKind.f64.format.order 0 b == some .eq)) = t2)
    (h3 : ((FloatKind.f64.format.order 0 a == some .eq) && (FloatKind.f64.format.order 13830554455654793216 b == some .eq)) = t3)
    (w : World) :
    Calls Try.prog 63 #[.complex .f64 a b] w fun e w' => e = .returned (if t0 then .tuple #[.int .i64 0, .bool true] else if t1 then .tuple #[.int .i64 1, .bool true] else if t2 then .tuple #[.int .i64 2, .bool true] else if t3 then .tuple #[.int .i64 3, .bool true] else .tuple #[.int .i64 0, .bool false]) ∧ Below w.heap.size w w' := by
  have i0 := tidx0
  have i1 := tidx1
  have i2 := tidx2
  have i3 := tidx3
  cases t0
  · cases t1
    · cases t2
      · cases t3
        · go_enter Try.func63, Try.ntmps63
          go_wp2_with (go_at_call 69; refine (turns_any _).mono ?_; rintro e w' ⟨rfl, hb⟩)
          go_rounds 5
          go_ret2
          exact ⟨rfl, by assumption⟩
        · go_enter Try.func63, Try.ntmps63
          go_wp2_with (go_at_call 69; refine (turns_any _).mono ?_; rintro e w' ⟨rfl, hb⟩)
          go_rounds 5
          go_ret2
          exact ⟨rfl, by assumption⟩
      · go_enter Try.func63, Try.ntmps63
        go_wp2_with (go_at_call 69; refine (turns_any _).mono ?_; rintro e w' ⟨rfl, hb⟩)
        go_rounds 4
        go_ret2
        exact ⟨rfl, by assumption⟩
    · go_enter Try.func63, Try.ntmps63
      go_wp2_with (go_at_call 69; refine (turns_any _).mono ?_; rintro e w' ⟨rfl, hb⟩)
      go_rounds 3
      go_ret2
      exact ⟨rfl, by assumption⟩
  · go_enter Try.func63, Try.ntmps63
    go_wp2_with (go_at_call 69; refine (turns_any _).mono ?_; rintro e w' ⟨rfl, hb⟩)
    go_rounds 2
    go_ret2
    exact ⟨rfl, by assumption⟩
end Go.Proofs.Ytjomgjlicfoehaa
