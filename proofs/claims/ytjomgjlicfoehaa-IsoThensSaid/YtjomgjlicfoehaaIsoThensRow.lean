/- 'IsoThens' answers true of every two maps: Then and Same. Conditions: none. -/
import Derived.Test.YtjomgjlicfoehaaRows
import Derived.Test.YtjomgjlicfoehaaIsoR
import Derived.Test.YtjomgjlicfoehaaRowLaw
namespace Go.Proofs.Ytjomgjlicfoehaa.RIsoThens
open Go.ChangeShapes Go.WideShapes Go.RowKit Go.Joins Go.Deep Go.RowLaw
set_option linter.unusedVariables false

theorem own : ownKnob Try.prog.godebug = none := by kernel_rfl
theorem laid : laidOutB Try.prog = true := by kernel_rfl
theorem cells34 : Try.prog.cellsOf 34 = 5 := by kernel_rfl
theorem pars : ∀ t ∈ Try.f8.params.toList, Try.prog.readableRec t = true ∧ t < Try.prog.types.size := by
  rw [Try.params8]
  intro t ht
  simp at ht
  subst ht
  exact ⟨by kernel_rfl, of_decide_eq_true (by kernel_rfl)⟩

set_option maxRecDepth 100000 in
theorem lifted (os : Os) (started : os.Started) (H : Type) (enc : TypeId × Value → H) :
    ReturnsInHanded {} Try.checked os 8 .any (Rows.isoThensSpec.pre6 enc Try.prog Try.f8 Rows.isoThensRow.domain false) (Rows.isoThensSpec.post enc Try.prog Try.f8 false true false false) := by
  refine returnsInHanded_of_change (C := Try.checked) own started (by kernel_rfl) Try.func8
    (ChangeSpec.witness6 (enc := enc) (C := Try.checked) false ⟨#[], #[.agg #[.float .f64 0, .float .f64 0, .bool false, .float .f64 0, .float .f64 0], .agg #[.float .f64 0, .float .f64 0, .bool false, .float .f64 0, .float .f64 0]], []⟩ 8 (by kernel_rfl) (by kernel_rfl) (by kernel_rfl) (by kernel_rfl)) ?_
  intro W base args ds gs before hval0 hW hcnd _
  have hval : ∀ (j : Nat) t v, Try.f8.params[j]? = some t → args[j]? = some v → Value.okWide Try.prog W .any base t v := hval0
  have hW' := hW
  obtain ⟨p, q, hA0, hV, rfl, hfz, hnd⟩ := hW
  have hA : DataW.TrodAll enc Try.prog W 0 (fun _ => true) true Try.f8.params.toList args.toList ds p := hA0
  have hA1 := hA
  rw [Try.params8] at hA hval
  obtain ⟨v0, vs0, d0, ds0, p0, q0, hargs, rfl, rfl, h0, r0⟩ := trodAll_cons hA
  obtain ⟨v1, vs1, d1, ds1, p1, q1, rfl, rfl, rfl, h1, r1⟩ := trodAll_cons r0
  obtain ⟨rfl, rfl, rfl⟩ := trodAll_nil r1
  obtain rfl : args = #[v0, v1] := by cases args; simp_all
  obtain ⟨rfl, rfl⟩ := trodVars_none hV
  obtain ⟨c0_0, c0_1, c0_2, c0_3, c0_4, y0_0, y0_1, y0_2, y0_3, y0_4, n0, rfl, _, _, e0_0, e0_1, e0_2, e0_3, e0_4⟩ := open_agg5 Try.underlying34 (by kernel_rfl) cells34 (hval 0 34 v0 rfl rfl) h0
  obtain ⟨a0_0, g0_0, _, w0_0⟩ := trod_float Try.underlying32 e0_0
  obtain ⟨a0_1, g0_1, _, w0_1⟩ := trod_float Try.underlying32 e0_1
  obtain ⟨a0_3, g0_3, _, w0_3⟩ := trod_float Try.underlying32 e0_3
  obtain ⟨a0_4, g0_4, _, w0_4⟩ := trod_float Try.underlying32 e0_4
  obtain ⟨a0_2, g0_2, _⟩ := DataW.trod_bool Try.underlying4 e0_2
  simp only [List.cons.injEq, and_true] at g0_0 g0_1 g0_2 g0_3 g0_4
  subst g0_0 g0_1 g0_2 g0_3 g0_4
  obtain ⟨c1_0, c1_1, c1_2, c1_3, c1_4, y1_0, y1_1, y1_2, y1_3, y1_4, n1, rfl, _, _, e1_0, e1_1, e1_2, e1_3, e1_4⟩ := open_agg5 Try.underlying34 (by kernel_rfl) cells34 (hval 1 34 v1 rfl rfl) h1
  obtain ⟨a1_0, g1_0, _, w1_0⟩ := trod_float Try.underlying32 e1_0
  obtain ⟨a1_1, g1_1, _, w1_1⟩ := trod_float Try.underlying32 e1_1
  obtain ⟨a1_3, g1_3, _, w1_3⟩ := trod_float Try.underlying32 e1_3
  obtain ⟨a1_4, g1_4, _, w1_4⟩ := trod_float Try.underlying32 e1_4
  obtain ⟨a1_2, g1_2, _⟩ := DataW.trod_bool Try.underlying4 e1_2
  simp only [List.cons.injEq, and_true] at g1_0 g1_1 g1_2 g1_3 g1_4
  subst g1_0 g1_1 g1_2 g1_3 g1_4
  simp only [List.append_nil] at hW' hA1
  refine (isoThens_walk a0_0 a0_1 a0_3 a0_4 a1_0 a1_1 a1_3 a1_4 a0_2 a1_2 ⟨float64_lt w0_0, float64_lt w0_1, float64_lt w0_3, float64_lt w0_4⟩ ⟨float64_lt w1_0, float64_lt w1_1, float64_lt w1_3, float64_lt w1_4⟩ W).mono fun e W' ⟨he, hb⟩ => ?_
  subst he
  exact ⟨_, rfl, law_post laid Try.underlying4 rfl rfl pars hW' hA1 rfl hb⟩

theorem proved : Rows.IsoThensSaid :=
  OpenClaim.holds_of_wide 8 Try.f8 rfl rfl rfl rfl rfl rfl rfl ⟨rfl, rfl, rfl, rfl, rfl⟩ rfl rfl rfl rfl rfl (by kernel_rfl) Try.func8 (by kernel_rfl)
    (of_decide_eq_true (by kernel_rfl)) (by unfold Func.isWrapper; first | (rw [if_pos (by decide +kernel)]; kernel_rfl) | (rw [if_neg (by decide +kernel)]; exact ⟨rfl, rfl⟩))
    (fun os started H enc _ => lifted os started H enc)
#print axioms proved
end Go.Proofs.Ytjomgjlicfoehaa.RIsoThens
