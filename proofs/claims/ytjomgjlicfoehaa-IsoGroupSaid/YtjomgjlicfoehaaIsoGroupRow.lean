/- 'IsoGroup' answers true of all numbers and places: maps of the plane make a group. Conditions: none. -/
import Derived.Test.YtjomgjlicfoehaaRows
import Derived.Test.YtjomgjlicfoehaaIsoT
import Derived.Test.YtjomgjlicfoehaaRowLaw
namespace Go.Proofs.Ytjomgjlicfoehaa.RIsoGroup
open Go.ChangeShapes Go.WideShapes Go.RowKit Go.Joins Go.Deep Go.RowLaw
set_option linter.unusedVariables false

theorem own : ownKnob Try.prog.godebug = none := by kernel_rfl
theorem laid : laidOutB Try.prog = true := by kernel_rfl
theorem cells50 : Try.prog.cellsOf 50 = 3 := by kernel_rfl
theorem cells30 : Try.prog.cellsOf 30 = 2 := by kernel_rfl
theorem pars : ∀ t ∈ Try.f12.params.toList, Try.prog.readableRec t = true ∧ t < Try.prog.types.size := by
  rw [Try.params12]
  intro t ht
  simp at ht
  rcases ht with rfl | rfl
  · exact ⟨by kernel_rfl, of_decide_eq_true (by kernel_rfl)⟩
  · exact ⟨by kernel_rfl, of_decide_eq_true (by kernel_rfl)⟩

set_option maxRecDepth 100000 in
theorem lifted (os : Os) (started : os.Started) (H : Type) (enc : TypeId × Value → H) :
    ReturnsInHanded {} Try.checked os 12 .any (Rows.isoGroupSpec.pre6 enc Try.prog Try.f12 Rows.isoGroupRow.domain false) (Rows.isoGroupSpec.post enc Try.prog Try.f12 false true false false) := by
  refine returnsInHanded_of_change (C := Try.checked) own started (by kernel_rfl) Try.func12
    (ChangeSpec.witness6 (enc := enc) (C := Try.checked) false ⟨#[], #[.agg #[.int .i64 0, .int .i64 0, .int .i64 0], .agg #[.int .i64 0, .int .i64 0, .int .i64 0], .agg #[.int .i64 0, .int .i64 0, .int .i64 0], .agg #[.int .i64 0, .int .i64 0]], []⟩ 8 (by kernel_rfl) (by kernel_rfl) (by kernel_rfl) (by kernel_rfl)) ?_
  intro W base args ds gs before hval0 hW hcnd _
  have hval : ∀ (j : Nat) t v, Try.f12.params[j]? = some t → args[j]? = some v → Value.okWide Try.prog W .any base t v := hval0
  have hW' := hW
  obtain ⟨p, q, hA0, hV, rfl, hfz, hnd⟩ := hW
  have hA : DataW.TrodAll enc Try.prog W 0 (fun _ => true) true Try.f12.params.toList args.toList ds p := hA0
  have hA1 := hA
  rw [Try.params12] at hA hval
  obtain ⟨v0, vs0, d0, ds0, p0, q0, hargs, rfl, rfl, h0, r0⟩ := trodAll_cons hA
  obtain ⟨v1, vs1, d1, ds1, p1, q1, rfl, rfl, rfl, h1, r1⟩ := trodAll_cons r0
  obtain ⟨v2, vs2, d2, ds2, p2, q2, rfl, rfl, rfl, h2, r2⟩ := trodAll_cons r1
  obtain ⟨v3, vs3, d3, ds3, p3, q3, rfl, rfl, rfl, h3, r3⟩ := trodAll_cons r2
  obtain ⟨rfl, rfl, rfl⟩ := trodAll_nil r3
  obtain rfl : args = #[v0, v1, v2, v3] := by cases args; simp_all
  obtain ⟨rfl, rfl⟩ := trodVars_none hV
  obtain ⟨c0_0, c0_1, c0_2, y0_0, y0_1, y0_2, n0, rfl, _, _, e0_0, e0_1, e0_2⟩ := open_agg3 Try.underlying50 (by kernel_rfl) cells50 (hval 0 50 v0 rfl rfl) h0
  obtain ⟨a0_0, g0_0, _, w0_0⟩ := DataW.trod_int Try.underlying3 e0_0
  obtain ⟨a0_1, g0_1, _, w0_1⟩ := DataW.trod_int Try.underlying3 e0_1
  obtain ⟨a0_2, g0_2, _, w0_2⟩ := DataW.trod_int Try.underlying3 e0_2
  simp only [List.cons.injEq, and_true] at g0_0 g0_1 g0_2
  subst g0_0 g0_1 g0_2
  obtain ⟨c1_0, c1_1, c1_2, y1_0, y1_1, y1_2, n1, rfl, _, _, e1_0, e1_1, e1_2⟩ := open_agg3 Try.underlying50 (by kernel_rfl) cells50 (hval 1 50 v1 rfl rfl) h1
  obtain ⟨a1_0, g1_0, _, w1_0⟩ := DataW.trod_int Try.underlying3 e1_0
  obtain ⟨a1_1, g1_1, _, w1_1⟩ := DataW.trod_int Try.underlying3 e1_1
  obtain ⟨a1_2, g1_2, _, w1_2⟩ := DataW.trod_int Try.underlying3 e1_2
  simp only [List.cons.injEq, and_true] at g1_0 g1_1 g1_2
  subst g1_0 g1_1 g1_2
  obtain ⟨c2_0, c2_1, c2_2, y2_0, y2_1, y2_2, n2, rfl, _, _, e2_0, e2_1, e2_2⟩ := open_agg3 Try.underlying50 (by kernel_rfl) cells50 (hval 2 50 v2 rfl rfl) h2
  obtain ⟨a2_0, g2_0, _, w2_0⟩ := DataW.trod_int Try.underlying3 e2_0
  obtain ⟨a2_1, g2_1, _, w2_1⟩ := DataW.trod_int Try.underlying3 e2_1
  obtain ⟨a2_2, g2_2, _, w2_2⟩ := DataW.trod_int Try.underlying3 e2_2
  simp only [List.cons.injEq, and_true] at g2_0 g2_1 g2_2
  subst g2_0 g2_1 g2_2
  obtain ⟨c3_0, c3_1, y3_0, y3_1, n3, rfl, _, _, e3_0, e3_1⟩ := open_agg2 Try.underlying30 (by kernel_rfl) cells30 (hval 3 30 v3 rfl rfl) h3
  obtain ⟨a3_0, g3_0, _, w3_0⟩ := DataW.trod_int Try.underlying3 e3_0
  obtain ⟨a3_1, g3_1, _, w3_1⟩ := DataW.trod_int Try.underlying3 e3_1
  simp only [List.cons.injEq, and_true] at g3_0 g3_1
  subst g3_0 g3_1
  simp only [List.append_nil] at hW' hA1
  refine (isoGroup_walk a0_0 a0_1 a0_2 a1_0 a1_1 a1_2 a2_0 a2_1 a2_2 a3_0 a3_1 W).mono fun e W' ⟨he, hb⟩ => ?_
  subst he
  exact ⟨_, rfl, law_post laid Try.underlying4 rfl rfl pars hW' hA1 rfl hb⟩

theorem proved : Rows.IsoGroupSaid :=
  OpenClaim.holds_of_wide 12 Try.f12 rfl rfl rfl rfl rfl rfl rfl ⟨rfl, rfl, rfl, rfl, rfl⟩ rfl rfl rfl rfl rfl (by kernel_rfl) Try.func12 (by kernel_rfl)
    (of_decide_eq_true (by kernel_rfl)) (by unfold Func.isWrapper; first | (rw [if_pos (by decide +kernel)]; kernel_rfl) | (rw [if_neg (by decide +kernel)]; exact ⟨rfl, rfl⟩))
    (fun os started H enc _ => lifted os started H enc)
#print axioms proved
end Go.Proofs.Ytjomgjlicfoehaa.RIsoGroup
