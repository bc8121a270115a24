/- 'IsoAts' answers true of every map and every place, and leaves them as they were: the program's 'At' and the document's answer agree. Conditions: none. -/
import Derived.Test.YtjomgjlicfoehaaRows
import Derived.Test.YtjomgjlicfoehaaIsoAts
import Derived.Test.YtjomgjlicfoehaaRowLaw
namespace Go.Proofs.Ytjomgjlicfoehaa
open Go.ChangeShapes Go.WideShapes Go.RowKit Go.Joins Go.Deep Go.RowLaw

theorem own05 : ownKnob Try.prog.godebug = none := by kernel_rfl
theorem laid05 : laidOutB Try.prog = true := by kernel_rfl
theorem cells34 : Try.prog.cellsOf 34 = 5 := by kernel_rfl
theorem cells30 : Try.prog.cellsOf 30 = 2 := by kernel_rfl
theorem pars4 : ∀ t ∈ Try.f4.params.toList, Try.prog.readableRec t = true ∧ t < Try.prog.types.size := by
  rw [Try.params4]
  intro t ht
  simp at ht
  rcases ht with rfl | rfl
  · exact ⟨by kernel_rfl, of_decide_eq_true (by kernel_rfl)⟩
  · exact ⟨by kernel_rfl, of_decide_eq_true (by kernel_rfl)⟩

set_option maxRecDepth 100000 in
theorem isoAts_lifted (os : Os) (started : os.Started) (H : Type) (enc : TypeId × Value → H) :
    ReturnsInHanded {} Try.checked os 4 .any (Rows.isoAtsSpec.pre6 enc Try.prog Try.f4 Rows.isoAtsRow.domain false) (Rows.isoAtsSpec.post enc Try.prog Try.f4 false true false false) := by
  refine returnsInHanded_of_change (C := Try.checked) own05 started (by kernel_rfl) Try.func4
    (ChangeSpec.witness6 (enc := enc) (C := Try.checked) false ⟨#[], #[.agg #[.float .f64 0, .float .f64 0, .bool false, .float .f64 0, .float .f64 0], .agg #[.int .i64 0, .int .i64 0]], []⟩ 8 (by kernel_rfl) (by kernel_rfl) (by kernel_rfl) (by kernel_rfl)) ?_
  intro W base args ds gs before hval0 hW hcnd _
  have hval : ∀ (j : Nat) t v, Try.f4.params[j]? = some t → args[j]? = some v → Value.okWide Try.prog W .any base t v := hval0
  have hW' := hW
  obtain ⟨p, q, hA0, hV, rfl, hfz, hnd⟩ := hW
  have hA : DataW.TrodAll enc Try.prog W 0 (fun _ => true) true Try.f4.params.toList args.toList ds p := hA0
  have hA1 := hA
  rw [Try.params4] at hA hval
  obtain ⟨v0, vs0, d0, ds0, p0, q0, hargs, rfl, rfl, h0, r0⟩ := trodAll_cons hA
  obtain ⟨v1, vs1, d1, ds1, p1, q1, rfl, rfl, rfl, h1, r1⟩ := trodAll_cons r0
  obtain ⟨rfl, rfl, rfl⟩ := trodAll_nil r1
  obtain rfl : args = #[v0, v1] := by cases args; simp_all
  obtain ⟨rfl, rfl⟩ := trodVars_none hV
  obtain ⟨c0, c1, c2, c3, c4, y0, y1, y2, y3, y4, n, rfl, _, _, e0, e1, e2, e3, e4⟩ := open_agg5 Try.underlying34 (by kernel_rfl) cells34 (hval 0 34 v0 rfl rfl) h0
  obtain ⟨b0, g0, _, w0⟩ := trod_float Try.underlying32 e0
  obtain ⟨b1, g1, _, w1⟩ := trod_float Try.underlying32 e1
  obtain ⟨b2, g2, _⟩ := DataW.trod_bool Try.underlying4 e2
  obtain ⟨b3, g3, _, w3⟩ := trod_float Try.underlying32 e3
  obtain ⟨b4, g4, _, w4⟩ := trod_float Try.underlying32 e4
  obtain ⟨c5, c6, y5, y6, n', rfl, _, _, e5, e6⟩ := open_agg2 Try.underlying30 (by kernel_rfl) cells30 (hval 1 30 v1 rfl rfl) h1
  obtain ⟨b5, g5, _, _⟩ := DataW.trod_int Try.underlying3 e5
  obtain ⟨b6, g6, _, _⟩ := DataW.trod_int Try.underlying3 e6
  simp only [List.cons.injEq, and_true] at g0 g1 g2 g3 g4 g5 g6
  subst g0 g1 g2 g3 g4 g5 g6
  simp only [List.append_nil] at hW' hA1
  refine (isoAts_walk b0 b1 b3 b4 b2 b5 b6 ⟨float64_lt w0, float64_lt w1, float64_lt w3, float64_lt w4⟩ W).mono fun e W' ⟨he, hb⟩ => ?_
  subst he
  exact ⟨_, rfl, law_post laid05 Try.underlying4 rfl rfl pars4 hW' hA1 rfl hb⟩

/-- ████ THE STATEMENT ████ -/
theorem isoAts_holds : Rows.IsoAtsSaid :=
  OpenClaim.holds_of_wide 4 Try.f4 rfl rfl rfl rfl rfl rfl rfl ⟨rfl, rfl, rfl, rfl, rfl⟩ rfl rfl rfl rfl rfl (by kernel_rfl) Try.func4 (by kernel_rfl)
    (of_decide_eq_true (by kernel_rfl)) (by unfold Func.isWrapper; first | (rw [if_pos (by decide +kernel)]; kernel_rfl) | (rw [if_neg (by decide +kernel)]; exact ⟨rfl, rfl⟩))
    (fun os started H enc _ => isoAts_lifted os started H enc)
#print axioms isoAts_holds
end Go.Proofs.Ytjomgjlicfoehaa
