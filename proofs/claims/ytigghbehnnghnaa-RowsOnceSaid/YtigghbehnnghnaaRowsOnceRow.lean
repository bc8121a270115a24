/- vivariumlaw20.RowsOnce returns true for every rule of births and stays, kind of strip, width and three lists of cells, and leaves what it was handed as it was; no condition. -/
import Derived.Test.YtigghbehnnghnaaRows
import Derived.Test.YtigghbehnnghnaaRmD
import Derived.Test.YtigghbehnnghnaaRowLaw
namespace Go.Proofs.Ytigghbehnnghnaa.RRowsOnce
open Go.ChangeShapes Go.WideShapes Go.RowKit Go.Joins Go.Deep Go.RowLaw
set_option linter.unusedVariables false

theorem cells5 : Try.prog.cellsOf 5 = 1 := by kernel_rfl
/-- A slice of bytes that came in. -/
theorem open_bytes {H : Type} {enc : TypeId × Value → H} {W : World} {n : Nat} {v : Value} {y : DataW H × List MemPlace} (h : DataW.trod enc Try.prog W 0 (fun _ => true) true n 53 [v] = some y) : ∃ l : List Nat, HasY W v l := by
  rcases open_ints Try.underlying53 Try.underlying5 cells5 h with ⟨hv, rfl⟩ | ⟨a, len, cap, zs, hv, _, hlc, hcm, hzl, rfl, hcell, hwf⟩
  · injection hv with hv
    subst hv
    exact ⟨[], HasY.nil W⟩
  · injection hv with hv
    subst hv
    have hzl' : zs.length = cap := by simpa using hzl
    have hlen : (zs.take len).length = len := by simp; omega
    have hl2 : ((zs.take len).map Int.toNat).length = len := by simpa using hlen
    have hz : ∀ i, i < zs.length → 0 ≤ zs.getD i 0 := fun i hi => by
      have := hwf (zs.getD i 0) (by simp [hi])
      simp [Lit.wf, IntKind.min, IntKind.max, IntKind.signed, IntKind.bits] at this
      simp
      omega
    refine ⟨(zs.take len).map Int.toNat, some a, cap, by rw [hl2], fun j hj => ?_⟩
    rw [hl2] at hj
    have h0 := hcell j (by omega)
    have hs : a.spot = none := by simpa [Addr.add] using World.cell?_spot (hcell 0 (by omega))
    obtain ⟨g, o, sp⟩ := a
    simp only at hs
    subst hs
    refine ⟨g, o, rfl, ?_⟩
    have e : (((zs.take len).map Int.toNat).getD j 0 : Nat) = (zs.getD j 0).toNat := by
      have : j < zs.length := by omega
      simp [hj, this]
    rw [e, Int.toNat_of_nonneg (hz j (by omega))]
    rw [Addr.add_lit] at h0
    exact h0
theorem own : ownKnob Try.prog.godebug = none := by kernel_rfl
theorem laid : laidOutB Try.prog = true := by kernel_rfl
theorem cells24 : Try.prog.cellsOf 24 = 3 := by kernel_rfl
theorem cells65 : Try.prog.cellsOf 65 = 3 := by kernel_rfl
theorem pars : ∀ t ∈ Try.f6.params.toList, Try.prog.readableRec t = true ∧ t < Try.prog.types.size := by
  rw [Try.params6]
  intro t ht
  simp at ht
  rcases ht with rfl | rfl | rfl | rfl
  · exact ⟨by kernel_rfl, of_decide_eq_true (by kernel_rfl)⟩
  · exact ⟨by kernel_rfl, of_decide_eq_true (by kernel_rfl)⟩
  · exact ⟨by kernel_rfl, of_decide_eq_true (by kernel_rfl)⟩
  · exact ⟨by kernel_rfl, of_decide_eq_true (by kernel_rfl)⟩

set_option maxRecDepth 100000 in
theorem lifted (os : Os) (started : os.Started) (H : Type) (enc : TypeId × Value → H) :
    ReturnsInHanded {} Try.checked os 6 .any (Rows.rowsOnceSpec.pre6 enc Try.prog Try.f6 Rows.rowsOnceRow.domain false) (Rows.rowsOnceSpec.post enc Try.prog Try.f6 false true false false) := by
  refine returnsInHanded_of_change (C := Try.checked) own started (by kernel_rfl) Try.func6
    (ChangeSpec.witness6 (enc := enc) (C := Try.checked) false ⟨#[], #[.agg #[.int .u8 0, .int .u16 0, .int .u16 0], .bool false, .int .i64 0, .agg #[.slice none 0 0, .slice none 0 0, .slice none 0 0]], []⟩ 8 (by kernel_rfl) (by kernel_rfl) (by kernel_rfl) (by kernel_rfl)) ?_
  intro W base args ds gs before hval0 hW hcnd _
  have hval : ∀ (j : Nat) t v, Try.f6.params[j]? = some t → args[j]? = some v → Value.okWide Try.prog W .any base t v := hval0
  have hW' := hW
  obtain ⟨p, q, hA0, hV, rfl, hfz, hnd⟩ := hW
  have hA : DataW.TrodAll enc Try.prog W 0 (fun _ => true) true Try.f6.params.toList args.toList ds p := hA0
  have hA1 := hA
  rw [Try.params6] at hA hval
  obtain ⟨v0, vs0, d0, ds0, p0, q0, hargs, rfl, rfl, h0, r0⟩ := trodAll_cons hA
  obtain ⟨v1, vs1, d1, ds1, p1, q1, rfl, rfl, rfl, h1, r1⟩ := trodAll_cons r0
  obtain ⟨v2, vs2, d2, ds2, p2, q2, rfl, rfl, rfl, h2, r2⟩ := trodAll_cons r1
  obtain ⟨v3, vs3, d3, ds3, p3, q3, rfl, rfl, rfl, h3, r3⟩ := trodAll_cons r2
  obtain ⟨rfl, rfl, rfl⟩ := trodAll_nil r3
  obtain rfl : args = #[v0, v1, v2, v3] := by cases args; simp_all
  obtain ⟨rfl, rfl⟩ := trodVars_none hV
  obtain ⟨c0_0, c0_1, c0_2, y0_0, y0_1, y0_2, n0, rfl, _, _, e0_0, e0_1, e0_2⟩ := open_agg3 Try.underlying24 (by kernel_rfl) cells24 (hval 0 24 v0 rfl rfl) h0
  obtain ⟨a0_0, g0_0, _, w0_0⟩ := DataW.trod_int Try.underlying5 e0_0
  obtain ⟨a0_1, g0_1, _, w0_1⟩ := DataW.trod_int Try.underlying22 e0_1
  obtain ⟨a0_2, g0_2, _, w0_2⟩ := DataW.trod_int Try.underlying22 e0_2
  simp only [List.cons.injEq, and_true] at g0_0 g0_1 g0_2
  subst g0_0 g0_1 g0_2
  have b0_1 : 0 ≤ a0_1 ∧ a0_1 < 65536 := by simp [Lit.wf, IntKind.min, IntKind.max, IntKind.signed, IntKind.bits] at w0_1; omega
  obtain ⟨born0, rfl⟩ : ∃ k : Nat, a0_1 = (k : Int) := ⟨a0_1.toNat, by omega⟩
  have b0_2 : 0 ≤ a0_2 ∧ a0_2 < 65536 := by simp [Lit.wf, IntKind.min, IntKind.max, IntKind.signed, IntKind.bits] at w0_2; omega
  obtain ⟨stay0, rfl⟩ : ∃ k : Nat, a0_2 = (k : Int) := ⟨a0_2.toNat, by omega⟩
  obtain ⟨a1, rfl, _⟩ := open_bool Try.underlying4 (hval 1 4 v1 rfl rfl) h1
  obtain ⟨a2, rfl, _, _, w2⟩ := open_int Try.underlying3 (hval 2 3 v2 rfl rfl) h2
  obtain ⟨c3_0, c3_1, c3_2, y3_0, y3_1, y3_2, n3, rfl, _, _, e3_0, e3_1, e3_2⟩ := open_agg3 Try.underlying65 (by kernel_rfl) cells65 (hval 3 65 v3 rfl rfl) h3
  obtain ⟨l3_0, k3_0⟩ := open_bytes e3_0
  obtain ⟨l3_1, k3_1⟩ := open_bytes e3_1
  obtain ⟨l3_2, k3_2⟩ := open_bytes e3_2
  simp only [List.append_nil] at hW' hA1
  refine (rowsOnce_walk (h := a0_0) (born := born0) (stay := stay0) (by omega) (by omega) a1 a2 W k3_0 k3_1 k3_2).mono fun e W' ⟨he, hb⟩ => ?_
  subst he
  exact ⟨_, rfl, law_post laid Try.underlying4 rfl rfl pars hW' hA1 rfl hb⟩

theorem proved : Rows.RowsOnceSaid :=
  OpenClaim.holds_of_wide 6 Try.f6 rfl rfl rfl rfl rfl rfl rfl ⟨rfl, rfl, rfl, rfl, rfl⟩ rfl rfl rfl rfl rfl (by kernel_rfl) Try.func6 (by kernel_rfl)
    (of_decide_eq_true (by kernel_rfl)) (by unfold Func.isWrapper; first | (rw [if_pos (by decide +kernel)]; kernel_rfl) | (rw [if_neg (by decide +kernel)]; exact ⟨rfl, rfl⟩))
    (fun os started H enc _ => lifted os started H enc)
#print axioms proved
end Go.Proofs.Ytigghbehnnghnaa.RRowsOnce
