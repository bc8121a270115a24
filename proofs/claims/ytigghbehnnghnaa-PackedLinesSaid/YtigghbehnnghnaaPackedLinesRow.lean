/- vivariumlaw16.PackedLines returns true for every rule of births and stays and every three rows, and leaves what it was handed as it was; no condition. -/
import Derived.Test.YtigghbehnnghnaaRows
import Derived.Test.YtigghbehnnghnaaPkS
import Derived.Test.YtigghbehnnghnaaRowLaw
import Derived.SizedLaws
import Derived.ChangeSlices
namespace Go.Proofs.Ytigghbehnnghnaa.RPackedLines
open Go.ChangeShapes Go.WideShapes Go.RowKit Go.Joins Go.Deep Go.RowLaw Go.RowBits
set_option linter.unusedVariables false
set_option linter.unusedSimpArgs false

theorem own : ownKnob Try.prog.godebug = none := by kernel_rfl
theorem laid : laidOutB Try.prog = true := by kernel_rfl
theorem cells24 : Try.prog.cellsOf 24 = 3 := by kernel_rfl
theorem cells27 : Try.prog.cellsOf 27 = 2 := by kernel_rfl
theorem cells33 : Try.prog.cellsOf 33 = 1 := by kernel_rfl
theorem bytes33 : Try.prog.bytesOf 33 = 8 := by kernel_rfl
theorem pars : ∀ t ∈ Try.f3.params.toList, Try.prog.readableRec t = true ∧ t < Try.prog.types.size := by
  rw [Try.params3]
  intro t ht
  simp at ht
  rcases ht with rfl | rfl
  · exact ⟨by kernel_rfl, of_decide_eq_true (by kernel_rfl)⟩
  · exact ⟨by kernel_rfl, of_decide_eq_true (by kernel_rfl)⟩

/-- A slice of words that came in. -/
theorem open_words {H : Type} {enc : TypeId × Value → H} {W : World} {n : Nat} {v : Value} {y : DataW H × List MemPlace} (h : DataW.trod enc Try.prog W 0 (fun _ => true) true n 25 [v] = some y)
    (hw : ∀ k ∈ y.1.weights Try.prog 25, k ≤ reachBytes) :
    ∃ ws : List Nat, HasW W v ws ∧ W64 ws ∧ ws.length * 8 + 16 ≤ 140737488355328 ∧ (v = .slice none 0 0 ∨ ∃ a c, v = .slice (some a) ws.length c) := by
  rcases open_ints Try.underlying25 Try.underlying33 cells33 h with ⟨hv, rfl⟩ | ⟨a, len, cap, zs, hv, _, hlc, hcm, hzl, rfl, hcell, hwf⟩
  · injection hv with hv
    subst hv
    exact ⟨[], HasW.nil W, fun j => by simp, by simp, .inl rfl⟩
  · injection hv with hv
    subst hv
    have hzl' : zs.length = cap := by simpa using hzl
    have hb := hw ((zs.take len).length * 8 + (zs.drop len).length * 8) (by simp [DataW.weights, Try.underlying25, bytes33, lits]; try omega)
    have hlen : (zs.take len).length = len := by simp; omega
    have hl2 : ((zs.take len).map Int.toNat).length = len := by simpa using hlen
    have hz : ∀ i, i < zs.length → 0 ≤ zs.getD i 0 ∧ zs.getD i 0 < 18446744073709551616 := fun i hi => by
      have := hwf (zs.getD i 0) (by simp [hi])
      simp [Lit.wf, IntKind.min, IntKind.max, IntKind.signed, IntKind.bits] at this
      simp
      omega
    refine ⟨(zs.take len).map Int.toNat, ⟨some a, cap, by rw [hl2], fun j hj => ?_⟩, fun j => ?_, ?_, .inr ⟨a, cap, by rw [hl2]⟩⟩
    · rw [hl2] at hj
      have h0 := hcell j (by omega)
      have hs : a.spot = none := by simpa [Addr.add] using World.cell?_spot (hcell 0 (by omega))
      obtain ⟨g, o, sp⟩ := a
      simp only at hs
      subst hs
      refine ⟨g, o, rfl, ?_⟩
      have e : (((zs.take len).map Int.toNat).getD j 0 : Nat) = (zs.getD j 0).toNat := by
        have : j < zs.length := by omega
        simp [hj, this]
      rw [e, Int.toNat_of_nonneg (hz j (by omega)).1]
      rw [Addr.add_lit] at h0
      exact h0
    · by_cases hj : j < len
      · have e : (((zs.take len).map Int.toNat).getD j 0 : Nat) = (zs.getD j 0).toNat := by
          have : j < zs.length := by omega
          simp [hj, this]
        rw [e]
        have := hz j (by omega)
        unfold U
        omega
      · have : ((zs.take len).map Int.toNat).length ≤ j := by omega
        rw [show ((zs.take len).map Int.toNat).getD j 0 = 0 from by unfold List.getD; rw [List.getElem?_eq_none this]; rfl]
        decide
    · rw [hl2]
      unfold reachBytes at hb
      omega

set_option maxRecDepth 100000 in
theorem lifted (os : Os) (started : os.Started) (H : Type) (enc : TypeId × Value → H) :
    ReturnsInHanded {} Try.checked os 3 .any (Rows.packedLinesSpec.pre6 enc Try.prog Try.f3 Rows.packedLinesRow.domain false) (Rows.packedLinesSpec.post enc Try.prog Try.f3 false true false false) := by
  refine returnsInHanded_of_change_sized (C := Try.checked) own started (by kernel_rfl) Try.func3
    (ChangeSpec.witness6 (enc := enc) (C := Try.checked) false ⟨#[], #[.agg #[.int .u8 0, .int .u16 0, .int .u16 0], .agg #[.int .i64 0, .slice none 0 0], .agg #[.int .i64 0, .slice none 0 0], .agg #[.int .i64 0, .slice none 0 0]], []⟩ 8 (by kernel_rfl) (by kernel_rfl) (by kernel_rfl) (by kernel_rfl)) ?_
  intro W base args ds gs before hval0 hW hcnd hsz0 _
  have hval : ∀ (j : Nat) t v, Try.f3.params[j]? = some t → args[j]? = some v → Value.okWide Try.prog W .any base t v := hval0
  have hsz : (DataW.weightsEach Try.prog (Try.f3.params.toList ++ Rows.packedLinesSpec.plain.varTypes Try.prog) (ds ++ gs)).all (· ≤ reachBytes) = true := hsz0
  have hW' := hW
  obtain ⟨p, q, hA0, hV, rfl, hfz, hnd⟩ := hW
  have hA : DataW.TrodAll enc Try.prog W 0 (fun _ => true) true Try.f3.params.toList args.toList ds p := hA0
  have hA1 := hA
  rw [Try.params3] at hA hval hsz
  obtain ⟨v0, vs0, d0, ds0, p0, q0, hargs, rfl, rfl, h0, r0⟩ := trodAll_cons hA
  obtain ⟨v1, vs1, d1, ds1, p1, q1, rfl, rfl, rfl, h1, r1⟩ := trodAll_cons r0
  obtain ⟨v2, vs2, d2, ds2, p2, q2, rfl, rfl, rfl, h2, r2⟩ := trodAll_cons r1
  obtain ⟨v3, vs3, d3, ds3, p3, q3, rfl, rfl, rfl, h3, r3⟩ := trodAll_cons r2
  obtain ⟨rfl, rfl, rfl⟩ := trodAll_nil r3
  obtain rfl : args = #[v0, v1, v2, v3] := by cases args; simp_all
  obtain ⟨rfl, rfl⟩ := trodVars_none hV
  obtain ⟨c0_0, c0_1, c0_2, y0_0, y0_1, y0_2, n0, rfl, _, _, e0_0, e0_1, e0_2⟩ := open_agg3 Try.underlying24 (by kernel_rfl) cells24 (hval 0 24 v0 rfl rfl) h0
  obtain ⟨a0_0, g0_0, _, w0_0⟩ := DataW.trod_int Try.underlying5 e0_0
  obtain ⟨a0_1, g0_1, _, w0_1⟩ := DataW.trod_int Try.underlying22 e0_1
  obtain ⟨a0_2, g0_2, _, w0_2⟩ := DataW.trod_int Try.underlying22 e0_2
  simp only [List.cons.injEq, and_true] at g0_0 g0_1 g0_2
  subst g0_0 g0_1 g0_2
  have b1 : 0 ≤ a0_1 ∧ a0_1 < 65536 := by simp [Lit.wf, IntKind.min, IntKind.max, IntKind.signed, IntKind.bits] at w0_1; omega
  have b2 : 0 ≤ a0_2 ∧ a0_2 < 65536 := by simp [Lit.wf, IntKind.min, IntKind.max, IntKind.signed, IntKind.bits] at w0_2; omega
  obtain ⟨born, rfl⟩ : ∃ k : Nat, a0_1 = (k : Int) := ⟨a0_1.toNat, by omega⟩
  obtain ⟨stay, rfl⟩ : ∃ k : Nat, a0_2 = (k : Int) := ⟨a0_2.toNat, by omega⟩
  obtain ⟨c1_0, c1_1, y1_0, y1_1, n1, rfl, rfl, _, e1_0, e1_1⟩ := open_agg2 Try.underlying27 (by kernel_rfl) cells27 (hval 1 27 v1 rfl rfl) h1
  obtain ⟨a1_0, g1_0, _, w1_0⟩ := DataW.trod_int Try.underlying3 e1_0
  obtain ⟨c2_0, c2_1, y2_0, y2_1, n2, rfl, rfl, _, e2_0, e2_1⟩ := open_agg2 Try.underlying27 (by kernel_rfl) cells27 (hval 2 27 v2 rfl rfl) h2
  obtain ⟨a2_0, g2_0, _, w2_0⟩ := DataW.trod_int Try.underlying3 e2_0
  obtain ⟨c3_0, c3_1, y3_0, y3_1, n3, rfl, rfl, _, e3_0, e3_1⟩ := open_agg2 Try.underlying27 (by kernel_rfl) cells27 (hval 3 27 v3 rfl rfl) h3
  obtain ⟨a3_0, g3_0, _, w3_0⟩ := DataW.trod_int Try.underlying3 e3_0
  simp only [List.cons.injEq, and_true] at g1_0 g2_0 g3_0
  subst g1_0 g2_0 g3_0
  have hx : ∀ (j : Nat) (y0 y1 : DataW H), ([24, 27, 27, 27] ++ Rows.packedLinesSpec.plain.varTypes Try.prog)[j]? = some 27 → ([d0, DataW.agg [y1_0.1, y1_1.1], DataW.agg [y2_0.1, y2_1.1], DataW.agg [y3_0.1, y3_1.1]] ++ [])[j]? = some (DataW.agg [y0, y1]) → ∀ k ∈ y1.weights Try.prog 25, k ≤ reachBytes := fun j y0 y1 ht hd k hk => by
    have := List.all_eq_true.1 hsz k (DataW.weights_mem_each ht hd k (by
      simp only [DataW.weights, Try.underlying27, List.map_cons, List.map_nil, DataW.weightsEach, List.mem_append]
      exact .inr (.inl hk)))
    simpa using this
  obtain ⟨R0, k0, f0, l0, n0'⟩ := open_words e1_1 (hx 1 _ _ rfl rfl)
  obtain ⟨R1, k1, f1, l1, n1'⟩ := open_words e2_1 (hx 2 _ _ rfl rfl)
  obtain ⟨R2, k2, f2, l2, n2'⟩ := open_words e3_1 (hx 3 _ _ rfl rfl)
  simp only [List.append_nil] at hW' hA1
  refine (packedLines_walk (w := W) (hood := a0_0) (born := born) (stay := stay) (by omega) (by omega) (fn3 a1_0 a2_0 a3_0) (fn3 c1_1 c2_1 c3_1) (fn3 R0 R1 R2) (fun j hj => by
    match j, hj with
    | 0, _ => exact k0
    | 1, _ => exact k1
    | 2, _ => exact k2) (fun j hj => by
    match j, hj with
    | 0, _ => exact f0
    | 1, _ => exact f1
    | 2, _ => exact f2) (fun j hj => by
    match j, hj with
    | 0, _ => exact l0
    | 1, _ => exact l1
    | 2, _ => exact l2) (fun j hj => by
    match j, hj with
    | 0, _ => exact n0'
    | 1, _ => exact n1'
    | 2, _ => exact n2')).mono fun e W' ⟨he, hb⟩ => ?_
  subst he
  exact ⟨_, rfl, law_post laid Try.underlying4 rfl rfl pars hW' hA1 rfl hb⟩

theorem proved : Rows.PackedLinesSaid :=
  OpenClaim.holds_of_wide 3 Try.f3 rfl rfl rfl rfl rfl rfl rfl ⟨rfl, rfl, rfl, rfl, rfl⟩ rfl rfl rfl rfl rfl (by kernel_rfl) Try.func3 (by kernel_rfl)
    (of_decide_eq_true (by kernel_rfl)) (by unfold Func.isWrapper; first | (rw [if_pos (by decide +kernel)]; kernel_rfl) | (rw [if_neg (by decide +kernel)]; exact ⟨rfl, rfl⟩))
    (fun os started H enc _ => lifted os started H enc)
#print axioms proved
end Go.Proofs.Ytigghbehnnghnaa.RPackedLines
