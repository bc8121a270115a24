/- PackedStep: 64 at a time as one by one: what a rule of births and stays makes of a field is what layer 15 makes of it, in so many generations, cell by cell. Under the condition that the listed table of the library reads as listed, tied to the program text. -/
import Derived.Test.YtcbhbojplcddkaaGreatDoorCards
import Derived.Test.YtcbhbojplcddkaaGreatDoorTie
import Derived.Test.YtcbhbojplcddkaaGreatDoorZStO
import Derived.Test.YtcbhbojplcddkaaGreatDoorZLdC
import Derived.Test.YtcbhbojplcddkaaGreatDoorZLdK
import Derived.OpenShut
import Derived.Stop.Joined
import Derived.SevenTiedAt
namespace Go.Proofs.YtcbhbojplcddkaaGreatDoor.RPackedStep
open Go.ChangeShapes Go.WideShapes Go.ChangeAt Go.RowKit Go.Joins Go.Deep Go.RowLaw
set_option linter.unusedVariables false
set_option linter.unusedSimpArgs false

theorem cells24 : Tryz.prog.cellsOf 24 = 3 := by kernel_rfl
theorem cells26 : Tryz.prog.cellsOf 26 = 5 := by kernel_rfl
theorem cells58 : Tryz.prog.cellsOf 58 = 2 := by kernel_rfl
theorem cells29 : Tryz.prog.cellsOf 29 = 5 := by kernel_rfl
theorem pars : ∀ t ∈ Tryz.f3.params.toList, Tryz.prog.readableRec t = true ∧ t < Tryz.prog.types.size := by
  rw [Tryz.params3]
  intro t ht
  simp at ht
  rcases ht with rfl | rfl | rfl | rfl
  · exact ⟨by kernel_rfl, of_decide_eq_true (by kernel_rfl)⟩
  · exact ⟨by kernel_rfl, of_decide_eq_true (by kernel_rfl)⟩
  · exact ⟨by kernel_rfl, of_decide_eq_true (by kernel_rfl)⟩
  · exact ⟨by kernel_rfl, of_decide_eq_true (by kernel_rfl)⟩

set_option maxRecDepth 100000 in
theorem lifted (os : Os) (started : os.Started) (H : Type) (enc : TypeId × Value → H) :
    ReturnsInHanded {} Tryz.checked os 3 .any (fun w args => (Rows.packedStepSpec.pre enc Tryz.prog Tryz.f3 [] false w args ∧ laidMetH Tryz.prog laidL w) ∧ sizedMet enc Tryz.prog Tryz.f3 (OpenSpec.ofChange Rows.packedStepSpec) false w args)
      (Rows.packedStepSpec.post enc Tryz.prog Tryz.f3 false true false false) := by
  refine returnsInHanded_of_change_and (C := Tryz.checked) (X := fun w _ => laidMetH Tryz.prog laidL w) (fun _ _ _ hh h => h.of_heap hh) own started (by kernel_rfl) Tryz.func3
    (ChangeSpec.witness_shaped (enc := enc) (C := Tryz.checked) (os := os) (X := fun w _ => laidMetH Tryz.prog laidL w) false (World.doorLaid Tryz.prog 400 os) #[.agg #[.int .u8 0, .int .u16 0, .int .u16 0], .agg #[.int .u8 0, .int .i64 0, .int .i64 0, .int .u8 0, .int .i64 0], .agg #[.int .i64 0, .int .i64 0, .int .i64 0, .bool false, .slice none 0 0], .int .i64 0] 8 rfl (World.shaped_of_RefB (by kernel_rfl) (by kernel_rfl)) (by kernel_rfl) (by kernel_rfl) (by kernel_rfl) (door_met os _)) ?_
  intro W base args ds gs before hval0 hW _ _ hL _
  have hval : ∀ (j : Nat) t v, Tryz.f3.params[j]? = some t → args[j]? = some v → Value.okWide Tryz.prog W .any base t v := hval0
  have hW' := hW
  obtain ⟨p, q, hA0, hV, rfl, hfz, hnd⟩ := hW
  have hA : DataW.TrodAll enc Tryz.prog W 0 (fun _ => true) true Tryz.f3.params.toList args.toList ds p := hA0
  have hA1 := hA
  have hT := of_laid hL
  rw [Tryz.params3] at hA hval
  obtain ⟨v0, vs0, d0, ds0, p0, q0, hargs, rfl, rfl, h0, r0⟩ := trodAll_cons hA
  obtain ⟨v1, vs1, d1, ds1, p1, q1, rfl, rfl, rfl, h1, r1⟩ := trodAll_cons r0
  obtain ⟨v2, vs2, d2, ds2, p2, q2, rfl, rfl, rfl, h2, r2⟩ := trodAll_cons r1
  obtain ⟨v3, vs3, d3, ds3, p3, q3, rfl, rfl, rfl, h3, r3⟩ := trodAll_cons r2
  obtain ⟨rfl, rfl, rfl⟩ := trodAll_nil r3
  obtain rfl : args = #[v0, v1, v2, v3] := by cases args; simp_all
  obtain ⟨rfl, rfl⟩ := trodVars_none hV
  obtain ⟨c0_0, c0_1, c0_2, y0_0, y0_1, y0_2, n0, rfl, _, _, e0_0, e0_1, e0_2⟩ := open_agg3 Tryz.underlying24 (by kernel_rfl) cells24 (hval 0 24 v0 rfl rfl) h0
  obtain ⟨a0_0, g0_0, _, w0_0⟩ := DataW.trod_int Tryz.underlying5 e0_0
  obtain ⟨a0_1, g0_1, _, w0_1⟩ := DataW.trod_int Tryz.underlying22 e0_1
  obtain ⟨a0_2, g0_2, _, w0_2⟩ := DataW.trod_int Tryz.underlying22 e0_2
  simp only [List.cons.injEq, and_true] at g0_0 g0_1 g0_2
  subst g0_0 g0_1 g0_2
  have b0_1 : 0 ≤ a0_1 ∧ a0_1 < 65536 := by simp [Lit.wf, IntKind.min, IntKind.max, IntKind.signed, IntKind.bits] at w0_1; omega
  obtain ⟨born0, rfl⟩ : ∃ k : Nat, a0_1 = (k : Int) := ⟨a0_1.toNat, by omega⟩
  have b0_2 : 0 ≤ a0_2 ∧ a0_2 < 65536 := by simp [Lit.wf, IntKind.min, IntKind.max, IntKind.signed, IntKind.bits] at w0_2; omega
  obtain ⟨stay0, rfl⟩ : ∃ k : Nat, a0_2 = (k : Int) := ⟨a0_2.toNat, by omega⟩
  obtain ⟨c1_0, c1_1, c1_2, c1_3, c1_4, y1_0, y1_1, y1_2, y1_3, y1_4, n1, rfl, _, _, e1_0, e1_1, e1_2, e1_3, e1_4⟩ := open_agg5 Tryz.underlying26 (by kernel_rfl) cells26 (hval 1 26 v1 rfl rfl) h1
  obtain ⟨a1_0, g1_0, _, w1_0⟩ := DataW.trod_int Tryz.underlying5 e1_0
  obtain ⟨a1_1, g1_1, _, w1_1⟩ := DataW.trod_int Tryz.underlying3 e1_1
  obtain ⟨a1_2, g1_2, _, w1_2⟩ := DataW.trod_int Tryz.underlying3 e1_2
  obtain ⟨a1_3, g1_3, _, w1_3⟩ := DataW.trod_int Tryz.underlying5 e1_3
  obtain ⟨a1_4, g1_4, _, w1_4⟩ := DataW.trod_int Tryz.underlying3 e1_4
  simp only [List.cons.injEq, and_true] at g1_0 g1_1 g1_2 g1_3 g1_4
  subst g1_0 g1_1 g1_2 g1_3 g1_4
  have b1_0 : 0 ≤ a1_0 ∧ a1_0 < 256 := by simp [Lit.wf, IntKind.min, IntKind.max, IntKind.signed, IntKind.bits] at w1_0; omega
  have b1_3 : 0 ≤ a1_3 ∧ a1_3 < 256 := by simp [Lit.wf, IntKind.min, IntKind.max, IntKind.signed, IntKind.bits] at w1_3; omega
  obtain ⟨c2_0, c2_1, c2_2, c2_3, c2_4, y2_0, y2_1, y2_2, y2_3, y2_4, n2, rfl, _, _, e2_0, e2_1, e2_2, e2_3, e2_4⟩ := open_agg5 Tryz.underlying29 (by kernel_rfl) cells29 (hval 2 29 v2 rfl rfl) h2
  obtain ⟨a2_0, g2_0, _, w2_0⟩ := DataW.trod_int Tryz.underlying3 e2_0
  obtain ⟨a2_1, g2_1, _, w2_1⟩ := DataW.trod_int Tryz.underlying3 e2_1
  obtain ⟨a2_2, g2_2, _, w2_2⟩ := DataW.trod_int Tryz.underlying3 e2_2
  obtain ⟨pk2, g2_3, _⟩ := DataW.trod_bool Tryz.underlying4 e2_3
  simp only [List.cons.injEq, and_true] at g2_0 g2_1 g2_2 g2_3
  subst g2_0 g2_1 g2_2 g2_3
  obtain ⟨cl2, R2, z2⟩ := open_cells e2_4
  obtain ⟨a3, rfl, _, _, w3⟩ := open_int Tryz.underlying3 (hval 3 3 v3 rfl rfl) h3
  simp only [List.append_nil] at hW' hA1
  refine (step3 W hT (hd := a0_0) (born := born0) (stay := stay0) (by omega) (by omega) b1_0 b1_3.1 R2 z2 a3).mono fun e W' ⟨he, hb⟩ => ?_
  subst he
  exact ⟨_, rfl, law_post laidOut Tryz.underlying4 rfl rfl pars hW' hA1 rfl hb⟩

theorem rowSaid : Rows.PackedStepSaid :=
  OpenClaim.holds_of_wide 3 Tryz.f3 rfl rfl rfl rfl rfl rfl rfl ⟨rfl, rfl, rfl, rfl, rfl⟩ rfl rfl rfl rfl rfl (by kernel_rfl) Tryz.func3 (by kernel_rfl)
    (of_decide_eq_true (by kernel_rfl)) (by unfold Func.isWrapper; first | (rw [if_pos (by decide +kernel)]; kernel_rfl) | (rw [if_neg (by decide +kernel)]; exact ⟨rfl, rfl⟩))
    (fun os started H enc _ => lifted os started H enc)
theorem wants : (([24, 26, 29, 3] : List TypeId).all fun u => !Tryz.prog.wantsStandIn u) = true := by kernel_rfl
theorem proved : Rows.PackedStepCardSaid :=
  Claim7.holds_tied_plain_at .later [] [.data] true (true, "093e6c7869338eca7c4baa0b45361f4ef3c2ec3d37ab92e6656ec25ee5a79218") false
    rowSaid (fun _ h => by cases h) (by kernel_rfl) (fun _ h => by cases h) packedStep_row_tie rfl ⟨rfl, rfl⟩ (by kernel_rfl) rfl
    (fun f fn hf hfn => by
      obtain rfl : f = 3 := Option.some.inj ((show Tryz.prog.funcNamed "vivarium/vivariumlaw16.PackedStep" = some 3 by kernel_rfl).symm.trans hf) |>.symm
      obtain rfl : fn = Tryz.f3 := (Option.some.inj (Tryz.func3.symm.trans hfn)).symm
      exact ⟨by kernel_rfl, fun j t ht => by
        rw [Tryz.params3] at ht
        have hm : t ∈ [24, 26, 29, 3] := by simpa using Array.mem_of_getElem? ht
        exact (show Tryz.prog.wantsStandIn t = false by simpa using List.all_eq_true.1 wants t hm)⟩)
    (by kernel_rfl)
#print axioms proved
end Go.Proofs.YtcbhbojplcddkaaGreatDoor.RPackedStep
