import Derived.Test.YtigghbehnnghnaaPkG
namespace Go.Proofs.Ytigghbehnnghnaa
open Go.RowKit Go.RowBits
set_option linter.unusedSimpArgs false
set_option linter.unusedVariables false

set_option maxHeartbeats 2000000 in
theorem next43 {h : Int} {born stay c : Nat} (here : Bool) (hh : h = 1 ∨ h = 2 ∨ h = 3) (hr : ruleOk h born stay) (hb1 : born < 65536) (hs1 : stay < 65536) (hc : c ≤ (offs h).length) (w : World) :
    Calls Try.prog 43 #[.agg #[.int .u8 h, .int .u16 (born : Int), .int .u16 (stay : Int)], .int .u8 (if here then 1 else 0), .int .i64 (c : Int)] w fun e w' =>
    e = .returned (.tuple #[.int .u8 (if lineBit born stay c here then 1 else 0), .int .i64 0]) ∧ Below w.heap.size w w' := by
  have K10 := fun W => check39 (h := h) hb1 hs1 W
  have e0 : lifeE h born stay = 0 := by unfold lifeE; rw [if_pos hh, if_pos hr]
  rw [e0] at K10
  have K20 := fun W => greatest64 h W
  rw [if_pos hh] at K20
  have hl := offs_len h
  have K3 : Hid (∀ W, Calls Try.prog 65 #[.int .u16 (born : Int), .int .i64 (c : Int)] W fun e w' => e = .returned (.bool (born.testBit c)) ∧ w' = W) := fun W => bit65 hb1 c (by omega) W
  have K4 : Hid (∀ W, Calls Try.prog 65 #[.int .u16 (stay : Int), .int .i64 (c : Int)] W fun e w' => e = .returned (.bool (stay.testBit c)) ∧ w' = W) := fun W => bit65 hs1 c (by omega) W
  have K1 := Lib.hid K10
  have K2 := Lib.hid K20
  clear K10 K20 e0 hr hh
  generalize (offs h).length = n at *
  unfold lineBit
  generalize born.testBit c = bb at *
  generalize stay.testBit c = sb at *
  have hcn : decide ((n : Int) < (c : Int)) = false := decide_eq_false (by omega)
  cases here with
  | false =>
    simp only [Bool.false_eq_true, if_false]
    cases bb with
    | false =>
      go_enter Try.func43, Try.ntmps43
      go_wp2_with fail
      refine (K1.out _).mono ?_
      rintro e w1 ⟨rfl, hb⟩
      obtain ⟨hc1, hf1⟩ := bcell hb
      have hz : w.heap.size < w1.heap.size := by have := hb.size; simp at this; omega
      have hB := Lib.hid (below_then (B := w.heap.size) (below_new _) hb (by simp))
      clear hb
      go_wp2_with fail
      refine (K2.out _).mono ?_
      rintro e w2 ⟨rfl, rfl⟩
      go_wp2_with fail
      refine (K3.out _).mono ?_
      rintro e w2 ⟨rfl, rfl⟩
      go_wp2
      go_ret2
      exact ⟨rfl, hB.out⟩
    | true =>
      go_enter Try.func43, Try.ntmps43
      go_wp2_with fail
      refine (K1.out _).mono ?_
      rintro e w1 ⟨rfl, hb⟩
      obtain ⟨hc1, hf1⟩ := bcell hb
      have hz : w.heap.size < w1.heap.size := by have := hb.size; simp at this; omega
      have hB := Lib.hid (below_then (B := w.heap.size) (below_new _) hb (by simp))
      clear hb
      go_wp2_with fail
      refine (K2.out _).mono ?_
      rintro e w2 ⟨rfl, rfl⟩
      go_wp2_with fail
      refine (K3.out _).mono ?_
      rintro e w2 ⟨rfl, rfl⟩
      go_wp2
      go_ret2
      exact ⟨rfl, hB.out⟩
  | true =>
    simp only [if_true]
    cases sb with
    | false =>
      go_enter Try.func43, Try.ntmps43
      go_wp2_with fail
      refine (K1.out _).mono ?_
      rintro e w1 ⟨rfl, hb⟩
      obtain ⟨hc1, hf1⟩ := bcell hb
      have hz : w.heap.size < w1.heap.size := by have := hb.size; simp at this; omega
      have hB := Lib.hid (below_then (B := w.heap.size) (below_new _) hb (by simp))
      clear hb
      go_wp2_with fail
      refine (K2.out _).mono ?_
      rintro e w2 ⟨rfl, rfl⟩
      go_wp2_with fail
      refine (K4.out _).mono ?_
      rintro e w2 ⟨rfl, rfl⟩
      go_wp2
      go_ret2
      exact ⟨rfl, hB.out⟩
    | true =>
      go_enter Try.func43, Try.ntmps43
      go_wp2_with fail
      refine (K1.out _).mono ?_
      rintro e w1 ⟨rfl, hb⟩
      obtain ⟨hc1, hf1⟩ := bcell hb
      have hz : w.heap.size < w1.heap.size := by have := hb.size; simp at this; omega
      have hB := Lib.hid (below_then (B := w.heap.size) (below_new _) hb (by simp))
      clear hb
      go_wp2_with fail
      refine (K2.out _).mono ?_
      rintro e w2 ⟨rfl, rfl⟩
      go_wp2_with fail
      refine (K4.out _).mono ?_
      rintro e w2 ⟨rfl, rfl⟩
      go_wp2
      go_ret2
      exact ⟨rfl, hB.out⟩

end Go.Proofs.Ytigghbehnnghnaa
