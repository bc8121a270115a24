import Derived.Test.YtigghbehnnghnaaPkF
namespace Go.Proofs.Ytigghbehnnghnaa
open Go.RowKit Go.RowBits
set_option linter.unusedSimpArgs false
set_option linter.unusedVariables false

set_option maxHeartbeats 1000000 in
theorem get42 {w : World} {v : Value} {ws : List Nat} {n i : Nat} (hn : n ≤ 65538) (hg : RowGood n ws) (h : HasW w v ws) (hi : i < n) :
    Calls Try.prog 42 #[.agg #[.int .i64 (n : Int), v], .int .i64 (i : Int)] w fun e w' => e = .returned (.bool (bitw ws i)) ∧ Below w.heap.size w w' := by
  have hl := hg.len
  have K1 : Hid (∀ W, HasW W v ws → Calls Try.prog 40 #[.agg #[.int .i64 (n : Int), v]] W fun e w' => e = .returned (.bool true) ∧ Below W.heap.size W w') := fun W hW => by
    have := valid40 (n : Int) hW hg.w64
    rw [rowOk_yes (N := (n : Int)) ⟨by omega, by omega, by simpa using hg⟩] at this
    exact this
  have K2 : Hid (∀ W, HasW W v ws → Calls Try.prog 66 #[.agg #[.int .i64 (n : Int), v], .int .i64 (i : Int)] W fun e w' => e = .returned (.bool (bitw ws i)) ∧ Below W.heap.size W w') :=
    fun W hW => bit66 (n : Int) hW hg.w64 (by omega) (by omega)
  have h' := Lib.hid h
  generalize bitw ws i = b at *
  obtain ⟨ad, cap, rfl, hc⟩ := h
  clear hc hl hg
  generalize ws.length = L at *
  go_enter Try.func42, Try.ntmps42
  go_wp2_with fail
  refine (K1.out _ (h'.out.kept (below_new _))).mono ?_
  rintro e w1 ⟨rfl, hb⟩
  obtain ⟨hc1, hf1⟩ := bcell hb
  have hz : w.heap.size < w1.heap.size := by have := hb.size; simp at this; omega
  have hB1 := Lib.hid (below_then (B := w.heap.size) (below_new _) hb (by simp))
  have hW := Lib.hid ((h'.out.kept (below_new _)).kept hb)
  clear hb
  go_wp2_with fail
  refine (K2.out _ hW.out).mono ?_
  rintro e w2 ⟨rfl, hb⟩
  have hB2 := Lib.hid (below_then hB1.out hb hB1.out.size)
  clear hb
  go_wp2
  go_ret
  exact ⟨rfl, hB2.out⟩

/-! ### The document's rules -/
def CRel (w0 : World) (L born stay : Nat) (i : Value) (wr : World) : Prop :=
  ∃ k : Nat, L < k ∧ k ≤ 16 ∧ i = .int .i64 (k : Int) ∧ (∀ j, L < j → j < k → born.testBit j = false ∧ stay.testBit j = false) ∧ wr = w0

set_option maxHeartbeats 2000000 in
theorem check39 {h : Int} {born stay : Nat} (hb1 : born < 65536) (hs1 : stay < 65536) (w : World) : Calls Try.prog 39 #[.agg #[.int .u8 h, .int .u16 (born : Int), .int .u16 (stay : Int)]] w fun e w' =>
    e = .returned (.int .i64 (lifeE h born stay)) ∧ Below w.heap.size w w' := by
  have K10 := fun W => greatest64 h W
  have K2 : Hid (∀ (j : Nat), j ≤ 1000 → ∀ W, Calls Try.prog 65 #[.int .u16 (born : Int), .int .i64 (j : Int)] W fun e w' => e = .returned (.bool (born.testBit j)) ∧ w' = W) := fun j hj W => bit65 hb1 j hj W
  have K3 : Hid (∀ (j : Nat), j ≤ 1000 → ∀ W, Calls Try.prog 65 #[.int .u16 (stay : Int), .int .i64 (j : Int)] W fun e w' => e = .returned (.bool (stay.testBit j)) ∧ w' = W) := fun j hj W => bit65 hs1 j hj W
  by_cases hh : h = 1 ∨ h = 2 ∨ h = 3
  · rw [if_pos hh] at K10
    have hl := offs_len h
    have hE : Hid (lifeE h born stay = if ruleOk h born stay then 0 else 82) := by show lifeE h born stay = _; unfold lifeE; rw [if_pos hh]
    have hr : Hid (ruleOk h born stay ↔ ∀ j, (offs h).length < j → j < 16 → born.testBit j = false ∧ stay.testBit j = false) := Iff.rfl
    have K1 := Lib.hid K10
    clear K10 hh
    generalize (offs h).length = L at *
    generalize lifeE h born stay = E at *
    go_enter Try.func39, Try.ntmps39
    go_wp2_with fail
    refine (K1.out _).mono ?_
    rintro e w1 ⟨rfl, rfl⟩
    go_wp2
    go_loopw [4] (fun i wr => CRel (w.alloc (.cells #[.int .u8 h, .int .u16 (born : Int), .int .u16 (stay : Int)] 24)) L born stay i wr) (fun i _ => 16 - (intOf i).toNat)
    case atStart => exact ⟨L + 1, by omega, by omega, by go_num, fun j h1 h2 => by omega, rfl⟩
    case round =>
      obtain ⟨k, hk, hk16, rfl, hz, rfl⟩ := hrel
      have hz' := Lib.hid hz
      clear hz
      by_cases hlt : k < 16
      · have K4 := Lib.hid (K2.out k (by omega))
        have K5 := Lib.hid (K3.out k (by omega))
        cases h1 : born.testBit k with
        | true =>
          rw [h1] at K4
          go_wp2_with fail
          refine (K4.out _).mono ?_
          rintro e w2 ⟨rfl, rfl⟩
          have hR : ¬ ruleOk h born stay := fun e => by have := (hr.out.1 e k hk hlt).1; rw [h1] at this; cases this
          have hE2 : Hid (E = 82) := by have := hE.out; rw [if_neg hR] at this; exact this
          clear hR
          go_wp2
          go_ret
          exact ⟨by rw [hE2.out]; rfl, below_new _⟩
        | false =>
          rw [h1] at K4
          cases h2 : stay.testBit k with
          | true =>
            rw [h2] at K5
            go_wp2_with fail
            refine (K4.out _).mono ?_
            rintro e w2 ⟨rfl, rfl⟩
            go_wp2_with fail
            refine (K5.out _).mono ?_
            rintro e w2 ⟨rfl, rfl⟩
            have hR : ¬ ruleOk h born stay := fun e => by have := (hr.out.1 e k hk hlt).2; rw [h2] at this; cases this
            have hE2 : Hid (E = 82) := by have := hE.out; rw [if_neg hR] at this; exact this
            clear hR
            go_wp2
            go_ret
            exact ⟨by rw [hE2.out]; rfl, below_new _⟩
          | false =>
            rw [h2] at K5
            go_wp2_with fail
            refine (K4.out _).mono ?_
            rintro e w2 ⟨rfl, rfl⟩
            go_wp2_with fail
            refine (K5.out _).mono ?_
            rintro e w2 ⟨rfl, rfl⟩
            go_wp2
            refine ⟨⟨k + 1, by omega, by omega, by go_num, fun j q1 q2 => ?_, rfl⟩, by simp [intOf]; omega⟩
            by_cases e : j = k
            · rw [e]; exact ⟨h1, h2⟩
            · exact hz'.out j q1 (by omega)
      · obtain rfl : k = 16 := by omega
        have hR : ruleOk h born stay := hr.out.2 (fun j q1 q2 => hz'.out j q1 q2)
        have hE2 : Hid (E = 0) := by have := hE.out; rw [if_pos hR] at this; exact this
        clear hR
        go_wp2
        go_ret
        exact ⟨by rw [hE2.out]; rfl, below_new _⟩
  · rw [if_neg hh] at K10
    have hE : lifeE h born stay = 70 := by unfold lifeE; rw [if_neg hh]
    rw [hE]
    have K1 := Lib.hid K10
    clear K10 hh hE
    go_enter Try.func39, Try.ntmps39
    go_wp2_with fail
    refine (K1.out _).mono ?_
    rintro e w1 ⟨rfl, rfl⟩
    go_wp2
    go_ret
    exact ⟨rfl, below_new _⟩
end Go.Proofs.Ytigghbehnnghnaa
