import Derived.Test.YtigghbehnnghnaaPkE
namespace Go.Proofs.Ytigghbehnnghnaa
open Go.RowKit Go.RowBits
set_option linter.unusedSimpArgs false
set_option linter.unusedVariables false

/-! ### The document's rows of bits -/
set_option maxHeartbeats 1000000 in
theorem bit66 {w : World} {v : Value} {ws : List Nat} (N : Int) (h : HasW w v ws) (hw : W64 ws) {i : Nat} (hi : i < 64 * ws.length) (hi2 : i < 100000) :
    Calls Try.prog 66 #[.agg #[.int .i64 N, v], .int .i64 (i : Int)] w fun e w' => e = .returned (.bool (bitw ws i)) ∧ Below w.heap.size w w' := by
  obtain ⟨ad, cap, rfl, hc⟩ := h
  obtain ⟨g, o, rfl, c1⟩ := hc (i / 64) (by omega)
  have hgl : g < w.heap.size := World.block_lt_of_cell? w _ c1
  have hlen : (i : Int) / 64 < (ws.length : Int) := by omega
  have hb : Hid (bitw ws i = decide (ws.getD (i / 64) 0 / 2 ^ (i % 64) % 2 = 1)) := by show bitw ws i = _; unfold bitw; rw [Nat.testBit_eq_decide_div_mod_eq]
  generalize ws.getD (i / 64) 0 = x at *
  generalize ws.length = L at *
  have e1 : ((i : Int) / 64).toNat = i / 64 := by omega
  clear hc
  go_enter Try.func66, Try.ntmps66
  go_wp2
  go_ret
  refine ⟨?_, below_new _⟩
  have e3 : ((x : Int) / 2 ^ (i % 64)) = ((x / 2 ^ (i % 64) : Nat) : Int) := by simp
  have e2 : (((x : Int) / 2 ^ (i % 64)).tmod 2 == 1) = decide (x / 2 ^ (i % 64) % 2 = 1) := by
    rw [e3]
    generalize x / 2 ^ (i % 64) = y
    rw [Int.tmod_eq_emod_of_nonneg (by omega), Bool.eq_iff_iff]
    simp
    omega
  rw [hb.out, ← e2]
  rfl

def VRel (w0 : World) (n : Nat) (ws : List Nat) (i : Value) (wr : World) : Prop :=
  ∃ k : Nat, n ≤ k ∧ (k ≤ n ∨ k ≤ 64 * ws.length) ∧ i = .int .i64 (k : Int) ∧ (∀ j, n ≤ j → j < k → bitw ws j = false) ∧ Below w0.heap.size w0 wr

set_option maxRecDepth 20000 in
set_option maxHeartbeats 2000000 in
theorem valid40 {w : World} {v : Value} {ws : List Nat} (N : Int) (h : HasW w v ws) (hw : W64 ws) :
    Calls Try.prog 40 #[.agg #[.int .i64 N, v]] w fun e w' => e = .returned (.bool (rowOk N ws)) ∧ Below w.heap.size w w' := by
  have K1 : Hid (∀ W i, HasW W v ws → i < 64 * ws.length → i < 100000 → Calls Try.prog 66 #[.agg #[.int .i64 N, v], .int .i64 ((i : Nat) : Int)] W fun e w' => e = .returned (.bool (bitw ws i)) ∧ Below W.heap.size W w') :=
    fun W i hW hi h2 => bit66 N hW hw hi h2
  have h' := Lib.hid h
  obtain ⟨ad, cap, rfl, hc⟩ := h
  clear hc
  by_cases h0 : N < 0
  · rw [rowOk_no (fun e => by have := e.1; omega)]
    go_enter Try.func40, Try.ntmps40
    go_wp2
    go_ret
    exact ⟨rfl, below_new _⟩
  by_cases h1 : 65538 < N
  · rw [rowOk_no (fun e => by have := e.2.1; omega)]
    go_enter Try.func40, Try.ntmps40
    go_wp2
    go_ret
    exact ⟨rfl, below_new _⟩
  obtain ⟨n, rfl⟩ : ∃ n : Nat, N = (n : Int) := ⟨N.toNat, by omega⟩
  by_cases h2 : ws.length = (n + 63) / 64
  · have hgi := Lib.hid (good_iff h2 hw)
    have hrk : Hid (rowOk (n : Int) ws = true ↔ RowGood n ws) := by
      show rowOk (n : Int) ws = true ↔ RowGood n ws
      rw [rowOk_iff]
      unfold RowOk
      rw [Int.toNat_natCast]
      exact ⟨fun e => e.2.2, fun e => ⟨by omega, by omega, e⟩⟩
    have h2' : ((n : Int) + 63) / 64 = (ws.length : Int) := by omega
    have hL1 : ws.length ≤ 1025 := by omega
    have hn : n ≤ 65538 := by omega
    generalize hb : rowOk (n : Int) ws = b at *
    have hLw : ∃ L, ws.length = L := ⟨_, rfl⟩
    obtain ⟨L, hL⟩ := hLw
    rw [hL] at h2' hL1 K1 h2 h'
    have hL' := Lib.hid hL
    rw [hL]
    clear hL hb h2
    go_enter Try.func40, Try.ntmps40
    go_wp2
    go_loopw [3] (fun i wr => VRel (w.alloc (.cells #[.int .i64 (n : Int), .slice ad L cap] 27)) n ws i wr) (fun i _ => 64 * L - (intOf i).toNat)
    case atStart => exact ⟨n, Nat.le_refl _, .inl (Nat.le_refl _), by go_num, fun j h1 h2 => by omega, Below.refl _ _⟩
    case round =>
      obtain ⟨k, hk, hkL, rfl, hz, hB⟩ := hrel
      rw [hL'.out] at hkL
      have hB' := Lib.hid hB
      have hz' := Lib.hid hz
      have cc0 : wr.cell? ⟨w.heap.size, 0, none⟩ = some (.int .i64 (n : Int)) := cell_kept hB (by go_simp)
      have cc1 : wr.cell? ⟨w.heap.size, 1, none⟩ = some (.slice ad L cap) := cell_kept hB (by go_simp)
      have hW := Lib.hid ((h'.out.kept (below_new _)).kept hB)
      have hB0 := Lib.hid ((below_new (w := w) (.cells #[.int .i64 (n : Int), .slice ad L cap] 27)).trans (hB.mono (by simp)))
      have hzs : w.heap.size < wr.heap.size := by have := hB.size; simp at this; omega
      clear hB hz
      by_cases hlt : k < 64 * L
      · have hlt' : (k : Int) < 64 * (L : Int) := by omega
        cases hbit : bitw ws k with
        | false =>
          have K2 := Lib.hid (K1.out wr k hW.out hlt (by omega))
          rw [hbit] at K2
          go_wp2_with fail
          refine K2.out.mono ?_
          rintro e w2 ⟨rfl, hb⟩
          have hz2 : wr.heap.size ≤ w2.heap.size := hb.size
          have R : VRel (w.alloc (.cells #[.int .i64 (n : Int), .slice ad L cap] 27)) n ws (.int .i64 ((k : Int) + 1)) w2 := ⟨k + 1, by omega, .inr (by rw [hL'.out]; omega), by go_num, fun j h1 h2 => by
            by_cases e : j = k
            · rw [e]; exact hbit
            · exact hz'.out j h1 (by omega), below_then hB'.out hb hB'.out.size⟩
          have R' := Lib.hid R
          clear R hb
          go_wp2
          exact ⟨R'.out, by simp [intOf]; omega⟩
        | true =>
          have K2 := Lib.hid (K1.out wr k hW.out hlt (by omega))
          rw [hbit] at K2
          have hbf : b = false := by
            cases hbb : b with
            | false => rfl
            | true =>
              have := (hgi.out.1 (hrk.out.1 hbb)) k hk (by rw [hL'.out]; exact hlt)
              rw [this] at hbit
              cases hbit
          go_wp2_with fail
          refine K2.out.mono ?_
          rintro e w2 ⟨rfl, hb⟩
          have hB2 := Lib.hid (below_then hB0.out hb hB0.out.size)
          have hbf' := Lib.hid hbf
          clear hb hbf
          go_wp2
          go_ret
          exact ⟨by rw [hbf'.out]; rfl, hB2.out⟩
      · have hlt' : ¬ (k : Int) < 64 * (L : Int) := by omega
        have hbt : b = true := hrk.out.2 (hgi.out.2 (fun i h1 h2 => hz'.out i h1 (by rw [hL'.out] at h2; omega)))
        have hbt' := Lib.hid hbt
        clear hbt
        go_wp2
        go_ret
        exact ⟨by rw [hbt'.out]; rfl, hB0.out⟩
  · rw [rowOk_no (fun e => h2 (by have := e.2.2.len; rw [this]; omega))]
    have h2' : ¬ ((ws.length : Int) = ((n : Int) + 63) / 64) := by omega
    generalize ws.length = L at *
    clear h2
    go_enter Try.func40, Try.ntmps40
    go_wp2
    go_ret
    exact ⟨rfl, below_new _⟩
end Go.Proofs.Ytigghbehnnghnaa
