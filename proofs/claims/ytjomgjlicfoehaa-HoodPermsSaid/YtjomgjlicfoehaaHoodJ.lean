import Derived.Test.YtjomgjlicfoehaaHoodI
namespace Go.Proofs.Ytjomgjlicfoehaa
open Go.RowKit Flt
set_option linter.unusedSimpArgs false
set_option linter.unusedVariables false

theorem HasInts.step {W w' : World} {v : Value} {l : List Int} (h : HasInts W v l) (hb : Below W.heap.size W w') : HasInts w' v l := h.kept hb

set_option maxHeartbeats 4000000 in
theorem alive07 (w : World) : Calls Try.prog 48 #[] w fun e w' => e = .returned (.bool true) ∧ Below w.heap.size w w' := by
  have K10 := fun W => perm_any 2 1 W
  rw [show permOk 2 1 = true from by decide +kernel, show permE 2 1 = 0 from by decide, show permR 2 1 = [1, 2, 3, 0] from by decide +kernel] at K10
  have K20 := fun W => size_any 1 W
  rw [show ((offs 1).length : Int) = 8 from by decide, show hoodErr 1 = 0 from by decide] at K20
  have K30 := fun W => offsets_any 3 W
  rw [show hoodErr 3 = 0 from by decide, offs_3] at K30
  have K1 := Lib.hid K10
  have K2 := Lib.hid K20
  have K3 := Lib.hid K30
  clear K10 K20 K30
  go_enter Try.func48, Try.ntmps48
  go_wp2_with fail
  refine (K1.out _).mono ?_
  rintro e w1 ⟨vp, rfl, op, hb⟩
  have P1 := HasInts.own op
  have B1 := hb
  clear op hb
  go_wp2_with fail
  refine (K2.out _).mono ?_
  rintro e w2 ⟨rfl, hb⟩
  have P2 := P1.kept hb
  have B2 := below_then B1 hb B1.size
  clear hb P1 B1
  go_wp2_with fail
  refine (K3.out _).mono ?_
  rintro e w3 ⟨vl, rfl, ol, hb⟩
  have P3 := Lib.hid (P2.kept hb)
  have B3 := Lib.hid (below_then B2 hb B2.size)
  obtain ⟨adl, capl, rfl, hcl⟩ := HasPts.own ol
  obtain ⟨g, hg, c1, c2⟩ := hcl 2 (by decide)
  subst hg
  have hgl : g < w3.heap.size := World.block_lt_of_cell? w3 _ c1
  have d1 : w3.cell? ⟨g, 4, none⟩ = some (.int .i64 1) := c1
  have d2 : w3.cell? ⟨g, 5, none⟩ = some (.int .i64 1) := c2
  have hne : g ≠ w3.heap.size := by omega
  clear ol hb P2 B2 hcl c1 c2
  obtain ⟨n6, hn6⟩ : ∃ n : Nat, ([(0, -1), (1, 0), (1, 1), (0, 1), (-1, 0), (-1, -1)] : List (Int × Int)).length = n := ⟨_, rfl⟩
  rw [hn6]
  obtain rfl : n6 = 6 := hn6.symm
  clear hn6
  have he : ∀ W, (binOp .eql 30 (.agg #[.int .i64 1, .int .i64 1]) (.agg #[.int .i64 1, .int .i64 1])).run Try.prog W = .ok (.bool true) W := fun W => by rw [run_eq_pt]; simp
  go_wp2_with fail
  refine (same_ints (l := [1, 2, 3, 0]) (by decide) (P3.out.kept (below_new _)) ⟨_, 4, rfl, fun j hj => ?_⟩).mono ?_
  · match j, hj with
    | 0, _ | 1, _ | 2, _ | 3, _ => exact ⟨_, rfl, by go_simp⟩
  rintro e w4 ⟨rfl, m, rfl⟩
  go_wp2
  go_ret
  exact ⟨rfl, below_drewN (B3.out.alloc B3.out.size _) m⟩

/-! ### HoodRound -/
def lastK (L : List (Int × Int)) : Nat → Int
  | 0 => -1
  | k + 1 => whereI moore (L.getD k (0, 0))
structure RoundFacts (L : List (Int × Int)) : Prop where
  near : ∀ k, k < L.length → near1 (L.getD k (0, 0)) ∧ ¬ ((L.getD k (0, 0)).1 = 0 ∧ (L.getD k (0, 0)).2 = 0)
  self : ∀ k, k < L.length → whereI L (L.getD k (0, 0)) = k
  opp : ∀ k, k < L.length → 0 ≤ whereI L (-(L.getD k (0, 0)).1, -(L.getD k (0, 0)).2)
  order : ∀ k, k < L.length → lastK L k < whereI moore (L.getD k (0, 0))
theorem rfacts_of {L : List (Int × Int)} (h0 : L.length ≤ 8) (h1 : ∀ k : Fin 8, k.val < L.length → near1 (L.getD k.val (0, 0)) ∧ ¬ ((L.getD k.val (0, 0)).1 = 0 ∧ (L.getD k.val (0, 0)).2 = 0))
    (h2 : ∀ k : Fin 8, k.val < L.length → whereI L (L.getD k.val (0, 0)) = k.val) (h3 : ∀ k : Fin 8, k.val < L.length → 0 ≤ whereI L (-(L.getD k.val (0, 0)).1, -(L.getD k.val (0, 0)).2))
    (h4 : ∀ k : Fin 8, k.val < L.length → lastK L k.val < whereI moore (L.getD k.val (0, 0))) : RoundFacts L :=
  ⟨fun k hk => h1 ⟨k, by omega⟩ hk, fun k hk => h2 ⟨k, by omega⟩ hk, fun k hk => h3 ⟨k, by omega⟩ hk, fun k hk => h4 ⟨k, by omega⟩ hk⟩
theorem roundFacts {h : Int} (hh : h = 1 ∨ h = 2 ∨ h = 3) : RoundFacts (offs h) := by
  rcases hh with rfl | rfl | rfl
  · rw [offs_1]; exact rfacts_of (by decide) (by decide +kernel) (by decide +kernel) (by decide +kernel) (by decide +kernel)
  · rw [offs_2]; exact rfacts_of (by decide) (by decide +kernel) (by decide +kernel) (by decide +kernel) (by decide +kernel)
  · rw [offs_3]; exact rfacts_of (by decide) (by decide +kernel) (by decide +kernel) (by decide +kernel) (by decide +kernel)

def RR (L : List (Int × Int)) (w W : World) (last i : Value) (wr : World) : Prop := ∃ k : Nat, k ≤ L.length ∧ i = .int .i64 (k : Int) ∧ last = .int .i64 (lastK L k) ∧ Below W.heap.size W wr ∧ Below w.heap.size w wr

set_option maxRecDepth 100000 in
set_option maxHeartbeats 16000000 in
theorem hoodRound_walk (h : Int) (w : World) : Calls Try.prog 15 #[.int .u8 h] w fun e w' => e = .returned (.bool true) ∧ Below w.heap.size w w' := by
  have K1 := Lib.hid (fun W => offsets_any h W)
  have K2 := Lib.hid (fun W => size_any h W)
  have K30 := fun W => offsets_any 1 W
  rw [show hoodErr 1 = 0 from by decide, offs_1] at K30
  have K3 := Lib.hid K30
  clear K30
  have hm8 : moore.length = 8 := rfl
  have hn8 := offs_len h
  by_cases hh : h = 1 ∨ h = 2 ∨ h = 3
  · have RF := Lib.hid (roundFacts hh)
    rw [hoodErr_good hh] at K1 K2
    clear hh
    generalize offs h = L at *
    go_enter Try.func15, Try.ntmps15
    go_wp2_with fail
    refine (alive07 _).mono ?_
    rintro e w0 ⟨rfl, hb⟩
    have B0 := hb
    clear hb
    go_wp2_with fail
    refine (K1.out _).mono ?_
    rintro e w1 ⟨vl, rfl, ol, hb⟩
    obtain ⟨adl, capl, rfl⟩ := own_shape ol
    have P1 := HasPts.own ol
    have B1 := below_then B0 hb B0.size
    clear ol hb B0
    go_wp2_with fail
    refine (K2.out _).mono ?_
    rintro e w2 ⟨rfl, hb⟩
    have P2 := P1.kept hb
    have B2 := below_then B1 hb B1.size
    clear hb P1 B1
    go_wp2_with fail
    refine (K3.out _).mono ?_
    rintro e w3 ⟨vm, rfl, om, hb⟩
    obtain ⟨adm, capm, rfl⟩ := own_shape om
    have M3 := Lib.hid (HasPts.own om)
    have P3 := Lib.hid (P2.kept hb)
    have B3 := Lib.hid (below_then B2 hb B2.size)
    clear om hb P2 B2
    rw [hm8] at M3
    rw [hm8]
    go_wp2
    go_loopw [10, 11] (fun last i wr => RR L w w3 last i wr) (fun _ i _ => L.length - (intOf i).toNat)
    case atStart => exact ⟨0, by omega, by go_num, rfl, Below.refl _ _, B3.out⟩
    case round =>
      obtain ⟨k, hk, rfl, rfl, hb3, hBw⟩ := hrel
      have P := Lib.hid (P3.out.kept hb3)
      have M := Lib.hid (M3.out.kept hb3)
      have hB := Lib.hid hb3
      have hBw' := Lib.hid hBw
      clear hb3 hBw
      by_cases hlt : k < L.length
      · obtain ⟨_, _, hv, hcs⟩ := P.out
        obtain ⟨g, hg, c1, c2⟩ := hcs k hlt
        cases hv
        subst hg
        clear hcs
        have hgl : g < wr.heap.size := World.block_lt_of_cell? wr _ c1
        have hgn : g ≠ wr.heap.size := by omega
        obtain ⟨⟨n1, n2, n3, n4⟩, n5⟩ := RF.out.near k hlt
        have q1 := Lib.hid (RF.out.self k hlt)
        have q2 := Lib.hid (RF.out.opp k hlt)
        have q3 := RF.out.order k hlt
        have hlk : lastK L (k + 1) = whereI moore (L.getD k (0, 0)) := rfl
        have hlk' := Lib.hid hlk
        clear hlk
        have hp : L.getD k (0, 0) = ((L.getD k (0, 0)).1, (L.getD k (0, 0)).2) := rfl
        rw [hp] at q1 q3 hlk'
        clear hp
        generalize (L.getD k (0, 0)).1 = X at *
        generalize (L.getD k (0, 0)).2 = Y at *
        generalize hwm : whereI moore (X, Y) = wm at *
        generalize lastK L k = la at *
        have hwm' := Lib.hid hwm
        clear hwm
        have he : ∀ W, (binOp .eql 30 (.agg #[.int .i64 X, .int .i64 Y]) (.agg #[.int .i64 0, .int .i64 0])).run Try.prog W = .ok (.bool false) W := fun W => by
          rw [run_eq_pt]
          have : (X == 0 && Y == 0) = false := by
            cases hb : (X == 0 && Y == 0) with
            | false => rfl
            | true => exact absurd (by simpa using hb) n5
          rw [this]
        clear n5
        go_wp2_with fail
        have W1 := where_any X Y (by decide) (M.out.kept (below_new (.cells #[.int .i64 X, .int .i64 Y] 30)))
        rw [hwm'.out] at W1
        refine W1.mono ?_
        clear W1
        rintro e w4 ⟨rfl, hb⟩
        obtain ⟨hc4, hf4⟩ := bcell hb
        have hz4 : wr.heap.size < w4.heap.size := by have := hb.size; simp at this; omega
        have P4 := Lib.hid ((P.out.kept (below_new (.cells #[.int .i64 X, .int .i64 Y] 30))).kept hb)
        have B4 := Lib.hid (below_then (below_new (.cells #[.int .i64 X, .int .i64 Y] 30)) hb (by simp))
        clear hb
        go_wp2_with fail
        have W2 := where_any X Y (by omega) P4.out
        rw [q1.out] at W2
        refine W2.mono ?_
        clear W2
        rintro e w5 ⟨rfl, hb⟩
        obtain ⟨hc5, hf5⟩ := bcell hb
        have hz5 : wr.heap.size < w5.heap.size := by have := hb.size; omega
        have P5 := Lib.hid (P4.out.kept hb)
        have B5 := Lib.hid (below_then B4.out hb B4.out.size)
        clear hb
        go_wp2_with fail
        have W3 := where_any (-X) (-Y) (by omega) P5.out
        have q2' := q2.out
        generalize whereI L (-X, -Y) = r2 at *
        refine W3.mono ?_
        clear W3
        rintro e w6 ⟨rfl, hb⟩
        obtain ⟨hc6, hf6⟩ := bcell hb
        have hz6 : wr.heap.size < w6.heap.size := by have := hb.size; omega
        have B6 := Lib.hid (below_then B5.out hb B5.out.size)
        clear hb
        go_wp2
        exact ⟨⟨k + 1, by omega, by go_num, by rw [hlk'.out], below_then hB.out B6.out hB.out.size, below_then hBw'.out B6.out hBw'.out.size⟩, by simp [intOf]; omega⟩
      · obtain rfl : k = L.length := by omega
        clear hlt
        go_wp2
        go_ret
        exact ⟨rfl, hBw'.out⟩
  · rw [hoodErr_bad hh, offs_bad hh] at K1
    rw [hoodErr_bad hh, offs_bad hh] at K2
    have h13 : h < 1 ∨ 3 < h := by omega
    clear hh hn8
    simp only [List.length_nil, ptCells, List.flatMap_nil] at K1 K2
    go_enter Try.func15, Try.ntmps15
    go_wp2_with fail
    refine (alive07 _).mono ?_
    rintro e w0 ⟨rfl, hb⟩
    have B0 := hb
    clear hb
    go_wp2_with fail
    refine (K1.out _).mono ?_
    rintro e w1 ⟨vl, rfl, ol, hb⟩
    obtain ⟨adl, capl, rfl⟩ := own_shape ol
    have B1 := below_then B0 hb B0.size
    clear ol hb B0
    go_wp2_with fail
    refine (K2.out _).mono ?_
    rintro e w2 ⟨rfl, hb⟩
    have B2 := below_then B1 hb B1.size
    clear hb B1
    go_wp2_with fail
    refine (K3.out _).mono ?_
    rintro e w3 ⟨vm, rfl, om, hb⟩
    obtain ⟨adm, capm, rfl⟩ := own_shape om
    have B3 := Lib.hid (below_then B2 hb B2.size)
    clear om hb B2
    rw [hm8]
    rcases h13 with h13 | h13
    · go_wp2
      go_ret
      exact ⟨rfl, B3.out⟩
    · have h13' : ¬ h < 1 := by omega
      go_wp2
      go_ret
      exact ⟨rfl, B3.out⟩
end Go.Proofs.Ytjomgjlicfoehaa
