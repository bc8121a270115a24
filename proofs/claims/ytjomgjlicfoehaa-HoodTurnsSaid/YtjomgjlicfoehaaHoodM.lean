import Derived.Test.YtjomgjlicfoehaaHoodL
import Derived.Deep.RegionWith
import Derived.Deep.RegionHeld3
import Derived.Deep.CutRange
namespace Go.Proofs.Ytjomgjlicfoehaa
open Go.RowKit Flt
attribute [local go_sem] run_store_float run_store_complex unary_neg_float unary_neg_complex
set_option linter.unusedSimpArgs false
set_option linter.unusedVariables false

/-- The marks in memory. -/
def BTab (w : World) (T : Nat) (l : List Bool) : Prop := l.length = 9 ∧ (∀ j, j < 9 → w.cell? ⟨T, j, none⟩ = some (.bool (l.getD j false))) ∧ ∀ o, w.frozen? ⟨T, o, none⟩ = false
theorem BTab.kept {w w' : World} {T N : Nat} {l : List Bool} (h : BTab w T l) (hb : Below N w w') (hT : T < N) : BTab w' T l :=
  ⟨h.1, fun j hj => (hb.cell (p := ⟨T, j, none⟩) hT).trans (h.2.1 j hj), fun o => (hb.frozen (p := ⟨T, o, none⟩) hT).trans (h.2.2 o)⟩
theorem BTab.set {w : World} {T c : Nat} {l : List Bool} (h : BTab w T l) (hc : c < 9) (u : Bool) : BTab (w.setCell ⟨T, c, none⟩ (.bool u)) T (l.set c u) := by
  refine ⟨by rw [List.length_set]; exact h.1, fun j hj => ?_, fun o' => ?_⟩
  · have h0 := h.2.1 j hj
    have hc0 := h.2.1 c hc
    by_cases e : j = c
    · subst e
      have : (l.set j u).getD j false = u := by simp [h.1, hj]
      rw [this]
      go_simp
    · have : (l.set c u).getD j false = l.getD j false := by simp [List.getElem?_set, Ne.symm e]
      rw [this, ← h0]
      go_simp
  · have h0 := h.2.2 o'
    go_simp

theorem keptK_true {L : List (Int × Int)} {p : Nat} (TF : TurnFacts L p) (hk : keptB L p = true) : ∀ k, k ≤ L.length → keptK L p k = true
  | 0, _ => rfl
  | k + 1, h => by
    have h1 := keptK_true TF hk k (by omega)
    have h2 := (TF.perm hk k (by omega)).2.1
    show (keptK L p k && decide (0 ≤ whereI L (turn p (L.getD k (0, 0))))) = true
    rw [h1, decide_eq_true h2]; rfl

/-- Behind the call of At. -/
def TC (U V : Int) (W : World) (q er : Value) (wx : World) : Prop :=
  er = .int .i64 0 ∧ ∃ b, q = .pointer (some ⟨b, 0, none⟩) ∧ wx.cell? ⟨b, 0, none⟩ = some (.int .i64 U) ∧ wx.cell? ⟨b, 1, none⟩ = some (.int .i64 V) ∧ W.heap.size ≤ b ∧ Below W.heap.size W wx

/-- At the loop's head. -/
def TR (L : List (Int × Int)) (p T : Nat) (w W : World) (kept i : Value) (wr : World) : Prop :=
  ∃ k : Nat, k ≤ L.length ∧ i = .int .i64 (k : Int) ∧ kept = .bool (keptK L p k) ∧ BTab wr T (seenL L p k) ∧ Below T W wr ∧ Below w.heap.size w wr

set_option maxRecDepth 100000 in
set_option maxHeartbeats 16000000 in
theorem turns_good {h : Int} (hh : h = 1 ∨ h = 2 ∨ h = 3) {p : Nat} (hp : p < 8) (w : World) :
    Calls Try.prog 14 #[.int .u8 h, .int .i64 (p : Int)] w fun e w' => e = .returned (.bool true) ∧ Below w.heap.size w w' := by
  have K10 := fun W => offsets_any h W
  rw [hoodErr_good hh] at K10
  have TF := Lib.hid (turnFacts hh hp)
  have K20 := fun W => part_yes hp W
  have K40 := fun W => perm_good hh hp W
  have hk4 : p % 4 < 4 := by omega
  have K30 : ∀ (q : Int × Int), near1 q → ∀ W, Calls Try.prog 26 #[isoF (p % 4) (decide (4 ≤ p)) 0 0, .agg #[.int .i64 q.1, .int .i64 q.2]] W fun e w' => e = .returned (.tuple #[.agg #[.int .i64 (turn p q).1, .int .i64 (turn p q).2], .int .i64 0]) ∧ Below W.heap.size W w' :=
    fun q hq W => at_F hk4 (decide (4 ≤ p)) (x := 0) (y := 0) (u := q.1) (v := q.2) (by omega) (by omega) (by unfold near1 at hq; omega) (by unfold near1 at hq; omega) W
  obtain ⟨m, hm⟩ := isoF_M5 (p % 4) (decide (4 ≤ p)) 0 0
  rw [hm] at K20 K30
  unfold M5.V at K20 K30
  have K1 := Lib.hid K10
  have K2 := Lib.hid K20
  have K3 := Lib.hid K30
  have hn8 := offs_len h
  generalize offs h = L at *
  have hlen := TF.out.len
  have K4 := Lib.hid K40
  clear K10 K20 K30 K40 hm hk4
  generalize hkb : keptB L p = kb at *
  generalize hpl : permL L p = PL at *
  have hkb' := Lib.hid hkb
  have hpl' := Lib.hid hpl
  clear hkb hpl
  go_enter Try.func14, Try.ntmps14
  go_wp2_with fail
  refine (alive07 _).mono ?_
  rintro e w1 ⟨rfl, hb⟩
  have B1 := hb
  clear hb
  go_wp2_with fail
  refine (K1.out _).mono ?_
  rintro e w2 ⟨vl, rfl, ol, hb⟩
  obtain ⟨adl, capl, rfl⟩ := own_shape ol
  have P2 := HasPts.own ol
  have B2 := below_then B1 hb B1.size
  clear hb B1 ol
  go_wp2_with fail
  refine (K2.out _).mono ?_
  rintro e w3 ⟨rfl, hb⟩
  have P3 := P2.kept hb
  have B3 := below_then B2 hb B2.size
  have z3 := B3.size
  clear hb B2 P2
  go_wp2_with fail
  refine (K4.out _).mono ?_
  rintro e w4 ⟨vp, rfl, op, hb⟩
  obtain ⟨adp, capp, rfl⟩ := own_shape op
  obtain ⟨hc4, hf4⟩ := bcell hb
  have z4 : w3.heap.size < w4.heap.size := by have := hb.size; simp at this; omega
  have P4 := Lib.hid ((P3.kept (below_new _)).kept hb)
  have Q4 := Lib.hid (HasInts.own op)
  have B4 := Lib.hid (below_then (B3.alloc z3 _) hb (by simp; omega))
  have i0 : w4.cell? ⟨w3.heap.size, 0, none⟩ = some (.complex .f64 m.a m.b) := by go_simp
  have i1 : w4.cell? ⟨w3.heap.size, 1, none⟩ = some (.bool m.f) := by go_simp
  have i2 : w4.cell? ⟨w3.heap.size, 2, none⟩ = some (.complex .f64 m.c m.d) := by go_simp
  have I0 := Lib.hid i0
  have I1 := Lib.hid i1
  have I2 := Lib.hid i2
  clear hb B3 P3 op hc4 hf4 i0 i1 i2
  have zw4 := B4.out.size
  have hl2 : ∀ b : Bool, (if b = true then L.length else 0) = if b then L.length else 0 := fun _ => rfl
  rw [hlen]
  cases kb with
  | false =>
    simp only [Bool.false_eq_true, if_false] at hlen ⊢
    go_wp2
    go_loopw [13, 15] (fun kept i wr => TR L p w4.heap.size w w4 kept i wr) (fun _ i _ => L.length - (intOf i).toNat)
    case atStart =>
      refine ⟨0, by omega, by go_num, rfl, ⟨by simp [seenL], ?_, ?_⟩, Below.alloc (Below.refl _ _) (Nat.le_refl _) _, Below.alloc B4.out zw4 _⟩
      · intro j hj
        match j, hj with
        | 0, _ | 1, _ | 2, _ | 3, _ | 4, _ | 5, _ | 6, _ | 7, _ | 8, _ => go_simp; rfl
      · intro o; go_simp
    case round =>
      obtain ⟨k, hk, rfl, rfl, hT, hB, hBw⟩ := hrel
      have hT' := Lib.hid hT
      have hBT := Lib.hid hB
      have hBw' := Lib.hid hBw
      clear hT hB hBw
      have hTl : w4.heap.size < wr.heap.size := World.block_lt_of_cell? wr ⟨w4.heap.size, 0, none⟩ (hT'.out.2.1 0 (by omega))
      have P := Lib.hid (P4.out.keptB hBT.out (Nat.le_refl _))
      by_cases hlt : k < L.length
      · obtain ⟨_, _, hv, hcs⟩ := P.out
        obtain ⟨g, hg, c1, c2⟩ := hcs k hlt
        cases hv
        subst hg
        clear hcs
        have hgl : g < wr.heap.size := World.block_lt_of_cell? wr _ c1
        have hgn : g ≠ wr.heap.size := by omega
        have i0 : wr.cell? ⟨w3.heap.size, 0, none⟩ = some (.complex .f64 m.a m.b) := (hBT.out.cell (p := ⟨w3.heap.size, 0, none⟩) z4).trans I0.out
        have i1 : wr.cell? ⟨w3.heap.size, 1, none⟩ = some (.bool m.f) := (hBT.out.cell (p := ⟨w3.heap.size, 1, none⟩) z4).trans I1.out
        have i2 : wr.cell? ⟨w3.heap.size, 2, none⟩ = some (.complex .f64 m.c m.d) := (hBT.out.cell (p := ⟨w3.heap.size, 2, none⟩) z4).trans I2.out
        have hl3 : w3.heap.size < wr.heap.size := by omega
        have hn3 : w3.heap.size ≠ wr.heap.size := by omega
        have K5 := Lib.hid (K3.out (L.getD k (0, 0)) (TF.out.near k hlt))
        have kk : keptK L p (k + 1) = (keptK L p k && decide (0 ≤ whereI L (turn p (L.getD k (0, 0))))) := rfl
        have KK := Lib.hid kk
        clear kk
        generalize hU : (turn p (L.getD k (0, 0))).1 = U at *
        generalize hV : (turn p (L.getD k (0, 0))).2 = V at *
        have hU' := Lib.hid hU
        have hV' := Lib.hid hV
        generalize hX : (L.getD k (0, 0)).1 = X at *
        generalize hY : (L.getD k (0, 0)).2 = Y at *
        clear hU hV hX hY
        go_upto_region 14 with fail
        go_cut [16, 17] from 92 to 137 (fun q er wx => TC U V wr q er wx)
        case first =>
          go_region_with (go_at_call 26; refine (K5.out _).mono ?_; rintro e w6 ⟨rfl, hb⟩; obtain ⟨hc6, hf6⟩ := bcell hb; have hz6 : wr.heap.size ≤ w6.heap.size := (by have := hb.size; (try simp at this); omega); (try have hz7 : wr.heap.size < w6.heap.size := (by have := hb.size; (try simp at this); omega)); have hb7 := Lib.hid (below_then (B := wr.heap.size) (w := wr) (by repeat (first | exact Below.refl _ _ | refine Below.alloc ?_ (by first | omega | (simp; done) | (simp; omega)) _ | refine Below.drew ?_)) hb (by simp)); clear hb)
          all_goals
            go_wp2_with fail
            go_meet
            refine ⟨rfl, _, rfl, ?_, ?_, ?_, ?_⟩
            · go_simp
            · go_simp
            · first | omega | (simp; done) | (simp; omega)
            · repeat (first | exact hb7.out | refine Below.alloc ?_ (by first | omega | (simp; done) | (simp; omega)) _ | refine Below.setCell ?_ (by first | omega | (simp; done) | (simp; omega)) _ | refine Below.drew ?_)
        case rest =>
          obtain ⟨rfl, b, rfl, d1, d2, hbw, hb8⟩ := hcut
          have hse : seenL L p (k + 1) = seenL L p k := by simp [seenL, hkb'.out]
          have hpt : turn p (L.getD k (0, 0)) = (U, V) := by rw [← hU'.out, ← hV'.out]
          rw [hpt] at KK
          have P8 := Lib.hid (P.out.kept hb8)
          have T8 := hT'.out.kept hb8 hTl
          have hTl8 : w4.heap.size < wc.heap.size := by have := hb8.size; omega
          have W2 := Lib.hid (where_any U V (by omega) P8.out)
          have hB8 := Lib.hid hb8
          have HSE := Lib.hid hse
          clear hb8 hse hpt
          generalize whereI L (U, V) = r at *
          cases hkk : keptK L p k <;> by_cases hr : 0 ≤ r
          all_goals
            go_wp2_with fail
            refine (W2.out).mono ?_
            rintro e w7 ⟨rfl, hb⟩
            have T9 := Lib.hid (T8.kept hb hTl8)
            have hB9 := Lib.hid (below_then hB8.out hb hB8.out.size)
            clear hb
            go_wp2
            refine ⟨⟨k + 1, by omega, by go_num, by rw [KK.out, hkk]; simp [hr], by rw [HSE.out]; exact T9.out, ?_, ?_⟩, by simp [intOf]; omega⟩
            · exact hBT.out.trans (hB9.out.mono (by omega))
            · exact below_then hBw'.out hB9.out hBw'.out.size
      · obtain rfl : k = L.length := by omega
        clear hlt
        have hke := TF.out.kept
        rw [hkb'.out] at hke
        rw [hke]
        go_wp2
        go_ret
        exact ⟨rfl, hBw'.out⟩
  | true =>
    simp only [if_true] at hlen ⊢
    go_wp2
    go_loopw [13, 15] (fun kept i wr => TR L p w4.heap.size w w4 kept i wr) (fun _ i _ => L.length - (intOf i).toNat)
    case atStart =>
      refine ⟨0, by omega, by go_num, rfl, ⟨by simp [seenL], ?_, ?_⟩, Below.alloc (Below.refl _ _) (Nat.le_refl _) _, Below.alloc B4.out zw4 _⟩
      · intro j hj
        match j, hj with
        | 0, _ | 1, _ | 2, _ | 3, _ | 4, _ | 5, _ | 6, _ | 7, _ | 8, _ => go_simp; rfl
      · intro o; go_simp
    case round =>
      obtain ⟨k, hk, rfl, rfl, hT, hB, hBw⟩ := hrel
      have hT' := Lib.hid hT
      have hBT := Lib.hid hB
      have hBw' := Lib.hid hBw
      clear hT hB hBw
      have hTl : w4.heap.size < wr.heap.size := World.block_lt_of_cell? wr ⟨w4.heap.size, 0, none⟩ (hT'.out.2.1 0 (by omega))
      have P := Lib.hid (P4.out.keptB hBT.out (Nat.le_refl _))
      by_cases hlt : k < L.length
      · obtain ⟨_, _, hv, hcs⟩ := P.out
        obtain ⟨g, hg, c1, c2⟩ := hcs k hlt
        cases hv
        subst hg
        clear hcs
        have hgl : g < wr.heap.size := World.block_lt_of_cell? wr _ c1
        have hgn : g ≠ wr.heap.size := by omega
        have i0 : wr.cell? ⟨w3.heap.size, 0, none⟩ = some (.complex .f64 m.a m.b) := (hBT.out.cell (p := ⟨w3.heap.size, 0, none⟩) z4).trans I0.out
        have i1 : wr.cell? ⟨w3.heap.size, 1, none⟩ = some (.bool m.f) := (hBT.out.cell (p := ⟨w3.heap.size, 1, none⟩) z4).trans I1.out
        have i2 : wr.cell? ⟨w3.heap.size, 2, none⟩ = some (.complex .f64 m.c m.d) := (hBT.out.cell (p := ⟨w3.heap.size, 2, none⟩) z4).trans I2.out
        have hl3 : w3.heap.size < wr.heap.size := by omega
        have hn3 : w3.heap.size ≠ wr.heap.size := by omega
        have K5 := Lib.hid (K3.out (L.getD k (0, 0)) (TF.out.near k hlt))
        have kk : keptK L p (k + 1) = (keptK L p k && decide (0 ≤ whereI L (turn p (L.getD k (0, 0))))) := rfl
        have KK := Lib.hid kk
        clear kk
        generalize hU : (turn p (L.getD k (0, 0))).1 = U at *
        generalize hV : (turn p (L.getD k (0, 0))).2 = V at *
        have hU' := Lib.hid hU
        have hV' := Lib.hid hV
        generalize hX : (L.getD k (0, 0)).1 = X at *
        generalize hY : (L.getD k (0, 0)).2 = Y at *
        clear hU hV hX hY
        go_upto_region 14 with fail
        go_cut [16, 17] from 92 to 137 (fun q er wx => TC U V wr q er wx)
        case first =>
          go_region_with (go_at_call 26; refine (K5.out _).mono ?_; rintro e w6 ⟨rfl, hb⟩; obtain ⟨hc6, hf6⟩ := bcell hb; have hz6 : wr.heap.size ≤ w6.heap.size := (by have := hb.size; (try simp at this); omega); (try have hz7 : wr.heap.size < w6.heap.size := (by have := hb.size; (try simp at this); omega)); have hb7 := Lib.hid (below_then (B := wr.heap.size) (w := wr) (by repeat (first | exact Below.refl _ _ | refine Below.alloc ?_ (by first | omega | (simp; done) | (simp; omega)) _ | refine Below.drew ?_)) hb (by simp)); clear hb)
          all_goals
            go_wp2_with fail
            go_meet
            refine ⟨rfl, _, rfl, ?_, ?_, ?_, ?_⟩
            · go_simp
            · go_simp
            · first | omega | (simp; done) | (simp; omega)
            · repeat (first | exact hb7.out | refine Below.alloc ?_ (by first | omega | (simp; done) | (simp; omega)) _ | refine Below.setCell ?_ (by first | omega | (simp; done) | (simp; omega)) _ | refine Below.drew ?_)
        case rest =>
          obtain ⟨rfl, b, rfl, d1, d2, hbw, hb8⟩ := hcut
          have hkt := keptK_true TF.out hkb'.out k hk
          have hkt' := keptK_true TF.out hkb'.out (k + 1) hlt
          obtain ⟨f1, f2, f3, f4⟩ := TF.out.perm hkb'.out k hlt
          have hse : seenL L p (k + 1) = (seenL L p k).set (whereI L (turn p (L.getD k (0, 0)))).toNat true := by simp [seenL, hkb'.out]
          have hpt : turn p (L.getD k (0, 0)) = (U, V) := by rw [← hU'.out, ← hV'.out]
          rw [hpl'.out] at f1
          rw [hpt] at f1 f2 f3 f4 hse
          have P8 := Lib.hid (P.out.kept hb8)
          obtain ⟨_, _, hvq, hcq⟩ := Q4.out
          obtain ⟨gp, hgp, q1⟩ := hcq k (by omega)
          cases hvq
          subst hgp
          have hgpl : gp < w4.heap.size := World.block_lt_of_cell? w4 _ q1
          have q2 : wr.cell? ⟨gp, k, none⟩ = _ := (hBT.out.cell (p := ⟨gp, k, none⟩) hgpl).trans q1
          have q3 := cell_kept hb8 q2
          have T8 := hT'.out.kept hb8 hTl
          have hTl8 : w4.heap.size < wc.heap.size := by have := hb8.size; omega
          have W2 := Lib.hid (where_any U V (by omega) P8.out)
          rw [f1] at q3
          have hB8 := Lib.hid hb8
          have HSE := Lib.hid hse
          have HKT := Lib.hid hkt'
          clear hcq q1 q2 hb8 hse hkt' hpt f1
          generalize whereI L (U, V) = r at *
          rw [hkt]
          go_wp2_with fail
          refine (W2.out).mono ?_
          rintro e w7 ⟨rfl, hb⟩
          have q4 := cell_kept hb q3
          have T9 := T8.kept hb hTl8
          have hTl9 : w4.heap.size < w7.heap.size := by have := hb.size; omega
          have t1 := T9.2.1 r.toNat (by omega)
          have t2 := T9.2.2
          rw [f4] at t1
          have T10 := Lib.hid (T9.set (c := r.toNat) (by omega) true)
          have hB9 := Lib.hid (below_then hB8.out hb hB8.out.size)
          clear hb q3 T8 T9 f4
          go_wp2
          refine ⟨⟨k + 1, by omega, by go_num, by rw [HKT.out], by rw [HSE.out]; exact T10.out, ?_, ?_⟩, by simp [intOf]; omega⟩
          · exact (hBT.out.trans (hB9.out.mono (by omega))).setCell (Nat.le_refl _) _
          · exact (below_then hBw'.out hB9.out hBw'.out.size).setCell zw4 _
      · obtain rfl : k = L.length := by omega
        clear hlt
        have hke := TF.out.kept
        rw [hkb'.out] at hke
        rw [hke]
        go_wp2
        go_ret
        exact ⟨rfl, hBw'.out⟩

theorem hoodTurns_walk (h part : Int) (w : World) : Calls Try.prog 14 #[.int .u8 h, .int .i64 part] w fun e w' => e = .returned (.bool true) ∧ Below w.heap.size w w' := by
  by_cases hh : h = 1 ∨ h = 2 ∨ h = 3
  · by_cases hp : 0 ≤ part ∧ part ≤ 7
    · obtain ⟨p, rfl⟩ : ∃ p : Nat, part = (p : Int) := ⟨part.toNat, by omega⟩
      exact turns_good hh (by omega) w
    · have e1 : ¬ permGood h part := fun e => hp e.2
      refine turns_bad h part 0 2 71 ⟨0, 0, false, 0, 0⟩ (.inr ⟨rfl, rfl, rfl⟩) (fun W => by have := offsets_any h W; rw [hoodErr_good hh] at this; exact this) (fun W => part_no (by omega) W) (fun W => ?_) w
      have := perm_any h part W
      rw [show permOk h part = false from by unfold permOk; rw [if_neg e1], show permR h part = [] from by unfold permR; rw [if_neg e1], show permE h part = 71 from by unfold permE; rw [if_pos hh, if_neg hp]] at this
      exact this
  · have e1 : ¬ permGood h part := fun e => hh e.1
    obtain ⟨m, f, hm⟩ := part_any part
    refine turns_bad h part 70 f 70 m (.inl ⟨rfl, rfl⟩) (fun W => by have := offsets_any h W; rw [hoodErr_bad hh] at this; exact this) hm (fun W => ?_) w
    have := perm_any h part W
    rw [show permOk h part = false from by unfold permOk; rw [if_neg e1], show permR h part = [] from by unfold permR; rw [if_neg e1], show permE h part = 70 from by unfold permE; rw [if_neg hh]] at this
    exact this
end Go.Proofs.Ytjomgjlicfoehaa
