import Derived.Test.YtjomgjlicfoehaaHoodH
import Derived.Test.YtjomgjlicfoehaaHoodF
namespace Go.Proofs.Ytjomgjlicfoehaa
open Go.RowKit Flt
attribute [local go_sem] run_store_float run_store_complex unary_neg_float unary_neg_complex
set_option linter.unusedSimpArgs false
set_option linter.unusedVariables false

theorem keptB_no {L : List (Int × Int)} {p k : Nat} (hk : k < L.length) (hc : L.contains (turn p (L.getD k (0, 0))) = false) : keptB L p = false := by
  cases hb : keptB L p with
  | false => rfl
  | true =>
    unfold keptB at hb
    rw [List.all_eq_true] at hb
    have e : L.getD k (0, 0) = L[k] := by rw [List.getD_eq_getElem?_getD, List.getElem?_eq_getElem hk, Option.getD_some]
    rw [e] at hc
    have := hb _ (List.getElem_mem hk)
    rw [hc] at this
    cases this
theorem keptB_yes {L : List (Int × Int)} {p : Nat} (h : ∀ j, j < L.length → L.contains (turn p (L.getD j (0, 0))) = true) : keptB L p = true := by
  unfold keptB
  rw [List.all_eq_true]
  intro q hq
  obtain ⟨k, hk, rfl⟩ := List.getElem_of_mem hq
  have e : L.getD k (0, 0) = L[k] := by rw [List.getD_eq_getElem?_getD, List.getElem?_eq_getElem hk, Option.getD_some]
  rw [← e]
  exact h k hk
theorem permL_no {L : List (Int × Int)} {p : Nat} (h : keptB L p = false) : permL L p = [] := by unfold permL; rw [h]; rfl

def PR1 (L : List (Int × Int)) (T : Nat) (W : World) (i : Value) (wr : World) : Prop := ∃ k : Nat, k ≤ L.length ∧ i = .int .i64 (k : Int) ∧ Tab wr T (tabL L k) ∧ Below T W wr
def PR2 (L : List (Int × Int)) (p O : Nat) (W : World) (i : Value) (wr : World) : Prop :=
  ∃ k : Nat, k ≤ L.length ∧ i = .int .i64 (k : Int) ∧ (∀ j, j < k → L.contains (turn p (L.getD j (0, 0))) = true) ∧
    wr.ownsRow O 3 1 (.slice (some ⟨O, 0, none⟩) L.length L.length) L.length ((outL L p k).map (Value.int .i64)) ∧ Below O W wr

set_option maxRecDepth 100000 in
set_option maxHeartbeats 16000000 in
theorem perm_good {h : Int} (hh : h = 1 ∨ h = 2 ∨ h = 3) {p : Nat} (hp : p < 8) (w : World) :
    Calls Try.prog 49 #[.int .u8 h, .int .i64 (p : Int)] w fun e w' => ∃ v, e = .returned (.tuple #[v, .bool (keptB (offs h) p), .int .i64 0]) ∧
      w'.ownsRow w.heap.size 3 1 v (permL (offs h) p).length ((permL (offs h) p).map (Value.int .i64)) ∧ Below w.heap.size w w' := by
  have K10 := fun W => offsets_any h W
  rw [hoodErr_good hh] at K10
  have K1 := Lib.hid K10
  have HF := Lib.hid (hoodFacts hh hp)
  have K20 := fun W => part_yes hp W
  have hk4 : p % 4 < 4 := by omega
  have K30 : ∀ (q : Int × Int), near1 q → ∀ W, Calls Try.prog 26 #[isoF (p % 4) (decide (4 ≤ p)) 0 0, .agg #[.int .i64 q.1, .int .i64 q.2]] W fun e w' => e = .returned (.tuple #[.agg #[.int .i64 (turn p q).1, .int .i64 (turn p q).2], .int .i64 0]) ∧ Below W.heap.size W w' :=
    fun q hq W => at_F hk4 (decide (4 ≤ p)) (x := 0) (y := 0) (u := q.1) (v := q.2) (by omega) (by omega) (by unfold near1 at hq; omega) (by unfold near1 at hq; omega) W
  obtain ⟨m, hm⟩ := isoF_M5 (p % 4) (decide (4 ≤ p)) 0 0
  rw [hm] at K20 K30
  unfold M5.V at K20 K30
  have K2 := Lib.hid K20
  have K3 := Lib.hid K30
  clear K10 K20 K30 hm hk4
  generalize offs h = L at *
  have hn8 := HF.out.len
  go_enter Try.func49, Try.ntmps49
  go_wp2_with fail
  refine (K1.out _).mono ?_
  rintro e w1 ⟨vl, rfl, ol, hb⟩
  obtain ⟨adl, capl, rfl⟩ := own_shape ol
  have P1 := HasPts.own ol
  have B1 := hb
  clear hb ol
  go_wp2_with fail
  refine (K2.out _).mono ?_
  rintro e w2 ⟨rfl, hb⟩
  have P2 := Lib.hid (P1.kept hb)
  have B2 := Lib.hid (below_then B1 hb B1.size)
  have z2 : w.heap.size ≤ w2.heap.size := B2.out.size
  clear hb P1 B1
  have hmk := fun n => run_make_row' (P := Try.prog) 78 3 (.int .i64 0) 8 Try.underlying78 info3' rfl .i64 .i64 n
  have hmk' : ∀ W, (Instr.makeSlice 78 (.int .i64 (L.length : Int)) (.int .i64 (L.length : Int))).run Try.prog W = .ok (.slice (some ⟨W.heap.size, 0, none⟩) L.length L.length) (W.alloc (.cells (madeCells #[.int .i64 0] L.length) 3)) := fun W => hmk L.length (by omega) (by omega) W
  clear hmk
  go_wp2
  go_loopw [36] (fun i wr => PR1 L (w2.heap.size + 1) (w2.alloc (.cells #[.complex .f64 m.a m.b, .bool m.f, .complex .f64 m.c m.d] 38)) i wr) (fun i _ => L.length - (intOf i).toNat)
  case atStart =>
    refine ⟨0, by omega, by go_num, ⟨by simp [tabL], ?_, ?_⟩, ?_⟩
    · intro j hj
      match j, hj with
      | 0, _ | 1, _ | 2, _ | 3, _ | 4, _ | 5, _ | 6, _ | 7, _ | 8, _ => go_simp; rfl
    · intro o; go_simp
    · exact Below.alloc (Below.refl _ _) (by simp) _
  case round =>
    obtain ⟨k, hk, rfl, hT, hB⟩ := hrel
    have hT' := Lib.hid hT
    have hBT := Lib.hid hB
    clear hT hB
    have hTl : w2.heap.size + 1 < wr.heap.size := World.block_lt_of_cell? wr ⟨w2.heap.size + 1, 0, none⟩ (hT'.out.2.1 0 (by omega))
    have PW := Lib.hid ((P2.out.kept (below_new (.cells #[.complex .f64 m.a m.b, .bool m.f, .complex .f64 m.c m.d] 38))).keptB hBT.out (by simp))
    by_cases hlt : k < L.length
    · obtain ⟨_, _, hv, hcs⟩ := PW.out
      obtain ⟨g, hg, c1, c2⟩ := hcs k hlt
      cases hv
      subst hg
      clear hcs
      obtain ⟨n1, n2, n3, n4⟩ := (HF.out.near k hlt).1
      have hgl : g < wr.heap.size := World.block_lt_of_cell? wr _ c1
      have hix : pidx (L.getD k (0, 0)) < 9 := by unfold pidx; omega
      have tc := hT'.out.2.1 _ hix
      have tf := hT'.out.2.2
      have R := Lib.hid ((hT'.out.set hix ((k : Int) + 1)).kept (below_new (.cells #[.int .i64 (L.getD k (0, 0)).1, .int .i64 (L.getD k (0, 0)).2] 30)) (by simp; omega))
      have hsx : tabL L (k + 1) = (tabL L k).set (pidx (L.getD k (0, 0))) ((k : Int) + 1) := rfl
      rw [← hsx] at R
      clear hsx
      unfold pidx at *
      generalize (L.getD k (0, 0)).1 = X at *
      generalize (L.getD k (0, 0)).2 = Y at *
      generalize (tabL L k).getD (X + 1 + 3 * (Y + 1)).toNat 0 = V at *
      go_wp2
      exact ⟨⟨k + 1, by omega, by go_num, R.out, (hBT.out.setCell (Nat.le_refl _) _).alloc (by simp; omega) _⟩, by simp [intOf]; omega⟩
    · obtain rfl : k = L.length := by omega
      clear hlt
      rename World => w3
      have oz : (w3.alloc (.cells (madeCells #[.int .i64 0] L.length) 3)).ownsRow w3.heap.size 3 1 (.slice (some ⟨w3.heap.size, 0, none⟩) L.length L.length) L.length ((outL L p 0).map (Value.int .i64)) := by
        have h1 := World.ownsRow_lit (base := w3.heap.size) (e := 3) (size := 1) w3 (madeCells #[.int .i64 0] L.length) L.length (Nat.le_refl _) (by unfold maxLen; omega) (by simp [madeCells])
        rw [toList_madeCells_one] at h1
        simpa [outL] using h1
      have oz' := Lib.hid oz
      clear oz
      have iM0 : ∀ o, w3.cell? ⟨w2.heap.size, o, none⟩ = (w2.alloc (.cells #[.complex .f64 m.a m.b, .bool m.f, .complex .f64 m.c m.d] 38)).cell? ⟨w2.heap.size, o, none⟩ := fun o => hBT.out.cell (p := ⟨w2.heap.size, o, none⟩) (by simp)
      have i0 : w3.cell? ⟨w2.heap.size, 0, none⟩ = some (.complex .f64 m.a m.b) := by rw [iM0]; go_simp
      have i1 : w3.cell? ⟨w2.heap.size, 1, none⟩ = some (.bool m.f) := by rw [iM0]; go_simp
      have i2 : w3.cell? ⟨w2.heap.size, 2, none⟩ = some (.complex .f64 m.c m.d) := by rw [iM0]; go_simp
      have I0 := Lib.hid i0
      have I1 := Lib.hid i1
      have I2 := Lib.hid i2
      clear iM0 i0 i1 i2
      have hBw : Hid (Below w.heap.size w w3) := by
        have h1 : Below w.heap.size w (w2.alloc (.cells #[.complex .f64 m.a m.b, .bool m.f, .complex .f64 m.c m.d] 38)) := B2.out.alloc z2 _
        exact h1.trans (hBT.out.mono (by omega))
      go_wp2
      go_loopw [58] (fun i wx => PR2 L p w3.heap.size w3 i wx) (fun i _ => L.length - (intOf i).toNat)
      case atStart =>
        exact ⟨0, by omega, by go_num, fun j hj => by omega, oz'.out, Below.alloc (Below.refl _ _) (Nat.le_refl _) _⟩
      case round =>
        obtain ⟨k, hk, rfl, hin, hown, hB⟩ := hrel
        have hO := Lib.hid hown
        have hI := Lib.hid hin
        have hBO := Lib.hid hB
        clear hin hown hB oz'
        have hOl : w3.heap.size < wr.heap.size := by
          rcases hO.out.2 with ⟨h1, _⟩ | ⟨g, _, _, h1, _, h3, _⟩
          · cases h1
          · cases h1; exact (Array.getElem?_eq_some_iff.1 h3).1
        by_cases hlt : k < L.length
        · obtain ⟨_, _, hv, hcs⟩ := PW.out.keptB hBO.out (Nat.le_refl _)
          obtain ⟨g, hg, c1, c2⟩ := hcs k hlt
          cases hv
          subst hg
          clear hcs
          have hgl : g < wr.heap.size := World.block_lt_of_cell? wr _ c1
          have hMl : w2.heap.size < wr.heap.size := by omega
          have hTl2 : w2.heap.size + 1 < wr.heap.size := by omega
          have i0 : wr.cell? ⟨w2.heap.size, 0, none⟩ = some (.complex .f64 m.a m.b) := (hBO.out.cell (p := ⟨w2.heap.size, 0, none⟩) (by simp; omega)).trans I0.out
          have i1 : wr.cell? ⟨w2.heap.size, 1, none⟩ = some (.bool m.f) := (hBO.out.cell (p := ⟨w2.heap.size, 1, none⟩) (by simp; omega)).trans I1.out
          have i2 : wr.cell? ⟨w2.heap.size, 2, none⟩ = some (.complex .f64 m.c m.d) := (hBO.out.cell (p := ⟨w2.heap.size, 2, none⟩) (by simp; omega)).trans I2.out
          have K4 := Lib.hid (K3.out (L.getD k (0, 0)) (HF.out.near k hlt).1)
          obtain ⟨n1, n2, n3, n4⟩ := (HF.out.near k hlt).2
          have htab := HF.out.tab k hlt
          have hix : pidx (turn p (L.getD k (0, 0))) < 9 := by unfold pidx; omega
          have tc := (hT'.out.kept hBO.out hTl).2.1 _ hix
          rw [htab] at tc
          clear htab
          have oc := hO.out.cellAt k (by omega)
          have of := hO.out.frozenAt k
          have hol : k < ((outL L p k).map (Value.int .i64)).length := by rw [List.length_map, outL_len]; exact hlt
          rw [List.getElem?_eq_getElem hol] at oc
          generalize ((outL L p k).map (Value.int .i64))[k] = ov at oc
          have hout : outL L p (k + 1) = (outL L p k).set k (L.idxOf (turn p (L.getD k (0, 0))) : Int) := rfl
          have hOut := Lib.hid hout
          clear hout hol
          obtain ⟨cc, hcc⟩ : ∃ cc, L.contains (turn p (L.getD k (0, 0))) = cc := ⟨_, rfl⟩
          have hcc' := Lib.hid hcc
          rw [hcc] at tc
          clear hcc
          have hidx : L.idxOf (turn p (L.getD k (0, 0))) ≤ 8 := Nat.le_trans List.idxOf_le_length hn8
          generalize hI' : L.idxOf (turn p (L.getD k (0, 0))) = I at *
          have hI2 := Lib.hid hI'
          clear hI'
          unfold pidx at *
          generalize hU : (turn p (L.getD k (0, 0))).1 = U at *
          generalize hV : (turn p (L.getD k (0, 0))).2 = V at *
          generalize hX : (L.getD k (0, 0)).1 = X at *
          generalize hY : (L.getD k (0, 0)).2 = Y at *
          clear hU hV hX hY
          go_wp2_with fail
          refine (K4.out _).mono ?_
          rintro e w4 ⟨rfl, hb⟩
          obtain ⟨hc4, hf4⟩ := bcell hb
          have hz1 : w2.heap.size < w4.heap.size := by have := hb.size; simp at this; omega
          have hz2 : w2.heap.size + 1 < w4.heap.size := by have := hb.size; simp at this; omega
          have hz3 : w3.heap.size < w4.heap.size := by have := hb.size; simp at this; omega
          have hz4 : wr.heap.size < w4.heap.size := by have := hb.size; simp at this; omega
          have hn1 : w2.heap.size ≠ w4.heap.size := by omega
          have hn2 : w3.heap.size ≠ w4.heap.size := by omega
          have hb5 : Below wr.heap.size wr w4 := below_then (below_new _) hb (by simp)
          have hb6 := Lib.hid hb5
          clear hb hb5
          cases cc with
          | false =>
            rw [if_neg (by simp)] at tc
            go_wp2
            go_ret3
            have hno := keptB_no hlt hcc'.out
            exact ⟨.slice none 0 0, by rw [hno]; rfl, by rw [permL_no hno]; exact World.ownsRow_nil _ _ _ _,
              (below_then (hBw.out.trans (hBO.out.mono (by have := hBw.out.size; omega))) hb6.out (by have := hBw.out.size; omega)).alloc (by have := hBw.out.size; omega) _⟩
          | true =>
            rw [if_pos rfl] at tc
            have hne : ¬ ((I : Int) + 1 = 0) := by omega
            go_wp2
            obtain ⟨s1, s2⟩ := (own_below hO.out hb6.out).stored k (.int .i64 (I : Int))
            refine ⟨⟨k + 1, by omega, by go_num, ?_, ?_, ((hBO.out.trans (hb6.out.mono (by omega))).setCell (Nat.le_refl _) _).alloc (by simp; omega) _⟩, by simp [intOf]; omega⟩
            · intro j hj
              by_cases e : j = k
              · rw [e]; exact hcc'.out
              · exact hI.out j (by omega)
            · rw [hOut.out, List.map_set]
              exact s1.alloc _
        · obtain rfl : k = L.length := by omega
          clear hlt
          go_wp2
          go_ret3
          have hyes := keptB_yes hI.out
          have hout := HF.out.out hyes
          have hlen : (permL L p).length = L.length := by rw [← hout, outL_len]
          exact ⟨.slice (some ⟨w3.heap.size, 0, none⟩) L.length L.length, by rw [hyes]; rfl, by rw [hlen, ← hout]; exact ownsRow_base (by have := hBw.out.size; omega) hO.out, hBw.out.trans (hBO.out.mono (by have := hBw.out.size; omega))⟩

/-! ### Perm, any -/
def permGood (h part : Int) : Prop := (h = 1 ∨ h = 2 ∨ h = 3) ∧ 0 ≤ part ∧ part ≤ 7
instance (h part : Int) : Decidable (permGood h part) := by unfold permGood; infer_instance
def permR (h part : Int) : List Int := if permGood h part then permL (offs h) part.toNat else []
def permOk (h part : Int) : Bool := if permGood h part then keptB (offs h) part.toNat else false
def permE (h part : Int) : Int := if h = 1 ∨ h = 2 ∨ h = 3 then (if 0 ≤ part ∧ part ≤ 7 then 0 else 71) else 70

set_option maxHeartbeats 2000000 in
theorem perm_any (h part : Int) (w : World) :
    Calls Try.prog 49 #[.int .u8 h, .int .i64 part] w fun e w' => ∃ v, e = .returned (.tuple #[v, .bool (permOk h part), .int .i64 (permE h part)]) ∧
      w'.ownsRow w.heap.size 3 1 v (permR h part).length ((permR h part).map (Value.int .i64)) ∧ Below w.heap.size w w' := by
  by_cases hh : h = 1 ∨ h = 2 ∨ h = 3
  · by_cases hp : 0 ≤ part ∧ part ≤ 7
    · obtain ⟨p, rfl⟩ : ∃ p : Nat, part = (p : Int) := ⟨part.toNat, by omega⟩
      have e1 : permGood h (p : Int) := ⟨hh, hp⟩
      have := perm_good hh (p := p) (by omega) w
      rw [show permOk h (p : Int) = keptB (offs h) p from by unfold permOk; rw [if_pos e1]; simp, show permR h (p : Int) = permL (offs h) p from by unfold permR; rw [if_pos e1]; simp,
        show permE h (p : Int) = 0 from by unfold permE; rw [if_pos hh, if_pos hp]]
      exact this
    · have e1 : ¬ permGood h part := fun e => hp e.2
      rw [show permOk h part = false from by unfold permOk; rw [if_neg e1], show permR h part = [] from by unfold permR; rw [if_neg e1], show permE h part = 71 from by unfold permE; rw [if_pos hh, if_neg hp]]
      have K10 := fun W => offsets_any h W
      rw [hoodErr_good hh] at K10
      have K1 := Lib.hid K10
      have K2 := Lib.hid (fun W => part_no (k := part) (by omega) W)
      unfold isoZero at K2
      clear K10 hh hp e1
      generalize (offs h).length = n at *
      generalize ptCells (offs h) = cs at *
      go_enter Try.func49, Try.ntmps49
      go_wp2_with fail
      refine (K1.out _).mono ?_
      rintro e w1 ⟨vl, rfl, ol, hb⟩
      have B1 := Lib.hid hb
      clear hb ol
      go_wp2_with fail
      refine (K2.out _).mono ?_
      rintro e w2 ⟨rfl, hb⟩
      have B2 := Lib.hid (below_then B1.out hb B1.out.size)
      clear hb
      go_wp2
      go_ret3
      exact ⟨_, rfl, World.ownsRow_nil _ _ _ _, B2.out.alloc B2.out.size _⟩
  · have e1 : ¬ permGood h part := fun e => hh e.1
    rw [show permOk h part = false from by unfold permOk; rw [if_neg e1], show permR h part = [] from by unfold permR; rw [if_neg e1], show permE h part = 70 from by unfold permE; rw [if_neg hh]]
    have K10 := fun W => offsets_any h W
    rw [hoodErr_bad hh] at K10
    have K1 := Lib.hid K10
    clear K10 hh e1
    generalize (offs h).length = n at *
    generalize ptCells (offs h) = cs at *
    go_enter Try.func49, Try.ntmps49
    go_wp2_with fail
    refine (K1.out _).mono ?_
    rintro e w1 ⟨vl, rfl, ol, hb⟩
    have B1 := Lib.hid hb
    clear hb ol
    go_wp2
    go_ret3
    exact ⟨_, rfl, World.ownsRow_nil _ _ _ _, B1.out⟩
end Go.Proofs.Ytjomgjlicfoehaa
