import Derived.Test.YtjomgjlicfoehaaHoodP
namespace Go.Proofs.Ytjomgjlicfoehaa
open Go.RowKit Flt
set_option linter.unusedSimpArgs false
set_option linter.unusedVariables false

set_option maxRecDepth 100000 in
set_option maxHeartbeats 8000000 in
theorem rperm_good {h : Int} (hh : h = 1 ∨ h = 2 ∨ h = 3) {p : Nat} (hp : p < 8) (w : World) :
    Calls Try.prog 51 #[.int .u8 h, .int .i64 (p : Int)] w fun e w' => ∃ v, e = .returned (.tuple #[v, .bool (keptB (offs h) p), .int .i64 0]) ∧
      w'.ownsRow w.heap.size 3 1 v (permL (offs h) p).length ((permL (offs h) p).map (Value.int .i64)) ∧ Below w.heap.size w w' := by
  have K10 := fun W => roffsets_any h W
  rw [hoodErr_good hh] at K10
  have K1 := Lib.hid K10
  have HF := Lib.hid (refFacts hh hp)
  have K30 : ∀ (q : Int × Int), near1 q → ∀ W, Calls Try.prog 70 #[.int .i64 (p : Int), .agg #[.int .i64 q.1, .int .i64 q.2]] W fun e w' => e = .returned (.agg #[.int .i64 (turn p q).1, .int .i64 (turn p q).2]) ∧ Below W.heap.size W w' :=
    fun q hq W => turned70 hp hq W
  have K3 := Lib.hid K30
  clear K10 K30
  generalize offs h = L at *
  have hn8 := HF.out.len
  have hp0 : decide ((p : Int) < 0) = false := decide_eq_false (by omega)
  have hp7 : decide (7 < (p : Int)) = false := decide_eq_false (by omega)
  go_enter Try.func51, Try.ntmps51
  go_wp2_with fail
  refine (K1.out _).mono ?_
  rintro e w1 ⟨vl, rfl, ol, hb⟩
  obtain ⟨adl, capl, rfl⟩ := own_shape ol
  have P1 := Lib.hid (HasPts.own ol)
  have B1 := Lib.hid hb
  have z1 : w.heap.size ≤ w1.heap.size := hb.size
  clear hb ol
  go_wp2
  go_loopw [9, 10] (fun l i wr => ORel L p w1 l i wr) (fun _ i _ => L.length - (intOf i).toNat)
  case atStart => exact ⟨0, by omega, by go_num, fun j hj => by omega, World.ownsRow_nil _ _ _ _, Below.refl _ _⟩
  case round =>
    obtain ⟨k, hk, rfl, hin, hown, hB⟩ := hrel
    have hO := Lib.hid hown
    have hI := Lib.hid hin
    have hBO := Lib.hid hB
    clear hin hown hB
    have hsz : w1.heap.size ≤ wr.heap.size := hBO.out.size
    by_cases hlt : k < L.length
    · obtain ⟨_, _, hv, hcs⟩ := P1.out.kept hBO.out
      obtain ⟨g, hg, c1, c2⟩ := hcs k hlt
      cases hv
      subst hg
      clear hcs
      have K4 := Lib.hid (K3.out (L.getD k (0, 0)) (HF.out.near k hlt))
      have hhit := Lib.hid (HF.out.hit k hlt)
      have hno := Lib.hid (HF.out.no k hlt)
      have hps := Lib.hid (preL_succ L p k)
      have hpl := Lib.hid (preL_len L p k)
      generalize hT : turn p (L.getD k (0, 0)) = t at *
      have hT' := Lib.hid hT
      clear hT
      generalize preL L p k = pre at *
      generalize (L.getD k (0, 0)).1 = X at *
      generalize (L.getD k (0, 0)).2 = Y at *
      go_wp2_with fail
      refine (K4.out _).mono ?_
      rintro e w2 ⟨rfl, hb⟩
      have hB2 := Lib.hid (below_then hBO.out hb hsz)
      have hO2 := Lib.hid (own_below hO.out hb)
      have z2 : w1.heap.size ≤ w2.heap.size := hB2.out.size
      clear hb
      have hpl' := hpl.out
      have start : IRel L t w2.heap.size w1 pre _ (.bool false) (.int .i64 0) (w2.alloc (.cells #[.int .i64 t.1, .int .i64 t.2] 30)) :=
        ⟨0, by omega, by go_num, by simp [hits], by simpa [hits, hpl'] using hO2.out.alloc _, fun q hq => by have := (hO2.out.lt q hq).2; omega, by go_simp, by go_simp, hB2.out.alloc z2 _⟩
      have start' := Lib.hid start
      clear start
      obtain ⟨X', hX'⟩ : ∃ X', t.1 = X' := ⟨_, rfl⟩
      obtain ⟨Y', hY'⟩ : ∃ Y', t.2 = Y' := ⟨_, rfl⟩
      rw [hX', hY'] at start'
      have hX2 := Lib.hid hX'
      have hY2 := Lib.hid hY'
      rw [hX', hY']
      clear hX' hY'
      go_wp2
      go_loopw [9, 12, 13] (fun l f i wr => IRel L t w2.heap.size w1 pre l f i wr) (fun _ _ i _ => L.length - (intOf i).toNat)
      case atStart => exact start'.out
      case round =>
        obtain ⟨K, hK, rfl, rfl, hown, hoff, t1, t2, hB⟩ := hrel
        have hO3 := Lib.hid hown
        have hOff := Lib.hid hoff
        have hB3 := Lib.hid hB
        rw [hX2.out] at t1
        rw [hY2.out] at t2
        clear hown hoff hB
        by_cases hltK : K < L.length
        · obtain ⟨_, _, hv, hcs⟩ := P1.out.kept hB3.out
          obtain ⟨g, hg, d1, d2⟩ := hcs K hltK
          cases hv
          cases hg
          clear hcs
          have hy := Lib.hid (@hits_yes L t K)
          have hn := Lib.hid (@hits_no L t K)
          have hl := hits_len L t K
          have heqp : (L.getD K (0, 0) = t) ↔ ((L.getD K (0, 0)).1 = X' ∧ (L.getD K (0, 0)).2 = Y') := by
            rw [← hX2.out, ← hY2.out]
            exact ⟨fun e => by rw [e]; exact ⟨rfl, rfl⟩, fun e => Prod.ext e.1 e.2⟩
          by_cases he0 : L.getD K (0, 0) = t
          · have hc := heqp.1 he0
            have hys := Lib.hid (hy.out he0)
            rw [hc.1] at d1
            rw [hc.2] at d2
            have he : ∀ W, (binOp .eql 30 (.agg #[.int .i64 X', .int .i64 Y']) (.agg #[.int .i64 X', .int .i64 Y'])).run Try.prog W = .ok (.bool true) W := fun W => by rw [run_eq_pt]; simp
            have he' := Lib.hid he
            clear hc he0 heqp he
            have he := he'.out
            go_wp2
            go_quiet (fail)
            obtain ⟨v', w', hrun, hown', hcase⟩ := append_int (W := (wr.drewN nq).alloc (.cells #[.int .i64 (K : Int)] 3)) (K : Int) wr.heap.size 78 1 ((own_drewN hO3.out nq).alloc _) (new_cell _ _ _ _) (by have := hB3.out.size; simp; omega) (by rw [List.length_append]; have := hpl.out; omega)
            have hrun' := Lib.hid hrun
            have hown2 := Lib.hid hown'
            have hcase' := Lib.hid hcase
            clear hrun hown' hcase he
            go_wp2_with (first
              | (at_builtin; refine wpList_append_run rfl _ _ 78 rfl rfl rfl hrun'.out ?_)
              | go_in)
            have hTl : w2.heap.size < wr.heap.size := World.block_lt_of_cell? wr _ t1
            have hB4 : Below w1.heap.size w1 ((wr.drewN nq).alloc (.cells #[.int .i64 (K : Int)] 3)) := (below_drewN hB3.out nq).alloc (by have := hB3.out.size; simp; omega) _
            refine ⟨⟨K + 1, by omega, by go_num, ?_, ?_, ?_, ?_, ?_, ?_⟩, by simp [intOf]; omega⟩
            · rw [hys.out]; simp
            · rw [hys.out, ← List.append_assoc, List.length_append, List.map_append]
              exact hown2.out
            · intro q hq
              rcases hcase'.out with ⟨q1, q2⟩ | ⟨q1, q2⟩
              · rw [q1] at hq; exact hOff.out q hq
              · have := (q1.lt q hq).1; simp at this; omega
            · rw [hX2.out]
              rcases hcase'.out with ⟨q1, q2⟩ | ⟨q1, q2⟩
              · exact q2.cell (old_cell _ _ _ t1) (fun e => hOff.out _ e.symm rfl)
              · exact q2.cell (old_cell _ _ _ t1) (fun e => by cases e)
            · rw [hY2.out]
              rcases hcase'.out with ⟨q1, q2⟩ | ⟨q1, q2⟩
              · exact q2.cell (old_cell _ _ _ t2) (fun e => hOff.out _ e.symm rfl)
              · exact q2.cell (old_cell _ _ _ t2) (fun e => by cases e)
            · rcases hcase'.out with ⟨q1, q2⟩ | ⟨q1, q2⟩
              · exact hB4.grown q2 (by have := hB3.out.size; simp; omega) (fun b e => by have := hO3.out.lt b e; omega)
              · exact hB4.grown q2 (by have := hB3.out.size; simp; omega) (fun b e => by cases e)
          · have hc : ¬ ((L.getD K (0, 0)).1 = X' ∧ (L.getD K (0, 0)).2 = Y') := fun e => he0 (heqp.2 e)
            have hns := Lib.hid (hn.out he0)
            generalize (L.getD K (0, 0)).1 = X2 at *
            generalize (L.getD K (0, 0)).2 = Y2 at *
            have he : ∀ W, (binOp .eql 30 (.agg #[.int .i64 X2, .int .i64 Y2]) (.agg #[.int .i64 X', .int .i64 Y'])).run Try.prog W = .ok (.bool false) W := fun W => by
              rw [run_eq_pt]
              have : (X2 == X' && Y2 == Y') = false := by rw [Bool.and_eq_false_iff]; simp; omega
              rw [this]
            have he' := Lib.hid he
            clear hc he0 heqp he
            have he := he'.out
            go_wp2
            go_quiet (fail)
            go_wp2
            refine ⟨⟨K + 1, by omega, by go_num, ?_, ?_, hOff.out, ?_, ?_, below_drewN hB3.out nq⟩, by simp [intOf]; omega⟩
            · rw [hns.out]
            · rw [hns.out]; exact own_drewN hO3.out nq
            · rw [hX2.out]; go_simp
            · rw [hY2.out]; go_simp
        · obtain rfl : K = L.length := by omega
          clear hltK
          cases hcc : L.contains t with
          | false =>
            have hh0 := hno.out hcc
            rw [hh0]
            have hcc' := Lib.hid hcc
            clear hh0
            go_wp2
            go_ret3
            have hno' := keptB_no hlt (by rw [hT'.out]; exact hcc'.out)
            exact ⟨.slice none 0 0, by rw [hno']; rfl, by rw [permL_no hno']; exact World.ownsRow_nil _ _ _ _, B1.out.trans (hB3.out.mono z1)⟩
          | true =>
            have hh0 := hhit.out hcc
            have hh1 := Lib.hid hh0
            rw [hh0]
            have hcc' := Lib.hid hcc
            clear hh0
            go_wp2
            refine ⟨⟨k + 1, by omega, by go_num, ?_, ?_, hB3.out⟩, by simp [intOf]; omega⟩
            · intro j hj
              by_cases e : j = k
              · rw [e, hT'.out]; exact hcc'.out
              · exact hI.out j (by omega)
            · rw [hps.out]
              have := hO3.out
              rw [hh1.out, List.length_append, hpl.out] at this
              exact this
    · obtain rfl : k = L.length := by omega
      clear hlt
      go_wp2
      go_ret3
      have hyes := keptB_yes hI.out
      have hout : preL L p L.length = permL L p := by unfold permL; rw [hyes, if_pos rfl]; exact preL_all L p
      have hlen : (permL L p).length = L.length := by rw [← hout, preL_len]
      exact ⟨_, by rw [hyes]; rfl, by rw [hlen, ← hout]; exact ownsRow_base z1 hO.out, B1.out.trans (hBO.out.mono z1)⟩

set_option maxHeartbeats 2000000 in
theorem rperm_any (h part : Int) (w : World) :
    Calls Try.prog 51 #[.int .u8 h, .int .i64 part] w fun e w' => ∃ v, e = .returned (.tuple #[v, .bool (permOk h part), .int .i64 (permE h part)]) ∧
      w'.ownsRow w.heap.size 3 1 v (permR h part).length ((permR h part).map (Value.int .i64)) ∧ Below w.heap.size w w' := by
  by_cases hh : h = 1 ∨ h = 2 ∨ h = 3
  · by_cases hp : 0 ≤ part ∧ part ≤ 7
    · obtain ⟨p, rfl⟩ : ∃ p : Nat, part = (p : Int) := ⟨part.toNat, by omega⟩
      have e1 : permGood h (p : Int) := ⟨hh, hp⟩
      have := rperm_good hh (p := p) (by omega) w
      rw [show permOk h (p : Int) = keptB (offs h) p from by unfold permOk; rw [if_pos e1]; simp, show permR h (p : Int) = permL (offs h) p from by unfold permR; rw [if_pos e1]; simp,
        show permE h (p : Int) = 0 from by unfold permE; rw [if_pos hh, if_pos hp]]
      exact this
    · have e1 : ¬ permGood h part := fun e => hp e.2
      rw [show permOk h part = false from by unfold permOk; rw [if_neg e1], show permR h part = [] from by unfold permR; rw [if_neg e1], show permE h part = 71 from by unfold permE; rw [if_pos hh, if_neg hp]]
      have K10 := fun W => roffsets_any h W
      rw [hoodErr_good hh] at K10
      have K1 := Lib.hid K10
      clear K10 hh e1
      generalize (offs h).length = n at *
      generalize ptCells (offs h) = cs at *
      by_cases hneg : part < 0
      · clear hp
        go_enter Try.func51, Try.ntmps51
        go_wp2_with fail
        refine (K1.out _).mono ?_
        rintro e w1 ⟨vl, rfl, ol, hb⟩
        have B1 := Lib.hid hb
        clear hb ol
        go_wp2
        go_ret3
        exact ⟨_, rfl, World.ownsRow_nil _ _ _ _, B1.out⟩
      · have hpos : 0 ≤ part := by omega
        have hbig : 7 < part := by omega
        clear hp hneg
        go_enter Try.func51, Try.ntmps51
        go_wp2_with fail
        refine (K1.out _).mono ?_
        rintro e w1 ⟨vl, rfl, ol, hb⟩
        have B1 := Lib.hid hb
        clear hb ol
        go_wp2
        go_ret3
        exact ⟨_, rfl, World.ownsRow_nil _ _ _ _, B1.out⟩
  · have e1 : ¬ permGood h part := fun e => hh e.1
    rw [show permOk h part = false from by unfold permOk; rw [if_neg e1], show permR h part = [] from by unfold permR; rw [if_neg e1], show permE h part = 70 from by unfold permE; rw [if_neg hh]]
    have K10 := fun W => roffsets_any h W
    rw [hoodErr_bad hh] at K10
    have K1 := Lib.hid K10
    clear K10 hh e1
    generalize (offs h).length = n at *
    generalize ptCells (offs h) = cs at *
    go_enter Try.func51, Try.ntmps51
    go_wp2_with fail
    refine (K1.out _).mono ?_
    rintro e w1 ⟨vl, rfl, ol, hb⟩
    have B1 := Lib.hid hb
    clear hb ol
    go_wp2
    go_ret3
    exact ⟨_, rfl, World.ownsRow_nil _ _ _ _, B1.out⟩

set_option maxRecDepth 20000 in
set_option maxHeartbeats 4000000 in
theorem rparts_any (h : Int) (w : World) :
    Calls Try.prog 52 #[.int .u8 h] w fun e w' => ∃ v, e = .returned (.tuple #[v, .int .i64 (hoodErr h)]) ∧ w'.ownsRow w.heap.size 3 1 v (partsR h).length ((partsR h).map (Value.int .i64)) ∧ Below w.heap.size w w' := by
  have K10 := fun W => roffsets_any h W
  by_cases hh : h = 1 ∨ h = 2 ∨ h = 3
  · rw [hoodErr_good hh] at *
    have K1 := Lib.hid K10
    have K2 := Lib.hid (fun (k : Nat) W => rperm_any h (k : Int) W)
    obtain ⟨i0, hi, hz0, hz1, hz2⟩ := info_parts info3'
    have hi' := Lib.hid hi
    clear hi K10 hh
    generalize (offs h).length = n at *
    generalize ptCells (offs h) = cs at *
    go_enter Try.func52, Try.ntmps52
    go_wp2_with fail
    refine (K1.out _).mono ?_
    rintro e w1 ⟨vl, rfl, ol, hb⟩
    have hB1 := Lib.hid hb
    have hs1 : w.heap.size ≤ w1.heap.size := hb.size
    clear hb ol
    go_wp2
    go_loopw [6, 7] (fun l i wr => PaRel w h l i wr) (fun _ i _ => 8 - (intOf i).toNat)
    case atStart => exact ⟨0, by omega, by go_num, World.ownsRow_nil _ _ _ _, hB1.out⟩
    case round =>
      obtain ⟨k, hk, rfl, hown, hB⟩ := hrel
      have hO := Lib.hid hown
      have hBw := Lib.hid hB
      clear hown hB
      by_cases hlt : k < 8
      · have K3 := Lib.hid (K2.out k)
        cases hok : permOk h (k : Int) with
        | false =>
          rw [hok] at K3
          go_wp2_with fail
          refine (K3.out _).mono ?_
          rintro e w2 ⟨vp, rfl, op, hb⟩
          have R : PaRel w h _ (.int .i64 ((k : Int) + 1)) w2 := ⟨k + 1, by omega, by go_num, by rw [partsK_no hok]; exact own_below hO.out hb, below_then hBw.out hb hBw.out.size⟩
          have R' := Lib.hid R
          clear R op hb
          go_wp2
          exact ⟨R'.out, by simp [intOf]; omega⟩
        | true =>
          rw [hok] at K3
          go_wp2_with fail
          refine (K3.out _).mono ?_
          rintro e w2 ⟨vp, rfl, op, hb⟩
          have hO2 := Lib.hid (own_below hO.out hb)
          have hB2 := Lib.hid (below_then hBw.out hb hBw.out.size)
          have hlen := partsK_len h k
          clear op hb
          go_wp2_with (first
            | (at_builtin; refine wpList_append_own _ rfl _ _ 78 rfl w.heap.size 3 i0 _ 1 8 Try.underlying78 hi'.out hz0 hz1 hz2 rfl (by decide) _ _ _ rfl (hO2.out.alloc _) ⟨w2.heap.size, 0, none⟩ 1 1 [.int .i64 (k : Int)] rfl rfl ?c1 ?c2 ?c3 ?c4 ?c5 ?_)
            | go_in)
          case c1 =>
            intro j u hj
            match j, hj with
            | 0, hj => simp at hj; subst hj; simp [Addr.add]
          case c2 => intro u hu; simp at hu; subst hu; rfl
          case c3 => unfold maxLen; omega
          case c4 => omega
          case c5 => have := hB2.out.size; simp; omega
          intro v' w3 hown' hgrow _
          have R : PaRel w h v' (.int .i64 ((k : Int) + 1)) w3 := by
            refine ⟨k + 1, by omega, by go_num, by rw [partsK_yes hok, List.length_append, List.map_append]; exact hown', ?_⟩
            exact Below.grown (hB2.out.alloc hB2.out.size _) hgrow (by have := hB2.out.size; simp; omega) (fun b e => by have := hO2.out.lt b e; omega)
          have R' := Lib.hid R
          clear hown' hgrow R
          go_wp2
          exact ⟨R'.out, by simp [intOf]; omega⟩
      · obtain rfl : k = 8 := by omega
        clear hlt
        go_wp2
        go_ret2
        exact ⟨_, rfl, hO.out, hBw.out⟩
  · rw [hoodErr_bad hh] at *
    rw [partsR_bad hh]
    have K1 := Lib.hid K10
    clear K10 hh
    generalize (offs h).length = n at *
    generalize ptCells (offs h) = cs at *
    go_enter Try.func52, Try.ntmps52
    go_wp2_with fail
    refine (K1.out _).mono ?_
    rintro e w1 ⟨vl, rfl, ol, hb⟩
    have hB1 := Lib.hid hb
    have hs1 : w.heap.size ≤ w1.heap.size := hb.size
    clear hb ol
    go_wp2
    go_ret2
    exact ⟨_, rfl, World.ownsRow_nil _ _ _ _, hB1.out⟩
end Go.Proofs.Ytjomgjlicfoehaa
