import Derived.Test.YtjomgjlicfoehaaHoodN
import Derived.Deep.QuietTactic
import Derived.BigQuiet
namespace Go.Proofs.Ytjomgjlicfoehaa
open Go.RowKit Flt
attribute [local go_sem] run_store_float run_store_complex unary_neg_float unary_neg_complex
set_option linter.unusedSimpArgs false
set_option linter.unusedVariables false

def RLd (n : Nat) (W : World) (i : Value) (wr : World) : Prop := ∃ k m : Nat, k ≤ n ∧ i = .int .i64 (k : Int) ∧ wr = W.drewN m
def TL (PR : List Int) (a : Int) (W : World) (told i : Value) (wr : World) : Prop := ∃ k m : Nat, k ≤ PR.length ∧ i = .int .i64 (k : Int) ∧ told = .int .i64 (toldK PR a k) ∧ wr = W.drewN m

theorem toldK_le (l : List Int) (a : Int) : ∀ k, 0 ≤ toldK l a k ∧ toldK l a k ≤ k
  | 0 => by simp [toldK]
  | k + 1 => by
    have := toldK_le l a k
    show 0 ≤ (if l.getD k 0 = a then toldK l a k + 1 else toldK l a k) ∧ (if l.getD k 0 = a then toldK l a k + 1 else toldK l a k) ≤ ((k + 1 : Nat) : Int)
    split <;> omega


set_option maxRecDepth 100000 in
set_option maxHeartbeats 4000000 in
theorem then_badhood {h : Int} (hh : ¬ (h = 1 ∨ h = 2 ∨ h = 3)) (a b : Int) (w : World) :
    Calls Try.prog 18 #[.int .u8 h, .int .i64 a, .int .i64 b] w fun e w' => e = .returned (.bool true) ∧ Below w.heap.size w w' := by
  have bad : ∀ a, permOk h a = false ∧ permR h a = [] ∧ permE h a = 70 := fun a => by
    have e1 : ¬ permGood h a := fun e => hh e.1
    exact ⟨by unfold permOk; rw [if_neg e1], by unfold permR; rw [if_neg e1], by unfold permE; rw [if_neg hh]⟩
  have K10 := fun W => perm_any h a W
  have K20 := fun W => perm_any h b W
  have K30 := fun W => parts_any h W
  rw [(bad a).1, (bad a).2.1, (bad a).2.2] at K10
  rw [(bad b).1, (bad b).2.1, (bad b).2.2] at K20
  rw [hoodErr_bad hh, partsR_bad hh] at K30
  have K1 := Lib.hid K10
  have K2 := Lib.hid K20
  have K3 := Lib.hid K30
  clear K10 K20 K30 bad hh
  go_enter Try.func18, Try.ntmps18
  go_wp2_with fail
  refine (alive07 _).mono ?_
  rintro e w1 ⟨rfl, hb⟩
  have B1 := hb
  clear hb
  go_wp2_with fail
  refine (K1.out _).mono ?_
  rintro e w2 ⟨v2, rfl, o2, hb⟩
  have B2 := below_then B1 hb B1.size
  clear hb B1 o2
  go_wp2_with fail
  refine (K2.out _).mono ?_
  rintro e w3 ⟨v3, rfl, o3, hb⟩
  have B3 := below_then B2 hb B2.size
  clear hb B2 o3
  go_wp2_with fail
  refine (K3.out _).mono ?_
  rintro e w4 ⟨v4, rfl, o4, hb⟩
  obtain ⟨ad4, cap4, rfl⟩ := own_shape o4
  have B4 := Lib.hid (below_then B3 hb B3.size)
  clear hb B3 o4
  go_wp2
  go_ret
  exact ⟨rfl, B4.out⟩

set_option maxRecDepth 100000 in
set_option maxHeartbeats 16000000 in
theorem then_good {h : Int} (hh : h = 1 ∨ h = 2 ∨ h = 3) (a b : Int) (w : World) :
    Calls Try.prog 18 #[.int .u8 h, .int .i64 a, .int .i64 b] w fun e w' => e = .returned (.bool true) ∧ Below w.heap.size w w' := by
  have PF := Lib.hid (partsFacts hh)
  have hpl := PF.out.len
  have K1 := Lib.hid (fun W => perm_any h a W)
  have K2 := Lib.hid (fun W => perm_any h b W)
  have K30 := fun W => parts_any h W
  rw [hoodErr_good hh] at K30
  have K3 := Lib.hid K30
  clear K30
  go_enter Try.func18, Try.ntmps18
  go_wp2_with fail
  refine (alive07 _).mono ?_
  rintro e w1 ⟨rfl, hb⟩
  have B1 := hb
  clear hb
  go_wp2_with fail
  refine (K1.out _).mono ?_
  rintro e w2 ⟨v2, rfl, o2, hb⟩
  obtain ⟨ad2, cap2, rfl⟩ := own_shape o2
  have Q2 := HasInts.own o2
  have B2 := below_then B1 hb B1.size
  clear hb B1 o2
  go_wp2_with fail
  refine (K2.out _).mono ?_
  rintro e w3 ⟨v3, rfl, o3, hb⟩
  obtain ⟨ad3, cap3, rfl⟩ := own_shape o3
  have Q2' := Q2.kept hb
  have Q3 := HasInts.own o3
  have B3 := below_then B2 hb B2.size
  clear hb B2 o3 Q2
  go_wp2_with fail
  refine (K3.out _).mono ?_
  rintro e w4 ⟨v4, rfl, o4, hb⟩
  obtain ⟨ad4, cap4, rfl⟩ := own_shape o4
  have R2 := Lib.hid (Q2'.kept hb)
  have R3 := Lib.hid (Q3.kept hb)
  have R4 := Lib.hid (HasInts.own o4)
  have B4 := Lib.hid (below_then B3 hb B3.size)
  clear hb B3 o4 Q2' Q3
  obtain ⟨n, hn⟩ : ∃ n, (partsR h).length = n := ⟨_, rfl⟩
  rw [hn] at hpl
  go_wp2
  go_loopw [16, 17] (fun told i wr => TL (partsR h) a w4 told i wr) (fun _ i _ => 8 - (intOf i).toNat)
  case atStart => exact ⟨0, 0, by omega, by go_num, rfl, rfl⟩
  case round =>
    obtain ⟨k, m, hk, rfl, rfl, rfl⟩ := hrel
    have htk := toldK_le (partsR h) a k
    by_cases hlt : k < (partsR h).length
    · obtain ⟨_, _, hv, hcs⟩ := R4.out
      obtain ⟨g, hg, c1⟩ := hcs k hlt
      cases hv
      subst hg
      obtain ⟨r1, r2⟩ := PF.out.range k hlt
      have r3 := PF.out.rising k hlt
      have hts : toldK (partsR h) a (k + 1) = if (partsR h).getD k 0 = a then toldK (partsR h) a k + 1 else toldK (partsR h) a k := rfl
      have HTS := Lib.hid hts
      clear hts
      have hd1 : decide ((partsR h).getD k 0 < 0) = false := decide_eq_false (by omega)
      have hd2 : decide (7 < (partsR h).getD k 0) = false := decide_eq_false (by omega)
      have hcs' := Lib.hid hcs
      have r3' := Lib.hid r3
      clear hcs r3
      cases k with
      | zero =>
        generalize (partsR h).getD 0 0 = X at *
        by_cases hxa : X = a
        · have hx2 : (X == a) = true := by simp [hxa]
          have HX := Lib.hid hxa
          clear hxa
          go_wp2
          go_quiet (fail)
          go_wp2
          all_goals first
            | exact ⟨⟨1, m + nq, by omega, by go_num, by rw [show toldK (partsR h) a 1 = _ from HTS.out, if_pos HX.out], rfl⟩, by simp [intOf]⟩
            | (exfalso; have := HX.out; omega)
        · have hx2 : (X == a) = false := by simp [hxa]
          have HX := Lib.hid hxa
          clear hxa
          go_wp2
          go_quiet (fail)
          go_wp2
          all_goals first
            | exact ⟨⟨1, m + nq, by omega, by go_num, by rw [show toldK (partsR h) a 1 = _ from HTS.out, if_neg HX.out], rfl⟩, by simp [intOf]⟩
            | (exfalso; have := HX.out; omega)
      | succ k =>
        obtain ⟨g2, hg2, c2⟩ := hcs'.out k (by omega)
        cases hg2
        have r4 : (partsR h).getD k 0 < (partsR h).getD (k + 1) 0 := r3'.out (by omega)
        generalize (partsR h).getD (k + 1) 0 = X at *
        generalize (partsR h).getD k 0 = Z at *
        have hd3 : decide (X ≤ Z) = false := decide_eq_false (by omega)
        by_cases hxa : X = a
        · have hx2 : (X == a) = true := by simp [hxa]
          have HX := Lib.hid hxa
          clear hxa
          go_wp2
          go_quiet (fail)
          go_wp2
          all_goals first
            | exact ⟨⟨k + 1 + 1, m + nq, by omega, by go_num, by rw [show toldK (partsR h) a (k + 1 + 1) = _ from HTS.out, if_pos HX.out], rfl⟩, by simp [intOf]; omega⟩
            | (exfalso; have := HX.out; omega)
        · have hx2 : (X == a) = false := by simp [hxa]
          have HX := Lib.hid hxa
          clear hxa
          go_wp2
          go_quiet (fail)
          go_wp2
          all_goals first
            | exact ⟨⟨k + 1 + 1, m + nq, by omega, by go_num, by rw [show toldK (partsR h) a (k + 1 + 1) = _ from HTS.out, if_neg HX.out], rfl⟩, by simp [intOf]; omega⟩
            | (exfalso; have := HX.out; omega)
    · obtain rfl : k = (partsR h).length := by omega
      clear hlt
      by_cases hpa : 0 ≤ a ∧ a ≤ 7
      · obtain ⟨p, rfl⟩ : ∃ p : Nat, a = (p : Int) := ⟨a.toNat, by omega⟩
        have E1 : permE h (p : Int) = 0 := by unfold permE; rw [if_pos hh, if_pos hpa]
        have T1 := PF.out.told p (by omega)
        cases ok1 : permOk h (p : Int) with
        | false =>
          rw [ok1] at T1
          simp only [Bool.false_eq_true, if_false] at T1
          rw [E1, T1]
          have OK1 := Lib.hid ok1
          clear ok1 E1 T1 htk
          go_wp2
          go_ret
          exact ⟨rfl, below_drewN B4.out m⟩
        | true =>
          rw [ok1] at T1
          simp only [if_true] at T1
          rw [E1, T1]
          cases ok2 : permOk h b with
          | false =>
            have OK1 := Lib.hid ok1
            have OK2 := Lib.hid ok2
            clear ok1 ok2 E1 T1 htk
            go_wp2
            go_ret
            exact ⟨rfl, below_drewN B4.out m⟩
          | true =>
            have hgb : permGood h b := by
              unfold permOk at ok2
              split at ok2
              · assumption
              · cases ok2
            obtain ⟨q, rfl⟩ : ∃ q : Nat, b = (q : Int) := ⟨b.toNat, by have := hgb.2; omega⟩
            have hp8 : p < 8 := by omega
            have hq8 : q < 8 := by have := hgb.2; omega
            have kp : keptB (offs h) p = true := by have := ok1; unfold permOk at this; rw [if_pos ⟨hh, hpa⟩] at this; simpa using this
            have kq : keptB (offs h) q = true := by have := ok2; unfold permOk at this; rw [if_pos hgb] at this; simpa using this
            have BF := Lib.hid (bothFacts hh hp8 hq8 kp kq)
            have hc8 : bothN p q < 8 := by
              have := lin_range (thenK_lt (p % 4) (q % 4) (decide (4 ≤ q))) (decide (4 ≤ p) != decide (4 ≤ q))
              unfold bothN; omega
            have hcN : linN (thenK (p % 4) (q % 4) (decide (4 ≤ q))) (decide (4 ≤ p) != decide (4 ≤ q)) = (bothN p q : Int) := by
              have := lin_range (thenK_lt (p % 4) (q % 4) (decide (4 ≤ q))) (decide (4 ≤ p) != decide (4 ≤ q))
              unfold bothN; omega
            have J5 := fun W => part_yes hp8 W
            have J6 := fun W => part_yes hq8 W
            have J7 := fun W => then_lin (k := p % 4) (l := q % 4) (by omega) (by omega) (decide (4 ≤ p)) (decide (4 ≤ q)) W
            have J8 : ∀ W, Calls Try.prog 29 #[isoF (thenK (p % 4) (q % 4) (decide (4 ≤ q))) (decide (4 ≤ p) != decide (4 ≤ q)) 0 0] W fun e w' => e = .returned (.tuple #[.int .i64 (bothN p q), .int .i64 0]) ∧ Below W.heap.size W w' := fun W => by
              have := which_yes (decide (4 ≤ p) != decide (4 ≤ q)) (isMap_F (k := thenK (p % 4) (q % 4) (decide (4 ≤ q))) (x := 0) (y := 0) (thenK_lt _ _ _) (by omega) (by omega)) W
              rw [hcN] at this
              exact this
            have J9 := fun W => perm_good hh hc8 W
            rw [BF.out.kept] at J9
            have hR1 : permR h (p : Int) = permL (offs h) p := by unfold permR; rw [if_pos ⟨hh, hpa⟩]; simp
            have hR2 : permR h (q : Int) = permL (offs h) q := by unfold permR; rw [if_pos hgb]; simp
            obtain ⟨m1, e1⟩ := isoF_M5 (p % 4) (decide (4 ≤ p)) 0 0
            obtain ⟨m2, e2⟩ := isoF_M5 (q % 4) (decide (4 ≤ q)) 0 0
            obtain ⟨m3, e3⟩ := isoF_M5 (thenK (p % 4) (q % 4) (decide (4 ≤ q))) (decide (4 ≤ p) != decide (4 ≤ q)) 0 0
            rw [e1] at J5
            rw [e2] at J6
            rw [e1, e2, e3] at J7
            rw [e3] at J8
            unfold M5.V at J5 J6 J7 J8
            have G5 := Lib.hid J5
            have G6 := Lib.hid J6
            have G7 := Lib.hid J7
            have G8 := Lib.hid J8
            have G9 := Lib.hid J9
            have S2 := R2
            have S3 := R3
            rw [hR1] at S2
            rw [hR2] at S3
            rw [BF.out.len1] at S2
            rw [BF.out.len2] at S3
            rw [hR1, hR2, BF.out.len1, BF.out.len2]
            have OK1 := Lib.hid ok1
            have OK2 := Lib.hid ok2
            have BD := Lib.hid (below_drewN B4.out m)
            have z4 := B4.out.size
            clear ok1 ok2 E1 T1 htk J5 J6 J7 J8 J9 e1 e2 e3 hcN kp kq hR1 hR2 hgb R2 R3 R4
            go_wp2_with fail
            refine (G5.out _).mono ?_
            rintro e w5 ⟨rfl, hb⟩
            have B5 := Lib.hid (below_then BD.out hb (by simp; omega))
            have U2 := Lib.hid ((S2.out.kept (below_drewN (Below.refl _ _) m)).kept hb)
            have U3 := Lib.hid ((S3.out.kept (below_drewN (Below.refl _ _) m)).kept hb)
            have z5 := B5.out.size
            clear hb
            go_wp2_with fail
            refine (G6.out _).mono ?_
            rintro e w6 ⟨rfl, hb⟩
            obtain ⟨hc6, hf6⟩ := bcell hb
            have z6 : w5.heap.size < w6.heap.size := by have := hb.size; simp at this; omega
            have B6 := Lib.hid (below_then (B5.out.alloc z5 _) hb (by simp; omega))
            have V2 := Lib.hid ((U2.out.kept (below_new _)).kept hb)
            have V3 := Lib.hid ((U3.out.kept (below_new _)).kept hb)
            clear hb
            go_wp2_with fail
            refine (G7.out _).mono ?_
            rintro e w7 ⟨rfl, hb⟩
            have B7 := Lib.hid (below_then (B6.out.alloc (by omega) _) hb (by simp; omega))
            have X2 := Lib.hid ((V2.out.kept (below_new _)).kept hb)
            have X3 := Lib.hid ((V3.out.kept (below_new _)).kept hb)
            have z7 := B7.out.size
            clear hb hc6 hf6
            go_wp2_with fail
            refine (G8.out _).mono ?_
            rintro e w8 ⟨rfl, hb⟩
            have B8 := Lib.hid (below_then (B7.out.alloc z7 _) hb (by simp; omega))
            have Y2 := Lib.hid ((X2.out.kept (below_new _)).kept hb)
            have Y3 := Lib.hid ((X3.out.kept (below_new _)).kept hb)
            have z8 := B8.out.size
            clear hb
            go_wp2_with fail
            refine (G9.out _).mono ?_
            rintro e w9 ⟨v9, rfl, o9, hb⟩
            obtain ⟨ad9, cap9, rfl⟩ := own_shape o9
            have Z9 := HasInts.own o9
            rw [BF.out.len3] at Z9
            have Z9' := Lib.hid Z9
            have Z2 := Lib.hid (Y2.out.kept hb)
            have Z3 := Lib.hid (Y3.out.kept hb)
            have B9 := Lib.hid (below_then B8.out hb z8)
            have ho8 := offs_len h
            rw [BF.out.len3]
            clear hb o9 Z9 Y2 Y3
            go_wp2
            go_loopw [29] (fun i wr => RLd (offs h).length w9 i wr) (fun i _ => (offs h).length - (intOf i).toNat)
            case atStart => exact ⟨0, 0, by omega, by go_num, rfl⟩
            case round =>
              obtain ⟨k, m', hk, rfl, rfl⟩ := hrel
              by_cases hlt : k < (offs h).length
              · obtain ⟨b1, b2, b3⟩ := BF.out.at_ k hlt
                obtain ⟨_, _, hv2, hc2⟩ := Z2.out
                obtain ⟨g2, hg2, c2⟩ := hc2 k (by rw [BF.out.len1]; exact hlt)
                obtain ⟨_, _, hv3, hc3⟩ := Z3.out
                obtain ⟨g3, hg3, c3⟩ := hc3 ((permL (offs h) p).getD k 0).toNat (by rw [BF.out.len2]; omega)
                obtain ⟨_, _, hv9, hc9⟩ := Z9'.out
                obtain ⟨g9, hg9, c9⟩ := hc9 k (by rw [BF.out.len3]; exact hlt)
                rw [b3] at c9
                rw [BF.out.len1] at hv2; rw [BF.out.len2] at hv3; rw [BF.out.len3] at hv9
                cases hv2; cases hv3; cases hv9
                subst hg2 hg3 hg9
                clear hc2 hc3 hc9 b3
                generalize (permL (offs h) p).getD k 0 = P at *
                generalize (permL (offs h) q).getD P.toNat 0 = Q at *
                have hd1 : decide (P < 0) = false := decide_eq_false (by omega)
                have hd2 : decide (((offs h).length : Int) ≤ P) = false := decide_eq_false (by omega)
                go_wp2
                go_quiet (fail)
                go_wp2
                exact ⟨⟨k + 1, m' + nq, by omega, by go_num, rfl⟩, by simp [intOf]; omega⟩
              · obtain rfl : k = (offs h).length := by omega
                clear hlt
                go_wp2
                go_ret
                exact ⟨rfl, below_drewN B9.out m'⟩
      · have E1 : permE h a = 71 := by unfold permE; rw [if_pos hh, if_neg hpa]
        have T1 : toldK (partsR h) a (partsR h).length = 0 := toldK_none (fun k hk e => by have := PF.out.range k hk; omega) _ (Nat.le_refl _)
        have ok1 : permOk h a = false := by unfold permOk; rw [if_neg (fun e => hpa e.2)]
        rw [E1, T1, ok1]
        clear ok1 E1 T1 htk
        go_wp2
        go_ret
        exact ⟨rfl, below_drewN B4.out m⟩

theorem hoodThen_walk (h a b : Int) (w : World) : Calls Try.prog 18 #[.int .u8 h, .int .i64 a, .int .i64 b] w fun e w' => e = .returned (.bool true) ∧ Below w.heap.size w w' := by
  by_cases hh : h = 1 ∨ h = 2 ∨ h = 3
  · exact then_good hh a b w
  · exact then_badhood hh a b w
end Go.Proofs.Ytjomgjlicfoehaa
