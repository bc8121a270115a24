import Derived.Test.YtjomgjlicfoehaaHoodJ
namespace Go.Proofs.Ytjomgjlicfoehaa
open Go.RowKit Flt
set_option linter.unusedSimpArgs false
set_option linter.unusedVariables false

/-- The parts among the first k that keep a neighbourhood. -/
def partsK (h : Int) (k : Nat) : List Int := ((List.range k).filter fun j : Nat => permOk h (j : Int)).map fun j : Nat => (j : Int)
theorem partsK_yes {h : Int} {k : Nat} (hm : permOk h (k : Int) = true) : partsK h (k + 1) = partsK h k ++ [(k : Int)] := by
  unfold partsK; rw [List.range_succ, List.filter_append, List.map_append]; simp [hm]
theorem partsK_no {h : Int} {k : Nat} (hm : permOk h (k : Int) = false) : partsK h (k + 1) = partsK h k := by
  unfold partsK; rw [List.range_succ, List.filter_append, List.map_append]; simp [hm]
theorem partsK_len (h : Int) (k : Nat) : (partsK h k).length ≤ k := by
  unfold partsK; rw [List.length_map]; exact Nat.le_trans (List.length_filter_le _ _) (by simp)
def partsR (h : Int) : List Int := partsK h 8
theorem partsR_bad {h : Int} (hh : ¬ (h = 1 ∨ h = 2 ∨ h = 3)) : partsR h = [] := by
  unfold partsR partsK
  rw [List.map_eq_nil_iff, List.filter_eq_nil_iff]
  intro j _
  unfold permOk
  rw [if_neg (fun e => hh e.1)]
  simp

def PaRel (w : World) (h : Int) (l i : Value) (wr : World) : Prop :=
  ∃ k : Nat, k ≤ 8 ∧ i = .int .i64 (k : Int) ∧ wr.ownsRow w.heap.size 3 1 l (partsK h k).length ((partsK h k).map (Value.int .i64)) ∧ Below w.heap.size w wr

set_option maxRecDepth 20000 in
set_option maxHeartbeats 4000000 in
theorem parts_any (h : Int) (w : World) :
    Calls Try.prog 53 #[.int .u8 h] w fun e w' => ∃ v, e = .returned (.tuple #[v, .int .i64 (hoodErr h)]) ∧ w'.ownsRow w.heap.size 3 1 v (partsR h).length ((partsR h).map (Value.int .i64)) ∧ Below w.heap.size w w' := by
  obtain ⟨b0, b1, b2, b3, b4, b5, b6, b7, hmask⟩ := mask8 h
  have K10 := fun W => within_any h W
  rw [hmask] at K10
  simp only [bits, List.map_cons, List.map_nil] at K10
  by_cases hh : h = 1 ∨ h = 2 ∨ h = 3
  · rw [hoodErr_good hh] at *
    have K1 := Lib.hid K10
    have K2 := Lib.hid (fun (k : Nat) W => perm_any h (k : Int) W)
    obtain ⟨i0, hi, hz0, hz1, hz2⟩ := info_parts info3'
    have hi' := Lib.hid hi
    clear hi K10 hmask hh
    go_enter Try.func53, Try.ntmps53
    go_wp2_with fail
    refine (K1.out _).mono ?_
    rintro e w1 ⟨rfl, hb⟩
    have hB1 := Lib.hid hb
    have hs1 : w.heap.size ≤ w1.heap.size := hb.size
    clear hb
    go_wp2
    go_loopw [6, 19] (fun l i wr => PaRel w h l i wr) (fun _ i _ => 8 - (intOf i).toNat)
    case atStart => exact ⟨0, by omega, by go_num, World.ownsRow_nil _ _ _ _, Below.alloc hB1.out hs1 _⟩
    case round =>
      obtain ⟨k, hk, rfl, hown, hB⟩ := hrel
      have hO := Lib.hid hown
      have hBw := Lib.hid hB
      clear hown hB
      by_cases hlt : k < 8
      · have K3 := Lib.hid (K2.out k)
        cases hok : permOk h (k : Int) with
        | false =>
          rw [hok] at K3
          go_wp2_with fail
          refine (K3.out _).mono ?_
          rintro e w2 ⟨vp, rfl, op, hb⟩
          have R : PaRel w h _ (.int .i64 ((k : Int) + 1)) w2 := ⟨k + 1, by omega, by go_num, by rw [partsK_no hok]; exact own_below hO.out hb, below_then hBw.out hb hBw.out.size⟩
          have R' := Lib.hid R
          clear R op hb
          go_wp2
          exact ⟨R'.out, by simp [intOf]; omega⟩
        | true =>
          rw [hok] at K3
          go_wp2_with fail
          refine (K3.out _).mono ?_
          rintro e w2 ⟨vp, rfl, op, hb⟩
          have hO2 := Lib.hid (own_below hO.out hb)
          have hB2 := Lib.hid (below_then hBw.out hb hBw.out.size)
          have hlen := partsK_len h k
          clear op hb
          go_wp2_with (first
            | (at_builtin; refine wpList_append_own _ rfl _ _ 78 rfl w.heap.size 3 i0 _ 1 8 Try.underlying78 hi'.out hz0 hz1 hz2 rfl (by decide) _ _ _ rfl (hO2.out.alloc _) ⟨w2.heap.size, 0, none⟩ 1 1 [.int .i64 (k : Int)] rfl rfl ?c1 ?c2 ?c3 ?c4 ?c5 ?_)
            | go_in)
          case c1 =>
            intro j u hj
            match j, hj with
            | 0, hj => simp at hj; subst hj; simp [Addr.add]
          case c2 => intro u hu; simp at hu; subst hu; rfl
          case c3 => unfold maxLen; omega
          case c4 => omega
          case c5 => have := hB2.out.size; simp; omega
          intro v' w3 hown' hgrow _
          have R : PaRel w h v' (.int .i64 ((k : Int) + 1)) w3 := by
            refine ⟨k + 1, by omega, by go_num, by rw [partsK_yes hok, List.length_append, List.map_append]; exact hown', ?_⟩
            exact Below.grown (hB2.out.alloc hB2.out.size _) hgrow (by have := hB2.out.size; simp; omega) (fun b e => by have := hO2.out.lt b e; omega)
          have R' := Lib.hid R
          clear hown' hgrow R
          go_wp2
          exact ⟨R'.out, by simp [intOf]; omega⟩
      · obtain rfl : k = 8 := by omega
        clear hlt
        go_wp2
        go_ret2
        exact ⟨_, rfl, hO.out, hBw.out⟩
  · rw [hoodErr_bad hh] at *
    rw [partsR_bad hh]
    have K1 := Lib.hid K10
    clear K10 hmask hh
    go_enter Try.func53, Try.ntmps53
    go_wp2_with fail
    refine (K1.out _).mono ?_
    rintro e w1 ⟨rfl, hb⟩
    have hB1 := Lib.hid hb
    have hs1 : w.heap.size ≤ w1.heap.size := hb.size
    clear hb
    go_wp2
    go_ret2
    exact ⟨_, rfl, World.ownsRow_nil _ _ _ _, Below.alloc hB1.out hs1 _⟩

/-! ### HoodNames -/
set_option maxHeartbeats 4000000 in
theorem hoodNames_walk (w : World) : Calls Try.prog 17 #[] w fun e w' => e = .returned (.bool true) ∧ Below w.heap.size w w' := by
  have K10 := fun W => size_any 0 W
  rw [show ((offs 0).length : Int) = 0 from by decide, show hoodErr 0 = 70 from by decide] at K10
  have K20 := fun W => perm_any 9 8 W
  rw [show permOk 9 8 = false from by decide +kernel, show permE 9 8 = 70 from by decide, show permR 9 8 = [] from by decide +kernel] at K20
  have K30 := fun W => perm_any 1 8 W
  rw [show permOk 1 8 = false from by decide +kernel, show permE 1 8 = 71 from by decide, show permR 1 8 = [] from by decide +kernel] at K30
  have K40 := fun W => perm_any 3 1 W
  rw [show permOk 3 1 = false from by decide +kernel, show permE 3 1 = 0 from by decide, show permR 3 1 = [] from by decide +kernel] at K40
  have K50 := fun W => parts_any 3 W
  rw [show hoodErr 3 = 0 from by decide, show partsR 3 = [0, 2, 5, 7] from by decide +kernel] at K50
  have K1 := Lib.hid K10
  have K2 := Lib.hid K20
  have K3 := Lib.hid K30
  have K4 := Lib.hid K40
  have K5 := Lib.hid K50
  clear K10 K20 K30 K40 K50
  go_enter Try.func17, Try.ntmps17
  go_wp2_with fail
  refine (K1.out _).mono ?_
  rintro e w1 ⟨rfl, hb⟩
  have B1 := Lib.hid hb
  clear hb
  go_wp2_with fail
  refine (K2.out _).mono ?_
  rintro e w2 ⟨v2, rfl, o2, hb⟩
  have B2 := Lib.hid (below_then B1.out hb B1.out.size)
  clear hb o2
  go_wp2_with fail
  refine (K3.out _).mono ?_
  rintro e w3 ⟨v3, rfl, o3, hb⟩
  have B3 := Lib.hid (below_then B2.out hb B2.out.size)
  clear hb o3
  go_wp2_with fail
  refine (K4.out _).mono ?_
  rintro e w4 ⟨v4, rfl, o4, hb⟩
  obtain ⟨ad4, cap4, rfl⟩ := own_shape o4
  have B4 := Lib.hid (below_then B3.out hb B3.out.size)
  clear hb o4
  go_wp2_with fail
  refine (K5.out _).mono ?_
  rintro e w5 ⟨v5, rfl, o5, hb⟩
  have P5 := Lib.hid (HasInts.own o5)
  have B5 := Lib.hid (below_then B4.out hb B4.out.size)
  clear hb o5
  go_wp2_with fail
  refine (alive07 _).mono ?_
  rintro e w6 ⟨rfl, hb⟩
  have P6 := Lib.hid (P5.out.kept hb)
  have B6 := Lib.hid (below_then B5.out hb B5.out.size)
  clear hb
  go_wp2_with fail
  refine (same_ints (l := [0, 2, 5, 7]) (by decide) (P6.out.kept (below_new _)) ⟨_, 4, rfl, fun j hj => ?_⟩).mono ?_
  · match j, hj with
    | 0, _ | 1, _ | 2, _ | 3, _ => exact ⟨_, rfl, by go_simp⟩
  rintro e w7 ⟨rfl, m, rfl⟩
  go_wp2
  go_ret
  exact ⟨rfl, below_drewN (B6.out.alloc B6.out.size _) m⟩
end Go.Proofs.Ytjomgjlicfoehaa
