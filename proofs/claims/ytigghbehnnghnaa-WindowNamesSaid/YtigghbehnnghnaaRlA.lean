import Derived.Test.YtigghbehnnghnaaPkL
import Derived.Test.YtigghbehnnghnaaPkE
import Derived.StillTailTactics
namespace Go.Proofs.Ytigghbehnnghnaa
open Go.RowKit Go.RowBits
set_option linter.unusedSimpArgs false
set_option linter.unusedVariables false

/-! ### Slices of bytes -/
def HasY (w : World) (v : Value) (l : List Nat) : Prop :=
  ∃ (ad : Option Addr) (cap : Nat), v = .slice ad l.length cap ∧ ∀ j, j < l.length → ∃ g o, ad = some ⟨g, o, none⟩ ∧ w.cell? ⟨g, o + j, none⟩ = some (.int .u8 ((l.getD j 0 : Nat) : Int))
theorem HasY.nil (w : World) : HasY w (.slice none 0 0) [] := ⟨none, 0, rfl, fun j hj => by simp at hj⟩
theorem HasY.keptB {w w' : World} {N : Nat} {v : Value} {l : List Nat} (h : HasY w v l) (hb : Below N w w') (hN : w.heap.size ≤ N) : HasY w' v l := by
  obtain ⟨ad, cap, hv, hc⟩ := h
  refine ⟨ad, cap, hv, fun j hj => ?_⟩
  obtain ⟨g, o, hg, c1⟩ := hc j hj
  exact ⟨g, o, hg, cellB hb c1 (Nat.lt_of_lt_of_le (World.block_lt_of_cell? w _ c1) hN)⟩
theorem HasY.kept {w w' : World} {v : Value} {l : List Nat} (h : HasY w v l) (hb : Below w.heap.size w w') : HasY w' v l := h.keptB hb (Nat.le_refl _)
theorem HasY.drew {w : World} {v : Value} {l : List Nat} (h : HasY w v l) : HasY w.drew v l := h.kept (Below.refl _ _).drew
theorem HasY.drawn {W : World} {v : Value} {l : List Nat} (h : HasY W v l) (m : Nat) : HasY (W.drewN m) v l := h.kept (below_drewN (Below.refl _ _) m)
theorem HasY.own {w : World} {base : Nat} {v : Value} {l : List Nat} (h : w.ownsRow base 5 1 v l.length (l.map fun x => .int .u8 ((x : Nat) : Int))) : HasY w v l := by
  rcases h.2 with ⟨hv, hn⟩ | ⟨g, cap, cur, hv, hr⟩
  · exact ⟨none, 0, by rw [hv, hn], fun j hj => by omega⟩
  · subst hv
    refine ⟨_, cap, rfl, fun j hj => ⟨g, 0, rfl, ?_⟩⟩
    rw [Nat.zero_add, h.cellAt j (by omega)]
    simp [hj]

/-! ### How many live -/
def ones (l : List Nat) : Nat := l.count 1
theorem ones_le (l : List Nat) : ones l ≤ l.length := List.count_le_length
theorem ones_take (l : List Nat) {k : Nat} (h : k < l.length) : ones (l.take (k + 1)) = ones (l.take k) + if l.getD k 0 = 1 then 1 else 0 := by
  unfold ones
  rw [List.take_add_one, List.count_append]
  simp only [List.getElem?_eq_getElem h, Option.toList_some, List.count_singleton, List.getD_eq_getElem?_getD, Option.getD_some, beq_iff_eq]

set_option maxHeartbeats 1000000 in
theorem living119 {w : World} {v : Value} {l : List Nat} (hl : l.length ≤ 1000000) (h : HasY w v l) : Calls Try.prog 119 #[v] w fun e w' => e = .returned (.int .i64 ((ones l : Nat) : Int)) ∧ w' = w := by
  obtain ⟨ad, cap, rfl, hc⟩ := h
  have hc' := Lib.hid hc
  clear hc
  go_enter Try.func119, Try.ntmps119
  go_wp2
  go_loop [3, 8] (fun n i => ∃ k : Nat, k ≤ l.length ∧ i = .int .i64 (k : Int) ∧ n = .int .i64 ((ones (l.take k) : Nat) : Int)) (fun _ i => l.length - (intOf i).toNat)
  case atStart => exact ⟨0, by omega, by go_num, rfl⟩
  case round =>
    obtain ⟨k, hk, rfl, rfl⟩ := hrel
    have hob := ones_le (l.take k)
    have hol : (l.take k).length ≤ k := List.length_take_le _ _
    by_cases hlt : k < l.length
    · obtain ⟨g, o, rfl, c1⟩ := hc'.out k hlt
      have ht := ones_take l hlt
      have ht' := Lib.hid ht
      clear ht
      generalize l.getD k 0 = x at *
      by_cases hx : x = 1
      · have hxi : (x : Int) = 1 := by omega
        have hxb : ((x : Int) == 1) = true := by simpa using hxi
        rw [if_pos hx] at ht'
        clear hx hxi
        go_wp2
        go_round
        case rel => exact ⟨k + 1, by omega, by go_num, by rw [ht'.out]; go_num⟩
        case measure => simp [intOf]; omega
      · have hxb : ((x : Int) == 1) = false := by simpa using (show ¬ (x : Int) = 1 by omega)
        rw [if_neg hx] at ht'
        clear hx
        go_wp2
        go_round
        case rel => exact ⟨k + 1, by omega, by go_num, by rw [ht'.out]; go_num⟩
        case measure => simp [intOf]; omega
    · obtain rfl : k = l.length := by omega
      clear hlt
      go_wp2
      go_ret
      exact ⟨rfl, rfl⟩

set_option maxHeartbeats 2000000 in
theorem lifeNext118 {h : Int} {born stay c : Nat} (here : Bool) (hh : h = 1 ∨ h = 2 ∨ h = 3) (hr : ruleOk h born stay) (hb1 : born < 65536) (hs1 : stay < 65536) (hc : c ≤ (offs h).length) (w : World) :
    Calls Try.prog 118 #[.agg #[.int .u8 h, .int .u16 (born : Int), .int .u16 (stay : Int)], .int .u8 (if here then 1 else 0), .int .i64 (c : Int)] w fun e w' =>
    e = .returned (.tuple #[.int .u8 (if lineBit born stay c here then 1 else 0), .int .i64 0]) ∧ Below w.heap.size w w' := by
  have K10 := fun W => lifeCheck (h := h) hb1 hs1 W
  have e0 : lifeE h born stay = 0 := by unfold lifeE; rw [if_pos hh, if_pos hr]
  rw [e0] at K10
  have K20 := fun W => greatest67 h born stay W
  rw [if_pos hh, if_pos hh] at K20
  have hl := offs_len h
  have K1 := Lib.hid K10
  have K2 := Lib.hid K20
  have hb2 := bit_u16 (d := c) hb1
  have hs2 := bit_u16 (d := c) hs1
  clear K10 K20 e0 hr hh
  generalize (offs h).length = n at *
  unfold lineBit
  have hcn : decide ((n : Int) < (c : Int)) = false := decide_eq_false (by omega)
  cases here with
  | false =>
    simp only [Bool.false_eq_true, if_false]
    clear hs2
    cases hbk : born.testBit c with
    | false =>
      rw [hbk] at hb2
      clear hbk
      simp only [Bool.false_eq_true, if_false] at hb2 ⊢
      go_enter Try.func118, Try.ntmps118
      go_wp2_with fail
      refine (K1.out _).mono ?_
      rintro e w1 ⟨rfl, hb⟩
      obtain ⟨hc1, hf1⟩ := bcell hb
      have hz1 : w.heap.size < w1.heap.size := by have := hb.size; simp at this; omega
      have hB1 := Lib.hid (below_then (B := w.heap.size) (below_new _) hb (by simp))
      clear hb
      go_wp2_with fail
      refine (K2.out _).mono ?_
      rintro e w2 ⟨rfl, hb⟩
      obtain ⟨hc2, hf2⟩ := bcell hb
      have hz2 : w.heap.size < w2.heap.size := by have := hb.size; omega
      have hB2 := Lib.hid (below_then hB1.out hb hB1.out.size)
      clear hb
      go_wp2
      go_ret2
      exact ⟨rfl, hB2.out⟩
    | true =>
      rw [hbk] at hb2
      clear hbk
      simp only [if_true] at hb2 ⊢
      go_enter Try.func118, Try.ntmps118
      go_wp2_with fail
      refine (K1.out _).mono ?_
      rintro e w1 ⟨rfl, hb⟩
      obtain ⟨hc1, hf1⟩ := bcell hb
      have hz1 : w.heap.size < w1.heap.size := by have := hb.size; simp at this; omega
      have hB1 := Lib.hid (below_then (B := w.heap.size) (below_new _) hb (by simp))
      clear hb
      go_wp2_with fail
      refine (K2.out _).mono ?_
      rintro e w2 ⟨rfl, hb⟩
      obtain ⟨hc2, hf2⟩ := bcell hb
      have hz2 : w.heap.size < w2.heap.size := by have := hb.size; omega
      have hB2 := Lib.hid (below_then hB1.out hb hB1.out.size)
      clear hb
      go_wp2
      go_ret2
      exact ⟨rfl, hB2.out⟩
  | true =>
    simp only [if_true]
    clear hb2
    cases hbk : stay.testBit c with
    | false =>
      rw [hbk] at hs2
      clear hbk
      simp only [Bool.false_eq_true, if_false] at hs2 ⊢
      go_enter Try.func118, Try.ntmps118
      go_wp2_with fail
      refine (K1.out _).mono ?_
      rintro e w1 ⟨rfl, hb⟩
      obtain ⟨hc1, hf1⟩ := bcell hb
      have hz1 : w.heap.size < w1.heap.size := by have := hb.size; simp at this; omega
      have hB1 := Lib.hid (below_then (B := w.heap.size) (below_new _) hb (by simp))
      clear hb
      go_wp2_with fail
      refine (K2.out _).mono ?_
      rintro e w2 ⟨rfl, hb⟩
      obtain ⟨hc2, hf2⟩ := bcell hb
      have hz2 : w.heap.size < w2.heap.size := by have := hb.size; omega
      have hB2 := Lib.hid (below_then hB1.out hb hB1.out.size)
      clear hb
      go_wp2
      go_ret2
      exact ⟨rfl, hB2.out⟩
    | true =>
      rw [hbk] at hs2
      clear hbk
      simp only [if_true] at hs2 ⊢
      go_enter Try.func118, Try.ntmps118
      go_wp2_with fail
      refine (K1.out _).mono ?_
      rintro e w1 ⟨rfl, hb⟩
      obtain ⟨hc1, hf1⟩ := bcell hb
      have hz1 : w.heap.size < w1.heap.size := by have := hb.size; simp at this; omega
      have hB1 := Lib.hid (below_then (B := w.heap.size) (below_new _) hb (by simp))
      clear hb
      go_wp2_with fail
      refine (K2.out _).mono ?_
      rintro e w2 ⟨rfl, hb⟩
      obtain ⟨hc2, hf2⟩ := bcell hb
      have hz2 : w.heap.size < w2.heap.size := by have := hb.size; omega
      have hB2 := Lib.hid (below_then hB1.out hb hB1.out.size)
      clear hb
      go_wp2
      go_ret2
      exact ⟨rfl, hB2.out⟩
end Go.Proofs.Ytigghbehnnghnaa
