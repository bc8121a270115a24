import Derived.Test.YtcbhbojplcddkaaGreatDoorZGdK
import Derived.StillTailTactics
import Derived.Deep.RegionWith
import Derived.Deep.CutRange
import Derived.IntWalk
namespace Go.Proofs.YtcbhbojplcddkaaGreatDoor
open Go.RowKit Go.RowBits
set_option linter.unusedSimpArgs false
set_option linter.unusedVariables false

/-! ### A rule of births and stays, by its kind -/
def ones (l : List Nat) : Nat := l.count 1
theorem ones_le (l : List Nat) : ones l ≤ l.length := List.count_le_length
theorem ones_take (l : List Nat) {k : Nat} (h : k < l.length) : ones (l.take (k + 1)) = ones (l.take k) + if l.getD k 0 = 1 then 1 else 0 := by
  unfold ones
  rw [List.take_add_one, List.count_append]
  simp only [List.getElem?_eq_getElem h, Option.toList_some, List.count_singleton, List.getD_eq_getElem?_getD, Option.getD_some, beq_iff_eq]

set_option maxHeartbeats 1000000 in
theorem living119 {w : World} {v : Value} {l : List Nat} (hl : l.length ≤ 1000000) (h : HasY w v l) : Calls Tryz.prog 127 #[v] w fun e w' => e = .returned (.int .i64 ((ones l : Nat) : Int)) ∧ w' = w := by
  obtain ⟨ad, cap, rfl, hc⟩ := h
  have hc' := Lib.hid hc
  clear hc
  go_enter Tryz.func127, Tryz.ntmps127
  go_wp2
  go_loop [3, 8] (fun n i => ∃ k : Nat, k ≤ l.length ∧ i = .int .i64 (k : Int) ∧ n = .int .i64 ((ones (l.take k) : Nat) : Int)) (fun _ i => l.length - (intOf i).toNat)
  case atStart => exact ⟨0, by omega, by go_num, rfl⟩
  case round =>
    obtain ⟨k, hk, rfl, rfl⟩ := hrel
    have hob := ones_le (l.take k)
    have hol : (l.take k).length ≤ k := List.length_take_le _ _
    by_cases hlt : k < l.length
    · obtain ⟨g, o, rfl, c1⟩ := hc'.out k hlt
      have ht := ones_take l hlt
      have ht' := Lib.hid ht
      clear ht
      generalize l.getD k 0 = x at *
      by_cases hx : x = 1
      · have hxi : (x : Int) = 1 := by omega
        have hxb : ((x : Int) == 1) = true := by simpa using hxi
        rw [if_pos hx] at ht'
        clear hx hxi
        go_wp2
        go_round
        case rel => exact ⟨k + 1, by omega, by go_num, by rw [ht'.out]; go_num⟩
        case measure => simp [intOf]; omega
      · have hxb : ((x : Int) == 1) = false := by simpa using (show ¬ (x : Int) = 1 by omega)
        rw [if_neg hx] at ht'
        clear hx
        go_wp2
        go_round
        case rel => exact ⟨k + 1, by omega, by go_num, by rw [ht'.out]; go_num⟩
        case measure => simp [intOf]; omega
    · obtain rfl : k = l.length := by omega
      clear hlt
      go_wp2
      go_ret
      exact ⟨rfl, rfl⟩

set_option maxHeartbeats 2000000 in
theorem lifeNext118 {h : Int} {born stay c : Nat} (here : Bool) (hh : h = 1 ∨ h = 2 ∨ h = 3) (hr : ruleOk h born stay) (hb1 : born < 65536) (hs1 : stay < 65536) (hc : c ≤ (offs h).length) (w : World) :
    Calls Tryz.prog 126 #[.agg #[.int .u8 h, .int .u16 (born : Int), .int .u16 (stay : Int)], .int .u8 (if here then 1 else 0), .int .i64 (c : Int)] w fun e w' =>
    e = .returned (.tuple #[.int .u8 (if lineBit born stay c here then 1 else 0), .int .i64 0]) ∧ Below w.heap.size w w' := by
  have K10 := fun W => lifeCheck (h := h) hb1 hs1 W
  have e0 : lifeE h born stay = 0 := by unfold lifeE; rw [if_pos hh, if_pos hr]
  rw [e0] at K10
  have K20 := fun W => greatest67 h born stay W
  rw [if_pos hh, if_pos hh] at K20
  have hl := offs_len h
  have K1 := Lib.hid K10
  have K2 := Lib.hid K20
  have hb2 := bit_u16 (d := c) hb1
  have hs2 := bit_u16 (d := c) hs1
  clear K10 K20 e0 hr hh
  generalize (offs h).length = n at *
  unfold lineBit
  have hcn : decide ((n : Int) < (c : Int)) = false := decide_eq_false (by omega)
  cases here with
  | false =>
    simp only [Bool.false_eq_true, if_false]
    clear hs2
    cases hbk : born.testBit c with
    | false =>
      rw [hbk] at hb2
      clear hbk
      simp only [Bool.false_eq_true, if_false] at hb2 ⊢
      go_enter Tryz.func126, Tryz.ntmps126
      go_wp2_with fail
      refine (K1.out _).mono ?_
      rintro e w1 ⟨rfl, hb⟩
      obtain ⟨hc1, hf1⟩ := bcell hb
      have hz1 : w.heap.size < w1.heap.size := by have := hb.size; simp at this; omega
      have hB1 := Lib.hid (below_then (B := w.heap.size) (below_new _) hb (by simp))
      clear hb
      go_wp2_with fail
      refine (K2.out _).mono ?_
      rintro e w2 ⟨rfl, hb⟩
      obtain ⟨hc2, hf2⟩ := bcell hb
      have hz2 : w.heap.size < w2.heap.size := by have := hb.size; omega
      have hB2 := Lib.hid (below_then hB1.out hb hB1.out.size)
      clear hb
      go_wp2
      go_ret2
      exact ⟨rfl, hB2.out⟩
    | true =>
      rw [hbk] at hb2
      clear hbk
      simp only [if_true] at hb2 ⊢
      go_enter Tryz.func126, Tryz.ntmps126
      go_wp2_with fail
      refine (K1.out _).mono ?_
      rintro e w1 ⟨rfl, hb⟩
      obtain ⟨hc1, hf1⟩ := bcell hb
      have hz1 : w.heap.size < w1.heap.size := by have := hb.size; simp at this; omega
      have hB1 := Lib.hid (below_then (B := w.heap.size) (below_new _) hb (by simp))
      clear hb
      go_wp2_with fail
      refine (K2.out _).mono ?_
      rintro e w2 ⟨rfl, hb⟩
      obtain ⟨hc2, hf2⟩ := bcell hb
      have hz2 : w.heap.size < w2.heap.size := by have := hb.size; omega
      have hB2 := Lib.hid (below_then hB1.out hb hB1.out.size)
      clear hb
      go_wp2
      go_ret2
      exact ⟨rfl, hB2.out⟩
  | true =>
    simp only [if_true]
    clear hb2
    cases hbk : stay.testBit c with
    | false =>
      rw [hbk] at hs2
      clear hbk
      simp only [Bool.false_eq_true, if_false] at hs2 ⊢
      go_enter Tryz.func126, Tryz.ntmps126
      go_wp2_with fail
      refine (K1.out _).mono ?_
      rintro e w1 ⟨rfl, hb⟩
      obtain ⟨hc1, hf1⟩ := bcell hb
      have hz1 : w.heap.size < w1.heap.size := by have := hb.size; simp at this; omega
      have hB1 := Lib.hid (below_then (B := w.heap.size) (below_new _) hb (by simp))
      clear hb
      go_wp2_with fail
      refine (K2.out _).mono ?_
      rintro e w2 ⟨rfl, hb⟩
      obtain ⟨hc2, hf2⟩ := bcell hb
      have hz2 : w.heap.size < w2.heap.size := by have := hb.size; omega
      have hB2 := Lib.hid (below_then hB1.out hb hB1.out.size)
      clear hb
      go_wp2
      go_ret2
      exact ⟨rfl, hB2.out⟩
    | true =>
      rw [hbk] at hs2
      clear hbk
      simp only [if_true] at hs2 ⊢
      go_enter Tryz.func126, Tryz.ntmps126
      go_wp2_with fail
      refine (K1.out _).mono ?_
      rintro e w1 ⟨rfl, hb⟩
      obtain ⟨hc1, hf1⟩ := bcell hb
      have hz1 : w.heap.size < w1.heap.size := by have := hb.size; simp at this; omega
      have hB1 := Lib.hid (below_then (B := w.heap.size) (below_new _) hb (by simp))
      clear hb
      go_wp2_with fail
      refine (K2.out _).mono ?_
      rintro e w2 ⟨rfl, hb⟩
      obtain ⟨hc2, hf2⟩ := bcell hb
      have hz2 : w.heap.size < w2.heap.size := by have := hb.size; omega
      have hB2 := Lib.hid (below_then hB1.out hb hB1.out.size)
      clear hb
      go_wp2
      go_ret2
      exact ⟨rfl, hB2.out⟩
abbrev lifeRule (h : Int) (born stay : Nat) : Value := .agg #[.int .u8 1, .int .u8 h, .int .u16 (born : Int), .int .u16 (stay : Int), .int .i64 2, .string ⟨#[]⟩, .int .i64 0, .int .u8 0, .int .u8 0, .slice none 0 0, .slice none 0 0]
abbrev lifeK (h : Int) (born stay : Nat) : Value := .iface 182 (lifeV h born stay)

theorem b113 {h : Int} {born stay : Nat} (hb1 : born < 65536) (hs1 : stay < 65536) (w : World) : Calls Tryz.prog 121 #[lifeV h born stay] w fun e w' => e = .returned (.int .i64 (lifeE h born stay)) ∧ Below w.heap.size w w' := by
  have K1 := Lib.hid (fun W => lifeCheck (h := h) hb1 hs1 W)
  generalize lifeE h born stay = E at *
  go_enter Tryz.func121, Tryz.ntmps121
  go_wp2_with fail
  refine (K1.out _).mono ?_
  rintro e w1 ⟨rfl, hb⟩
  have hB1 := Lib.hid (below_then (B := w.heap.size) (below_new _) hb (by simp))
  clear hb
  go_wp2
  go_ret
  exact ⟨rfl, hB1.out⟩
theorem b114 {h : Int} {born stay : Nat} (w : World) : Calls Tryz.prog 122 #[lifeV h born stay] w fun e w' => e = .returned (.int .u8 h) ∧ Below w.heap.size w w' := by
  go_enter Tryz.func122, Tryz.ntmps122
  go_wp2
  go_ret
  exact ⟨rfl, below_new _⟩
theorem b117 {h : Int} {born stay : Nat} (w : World) : Calls Tryz.prog 125 #[lifeV h born stay] w fun e w' => e = .returned (.int .i64 2) ∧ Below w.heap.size w w' := by
  go_enter Tryz.func125, Tryz.ntmps125
  go_wp2
  go_ret
  exact ⟨rfl, below_new _⟩
set_option maxRecDepth 20000 in
set_option maxHeartbeats 2000000 in
theorem b115 {h : Int} {born stay : Nat} {w : World} {v : Value} {l : List Nat} (here : Bool) (hh : h = 1 ∨ h = 2 ∨ h = 3) (hr : ruleOk h born stay) (hb1 : born < 65536) (hs1 : stay < 65536) (hl : l.length = (offs h).length) (hv : HasY w v l) :
    Calls Tryz.prog 123 #[lifeV h born stay, .int .u8 (if here then 1 else 0), v] w fun e w' => e = .returned (.tuple #[.int .u8 (if lineBit born stay (ones l) here then 1 else 0), .int .i64 0]) ∧ Below w.heap.size w w' := by
  have hl8 := offs_len h
  have ho := ones_le l
  have K1 := Lib.hid (fun W => lifeNext118 (h := h) (born := born) (stay := stay) (c := ones l) here hh hr hb1 hs1 (by omega) W)
  have K2 := Lib.hid (fun W (h : HasY W v l) => living119 (w := W) (by omega) h)
  obtain ⟨W0, hW0⟩ : ∃ W0, W0 = w.alloc (.cells #[.int .u8 h, .int .u16 (born : Int), .int .u16 (stay : Int)] 182) := ⟨_, rfl⟩
  have hv' : Hid (HasY W0.drew v l) := by rw [hW0]; exact (hv.kept (below_new (.cells #[.int .u8 h, .int .u16 (born : Int), .int .u16 (stay : Int)] 182))).drew
  have hBW : Hid (Below w.heap.size w W0.drew) := by rw [hW0]; exact (below_new _).drew
  have hzW : w.heap.size ≤ W0.heap.size := by rw [hW0]; simp
  have c0 : W0.cell? ⟨w.heap.size, 0, none⟩ = some (.int .u8 h) := by rw [hW0]; go_simp
  have c1 : W0.cell? ⟨w.heap.size, 1, none⟩ = some (.int .u16 (born : Int)) := by rw [hW0]; go_simp
  have c2 : W0.cell? ⟨w.heap.size, 2, none⟩ = some (.int .u16 (stay : Int)) := by rw [hW0]; go_simp
  have hW0' := Lib.hid hW0
  clear hW0
  clear ho hl hl8 hv hh hr
  generalize ones l = c at *
  generalize (if lineBit born stay c here then 1 else 0 : Int) = r at *
  generalize (if here then 1 else 0 : Int) = s at *
  go_enter Tryz.func123, Tryz.ntmps123
  go_upto_region 1 with fail
  rw [← hW0'.out]
  go_region_with (first
    | (go_at_call 127; refine (K2.out _ hv'.out).mono ?_; rintro e w1 ⟨rfl, rfl⟩)
    | (go_at_call 126; refine (K1.out _).mono ?_; rintro e w1 ⟨rfl, hb⟩; have hB1 := Lib.hid (below_then hBW.out hb (by simpa using hzW)); clear hb))
  all_goals
    go_wp2
    go_ret2
    exact ⟨rfl, hB1.out⟩

theorem bare94 (w : World) : Calls Tryz.prog 81 #[.agg #[.int .i64 0, .int .u8 0, .int .u8 0, .slice none 0 0, .slice none 0 0]] w fun e w' => e = .returned (.bool true) ∧ Below w.heap.size w w' := by
  go_enter Tryz.func81, Tryz.ntmps81
  go_wp2
  go_ret
  exact ⟨rfl, below_new _⟩
set_option maxHeartbeats 2000000 in
theorem of80 {h : Int} {born stay : Nat} (hb1 : born < 65536) (hs1 : stay < 65536) (hE : lifeE h born stay = 0) (w : World) : Calls Tryz.prog 72 #[lifeRule h born stay] w fun e w' => e = .returned (.tuple #[lifeK h born stay, .int .i64 0]) ∧ Below w.heap.size w w' := by
  have K1 := Lib.hid (fun W => bare94 W)
  have K20 := fun W => b113 (h := h) hb1 hs1 W
  rw [hE] at K20
  have K2 := Lib.hid K20
  clear K20 hE
  go_enter Tryz.func72, Tryz.ntmps72
  go_wp2_with fail
  refine (K1.out _).mono ?_
  rintro e w1 ⟨rfl, hb⟩
  obtain ⟨hc1, hf1⟩ := bcell hb
  have hz1 : w.heap.size < w1.heap.size := by have := hb.size; simp at this; omega
  have hB1 := Lib.hid (below_then (B := w.heap.size) (below_new _) hb (by simp))
  clear hb
  go_wp2_with fail
  refine (K2.out _).mono ?_
  rintro e w2 ⟨rfl, hb⟩
  obtain ⟨hc2, hf2⟩ := bcell hb
  have hz2 : w.heap.size < w2.heap.size := by have := hb.size; omega
  have hB2 := Lib.hid (below_then hB1.out hb hB1.out.size)
  clear hb
  go_wp2
  go_ret2
  exact ⟨rfl, hB2.out⟩
set_option maxHeartbeats 2000000 in
theorem may72 {h : Int} {born stay : Nat} (hb1 : born < 65536) (hs1 : stay < 65536) (hE : lifeE h born stay = 0) (w : World) : Calls Tryz.prog 57 #[lifeRule h born stay] w fun e w' => e = .returned (.tuple #[lifeK h born stay, .int .i64 0]) ∧ Below w.heap.size w w' := by
  have K1 := Lib.hid (fun W => of80 hb1 hs1 hE W)
  clear hE
  go_enter Tryz.func57, Tryz.ntmps57
  go_wp2_with fail
  refine (K1.out _).mono ?_
  rintro e w1 ⟨rfl, hb⟩
  have hB1 := Lib.hid (below_then (B := w.heap.size) (below_new _) hb (by simp))
  clear hb
  go_wp2
  go_ret2
  exact ⟨rfl, hB1.out⟩
set_option maxHeartbeats 2000000 in
theorem states48 {h : Int} {born stay : Nat} (hb1 : born < 65536) (hs1 : stay < 65536) (hE : lifeE h born stay = 0) (w : World) : Calls Tryz.prog 56 #[lifeRule h born stay] w fun e w' => e = .returned (.tuple #[.int .i64 2, .int .i64 0]) ∧ Below w.heap.size w w' := by
  have K1 := Lib.hid (fun W => may72 hb1 hs1 hE W)
  have K2 := Lib.hid (fun W => b117 (h := h) (born := born) (stay := stay) W)
  clear hE
  go_enter Tryz.func56, Tryz.ntmps56
  go_wp2_with fail
  refine (K1.out _).mono ?_
  rintro e w1 ⟨rfl, hb⟩
  have hB1 := Lib.hid (below_then (B := w.heap.size) (below_new _) hb (by simp))
  clear hb
  go_wp2_with fail
  refine (K2.out _).mono ?_
  rintro e w2 ⟨rfl, hb⟩
  have hB2 := Lib.hid (below_then hB1.out hb hB1.out.size)
  clear hb
  go_wp2
  go_ret2
  exact ⟨rfl, hB2.out⟩
set_option maxHeartbeats 2000000 in
theorem hood77 {h : Int} {born stay : Nat} (hb1 : born < 65536) (hs1 : stay < 65536) (hE : lifeE h born stay = 0) (w : World) : Calls Tryz.prog 27 #[lifeRule h born stay] w fun e w' => e = .returned (.tuple #[.int .u8 h, .int .i64 0]) ∧ Below w.heap.size w w' := by
  have K1 := Lib.hid (fun W => may72 hb1 hs1 hE W)
  have K2 := Lib.hid (fun W => b114 (h := h) (born := born) (stay := stay) W)
  clear hE
  go_enter Tryz.func27, Tryz.ntmps27
  go_wp2_with fail
  refine (K1.out _).mono ?_
  rintro e w1 ⟨rfl, hb⟩
  have hB1 := Lib.hid (below_then (B := w.heap.size) (below_new _) hb (by simp))
  clear hb
  go_wp2_with fail
  refine (K2.out _).mono ?_
  rintro e w2 ⟨rfl, hb⟩
  have hB2 := Lib.hid (below_then hB1.out hb hB1.out.size)
  clear hb
  go_wp2
  go_ret2
  exact ⟨rfl, hB2.out⟩
set_option maxHeartbeats 2000000 in
theorem size82 {h : Int} {born stay : Nat} (w : World) : Calls Tryz.prog 74 #[lifeK h born stay] w fun e w' => e = .returned (.int .i64 ((offs h).length : Int)) ∧ Below w.heap.size w w' := by
  have K1 := Lib.hid (fun W => size_any h W)
  have K2 := Lib.hid (fun W => b114 (h := h) (born := born) (stay := stay) W)
  have hl := offs_len h
  generalize (offs h).length = n at *
  go_enter Tryz.func74, Tryz.ntmps74
  go_wp2_with fail
  refine (K2.out _).mono ?_
  rintro e w1 ⟨rfl, hb⟩
  have hB1 := Lib.hid hb
  clear hb
  go_wp2_with fail
  refine (K1.out _).mono ?_
  rintro e w2 ⟨rfl, hb⟩
  have hB2 := Lib.hid (below_then hB1.out hb hB1.out.size)
  clear hb
  go_wp2
  go_ret
  exact ⟨rfl, hB2.out⟩
/-! ### Next and Quiet of a rule of births and stays -/
set_option maxHeartbeats 1000000 in
theorem beyond92 {h : Int} {born stay x b : Nat} {w : World} (hx : x < 2) (hc : w.cell? ⟨b, 0, none⟩ = some (lifeK h born stay)) : Calls Tryz.prog 73 #[.int .u8 (x : Int), .pointer (some ⟨b, 0, none⟩)] w fun e w' => e = .returned (.bool false) ∧ Below w.heap.size w w' := by
  have K2 := Lib.hid (fun W => b117 (h := h) (born := born) (stay := stay) W)
  go_enter Tryz.func73, Tryz.ntmps73
  go_wp2_with fail
  refine (K2.out _).mono ?_
  rintro e w2 ⟨rfl, hb⟩
  have hB2 := Lib.hid hb
  clear hb
  go_wp2
  go_ret
  exact ⟨by simp; omega, hB2.out⟩
def LRel (W : World) (n : Nat) (i : Value) (wx : World) : Prop := ∃ k : Nat, k ≤ n ∧ i = .int .i64 (k : Int) ∧ Below W.heap.size W wx
abbrev beyondF (b : Nat) : Value := .func (.func 73) #[] #[.pointer (some ⟨b, 0, none⟩)]
set_option maxHeartbeats 2000000 in
theorem index96 {h : Int} {born stay b : Nat} {w : World} {v : Value} {l : List Nat} (hl : l.length ≤ 1000000) (hv : HasY w v l) (h2 : ∀ j, j < l.length → l.getD j 0 < 2) (hc : w.cell? ⟨b, 0, none⟩ = some (lifeK h born stay)) :
    Calls Tryz.prog 82 #[v, beyondF b] w fun e w' => e = .returned (.int .i64 (-1)) ∧ Below w.heap.size w w' := by
  have hv' := Lib.hid hv
  have hc' := Lib.hid hc
  have h2' := Lib.hid h2
  have K := Lib.hid (fun W x (hx : x < 2) (hc : W.cell? ⟨b, 0, none⟩ = some (lifeK h born stay)) => beyond92 (w := W) hx hc)
  obtain ⟨ad, cap, rfl, hcs⟩ := hv
  have hcs' := Lib.hid hcs
  clear hc hcs h2
  go_enter Tryz.func82, Tryz.ntmps82
  go_wp2
  go_loopw [8] (fun i wx => LRel w l.length i wx) (fun i _ => l.length - (intOf i).toNat)
  case atStart => exact ⟨0, by omega, by go_num, Below.refl _ _⟩
  case round =>
    obtain ⟨k, hk, rfl, hB⟩ := hrel
    have hB' := Lib.hid hB
    have hc1 := Lib.hid (cell_kept hB hc'.out)
    by_cases hlt : k < l.length
    · obtain ⟨g, o, rfl, c1⟩ := hcs'.out k hlt
      have c2 := cell_kept hB c1
      have hx := h2'.out k hlt
      clear hB c1
      generalize l.getD k 0 = x at *
      go_wp2_with fail
      refine (K.out _ x hx hc1.out).mono ?_
      rintro e w2 ⟨rfl, hb⟩
      have hB2 := Lib.hid (below_then hB'.out hb hB'.out.size)
      clear hb
      go_wp2
      exact ⟨⟨k + 1, by omega, by go_num, hB2.out⟩, by simp [intOf]; omega⟩
    · obtain rfl : k = l.length := by omega
      clear hlt hB
      go_wp2
      go_ret
      exact ⟨rfl, hB'.out⟩
set_option maxHeartbeats 2000000 in
theorem contains93 {h : Int} {born stay b : Nat} {w : World} {v : Value} {l : List Nat} (hl : l.length ≤ 1000000) (hv : HasY w v l) (h2 : ∀ j, j < l.length → l.getD j 0 < 2) (hc : w.cell? ⟨b, 0, none⟩ = some (lifeK h born stay)) :
    Calls Tryz.prog 75 #[v, beyondF b] w fun e w' => e = .returned (.bool false) ∧ Below w.heap.size w w' := by
  have K := Lib.hid (index96 hl hv h2 hc)
  clear hv h2 hc
  go_enter Tryz.func75, Tryz.ntmps75
  go_wp2_with fail
  refine (K.out).mono ?_
  rintro e w2 ⟨rfl, hb⟩
  have hB2 := Lib.hid hb
  clear hb
  go_wp2
  go_ret
  exact ⟨rfl, hB2.out⟩
set_option maxHeartbeats 2000000 in
theorem next79 {h : Int} {born stay c : Nat} {w : World} {v : Value} {l : List Nat} (hc2 : c < 2) (hb1 : born < 65536) (hs1 : stay < 65536) (hE : lifeE h born stay = 0) (hh : h = 1 ∨ h = 2 ∨ h = 3) (hr : ruleOk h born stay) (hl : l.length = (offs h).length) (hv : HasY w v l) (h2 : ∀ j, j < l.length → l.getD j 0 < 2) :
    Calls Tryz.prog 59 #[lifeRule h born stay, .int .u8 (c : Int), v] w fun e w' => e = .returned (.tuple #[.int .u8 (if lineBit born stay (ones l) (c == 1) then 1 else 0), .int .i64 0]) ∧ Below w.heap.size w w' := by
  have hl8 := offs_len h
  have K1 := Lib.hid (fun W => may72 hb1 hs1 hE W)
  have K2 := Lib.hid (fun W b (hc : W.cell? ⟨b, 0, none⟩ = some (lifeK h born stay)) => beyond92 (w := W) (b := b) hc2 hc)
  have K3 := Lib.hid (fun W => size82 (h := h) (born := born) (stay := stay) W)
  have K4 := Lib.hid (fun W b (hv : HasY W v l) (hc : W.cell? ⟨b, 0, none⟩ = some (lifeK h born stay)) => contains93 (w := W) (b := b) (by omega) hv h2 hc)
  have hci : ((if (c == 1) then 1 else 0 : Int)) = (c : Int) := by
    have : c = 0 ∨ c = 1 := by omega
    rcases this with rfl | rfl <;> rfl
  have K50 := fun W (hv : HasY W v l) => b115 (w := W) (c == 1) hh hr hb1 hs1 hl hv
  simp only [hci] at K50
  have K5 := Lib.hid K50
  have hv' := Lib.hid hv
  have hvs : ∃ ad cap, v = .slice ad l.length cap := by obtain ⟨ad, cap, e, _⟩ := hv; exact ⟨ad, cap, e⟩
  obtain ⟨ad, cap, rfl⟩ := hvs
  clear hE hv h2 K50 hci hh hr
  rw [hl] at *
  generalize (offs h).length = n at *
  generalize (if lineBit born stay (ones l) (c == 1) then 1 else 0 : Int) = r at *
  go_enter Tryz.func59, Tryz.ntmps59
  go_wp2_with fail
  refine (K1.out _).mono ?_
  rintro e w1 ⟨rfl, hb⟩
  have hB1 := Lib.hid (below_then (B := w.heap.size) (below_new _) hb (by simp))
  have hz1 : w.heap.size ≤ w1.heap.size := hB1.out.size
  clear hb
  go_wp2_with fail
  have c1 : (w1.alloc (.cells #[lifeK h born stay] 133)).cell? ⟨w1.heap.size, 0, none⟩ = some (lifeK h born stay) := by go_simp
  have C1 := Lib.hid c1
  refine (K2.out _ _ c1).mono ?_
  rintro e w2 ⟨rfl, hb⟩
  have c2 := cell_kept hb c1
  have C2 := Lib.hid c2
  have hB2 := Lib.hid (below_then (hB1.out.alloc hz1 _) hb (by simp; omega))
  clear hb c1
  go_wp2_with fail
  refine (K3.out _).mono ?_
  rintro e w3 ⟨rfl, hb⟩
  have c3 := cell_kept hb c2
  have C3 := Lib.hid c3
  have hB3 := Lib.hid (below_then hB2.out hb hB2.out.size)
  clear hb c2
  go_wp2_with fail
  refine (K4.out _ _ (hv'.out.kept hB3.out) c3).mono ?_
  rintro e w4 ⟨rfl, hb⟩
  have c4 := cell_kept hb c3
  have hB4 := Lib.hid (below_then hB3.out hb hB3.out.size)
  clear hb c3
  go_wp2_with fail
  refine (K5.out _ (hv'.out.kept hB4.out)).mono ?_
  rintro e w5 ⟨rfl, hb⟩
  have hB5 := Lib.hid (below_then hB4.out hb hB4.out.size)
  clear hb c4
  go_wp2
  go_ret2
  exact ⟨rfl, hB5.out⟩
end Go.Proofs.YtcbhbojplcddkaaGreatDoor
namespace Go.Proofs.YtcbhbojplcddkaaGreatDoor
open Go.RowKit Go.RowBits Go.Shelf
set_option linter.unusedSimpArgs false
set_option linter.unusedVariables false

/-! ### Why there is no run: the numbers, of the packed and of the plain -/
open Classical in
noncomputable def mayE (hd : Int) (born stay : Nat) (k W H tn sh : Int) (w h s : Nat) (n st : Int) : Int :=
  if lifeE hd born stay = 0 then (if TopoOk k W H tn sh then (if n < 0 then 2 else if 1125899906842624 < n then 5 else if W = 0 ∨ H = 0 then 42 else if W = (w : Int) ∧ H = (h : Int) then (if s = 2 then (if 67108864 / ((w : Int) * (h : Int)) < n then 4 else 0) else st) else 21) else 9) else 8
section
variable {B E : Nat} {W0 : World} {fb w h s : Nat} {pk : Bool} {c : Nat → Nat → Nat} {hd : Int} {born stay : Nat} {k W H tn sh n st : Int}
theorem mayE_8 (h0 : ¬ (lifeE hd born stay = 0)) : mayE hd born stay k W H tn sh w h s n st = 8 := by
  unfold mayE
  rw [if_neg h0]
theorem mayE_9 (h0 : lifeE hd born stay = 0) (h1 : ¬ (TopoOk k W H tn sh)) : mayE hd born stay k W H tn sh w h s n st = 9 := by
  unfold mayE
  rw [if_pos h0, if_neg h1]
theorem mayE_2 (h0 : lifeE hd born stay = 0) (h1 : TopoOk k W H tn sh) (h2 : n < 0) : mayE hd born stay k W H tn sh w h s n st = 2 := by
  unfold mayE
  rw [if_pos h0, if_pos h1, if_pos h2]
theorem mayE_5 (h0 : lifeE hd born stay = 0) (h1 : TopoOk k W H tn sh) (h2 : ¬ (n < 0)) (h3 : 1125899906842624 < n) : mayE hd born stay k W H tn sh w h s n st = 5 := by
  unfold mayE
  rw [if_pos h0, if_pos h1, if_neg h2, if_pos h3]
theorem mayE_42 (h0 : lifeE hd born stay = 0) (h1 : TopoOk k W H tn sh) (h2 : ¬ (n < 0)) (h3 : ¬ (1125899906842624 < n)) (h4 : W = 0 ∨ H = 0) : mayE hd born stay k W H tn sh w h s n st = 42 := by
  unfold mayE
  rw [if_pos h0, if_pos h1, if_neg h2, if_neg h3, if_pos h4]
theorem mayE_21 (h0 : lifeE hd born stay = 0) (h1 : TopoOk k W H tn sh) (h2 : ¬ (n < 0)) (h3 : ¬ (1125899906842624 < n)) (h4 : ¬ (W = 0 ∨ H = 0)) (h5 : ¬ ((W = (w : Int) ∧ H = (h : Int)))) : mayE hd born stay k W H tn sh w h s n st = 21 := by
  unfold mayE
  rw [if_pos h0, if_pos h1, if_neg h2, if_neg h3, if_neg h4, if_neg h5]
theorem mayE_st (h0 : lifeE hd born stay = 0) (h1 : TopoOk k W H tn sh) (h2 : ¬ (n < 0)) (h3 : ¬ (1125899906842624 < n)) (h4 : ¬ (W = 0 ∨ H = 0)) (h5 : (W = (w : Int) ∧ H = (h : Int))) (h6 : ¬ (s = 2)) : mayE hd born stay k W H tn sh w h s n st = st := by
  unfold mayE
  rw [if_pos h0, if_pos h1, if_neg h2, if_neg h3, if_neg h4, if_pos h5, if_neg h6]
theorem mayE_4 (h0 : lifeE hd born stay = 0) (h1 : TopoOk k W H tn sh) (h2 : ¬ (n < 0)) (h3 : ¬ (1125899906842624 < n)) (h4 : ¬ (W = 0 ∨ H = 0)) (h5 : (W = (w : Int) ∧ H = (h : Int))) (h6 : s = 2) (h7 : 67108864 / ((w : Int) * (h : Int)) < n) : mayE hd born stay k W H tn sh w h s n st = 4 := by
  unfold mayE
  rw [if_pos h0, if_pos h1, if_neg h2, if_neg h3, if_neg h4, if_pos h5, if_pos h6, if_pos h7]
theorem mayE_0 (h0 : lifeE hd born stay = 0) (h1 : TopoOk k W H tn sh) (h2 : ¬ (n < 0)) (h3 : ¬ (1125899906842624 < n)) (h4 : ¬ (W = 0 ∨ H = 0)) (h5 : (W = (w : Int) ∧ H = (h : Int))) (h6 : s = 2) (h7 : ¬ (67108864 / ((w : Int) * (h : Int)) < n)) : mayE hd born stay k W H tn sh w h s n st = 0 := by
  unfold mayE
  rw [if_pos h0, if_pos h1, if_neg h2, if_neg h3, if_neg h4, if_pos h5, if_pos h6, if_neg h7]
theorem mayE_two (h0 : mayE hd born stay k W H tn sh w h s n 132 ≠ 0) : mayE hd born stay k W H tn sh w h s n 132 = mayE hd born stay k W H tn sh w h s n 7 ∨ (mayE hd born stay k W H tn sh w h s n 132 = 132 ∧ mayE hd born stay k W H tn sh w h s n 7 = 7) := by
  unfold mayE at *
  by_cases a0 : lifeE hd born stay = 0
  · by_cases a1 : TopoOk k W H tn sh
    · by_cases a2 : n < 0
      · simp [a0, a1, a2]
      · by_cases a3 : 1125899906842624 < n
        · simp [a0, a1, a2, a3]
        · by_cases a4 : W = 0 ∨ H = 0
          · simp [a0, a1, a2, a3, a4]
          · by_cases a5 : W = (w : Int) ∧ H = (h : Int)
            · by_cases a6 : s = 2
              · exact .inl (by rw [if_pos a0, if_pos a1, if_neg a2, if_neg a3, if_neg a4, if_pos a5, if_pos a6, if_pos a0, if_pos a1, if_neg a2, if_neg a3, if_neg a4, if_pos a5, if_pos a6])
              · exact .inr (by rw [if_pos a0, if_pos a1, if_neg a2, if_neg a3, if_neg a4, if_pos a5, if_neg a6, if_pos a0, if_pos a1, if_neg a2, if_neg a3, if_neg a4, if_pos a5, if_neg a6]; exact ⟨rfl, rfl⟩)
            · exact .inl (by rw [if_pos a0, if_pos a1, if_neg a2, if_neg a3, if_neg a4, if_neg a5, if_pos a0, if_pos a1, if_neg a2, if_neg a3, if_neg a4, if_neg a5])
    · simp [a0, a1]
  · simp [a0]
set_option maxRecDepth 100000 in
set_option maxHeartbeats 8000000 in
theorem mayR (f : Fld B E W0 fb w h s pk c) (hb1 : born < 65536) (hs1 : stay < 65536) (hk : 0 ≤ k ∧ k < 256) (ht : 0 ≤ tn) :
    Calls Tryz.prog 20 #[lifeV hd born stay, topoV k W H tn sh, .pointer (some ⟨fb, 0, none⟩), .int .i64 n] W0 fun e w' => e = .returned (.int .i64 (mayE hd born stay k W H tn sh w h s n 132)) ∧ Below W0.heap.size W0 w' := by
  obtain ⟨⟨w1, w2⟩, ⟨h1, h2⟩, ⟨s1, s2⟩, hwh⟩ := f.side
  have F1 := Lib.hid (fun (W' : World) (hb : Below W0.heap.size W0 W') => (f.kept hb).wide)
  have F2 := Lib.hid (fun (W' : World) (hb : Below W0.heap.size W0 W') => (f.kept hb).high)
  have F3 := Lib.hid (fun (W' : World) (hb : Below W0.heap.size W0 W') => (f.kept hb).count)
  have KL := Lib.hid (fun w => lifeCheck (h := hd) hb1 hs1 w)
  have KT := Lib.hid (fun w => topo38 (W := W) (H := H) (sh := sh) hk ht w)
  obtain ⟨W2, hW2⟩ : ∃ W2, Hid (W2 = (W0.alloc (.cells #[.int .u8 hd, .int .u16 (born : Int), .int .u16 (stay : Int)] 24)).alloc (.cells #[.int .u8 k, .int .i64 W, .int .i64 H, .int .u8 tn, .int .i64 sh] 26)) := ⟨_, rfl⟩
  have hB2 : Hid (Below W0.heap.size W0 W2) := by rw [hW2.out]; exact (below_new _).alloc (by simp) _
  have E2 : Blks W2 [(W0.heap.size + 1, #[.int .u8 k, .int .i64 W, .int .i64 H, .int .u8 tn, .int .i64 sh], 26), (W0.heap.size, #[.int .u8 hd, .int .u16 (born : Int), .int .u16 (stay : Int)], 24)] := by
    rw [hW2.out]
    exact ((Blks.nil _).alloc (n := W0.heap.size) rfl #[.int .u8 hd, .int .u16 (born : Int), .int .u16 (stay : Int)] 24).alloc (n := W0.heap.size + 1) (by simp) #[.int .u8 k, .int .i64 W, .int .i64 H, .int .u8 tn, .int .i64 sh] 26
  have E2' := Lib.hid E2
  have hcl : Hid (∀ W' : World, Below W2.heap.size W2 W' → W'.cell? ⟨W0.heap.size + 1, 0, none⟩ = some (.int .u8 k) ∧ W'.cell? ⟨W0.heap.size + 1, 1, none⟩ = some (.int .i64 W) ∧ W'.cell? ⟨W0.heap.size + 1, 2, none⟩ = some (.int .i64 H) ∧ W'.cell? ⟨W0.heap.size + 1, 3, none⟩ = some (.int .u8 tn) ∧ W'.cell? ⟨W0.heap.size + 1, 4, none⟩ = some (.int .i64 sh)) := fun W' hb => by
    have h3 := (E2'.out.kept hb) (W0.heap.size + 1, #[.int .u8 k, .int .i64 W, .int .i64 H, .int .u8 tn, .int .i64 sh], 26) (by simp)
    exact ⟨by rw [cell_of_row W' _ 0 _ 26 (0, 0) h3]; rfl, by rw [cell_of_row W' _ 1 _ 26 (0, 0) h3]; rfl, by rw [cell_of_row W' _ 2 _ 26 (0, 0) h3]; rfl, by rw [cell_of_row W' _ 3 _ 26 (0, 0) h3]; rfl, by rw [cell_of_row W' _ 4 _ 26 (0, 0) h3]; rfl⟩
  have l0 : W2.cell? ⟨W0.heap.size, 0, none⟩ = some (.int .u8 hd) := E2.cell (cs := #[.int .u8 hd, .int .u16 (born : Int), .int .u16 (stay : Int)]) (T := 24) (by simp) rfl
  have l1 : W2.cell? ⟨W0.heap.size, 1, none⟩ = some (.int .u16 (born : Int)) := E2.cell (cs := #[.int .u8 hd, .int .u16 (born : Int), .int .u16 (stay : Int)]) (T := 24) (by simp) rfl
  have l2 : W2.cell? ⟨W0.heap.size, 2, none⟩ = some (.int .u16 (stay : Int)) := E2.cell (cs := #[.int .u8 hd, .int .u16 (born : Int), .int .u16 (stay : Int)]) (T := 24) (by simp) rfl
  have hwh' := Lib.hid hwh
  clear f E2 hwh
  have zw : ((w : Int) == 0) = false := by rw [beq_eq_false_iff_ne]; omega
  go_enter Tryz.func20, Tryz.ntmps20
  go_wp2_with fail
  rw [← hW2.out]
  refine (F1.out _ hB2.out).mono ?_
  rintro e wq ⟨rfl, hwq⟩
  subst wq
  go_wp2_with fail
  refine (KL.out _).mono ?_
  rintro e w3 ⟨rfl, hb3⟩
  obtain ⟨le, hle⟩ : ∃ le : Int, Hid (le = lifeE hd born stay) := ⟨_, rfl⟩
  rw [← hle.out]
  have hb3' := Lib.hid hb3
  have hB3 := Lib.hid (below_then hB2.out hb3 hB2.out.size)
  obtain ⟨p0, p1, p2, p3, p4⟩ := hcl.out w3 hb3
  clear hb3 l0 l1 l2 KL
  by_cases hl0 : le = 0
  · subst hl0
    go_wp2_with fail
    refine (KT.out _).mono ?_
    rintro e w4 ⟨r, rfl, hr, hb4⟩
    have hr' := Lib.hid hr
    have hb4' := Lib.hid (below_then hb3'.out hb4 hb3'.out.size)
    have hB4 := Lib.hid (below_then hB3.out hb4 hB3.out.size)
    obtain ⟨q0, q1, q2, q3, q4⟩ := hcl.out w4 hb4'.out
    clear hb4 hr p0 p1 p2 p3 p4 KT
    by_cases hr0 : r = 0
    · subst hr0
      by_cases hn0 : n < 0
      · go_wp2
        go_ret
        exact ⟨congrArg (fun z => Ending.returned (Value.int .i64 z)) (mayE_2 hle.out.symm (by have := hr'.out; simpa using this) hn0).symm, hB4.out⟩
      by_cases hn1 : 1125899906842624 < n
      · go_wp2
        go_ret
        exact ⟨congrArg (fun z => Ending.returned (Value.int .i64 z)) (mayE_5 hle.out.symm (by have := hr'.out; simpa using this) (by omega) hn1).symm, hB4.out⟩
      by_cases hW0 : W = 0
      · have e1 : (W == 0) = true := by simp [hW0]
        go_wp2
        go_ret
        exact ⟨congrArg (fun z => Ending.returned (Value.int .i64 z)) (mayE_42 hle.out.symm (by have := hr'.out; simpa using this)  (by omega) (by omega) (.inl hW0)).symm, hB4.out⟩
      have eW : (W == 0) = false := by simp [hW0]
      by_cases hH0 : H = 0
      · have e1 : (H == 0) = true := by simp [hH0]
        go_wp2
        go_ret
        exact ⟨congrArg (fun z => Ending.returned (Value.int .i64 z)) (mayE_42 hle.out.symm (by have := hr'.out; simpa using this)  (by omega) (by omega) (.inr hH0)).symm, hB4.out⟩
      have eH : (H == 0) = false := by simp [hH0]
      have QT : Hid (∀ m, Calls Tryz.prog 40 #[.pointer (some ⟨fb, 0, none⟩)] (w4.drewN m) fun e w' => e = .returned (.int .i64 (w : Int)) ∧ w' = w4.drewN m) := fun m => F1.out _ (below_drewN hB4.out _)
      have QH : Hid (∀ m, Calls Tryz.prog 42 #[.pointer (some ⟨fb, 0, none⟩)] (w4.drewN m) fun e w' => e = .returned (.int .i64 (h : Int)) ∧ w' = w4.drewN m) := fun m => F2.out _ (below_drewN hB4.out _)
      by_cases hWw : W = (w : Int)
      · have eWw : (W != (w : Int)) = false := by simp [hWw]
        have eWe : (W == (w : Int)) = true := by simp [hWw]
        by_cases hHh : H = (h : Int)
        · subst hWw hHh
          go_wp2_with fail
          go_quiet ((first | (go_at_call 40; exact Calls.quiet_of_same (QT.out _)) | (go_at_call 42; exact Calls.quiet_of_same (QH.out _))))
          rename Nat => mm
          have KS := Lib.hid (F3.out _ (below_drewN hB4.out mm))
          obtain ⟨v0, v1, v2, v3, v4⟩ := hcl.out _ (below_drewN hb4'.out mm)
          have hB5 := Lib.hid (below_drewN hB4.out mm)
          clear q0 q1 q2 q3 q4
          go_wp2_with fail
          refine (KS.out).mono ?_
          rintro e w6 ⟨rfl, hw6⟩
          subst w6
          by_cases hs2 : s = 2
          · subst hs2
            obtain ⟨p, hp⟩ : ∃ p : Nat, Hid (p = w * h) := ⟨_, rfl⟩
            have hp1 : 1 ≤ p := by rw [hp.out]; exact Nat.mul_pos (by omega) (by omega)
            have hp2 : p ≤ 1048576 := by rw [hp.out]; exact hwh'.out
            have hpe : (w : Int) * (h : Int) = (p : Int) := by rw [hp.out]; simp
            have hwr : IntKind.i64.wrap ((w : Int) * (h : Int)) = (p : Int) := by rw [hpe]; exact IntWalk.i64_in _ (by omega)
            have hpz : ((p : Int) == 0) = false := by rw [beq_eq_false_iff_ne]; omega
            have hpz2 : ¬ (p : Int) = 0 := by omega
            have hqe : Hid (67108864 / (p : Int) = 67108864 / ((w : Int) * (h : Int))) := by show _ = _; rw [hpe]
            have hq0 : 0 ≤ 67108864 / (p : Int) := Int.ediv_nonneg (by omega) (by omega)
            have hq1 : 67108864 / (p : Int) ≤ 67108864 := Int.ediv_le_self _ (by omega)
            obtain ⟨d, hd2⟩ : ∃ d : Int, d = 67108864 / (p : Int) := ⟨_, rfl⟩
            have hdq : IntKind.i64.wrap ((67108864 : Int).tdiv (p : Int)) = d := by rw [Int.tdiv_eq_ediv_of_nonneg (by omega), ← hd2]; exact IntWalk.i64_in _ (by omega)
            have hqd : Hid (67108864 / (p : Int) = d) := hd2.symm
            have hd3 : (67108864 : Int) / (p : Int) = d := hd2.symm
            clear hpe hq0 hq1 hd2 v0 v3 v4
            by_cases hnd : n ≤ d
            · go_wp2
              go_ret
              exact ⟨congrArg (fun z => Ending.returned (Value.int .i64 z)) (mayE_0 hle.out.symm (by have := hr'.out; simpa using this)  (by omega) (by omega) (fun a => a.elim hW0 hH0) ⟨rfl, rfl⟩ rfl (by rw [← hqe.out, hqd.out]; omega)).symm, hB5.out⟩
            · go_wp2
              go_ret
              exact ⟨congrArg (fun z => Ending.returned (Value.int .i64 z)) (mayE_4 hle.out.symm (by have := hr'.out; simpa using this)  (by omega) (by omega) (fun a => a.elim hW0 hH0) ⟨rfl, rfl⟩ rfl (by rw [← hqe.out, hqd.out]; omega)).symm, hB5.out⟩
          · have e1 : ((s : Int) == 2) = false := by rw [beq_eq_false_iff_ne]; omega
            have e2 : ((s : Int) != 2) = true := by simp [bne, e1]
            go_wp2
            go_ret
            exact ⟨congrArg (fun z => Ending.returned (Value.int .i64 z)) (mayE_st hle.out.symm (by have := hr'.out; simpa using this)  (by omega) (by omega) (fun a => a.elim hW0 hH0) ⟨rfl, rfl⟩ hs2).symm, hB5.out⟩
        · have eHh : (H != (h : Int)) = true := by simp [hHh]
          have eHe : (H == (h : Int)) = false := by simp [hHh]
          subst hWw
          go_wp2_with fail
          go_quiet ((first | (go_at_call 40; exact Calls.quiet_of_same (QT.out _)) | (go_at_call 42; exact Calls.quiet_of_same (QH.out _))))
          go_wp2
          go_ret
          exact ⟨congrArg (fun z => Ending.returned (Value.int .i64 z)) (mayE_21 hle.out.symm (by have := hr'.out; simpa using this)  (by omega) (by omega) (fun a => a.elim hW0 hH0) (fun a => hHh a.2)).symm, below_drewN hB4.out _⟩
      · have eWw : (W != (w : Int)) = true := by simp [hWw]
        have eWe : (W == (w : Int)) = false := by simp [hWw]
        go_wp2_with fail
        go_quiet ((first | (go_at_call 40; exact Calls.quiet_of_same (QT.out _)) | (go_at_call 42; exact Calls.quiet_of_same (QH.out _))))
        go_wp2
        go_ret
        exact ⟨congrArg (fun z => Ending.returned (Value.int .i64 z)) (mayE_21 hle.out.symm (by have := hr'.out; simpa using this)  (by omega) (by omega) (fun a => a.elim hW0 hH0) (fun a => hWw a.1)).symm, below_drewN hB4.out _⟩
    · have e1 : (r == 0) = false := by simp [hr0]
      have e2 : (r != 0) = true := by simp [hr0]
      go_wp2
      go_ret
      exact ⟨congrArg (fun z => Ending.returned (Value.int .i64 z)) (mayE_9 hle.out.symm (fun a => hr0 (hr'.out.2 a))).symm, hB4.out⟩
  · have e1 : (le == 0) = false := by simp [hl0]
    have e2 : (le != 0) = true := by simp [hl0]
    go_wp2
    go_ret
    exact ⟨congrArg (fun z => Ending.returned (Value.int .i64 z)) (mayE_8 (fun a => hl0 (hle.out.trans a))).symm, hB3.out⟩
end
end Go.Proofs.YtcbhbojplcddkaaGreatDoor
