import Derived.Test.YtigghbehnnghnaaRlA
import Derived.Deep.RegionWith
import Derived.Deep.CutRange
import Derived.IntWalk
namespace Go.Proofs.Ytigghbehnnghnaa
open Go.RowKit Go.RowBits
set_option linter.unusedSimpArgs false
set_option linter.unusedVariables false

/-! ### A rule of births and stays, by its kind -/
abbrev lifeV (h : Int) (born stay : Nat) : Value := .agg #[.int .u8 h, .int .u16 (born : Int), .int .u16 (stay : Int)]
abbrev lifeRule (h : Int) (born stay : Nat) : Value := .agg #[.int .u8 1, .int .u8 h, .int .u16 (born : Int), .int .u16 (stay : Int), .int .i64 2, .string ⟨#[]⟩, .int .i64 0, .int .u8 0, .int .u8 0, .slice none 0 0, .slice none 0 0]
abbrev lifeK (h : Int) (born stay : Nat) : Value := .iface 167 (lifeV h born stay)

theorem b113 {h : Int} {born stay : Nat} (hb1 : born < 65536) (hs1 : stay < 65536) (w : World) : Calls Try.prog 113 #[lifeV h born stay] w fun e w' => e = .returned (.int .i64 (lifeE h born stay)) ∧ Below w.heap.size w w' := by
  have K1 := Lib.hid (fun W => lifeCheck (h := h) hb1 hs1 W)
  generalize lifeE h born stay = E at *
  go_enter Try.func113, Try.ntmps113
  go_wp2_with fail
  refine (K1.out _).mono ?_
  rintro e w1 ⟨rfl, hb⟩
  have hB1 := Lib.hid (below_then (B := w.heap.size) (below_new _) hb (by simp))
  clear hb
  go_wp2
  go_ret
  exact ⟨rfl, hB1.out⟩
theorem b114 {h : Int} {born stay : Nat} (w : World) : Calls Try.prog 114 #[lifeV h born stay] w fun e w' => e = .returned (.int .u8 h) ∧ Below w.heap.size w w' := by
  go_enter Try.func114, Try.ntmps114
  go_wp2
  go_ret
  exact ⟨rfl, below_new _⟩
theorem b117 {h : Int} {born stay : Nat} (w : World) : Calls Try.prog 117 #[lifeV h born stay] w fun e w' => e = .returned (.int .i64 2) ∧ Below w.heap.size w w' := by
  go_enter Try.func117, Try.ntmps117
  go_wp2
  go_ret
  exact ⟨rfl, below_new _⟩
set_option maxRecDepth 20000 in
set_option maxHeartbeats 2000000 in
theorem b115 {h : Int} {born stay : Nat} {w : World} {v : Value} {l : List Nat} (here : Bool) (hh : h = 1 ∨ h = 2 ∨ h = 3) (hr : ruleOk h born stay) (hb1 : born < 65536) (hs1 : stay < 65536) (hl : l.length = (offs h).length) (hv : HasY w v l) :
    Calls Try.prog 115 #[lifeV h born stay, .int .u8 (if here then 1 else 0), v] w fun e w' => e = .returned (.tuple #[.int .u8 (if lineBit born stay (ones l) here then 1 else 0), .int .i64 0]) ∧ Below w.heap.size w w' := by
  have hl8 := offs_len h
  have ho := ones_le l
  have K1 := Lib.hid (fun W => lifeNext118 (h := h) (born := born) (stay := stay) (c := ones l) here hh hr hb1 hs1 (by omega) W)
  have K2 := Lib.hid (fun W (h : HasY W v l) => living119 (w := W) (by omega) h)
  obtain ⟨W0, hW0⟩ : ∃ W0, W0 = w.alloc (.cells #[.int .u8 h, .int .u16 (born : Int), .int .u16 (stay : Int)] 167) := ⟨_, rfl⟩
  have hv' : Hid (HasY W0.drew v l) := by rw [hW0]; exact (hv.kept (below_new (.cells #[.int .u8 h, .int .u16 (born : Int), .int .u16 (stay : Int)] 167))).drew
  have hBW : Hid (Below w.heap.size w W0.drew) := by rw [hW0]; exact (below_new _).drew
  have hzW : w.heap.size ≤ W0.heap.size := by rw [hW0]; simp
  have c0 : W0.cell? ⟨w.heap.size, 0, none⟩ = some (.int .u8 h) := by rw [hW0]; go_simp
  have c1 : W0.cell? ⟨w.heap.size, 1, none⟩ = some (.int .u16 (born : Int)) := by rw [hW0]; go_simp
  have c2 : W0.cell? ⟨w.heap.size, 2, none⟩ = some (.int .u16 (stay : Int)) := by rw [hW0]; go_simp
  have hW0' := Lib.hid hW0
  clear hW0
  clear ho hl hl8 hv hh hr
  generalize ones l = c at *
  generalize (if lineBit born stay c here then 1 else 0 : Int) = r at *
  generalize (if here then 1 else 0 : Int) = s at *
  go_enter Try.func115, Try.ntmps115
  go_upto_region 1 with fail
  rw [← hW0'.out]
  go_region_with (first
    | (go_at_call 119; refine (K2.out _ hv'.out).mono ?_; rintro e w1 ⟨rfl, rfl⟩)
    | (go_at_call 118; refine (K1.out _).mono ?_; rintro e w1 ⟨rfl, hb⟩; have hB1 := Lib.hid (below_then hBW.out hb (by simpa using hzW)); clear hb))
  all_goals
    go_wp2
    go_ret2
    exact ⟨rfl, hB1.out⟩

theorem bare94 (w : World) : Calls Try.prog 94 #[.agg #[.int .i64 0, .int .u8 0, .int .u8 0, .slice none 0 0, .slice none 0 0]] w fun e w' => e = .returned (.bool true) ∧ Below w.heap.size w w' := by
  go_enter Try.func94, Try.ntmps94
  go_wp2
  go_ret
  exact ⟨rfl, below_new _⟩
set_option maxHeartbeats 2000000 in
theorem of80 {h : Int} {born stay : Nat} (hb1 : born < 65536) (hs1 : stay < 65536) (hE : lifeE h born stay = 0) (w : World) : Calls Try.prog 80 #[lifeRule h born stay] w fun e w' => e = .returned (.tuple #[lifeK h born stay, .int .i64 0]) ∧ Below w.heap.size w w' := by
  have K1 := Lib.hid (fun W => bare94 W)
  have K20 := fun W => b113 (h := h) hb1 hs1 W
  rw [hE] at K20
  have K2 := Lib.hid K20
  clear K20 hE
  go_enter Try.func80, Try.ntmps80
  go_wp2_with fail
  refine (K1.out _).mono ?_
  rintro e w1 ⟨rfl, hb⟩
  obtain ⟨hc1, hf1⟩ := bcell hb
  have hz1 : w.heap.size < w1.heap.size := by have := hb.size; simp at this; omega
  have hB1 := Lib.hid (below_then (B := w.heap.size) (below_new _) hb (by simp))
  clear hb
  go_wp2_with fail
  refine (K2.out _).mono ?_
  rintro e w2 ⟨rfl, hb⟩
  obtain ⟨hc2, hf2⟩ := bcell hb
  have hz2 : w.heap.size < w2.heap.size := by have := hb.size; omega
  have hB2 := Lib.hid (below_then hB1.out hb hB1.out.size)
  clear hb
  go_wp2
  go_ret2
  exact ⟨rfl, hB2.out⟩
set_option maxHeartbeats 2000000 in
theorem may72 {h : Int} {born stay : Nat} (hb1 : born < 65536) (hs1 : stay < 65536) (hE : lifeE h born stay = 0) (w : World) : Calls Try.prog 72 #[lifeRule h born stay] w fun e w' => e = .returned (.tuple #[lifeK h born stay, .int .i64 0]) ∧ Below w.heap.size w w' := by
  have K1 := Lib.hid (fun W => of80 hb1 hs1 hE W)
  clear hE
  go_enter Try.func72, Try.ntmps72
  go_wp2_with fail
  refine (K1.out _).mono ?_
  rintro e w1 ⟨rfl, hb⟩
  have hB1 := Lib.hid (below_then (B := w.heap.size) (below_new _) hb (by simp))
  clear hb
  go_wp2
  go_ret2
  exact ⟨rfl, hB1.out⟩
set_option maxHeartbeats 2000000 in
theorem check55 {h : Int} {born stay : Nat} (hb1 : born < 65536) (hs1 : stay < 65536) (hE : lifeE h born stay = 0) (w : World) : Calls Try.prog 55 #[lifeRule h born stay] w fun e w' => e = .returned (.int .i64 0) ∧ Below w.heap.size w w' := by
  have K1 := Lib.hid (fun W => of80 hb1 hs1 hE W)
  clear hE
  go_enter Try.func55, Try.ntmps55
  go_wp2_with fail
  refine (K1.out _).mono ?_
  rintro e w1 ⟨rfl, hb⟩
  have hB1 := Lib.hid (below_then (B := w.heap.size) (below_new _) hb (by simp))
  clear hb
  go_wp2
  go_ret
  exact ⟨rfl, hB1.out⟩
set_option maxHeartbeats 2000000 in
theorem states48 {h : Int} {born stay : Nat} (hb1 : born < 65536) (hs1 : stay < 65536) (hE : lifeE h born stay = 0) (w : World) : Calls Try.prog 48 #[lifeRule h born stay] w fun e w' => e = .returned (.tuple #[.int .i64 2, .int .i64 0]) ∧ Below w.heap.size w w' := by
  have K1 := Lib.hid (fun W => may72 hb1 hs1 hE W)
  have K2 := Lib.hid (fun W => b117 (h := h) (born := born) (stay := stay) W)
  clear hE
  go_enter Try.func48, Try.ntmps48
  go_wp2_with fail
  refine (K1.out _).mono ?_
  rintro e w1 ⟨rfl, hb⟩
  have hB1 := Lib.hid (below_then (B := w.heap.size) (below_new _) hb (by simp))
  clear hb
  go_wp2_with fail
  refine (K2.out _).mono ?_
  rintro e w2 ⟨rfl, hb⟩
  have hB2 := Lib.hid (below_then hB1.out hb hB1.out.size)
  clear hb
  go_wp2
  go_ret2
  exact ⟨rfl, hB2.out⟩
set_option maxHeartbeats 2000000 in
theorem hood77 {h : Int} {born stay : Nat} (hb1 : born < 65536) (hs1 : stay < 65536) (hE : lifeE h born stay = 0) (w : World) : Calls Try.prog 77 #[lifeRule h born stay] w fun e w' => e = .returned (.tuple #[.int .u8 h, .int .i64 0]) ∧ Below w.heap.size w w' := by
  have K1 := Lib.hid (fun W => may72 hb1 hs1 hE W)
  have K2 := Lib.hid (fun W => b114 (h := h) (born := born) (stay := stay) W)
  clear hE
  go_enter Try.func77, Try.ntmps77
  go_wp2_with fail
  refine (K1.out _).mono ?_
  rintro e w1 ⟨rfl, hb⟩
  have hB1 := Lib.hid (below_then (B := w.heap.size) (below_new _) hb (by simp))
  clear hb
  go_wp2_with fail
  refine (K2.out _).mono ?_
  rintro e w2 ⟨rfl, hb⟩
  have hB2 := Lib.hid (below_then hB1.out hb hB1.out.size)
  clear hb
  go_wp2
  go_ret2
  exact ⟨rfl, hB2.out⟩
set_option maxHeartbeats 2000000 in
theorem size82 {h : Int} {born stay : Nat} (w : World) : Calls Try.prog 82 #[lifeK h born stay] w fun e w' => e = .returned (.int .i64 ((offs h).length : Int)) ∧ Below w.heap.size w w' := by
  have K1 := Lib.hid (fun W => size_any h W)
  have K2 := Lib.hid (fun W => b114 (h := h) (born := born) (stay := stay) W)
  have hl := offs_len h
  generalize (offs h).length = n at *
  go_enter Try.func82, Try.ntmps82
  go_wp2_with fail
  refine (K2.out _).mono ?_
  rintro e w1 ⟨rfl, hb⟩
  have hB1 := Lib.hid hb
  clear hb
  go_wp2_with fail
  refine (K1.out _).mono ?_
  rintro e w2 ⟨rfl, hb⟩
  have hB2 := Lib.hid (below_then hB1.out hb hB1.out.size)
  clear hb
  go_wp2
  go_ret
  exact ⟨rfl, hB2.out⟩
end Go.Proofs.Ytigghbehnnghnaa
