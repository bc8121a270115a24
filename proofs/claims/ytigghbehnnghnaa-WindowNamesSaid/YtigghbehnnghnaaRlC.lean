import Derived.Test.YtigghbehnnghnaaRlB
namespace Go.Proofs.Ytigghbehnnghnaa
open Go.RowKit Go.RowBits
set_option linter.unusedSimpArgs false
set_option linter.unusedVariables false

/-! ### Next and Quiet of a rule of births and stays -/
set_option maxHeartbeats 1000000 in
theorem beyond92 {h : Int} {born stay x b : Nat} {w : World} (hx : x < 2) (hc : w.cell? ⟨b, 0, none⟩ = some (lifeK h born stay)) : Calls Try.prog 92 #[.int .u8 (x : Int), .pointer (some ⟨b, 0, none⟩)] w fun e w' => e = .returned (.bool false) ∧ Below w.heap.size w w' := by
  have K2 := Lib.hid (fun W => b117 (h := h) (born := born) (stay := stay) W)
  go_enter Try.func92, Try.ntmps92
  go_wp2_with fail
  refine (K2.out _).mono ?_
  rintro e w2 ⟨rfl, hb⟩
  have hB2 := Lib.hid hb
  clear hb
  go_wp2
  go_ret
  exact ⟨by simp; omega, hB2.out⟩
def LRel (W : World) (n : Nat) (i : Value) (wx : World) : Prop := ∃ k : Nat, k ≤ n ∧ i = .int .i64 (k : Int) ∧ Below W.heap.size W wx
abbrev beyondF (b : Nat) : Value := .func (.func 92) #[] #[.pointer (some ⟨b, 0, none⟩)]
set_option maxHeartbeats 2000000 in
theorem index96 {h : Int} {born stay b : Nat} {w : World} {v : Value} {l : List Nat} (hl : l.length ≤ 1000000) (hv : HasY w v l) (h2 : ∀ j, j < l.length → l.getD j 0 < 2) (hc : w.cell? ⟨b, 0, none⟩ = some (lifeK h born stay)) :
    Calls Try.prog 96 #[v, beyondF b] w fun e w' => e = .returned (.int .i64 (-1)) ∧ Below w.heap.size w w' := by
  have hv' := Lib.hid hv
  have hc' := Lib.hid hc
  have h2' := Lib.hid h2
  have K := Lib.hid (fun W x (hx : x < 2) (hc : W.cell? ⟨b, 0, none⟩ = some (lifeK h born stay)) => beyond92 (w := W) hx hc)
  obtain ⟨ad, cap, rfl, hcs⟩ := hv
  have hcs' := Lib.hid hcs
  clear hc hcs h2
  go_enter Try.func96, Try.ntmps96
  go_wp2
  go_loopw [8] (fun i wx => LRel w l.length i wx) (fun i _ => l.length - (intOf i).toNat)
  case atStart => exact ⟨0, by omega, by go_num, Below.refl _ _⟩
  case round =>
    obtain ⟨k, hk, rfl, hB⟩ := hrel
    have hB' := Lib.hid hB
    have hc1 := Lib.hid (cell_kept hB hc'.out)
    by_cases hlt : k < l.length
    · obtain ⟨g, o, rfl, c1⟩ := hcs'.out k hlt
      have c2 := cell_kept hB c1
      have hx := h2'.out k hlt
      clear hB c1
      generalize l.getD k 0 = x at *
      go_wp2_with fail
      refine (K.out _ x hx hc1.out).mono ?_
      rintro e w2 ⟨rfl, hb⟩
      have hB2 := Lib.hid (below_then hB'.out hb hB'.out.size)
      clear hb
      go_wp2
      exact ⟨⟨k + 1, by omega, by go_num, hB2.out⟩, by simp [intOf]; omega⟩
    · obtain rfl : k = l.length := by omega
      clear hlt hB
      go_wp2
      go_ret
      exact ⟨rfl, hB'.out⟩
set_option maxHeartbeats 2000000 in
theorem contains93 {h : Int} {born stay b : Nat} {w : World} {v : Value} {l : List Nat} (hl : l.length ≤ 1000000) (hv : HasY w v l) (h2 : ∀ j, j < l.length → l.getD j 0 < 2) (hc : w.cell? ⟨b, 0, none⟩ = some (lifeK h born stay)) :
    Calls Try.prog 93 #[v, beyondF b] w fun e w' => e = .returned (.bool false) ∧ Below w.heap.size w w' := by
  have K := Lib.hid (index96 hl hv h2 hc)
  clear hv h2 hc
  go_enter Try.func93, Try.ntmps93
  go_wp2_with fail
  refine (K.out).mono ?_
  rintro e w2 ⟨rfl, hb⟩
  have hB2 := Lib.hid hb
  clear hb
  go_wp2
  go_ret
  exact ⟨rfl, hB2.out⟩
set_option maxHeartbeats 2000000 in
theorem next79 {h : Int} {born stay c : Nat} {w : World} {v : Value} {l : List Nat} (hc2 : c < 2) (hb1 : born < 65536) (hs1 : stay < 65536) (hE : lifeE h born stay = 0) (hh : h = 1 ∨ h = 2 ∨ h = 3) (hr : ruleOk h born stay) (hl : l.length = (offs h).length) (hv : HasY w v l) (h2 : ∀ j, j < l.length → l.getD j 0 < 2) :
    Calls Try.prog 79 #[lifeRule h born stay, .int .u8 (c : Int), v] w fun e w' => e = .returned (.tuple #[.int .u8 (if lineBit born stay (ones l) (c == 1) then 1 else 0), .int .i64 0]) ∧ Below w.heap.size w w' := by
  have hl8 := offs_len h
  have K1 := Lib.hid (fun W => may72 hb1 hs1 hE W)
  have K2 := Lib.hid (fun W b (hc : W.cell? ⟨b, 0, none⟩ = some (lifeK h born stay)) => beyond92 (w := W) (b := b) hc2 hc)
  have K3 := Lib.hid (fun W => size82 (h := h) (born := born) (stay := stay) W)
  have K4 := Lib.hid (fun W b (hv : HasY W v l) (hc : W.cell? ⟨b, 0, none⟩ = some (lifeK h born stay)) => contains93 (w := W) (b := b) (by omega) hv h2 hc)
  have hci : ((if (c == 1) then 1 else 0 : Int)) = (c : Int) := by
    have : c = 0 ∨ c = 1 := by omega
    rcases this with rfl | rfl <;> rfl
  have K50 := fun W (hv : HasY W v l) => b115 (w := W) (c == 1) hh hr hb1 hs1 hl hv
  simp only [hci] at K50
  have K5 := Lib.hid K50
  have hv' := Lib.hid hv
  have hvs : ∃ ad cap, v = .slice ad l.length cap := by obtain ⟨ad, cap, e, _⟩ := hv; exact ⟨ad, cap, e⟩
  obtain ⟨ad, cap, rfl⟩ := hvs
  clear hE hv h2 K50 hci hh hr
  rw [hl] at *
  generalize (offs h).length = n at *
  generalize (if lineBit born stay (ones l) (c == 1) then 1 else 0 : Int) = r at *
  go_enter Try.func79, Try.ntmps79
  go_wp2_with fail
  refine (K1.out _).mono ?_
  rintro e w1 ⟨rfl, hb⟩
  have hB1 := Lib.hid (below_then (B := w.heap.size) (below_new _) hb (by simp))
  have hz1 : w.heap.size ≤ w1.heap.size := hB1.out.size
  clear hb
  go_wp2_with fail
  have c1 : (w1.alloc (.cells #[lifeK h born stay] 130)).cell? ⟨w1.heap.size, 0, none⟩ = some (lifeK h born stay) := by go_simp
  have C1 := Lib.hid c1
  refine (K2.out _ _ c1).mono ?_
  rintro e w2 ⟨rfl, hb⟩
  have c2 := cell_kept hb c1
  have C2 := Lib.hid c2
  have hB2 := Lib.hid (below_then (hB1.out.alloc hz1 _) hb (by simp; omega))
  clear hb c1
  go_wp2_with fail
  refine (K3.out _).mono ?_
  rintro e w3 ⟨rfl, hb⟩
  have c3 := cell_kept hb c2
  have C3 := Lib.hid c3
  have hB3 := Lib.hid (below_then hB2.out hb hB2.out.size)
  clear hb c2
  go_wp2_with fail
  refine (K4.out _ _ (hv'.out.kept hB3.out) c3).mono ?_
  rintro e w4 ⟨rfl, hb⟩
  have c4 := cell_kept hb c3
  have hB4 := Lib.hid (below_then hB3.out hb hB3.out.size)
  clear hb c3
  go_wp2_with fail
  refine (K5.out _ (hv'.out.kept hB4.out)).mono ?_
  rintro e w5 ⟨rfl, hb⟩
  have hB5 := Lib.hid (below_then hB4.out hb hB4.out.size)
  clear hb c4
  go_wp2
  go_ret2
  exact ⟨rfl, hB5.out⟩
end Go.Proofs.Ytigghbehnnghnaa
