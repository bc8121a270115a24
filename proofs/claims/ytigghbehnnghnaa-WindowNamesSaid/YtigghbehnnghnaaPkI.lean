import Derived.Test.YtigghbehnnghnaaPkC
namespace Go.Proofs.Ytigghbehnnghnaa
open Go.RowKit Go.RowBits
set_option linter.unusedSimpArgs false
set_option linter.unusedVariables false

/-! ### The row of a list of bits -/
def HasB (w : World) (v : Value) (bs : List Bool) : Prop :=
  ∃ (ad : Option Addr) (cap : Nat), v = .slice ad bs.length cap ∧ ∀ j, j < bs.length → ∃ g, ad = some ⟨g, 0, none⟩ ∧ w.cell? ⟨g, j, none⟩ = some (.bool (bs.getD j false))
theorem HasB.kept {w w' : World} {v : Value} {l : List Bool} (h : HasB w v l) (hb : Below w.heap.size w w') : HasB w' v l := by
  obtain ⟨ad, cap, hv, hc⟩ := h
  refine ⟨ad, cap, hv, fun j hj => ?_⟩
  obtain ⟨g, hg, c1⟩ := hc j hj
  exact ⟨g, hg, cell_kept hb c1⟩
def PRel (w3 : World) (g : Nat) (bs : List Bool) (i : Value) (wr : World) : Prop := ∃ k : Nat, k ≤ bs.length ∧ i = .int .i64 (k : Int) ∧ WBlk wr g (packK bs k) ∧ w3.grownBy wr (some g)
theorem packK_yes {bs : List Bool} {k : Nat} (h : bs.getD k false = true) : packK bs (k + 1) = (packK bs k).set (k / 64) ((packK bs k).getD (k / 64) 0 + 2 ^ (k % 64)) := by
  show (if bs.getD k false then _ else _) = _
  rw [if_pos h]
theorem packK_no {bs : List Bool} {k : Nat} (h : bs.getD k false = false) : packK bs (k + 1) = packK bs k := by
  show (if bs.getD k false then _ else _) = _
  rw [h]; rfl
theorem pack_word {bs : List Bool} {k : Nat} (hk : k < bs.length) (h : bs.getD k false = true) : (packK bs k).getD (k / 64) 0 + 2 ^ (k % 64) < U := by
  have h1 := (packK_bits bs (k + 1) (by omega)).1 (k / 64)
  rw [packK_yes h, getD_set_self (by rw [packK_len]; omega)] at h1
  exact h1
theorem wrap_add {x m : Nat} (hm : m < 64) (h : x + 2 ^ m < U) : IntKind.u64.wrap ((x : Int) + IntKind.u64.wrap ((2 : Int) ^ m)) = ((x + 2 ^ m : Nat) : Int) := by
  have h1 := pow_64 hm
  have e : ((2 : Int) ^ m) = ((2 ^ m : Nat) : Int) := by simp
  rw [e, IntKind.wrap_u64, IntKind.wrap_u64]
  unfold U at h
  generalize 2 ^ m = p at *
  omega

theorem row_start (w : World) (n m : Nat) :
    (((w.alloc (.cells #[.int .i64 0, .slice none 0 0] 27)).alloc (.cells (madeCells #[.int .u64 0] m) 33)).alloc (.cells #[.int .i64 (n : Int), .slice (some ⟨w.heap.size + 1, 0, none⟩) m m] 27)).heap.size = w.heap.size + 3 ∧
    WBlk (((w.alloc (.cells #[.int .i64 0, .slice none 0 0] 27)).alloc (.cells (madeCells #[.int .u64 0] m) 33)).alloc (.cells #[.int .i64 (n : Int), .slice (some ⟨w.heap.size + 1, 0, none⟩) m m] 27)) (w.heap.size + 1) (List.replicate m 0) ∧
    (((w.alloc (.cells #[.int .i64 0, .slice none 0 0] 27)).alloc (.cells (madeCells #[.int .u64 0] m) 33)).alloc (.cells #[.int .i64 (n : Int), .slice (some ⟨w.heap.size + 1, 0, none⟩) m m] 27)).cell? ⟨w.heap.size + 2, 0, none⟩ = some (.int .i64 (n : Int)) ∧
    (((w.alloc (.cells #[.int .i64 0, .slice none 0 0] 27)).alloc (.cells (madeCells #[.int .u64 0] m) 33)).alloc (.cells #[.int .i64 (n : Int), .slice (some ⟨w.heap.size + 1, 0, none⟩) m m] 27)).cell? ⟨w.heap.size + 2, 1, none⟩ = some (.slice (some ⟨w.heap.size + 1, 0, none⟩) m m) ∧
    (((w.alloc (.cells #[.int .i64 0, .slice none 0 0] 27)).alloc (.cells (madeCells #[.int .u64 0] m) 33)).alloc (.cells #[.int .i64 (n : Int), .slice (some ⟨w.heap.size + 1, 0, none⟩) m m] 27)).cell? ⟨w.heap.size, 0, none⟩ = some (.int .i64 0) ∧
    (((w.alloc (.cells #[.int .i64 0, .slice none 0 0] 27)).alloc (.cells (madeCells #[.int .u64 0] m) 33)).alloc (.cells #[.int .i64 (n : Int), .slice (some ⟨w.heap.size + 1, 0, none⟩) m m] 27)).cell? ⟨w.heap.size, 1, none⟩ = some (.slice none 0 0) ∧
    (∀ o, (((w.alloc (.cells #[.int .i64 0, .slice none 0 0] 27)).alloc (.cells (madeCells #[.int .u64 0] m) 33)).alloc (.cells #[.int .i64 (n : Int), .slice (some ⟨w.heap.size + 1, 0, none⟩) m m] 27)).frozen? ⟨w.heap.size, o, none⟩ = false) ∧
    Below w.heap.size w (((w.alloc (.cells #[.int .i64 0, .slice none 0 0] 27)).alloc (.cells (madeCells #[.int .u64 0] m) 33)).alloc (.cells #[.int .i64 (n : Int), .slice (some ⟨w.heap.size + 1, 0, none⟩) m m] 27)) := by
  refine ⟨by simp, ?_, by go_simp, by go_simp, by go_simp, by go_simp, fun o => by go_simp, ((below_new _).alloc (by simp) _).alloc (by simp; omega) _⟩
  have := WBlk.new (w.alloc (.cells #[.int .i64 0, .slice none 0 0] 27)) _ _ (made_words m)
  rw [size_alloc] at this
  exact this.kept (below_new _)

set_option maxRecDepth 20000 in
set_option maxHeartbeats 4000000 in
theorem row44 {w : World} {v : Value} {bs : List Bool} (hn : bs.length ≤ 65538) (h : HasB w v bs) :
    Calls Try.prog 44 #[v] w fun e w' => ∃ g, e = .returned (.agg #[.int .i64 (bs.length : Int), .slice (some ⟨g, 0, none⟩) (pack bs).length (pack bs).length]) ∧ w.heap.size ≤ g ∧ WBlk w' g (pack bs) ∧ Below w.heap.size w w' := by
  have hpl : (pack bs).length = (bs.length + 63) / 64 := (pack_good bs).len
  obtain ⟨m, hm⟩ : ∃ m, m = (bs.length + 63) / 64 := ⟨_, rfl⟩
  rw [hpl, ← hm]
  have h2 : ((bs.length : Int) + 63) / 64 = (m : Int) := by omega
  have hmk := fun n => run_make_row' (P := Try.prog) 25 33 (.int .u64 0) 8 Try.underlying25 info33' rfl .i64 .i64 n
  have hmk' : ∀ W, (Instr.makeSlice 25 (.int .i64 (m : Int)) (.int .i64 (m : Int))).run Try.prog W = .ok (.slice (some ⟨W.heap.size, 0, none⟩) m m) (W.alloc (.cells (madeCells #[.int .u64 0] m) 33)) := fun W => hmk m (by omega) (by omega) W
  have hm' := Lib.hid hm
  have h' := Lib.hid h
  obtain ⟨ad, cap, rfl, hc⟩ := h
  have hpk : Hid (packK bs bs.length = pack bs) := rfl
  have hlen0 : Hid (packK bs 0 = List.replicate m 0) := by show packK bs 0 = _; rw [hm]; rfl
  obtain ⟨n, hbn⟩ : ∃ n, bs.length = n := ⟨_, rfl⟩
  rw [hbn] at hn h2 hm' h'
  rw [hbn]
  have hbn' := Lib.hid hbn
  clear hmk hm hpl hc hbn
  go_enter Try.func44, Try.ntmps44
  obtain ⟨hS, hblk0, hc0, hc1, hr0, hr1, hrf, hB3⟩ := row_start w n m
  rw [← hlen0.out] at hblk0
  have hblk := hblk0
  clear hblk0
  generalize hW3 : ((w.alloc (.cells #[.int .i64 0, .slice none 0 0] 27)).alloc (.cells (madeCells #[.int .u64 0] m) 33)).alloc (.cells #[.int .i64 (n : Int), .slice (some ⟨w.heap.size + 1, 0, none⟩) m m] 27) = W3 at *
  have hblk' := Lib.hid hblk
  have hc0' := Lib.hid hc0
  have hc1' := Lib.hid hc1
  have hr0' := Lib.hid hr0
  have hr1' := Lib.hid hr1
  have hrf' := Lib.hid hrf
  have hB3' := Lib.hid hB3
  have hS' := Lib.hid hS
  have hW3' := Lib.hid hW3
  clear hblk hc0 hc1 hr0 hr1 hrf hB3 hS hW3
  go_wp2
  rw [hW3'.out]
  try rw [h2]
  clear h2
  go_loopw [4] (fun i wr => PRel W3 (w.heap.size + 1) bs i wr) (fun i _ => n - (intOf i).toNat)
  case atStart => exact ⟨0, by omega, by go_num, hblk'.out, grown_refl _ _⟩
  case round =>
    obtain ⟨k, hk, rfl, hW, hG⟩ := hrel
    rw [hbn'.out] at hk
    have hW' := Lib.hid hW
    have hG' := Lib.hid hG
    have hzr : w.heap.size + 3 ≤ wr.heap.size := by have := hG.size; rw [hS'.out] at this; exact this
    have cc0 : wr.cell? ⟨w.heap.size + 2, 0, none⟩ = some (.int .i64 (n : Int)) := hG.cell hc0'.out (fun e => by have : w.heap.size + 2 = w.heap.size + 1 := Option.some.inj e; omega)
    have cc1 : wr.cell? ⟨w.heap.size + 2, 1, none⟩ = some (.slice (some ⟨w.heap.size + 1, 0, none⟩) m m) := hG.cell hc1'.out (fun e => by have : w.heap.size + 2 = w.heap.size + 1 := Option.some.inj e; omega)
    have hb3 : Below w.heap.size w wr := hB3'.out.grown hG (by rw [hS'.out]; omega) (fun q e => by cases e; omega)
    have hb3' := Lib.hid hb3
    clear hW hG
    by_cases hlt : k < n
    · have hB1 := Lib.hid (HasB.kept h'.out hb3'.out)
      obtain ⟨ad1, cap1, hv, hcs⟩ := hB1.out
      cases hv
      obtain ⟨gb, hgb, cb⟩ := hcs k (by rw [hbn'.out]; exact hlt)
      cases hgb
      clear hcs hb3
      cases hbk : bs.getD k false with
      | false =>
        rw [hbk] at cb
        have R : PRel W3 (w.heap.size + 1) bs (.int .i64 ((k : Int) + 1)) wr := ⟨k + 1, by rw [hbn'.out]; omega, by go_num, by rw [packK_no hbk]; exact hW'.out, hG'.out⟩
        have R' := Lib.hid R
        clear R
        go_wp2
        exact ⟨R'.out, by simp [intOf]; omega⟩
      | true =>
        rw [hbk] at cb
        have hkm : k / 64 < m := by have := hm'.out; omega
        have hwd := pack_word (bs := bs) (k := k) (by rw [hbn'.out]; exact hlt) hbk
        have hwa := Lib.hid (wrap_add (m := k % 64) (by omega) hwd)
        have d1 : wr.cell? ⟨w.heap.size + 1, k / 64, none⟩ = some (.int .u64 (((packK bs k).getD (k / 64) 0 : Nat) : Int)) := hW'.out.cell (by rw [packK_len, hbn'.out, ← hm'.out]; exact hkm)
        have f1 := hW'.out.frozen (k / 64)
        have hst := Lib.hid (hW'.out.set (j := k / 64) ((packK bs k).getD (k / 64) 0 + 2 ^ (k % 64)))
        have hpy := Lib.hid (packK_yes hbk)
        generalize (packK bs k).getD (k / 64) 0 = x at *
        have hkm' : (k : Int) / 64 < (m : Int) := by omega
        have R : PRel W3 (w.heap.size + 1) bs (.int .i64 ((k : Int) + 1)) ((wr.setCell ⟨w.heap.size + 1, k / 64, none⟩ (.int .u64 (IntKind.u64.wrap ((x : Int) + IntKind.u64.wrap ((2 : Int) ^ (k % 64)))))).drew) := by
          rw [hwa.out]
          refine ⟨k + 1, by have := hbn'.out; omega, by go_num, ?_, grown_drew (grown_set hG'.out _)⟩
          rw [hpy.out]
          exact hst.out.drew
        have R' := Lib.hid R
        clear hwd R
        go_wp2
        go_region
        go_wp2
        exact ⟨R'.out, by simp [intOf]; omega⟩
    · obtain rfl : k = n := by omega
      clear hlt
      have rr0 : wr.cell? ⟨w.heap.size, 0, none⟩ = some (.int .i64 0) := hG'.out.cell hr0'.out (fun e => by have : w.heap.size = w.heap.size + 1 := Option.some.inj e; omega)
      have rr1 : wr.cell? ⟨w.heap.size, 1, none⟩ = some (.slice none 0 0) := hG'.out.cell hr1'.out (fun e => by have : w.heap.size = w.heap.size + 1 := Option.some.inj e; omega)
      have rrf : ∀ o, wr.frozen? ⟨w.heap.size, o, none⟩ = false := fun o => by
        rw [World.frozen?_of_block (w := W3) (w' := wr) (a := ⟨w.heap.size, o, none⟩) (hG'.out.block w.heap.size (by rw [hS'.out]; omega) (fun e => by have : w.heap.size = w.heap.size + 1 := Option.some.inj e; omega))]
        exact hrf'.out o
      clear hb3
      go_wp2
      try simp only [Exit.inBlock, Exit.then]
      refine bodyPost_ret (v := .agg #[_, _]) ?_ rfl ⟨w.heap.size + 1, rfl, by omega, ?_, ?_⟩
      · rw [results_cell1 rfl]
        go_simp
      · rw [← hpk.out, hbn'.out]
        exact WBlk.setOther (WBlk.setOther hW'.out (by omega) _) (by omega) _
      · exact (hb3'.out.setCell (by simp) _).setCell (by simp) _
end Go.Proofs.Ytigghbehnnghnaa
