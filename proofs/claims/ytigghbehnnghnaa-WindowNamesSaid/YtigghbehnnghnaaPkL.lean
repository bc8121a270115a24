import Derived.Test.YtigghbehnnghnaaPkJ
namespace Go.Proofs.Ytigghbehnnghnaa
open Go.RowKit Go.RowBits
set_option linter.unusedSimpArgs false
set_option linter.unusedVariables false

theorem half71 {a b : Nat} (ha : a < U) (hb : b < U) (w : World) : Calls Try.prog 71 #[.int .u64 (a : Int), .int .u64 (b : Int)] w fun e w' =>
    e = .returned (.tuple #[.int .u64 ((a ^^^ b : Nat) : Int), .int .u64 ((a &&& b : Nat) : Int)]) ∧ w' = w := by
  have h1 := u64_xor_nat a b ha hb
  have h2 := u64_and_nat a b ha hb
  go_enter Try.func71, Try.ntmps71
  go_wp2
  go_ret2
  exact ⟨rfl, rfl⟩

/-! ### What the loops behind keep -/
theorem HasW.stepg {W w' : World} {v : Value} {l : List Nat} {O : Nat} (h : HasW W v l) (hg : W.grownBy w' (some O)) (hne : blkOf v ≠ some O) : HasW w' v l := by
  obtain ⟨ad, cap, rfl, hc⟩ := h
  refine ⟨ad, cap, rfl, fun j hj => ?_⟩
  obtain ⟨g, o, rfl, c1⟩ := hc j hj
  refine ⟨g, o, rfl, ?_⟩
  have hl := World.block_lt_of_cell? W _ c1
  rw [← c1]
  exact World.cell?_of_block (a := ⟨g, o + j, none⟩) (hg.block g hl (fun e => hne (by rw [← e]; rfl)))
theorem grownBy_trans_new {w a b : World} {row row' : Option Nat} (h : w.grownBy a row) (k : a.grownBy b row') (hr : row' = row ∨ row' = none ∨ ∀ g, row' = some g → w.heap.size ≤ g) : w.grownBy b row := by
  refine ⟨k.os.trans h.os, k.tape.trans h.tape, k.output.trans h.output, Nat.le_trans h.size k.size, fun i hi hne => ?_⟩
  refine (k.block i (Nat.lt_of_lt_of_le hi h.size) ?_).trans (h.block i hi hne)
  intro e
  rcases hr with rfl | rfl | hr
  · exact hne e
  · cases e
  · have := hr i e.symm; omega
theorem grown_alloc {w a : World} {row : Option Nat} (h : w.grownBy a row) (o : Obj) : w.grownBy (a.alloc o) row :=
  ⟨h.os, h.tape, h.output, by simp; exact Nat.le_succ_of_le h.size, fun k hk hne => (Below.heap_alloc _ _ _ (Nat.lt_of_lt_of_le hk h.size)).trans (h.block k hk hne)⟩
theorem grown_drewN {w a : World} {row : Option Nat} (h : w.grownBy a row) (n : Nat) : w.grownBy (a.drewN n) row := ⟨h.os, h.tape, h.output, h.size, h.block⟩
theorem WBlk.drewN {w : World} {g : Nat} {ws : List Nat} (h : WBlk w g ws) (n : Nat) : WBlk (w.drewN n) g ws := h

section
variable (L : List (Int × Int)) (born stay : Nat) (a h b : List Nat)
/-- The words behind i whole ones, the i-th being x so far. -/
def outI (m i x : Nat) : List Nat := (List.range m).map fun j => if j < i then outWord L born stay a h b j else if j = i then x else 0
variable {L born stay a h b}
theorem outI_len (m i x : Nat) : (outI L born stay a h b m i x).length = m := by simp [outI]
theorem outI_get {m i x : Nat} (hi : i < m) : (outI L born stay a h b m i x).getD i 0 = x := by
  unfold outI
  rw [List.getD_eq_getElem?_getD, List.getElem?_map, List.getElem?_range hi, Option.map_some, Option.getD_some, if_neg (by omega), if_pos rfl]
theorem outI_set {m i x y : Nat} : (outI L born stay a h b m i x).set i y = outI L born stay a h b m i y := by
  apply List.ext_getElem
  · simp [outI]
  · intro j h1 h2
    simp only [outI, List.getElem_set, List.getElem_map, List.getElem_range]
    by_cases e : i = j
    · subst e; simp
    · rw [if_neg e]
      by_cases h : j < i
      · rw [if_pos h, if_pos h]
      · rw [if_neg h, if_neg h, if_neg (fun e' => e e'.symm), if_neg (fun e' => e e'.symm)]
theorem outI_zero (m : Nat) : outI L born stay a h b m 0 0 = List.replicate m 0 := by
  apply List.ext_getElem
  · simp [outI]
  · intro j h1 h2
    simp [outI]
theorem outI_next {m i x : Nat} (hx : x = outWord L born stay a h b i) : outI L born stay a h b m i x = outI L born stay a h b m (i + 1) 0 := by
  unfold outI
  apply List.map_congr_left
  intro j hj
  by_cases h1 : j < i
  · rw [if_pos h1, if_pos (by omega)]
  · rw [if_neg h1]
    by_cases h2 : j = i
    · subst h2
      rw [if_pos rfl, if_pos (by omega), hx]
    · rw [if_neg h2, if_neg (by omega)]
      split <;> rfl
theorem outI_all (m : Nat) : outI L born stay a h b m m 0 = (List.range m).map (outWord L born stay a h b) := by
  unfold outI
  apply List.map_congr_left
  intro j hj
  rw [if_pos (List.mem_range.1 hj)]
end
theorem outW_64 {L : List (Int × Int)} {born stay : Nat} {a h b : List Nat} (r : Rows64 a h b) (n : Nat) : W64 (outW L born stay a h b n) := fun j => by
  by_cases hj : j < (n + 63) / 64
  · rw [outW_get n hj]; exact outWord_lt r j
  · rw [List.getD_eq_getElem?_getD, List.getElem?_eq_none (by rw [outW_len]; omega), Option.getD_none]; show 0 < U; unfold U; omega
/-- The counter's word d. -/
def cw (s : Cnt) : Nat → Nat
  | 0 => s.a
  | 1 => s.b
  | 2 => s.c
  | _ => s.d
/-- The places that say k, as far as d digits tell. -/
def selD (s : Cnt) (k : Nat) : Nat → Nat
  | 0 => U - 1
  | d + 1 => selD s k d &&& sel1 k d (cw s d)
theorem selD_four (s : Cnt) (k : Nat) : selD s k 4 = sel s k := by
  show ((((U - 1) &&& sel1 k 0 (cw s 0)) &&& sel1 k 1 (cw s 1)) &&& sel1 k 2 (cw s 2)) &&& sel1 k 3 (cw s 3) = _
  unfold sel
  rfl
theorem selD_lt {s : Cnt} (k : Nat) : ∀ d, selD s k d < U
  | 0 => by show U - 1 < U; unfold U; omega
  | d + 1 => and_lt_U (selD_lt k d)
theorem cw_lt {s : Cnt} (h : s.ok) : ∀ d, cw s d < U
  | 0 => h.a
  | 1 => h.b
  | 2 => h.c
  | (_ + 3) => h.d
theorem idx128 (a b c d : Int) (W : World) : (Instr.index 128 (.agg #[.int .u64 a, .int .u64 b, .int .u64 c, .int .u64 d]) (.int .i64 0)).run Try.prog W = .ok (.int .u64 a) W ∧ (Instr.index 128 (.agg #[.int .u64 a, .int .u64 b, .int .u64 c, .int .u64 d]) (.int .i64 1)).run Try.prog W = .ok (.int .u64 b) W ∧
    (Instr.index 128 (.agg #[.int .u64 a, .int .u64 b, .int .u64 c, .int .u64 d]) (.int .i64 2)).run Try.prog W = .ok (.int .u64 c) W ∧ (Instr.index 128 (.agg #[.int .u64 a, .int .u64 b, .int .u64 c, .int .u64 d]) (.int .i64 3)).run Try.prog W = .ok (.int .u64 d) W :=
  ⟨by kernel_rfl, by kernel_rfl, by kernel_rfl, by kernel_rfl⟩
theorem idxC (s : Cnt) {d : Nat} (hd : d < 4) (W : World) : (Instr.index 128 (.agg #[.int .u64 (s.a : Int), .int .u64 (s.b : Int), .int .u64 (s.c : Int), .int .u64 (s.d : Int)]) (.int .i64 (d : Int))).run Try.prog W = .ok (.int .u64 (cw s d : Int)) W := by
  obtain ⟨h0, h1, h2, h3⟩ := idx128 s.a s.b s.c s.d W
  match d, hd with
  | 0, _ => exact h0
  | 1, _ => exact h1
  | 2, _ => exact h2
  | 3, _ => exact h3
/-- One bit of a number, as Go asks for it. -/
theorem bit_i64 {k d : Nat} (hk : k < 1000) : bits .and .i64 ((k : Int) / 2 ^ d) 1 = if k.testBit d then 1 else 0 := by
  have e : ((k : Int) / 2 ^ d) = ((k / 2 ^ d : Nat) : Int) := by simp
  have hle : k / 2 ^ d ≤ k := Nat.div_le_self _ _
  rw [e, Nat.testBit_eq_decide_div_mod_eq]
  generalize k / 2 ^ d = y at *
  have := bits_mask .i64 62 (by decide) (fun n h1 h2 => by rw [IntKind.wrap_i64]; omega) 1 (by decide) ((y : Nat) : Int) (by omega) (by omega)
  rw [show ((2 : Int) ^ 1 - 1) = 1 from by decide] at this
  rw [this]
  simp only [decide_eq_true_eq]
  split <;> omega
theorem bit_u16 {v d : Nat} (hv : v < 65536) : bits .and .u16 ((v : Int) / 2 ^ d) 1 = if v.testBit d then 1 else 0 := by
  have e : ((v : Int) / 2 ^ d) = ((v / 2 ^ d : Nat) : Int) := by simp
  have hle : v / 2 ^ d ≤ v := Nat.div_le_self _ _
  rw [e, show (1 : Int) = ((1 : Nat) : Int) from rfl, u16_and_nat _ _ (by omega) (by omega), Nat.and_one_is_mod, Nat.testBit_eq_decide_div_mod_eq]
  simp only [decide_eq_true_eq]
  split <;> omega
theorem compl_lt (c : Nat) : U - 1 - c < U := by unfold U; omega
theorem ones_lt : U - 1 < U := by unfold U; omega
theorem compl_xor {c : Nat} (hc : c < U) : (U - 1) ^^^ c = U - 1 - c := by
  apply word_ext (xor_lt_U ones_lt hc) (compl_lt c)
  intro i hi
  rw [Nat.testBit_xor, ones_bit hi, not_bit hc hi]
  simp
theorem max_u64 : IntKind.u64.max = ((U - 1 : Nat) : Int) := by kernel_rfl
theorem compl_u64 {c : Nat} (hc : c < U) : bits .xor .u64 (if IntKind.u64.signed = true then -1 else IntKind.u64.max) (c : Int) = ((U - 1 - c : Nat) : Int) := by
  rw [if_neg (by decide), max_u64, u64_xor_nat _ _ ones_lt hc, compl_xor hc]
theorem accK_next (born stay : Nat) (s : Cnt) (here k : Nat) : accK born stay s here (k + 1) =
    if stay.testBit k then (if born.testBit k then accK born stay s here k ||| (sel s k &&& (U - 1 - here)) else accK born stay s here k) ||| (sel s k &&& here)
    else (if born.testBit k then accK born stay s here k ||| (sel s k &&& (U - 1 - here)) else accK born stay s here k) := rfl
end Go.Proofs.Ytigghbehnnghnaa
