import Derived.Test.YtcbhbojplcddkaaGreatDoorProg
import Derived.Test.YtcbhbojplcddkaaGreatDoorZBits
import Derived.WalkKit
import Derived.WalkSpells
import Derived.WalkLawsBesides
import Derived.Lib.Hide
import Derived.KernelRfl
import Derived.Laws.OwnMore
import Derived.OwnWalk
import Derived.Deep.QuietTactic
import Derived.BigQuiet
import Derived.ArgAppend
import Derived.Deep.OwnRows
import Derived.Handy
namespace Go.Proofs.YtcbhbojplcddkaaGreatDoor
open Go.RowKit Go.RowBits
set_option linter.unusedSimpArgs false
set_option linter.unusedVariables false

/-! ### Memory: what all walks use -/
theorem below_new {w : World} (o : Obj) : Below w.heap.size w (w.alloc o) := (Below.refl _ _).alloc (Nat.le_refl _) _
theorem below_then {B : Nat} {w w1 w2 : World} (h : Below B w w1) (k : Below w1.heap.size w1 w2) (hB : B ≤ w1.heap.size) : Below B w w2 :=
  h.trans ⟨k.os, k.tape, k.output, k.size, fun i hi => k.block i (Nat.lt_of_lt_of_le hi hB)⟩
theorem below_drewN {B : Nat} {a w : World} (h : Below B a w) (n : Nat) : Below B a (w.drewN n) := ⟨h.os, h.tape, h.output, h.size, h.block⟩
theorem bcell {W w1 : World} (hb : Below W.heap.size W w1) : (∀ b o, b < W.heap.size → w1.cell? ⟨b, o, none⟩ = W.cell? ⟨b, o, none⟩) ∧ (∀ b o, b < W.heap.size → w1.frozen? ⟨b, o, none⟩ = W.frozen? ⟨b, o, none⟩) :=
  ⟨fun b o h => hb.cell (p := ⟨b, o, none⟩) h, fun b o h => hb.frozen (p := ⟨b, o, none⟩) h⟩
theorem cellB {N : Nat} {w w' : World} {b o : Nat} {u : Value} (hb : Below N w w') (h : w.cell? ⟨b, o, none⟩ = some u) (hN : b < N) : w'.cell? ⟨b, o, none⟩ = some u := (hb.cell (p := ⟨b, o, none⟩) hN).trans h
theorem cell_kept {w w' : World} {b o : Nat} {u : Value} (hb : Below w.heap.size w w') (h : w.cell? ⟨b, o, none⟩ = some u) : w'.cell? ⟨b, o, none⟩ = some u :=
  cellB hb h (World.block_lt_of_cell? w _ h)
theorem ownsRow_base {w : World} {base base' : Nat} {e : TypeId} {size : Nat} {v : Value} {n : Nat} {xs : List Value} (hb : base' ≤ base) (h : w.ownsRow base e size v n xs) : w.ownsRow base' e size v n xs := by
  refine ⟨h.1, ?_⟩
  rcases h.2 with hn | ⟨g, cap, cur, rfl, hg, rest⟩
  · exact .inl hn
  · exact .inr ⟨g, cap, cur, rfl, Nat.le_trans hb hg, rest⟩
theorem own_shape {w : World} {base : Nat} {e : TypeId} {size : Nat} {v : Value} {n : Nat} {xs : List Value} (h : w.ownsRow base e size v n xs) : ∃ ad cap, v = .slice ad n cap := by
  rcases h.2 with ⟨hv, hn⟩ | ⟨g, cap, cur, hv, hr⟩
  · exact ⟨none, 0, by rw [hv, hn]⟩
  · exact ⟨_, cap, hv⟩
theorem own_drewN {w : World} {base : Nat} {e : TypeId} {size : Nat} {v : Value} {n : Nat} {xs : List Value} (h : w.ownsRow base e size v n xs) (m : Nat) : (w.drewN m).ownsRow base e size v n xs := by
  have e1 : (w.drewN m).heap = w.heap := by simp
  unfold World.ownsRow at *
  rw [e1]
  exact h
theorem own_belowN {N : Nat} {w w' : World} {base : Nat} {e : TypeId} {size : Nat} {v : Value} {n : Nat} {xs : List Value} (h : w.ownsRow base e size v n xs) (hb : Below N w w') (hN : ∀ g, v.ownBlock = some g → g < N) : w'.ownsRow base e size v n xs := by
  refine ⟨h.1, ?_⟩
  rcases h.2 with hn | ⟨g, cap, cur, rfl, hbg, hg, rest⟩
  · exact .inl hn
  · exact .inr ⟨g, cap, cur, rfl, hbg, (hb.block g (hN g rfl)).trans hg, rest⟩
theorem own_below {w w' : World} {base : Nat} {e : TypeId} {size : Nat} {v : Value} {n : Nat} {xs : List Value} (h : w.ownsRow base e size v n xs) (hb : Below w.heap.size w w') : w'.ownsRow base e size v n xs :=
  own_belowN h hb (fun g hg => (h.lt g hg).2)
theorem wpList_append_run {P : Program} {w w' : World} {ops : Array Oper} {rest : List Oper} {o : Oper} {a : Act} {Q : Exit → Act → World → Prop} (hgd : o.guard = none) (s x : Operand) (t : TypeId)
    (ho : o.op = .call { callee := .builtin .append, args := #[s, x], argTypes := #[t, t] }) {v xv v' : Value} (hs : a.eval s = v) (hx : a.eval x = xv)
    (hr : (Builtin.append_ #[t, t] o.type #[v, xv]).run P w = .ok v' w') (h : wpList P ops Q rest (a.put o.dst v') w') : wpList P ops Q (o :: rest) a w :=
  wpList_plain hgd fun _ hK => by
    unfold Oper.wp execOp
    simp only [ho, resolve, invoke, builtin, Sem.run_bind, Sem.run_pure, Result.andThen_ok, List.map_toArray, List.map_cons, List.map_nil, hs, hx, hr]
    exact hK _ _ h
theorem results_cell1 {fn : Func} {p : Tmp} {ty : TypeId} (h : fn.results = #[.cell p ty]) (tmps : Array Value) (P : Program) (w : World) :
    (results fn tmps).run P w = ((asAddr (tmps.getD p undef)).run P w).andThen fun a w₁ => (loadVar ty a).run P w₁ := by
  simp only [results, h]
  simp [Sem.run_bind, Result.andThen]
theorem results_cell3 {fn : Func} {p u v : Tmp} {ty : TypeId} (h : fn.results = #[.cell p ty, .tmp u, .tmp v]) (tmps : Array Value) (P : Program) (w : World) :
    (results fn tmps).run P w = ((asAddr (tmps.getD p undef)).run P w).andThen fun a w₁ => ((loadVar ty a).run P w₁).andThen fun x w₂ => .ok (.tuple #[x, tmps.getD u undef, tmps.getD v undef]) w₂ := by
  simp only [results, h]
  simp [Sem.run_bind, Result.andThen]
theorem results_cell2 {fn : Func} {p u : Tmp} {ty : TypeId} (h : fn.results = #[.cell p ty, .tmp u]) (tmps : Array Value) (P : Program) (w : World) :
    (results fn tmps).run P w = ((asAddr (tmps.getD p undef)).run P w).andThen fun a w₁ => ((loadVar ty a).run P w₁).andThen fun x w₂ => .ok (.tuple #[x, tmps.getD u undef]) w₂ := by
  simp only [results, h]
  simp [Sem.run_bind, Result.andThen]

/-! ### Words in memory -/
def wv (x : Nat) : Value := .int .u64 (x : Int)
/-- The slice v reads as the words ws. -/
def HasW (w : World) (v : Value) (ws : List Nat) : Prop :=
  ∃ (ad : Option Addr) (cap : Nat), v = .slice ad ws.length cap ∧ ∀ j, j < ws.length → ∃ g o, ad = some ⟨g, o, none⟩ ∧ w.cell? ⟨g, o + j, none⟩ = some (.int .u64 ((ws.getD j 0 : Nat) : Int))
theorem HasW.nil (w : World) : HasW w (.slice none 0 0) [] := ⟨none, 0, rfl, fun j hj => by simp at hj⟩
theorem HasW.keptB {w w' : World} {N : Nat} {v : Value} {l : List Nat} (h : HasW w v l) (hb : Below N w w') (hN : w.heap.size ≤ N) : HasW w' v l := by
  obtain ⟨ad, cap, hv, hc⟩ := h
  refine ⟨ad, cap, hv, fun j hj => ?_⟩
  obtain ⟨g, o, hg, c1⟩ := hc j hj
  exact ⟨g, o, hg, cellB hb c1 (Nat.lt_of_lt_of_le (World.block_lt_of_cell? w _ c1) hN)⟩
theorem HasW.kept {w w' : World} {v : Value} {l : List Nat} (h : HasW w v l) (hb : Below w.heap.size w w') : HasW w' v l := h.keptB hb (Nat.le_refl _)
theorem HasW.drawn {W : World} {v : Value} {l : List Nat} (h : HasW W v l) (m : Nat) : HasW (W.drewN m) v l := h.kept (below_drewN (Below.refl _ _) m)
theorem HasW.own {w : World} {base : Nat} {v : Value} {l : List Nat} (h : w.ownsRow base 61 1 v l.length (l.map wv)) : HasW w v l := by
  rcases h.2 with ⟨hv, hn⟩ | ⟨g, cap, cur, hv, hr⟩
  · exact ⟨none, 0, by rw [hv, hn], fun j hj => by omega⟩
  · subst hv
    refine ⟨_, cap, rfl, fun j hj => ⟨g, 0, rfl, ?_⟩⟩
    rw [Nat.zero_add, h.cellAt j (by omega)]
    simp [hj, wv]

/-- A row that may be. -/
def RowOk (N : Int) (ws : List Nat) : Prop := 0 ≤ N ∧ N ≤ 65538 ∧ RowGood N.toNat ws
noncomputable def rowOk (N : Int) (ws : List Nat) : Bool := @decide (RowOk N ws) (Classical.propDecidable _)
theorem rowOk_iff {N : Int} {ws : List Nat} : rowOk N ws = true ↔ RowOk N ws := by unfold rowOk; exact @decide_eq_true_iff _ (Classical.propDecidable _)
theorem rowOk_no {N : Int} {ws : List Nat} (h : ¬ RowOk N ws) : rowOk N ws = false := by
  cases e : rowOk N ws with
  | false => rfl
  | true => exact absurd (rowOk_iff.1 e) h
theorem rowOk_yes {N : Int} {ws : List Nat} (h : RowOk N ws) : rowOk N ws = true := rowOk_iff.2 h

def lastW (n : Nat) : Nat := if n % 64 = 0 then U - 1 else 2 ^ (n % 64) - 1
theorem pow_64 {m : Nat} (h : m < 64) : 2 ^ m ≤ 9223372036854775808 := by
  have : (2 : Nat) ^ m ≤ 2 ^ 63 := Nat.pow_le_pow_right (by decide) (by omega)
  simpa using this
theorem lastW_lt (n : Nat) : lastW n < U := by
  unfold lastW U
  split
  · omega
  · have := pow_64 (m := n % 64) (by omega); omega

theorem wrap_mask {m : Nat} (h : m < 64) : IntKind.u64.wrap (IntKind.u64.wrap ((2 : Int) ^ m) - 1) = ((2 ^ m - 1 : Nat) : Int) := by
  have h1 := pow_64 h
  have h2 : 0 < 2 ^ m := Nat.two_pow_pos m
  have e : ((2 : Int) ^ m) = ((2 ^ m : Nat) : Int) := by simp
  rw [e, IntKind.wrap_u64, IntKind.wrap_u64]
  generalize 2 ^ m = p at *
  omega
theorem lastW_bit (n : Nat) {j : Nat} (hj : j < 64) : (lastW n).testBit j = (decide (n % 64 = 0) || decide (j < n % 64)) := by
  unfold lastW
  by_cases h : n % 64 = 0
  · rw [if_pos h, ones_bit hj]; simp [h]
  · rw [if_neg h, Nat.testBit_two_pow_sub_one]; simp [h]
theorem top_iff {n k : Nat} {ws : List Nat} (hl : ws.length = (n + 63) / 64) (hk : ws.length = k + 1) (hw : W64 ws) : RowGood n ws ↔ ws.getD k 0 &&& (U - 1 - lastW n) = 0 := by
  rw [good_iff hl hw]
  have hbit : ∀ j, j < 64 → (ws.getD k 0 &&& (U - 1 - lastW n)).testBit j = (bitw ws (64 * k + j) && !(decide (n % 64 = 0) || decide (j < n % 64))) := by
    intro j hj
    rw [Nat.testBit_and, not_bit (lastW_lt n) hj, lastW_bit n hj]
    unfold bitw
    rw [show (64 * k + j) / 64 = k from by omega, show (64 * k + j) % 64 = j from by omega]
  have hlt : ws.getD k 0 &&& (U - 1 - lastW n) < U := and_lt_U (hw k)
  constructor
  · intro h
    apply word_ext hlt (by unfold U; omega)
    intro j hj
    rw [hbit j hj, Nat.zero_testBit]
    by_cases h0 : n % 64 = 0
    · simp [h0]
    · by_cases h1 : j < n % 64
      · simp [h1]
      · rw [h (64 * k + j) (by omega) (by omega)]
        simp
  · intro h i hi hi2
    have e : i = 64 * k + (i - 64 * k) := by omega
    have := hbit (i - 64 * k) (by omega)
    rw [h, Nat.zero_testBit, ← e] at this
    have h0 : ¬ n % 64 = 0 := by omega
    have h1 : ¬ (i - 64 * k < n % 64) := by omega
    simp only [h0, h1, decide_false, Bool.or_self, Bool.not_false, Bool.and_true] at this
    exact this.symm

set_option maxHeartbeats 1000000 in
theorem last_any {n : Nat} (hn : n ≤ 65538) (w : World) : Calls Tryz.prog 65 #[.int .i64 (n : Int)] w fun e w' => e = .returned (.int .u64 ((lastW n : Nat) : Int)) ∧ w' = w := by
  by_cases h0 : n % 64 = 0
  · have e : lastW n = 18446744073709551615 := by unfold lastW U; rw [if_pos h0]
    rw [e]
    have h1 : (n : Int) % 64 = 0 := by omega
    clear e
    go_enter Tryz.func65, Tryz.ntmps65
    go_wp2
    go_ret
    exact ⟨rfl, rfl⟩
  · have h1 : ¬ ((n : Int) % 64 = 0) := by omega
    go_enter Tryz.func65, Tryz.ntmps65
    go_wp2
    go_ret
    rw [wrap_mask (m := n % 64) (by omega), show lastW n = 2 ^ (n % 64) - 1 from by unfold lastW; rw [if_neg h0]]
    exact ⟨rfl, rfl⟩

set_option maxHeartbeats 1000000 in
theorem valid_any {w : World} {v : Value} {ws : List Nat} (N : Int) (h : HasW w v ws) (hw : W64 ws) :
    Calls Tryz.prog 37 #[.agg #[.int .i64 N, v]] w fun e w' => e = .returned (.bool (rowOk N ws)) ∧ Below w.heap.size w w' := by
  obtain ⟨ad, cap, rfl, hc⟩ := h
  have hc' := Lib.hid hc
  clear hc
  by_cases h0 : N < 0
  · rw [rowOk_no (fun e => by have := e.1; omega)]
    go_enter Tryz.func37, Tryz.ntmps37
    go_wp2
    go_ret
    exact ⟨rfl, below_new _⟩
  by_cases h1 : 65538 < N
  · rw [rowOk_no (fun e => by have := e.2.1; omega)]
    go_enter Tryz.func37, Tryz.ntmps37
    go_wp2
    go_ret
    exact ⟨rfl, below_new _⟩
  obtain ⟨n, rfl⟩ : ∃ n : Nat, N = (n : Int) := ⟨N.toNat, by omega⟩
  by_cases h2 : ws.length = (n + 63) / 64
  · rcases hk : ws.length with _ | k
    · have hn : n = 0 := by omega
      subst hn
      have hg : RowGood 0 ws := (good_iff h2 hw).2 (fun i _ hi => by omega)
      have hy : RowOk ((0 : Nat) : Int) ws := ⟨by omega, by omega, hg⟩
      rw [rowOk_yes hy]
      clear hy hg
      go_enter Tryz.func37, Tryz.ntmps37
      go_wp2
      go_quiet (fail)
      go_wp2
      go_ret
      exact ⟨rfl, below_drewN (below_new _) _⟩
    · obtain ⟨g, o, rfl, c1⟩ := hc'.out k (by omega)
      have hti := Lib.hid (top_iff (n := n) h2 hk hw)
      have hlt := Lib.hid (hw k)
      have h2' : ((n : Int) + 63) / 64 = (k : Int) + 1 := by omega
      have hn : n ≤ 65538 := by omega
      have hx : ((k : Int) + 1 == 0) = false := by rw [beq_eq_false_iff_ne]; omega
      have hgl : g < w.heap.size := World.block_lt_of_cell? w _ c1
      have hz : 0 < n := by omega
      have hk2 : k ≤ 1025 := by omega
      have hk3 : (k : Int) < (k : Int) + 1 := by omega
      have hk4 : IntKind.i64.wrap (k : Int) = (k : Int) := by rw [IntKind.wrap_i64]; omega
      have hr : rowOk (n : Int) ws = (bits .andNot .u64 ((ws.getD k 0 : Nat) : Int) ((lastW n : Nat) : Int) == 0) := by
        rw [u64_andNot_nat _ _ (hw k) (lastW_lt n), Bool.eq_iff_iff, rowOk_iff, beq_iff_eq]
        unfold RowOk
        rw [Int.toNat_natCast, top_iff h2 hk hw]
        unfold U
        constructor
        · intro e; exact_mod_cast e.2.2
        · intro e; exact ⟨by omega, by omega, by exact_mod_cast e⟩
      rw [hr]
      clear hr hti hlt h2
      generalize ws.getD k 0 = x at *
      go_enter Tryz.func37, Tryz.ntmps37
      go_wp2
      go_quiet ((go_at_call 65; refine Calls.quiet_of_same (last_any hn _)))
      go_wp2
      go_ret
      exact ⟨rfl, below_drewN (below_new _) _⟩
  · rw [rowOk_no (fun e => h2 (by have := e.2.2.len; rw [this]; omega))]
    have h2' : ¬ ((ws.length : Int) = ((n : Int) + 63) / 64) := by omega
    generalize ws.length = L at *
    clear h2
    go_enter Tryz.func37, Tryz.ntmps37
    go_wp2
    go_ret
    exact ⟨rfl, below_new _⟩
end Go.Proofs.YtcbhbojplcddkaaGreatDoor
