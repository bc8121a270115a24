import Derived.Test.YtjomgjlicfoehaaIsoP
import Derived.Deep.RegionHeld3
namespace Go.Proofs.Ytjomgjlicfoehaa
open Go.RowKit Flt
attribute [local go_sem] run_store_float run_store_complex unary_neg_float unary_neg_complex
set_option linter.unusedSimpArgs false
set_option linter.unusedVariables false

/-- A linear part done once more and once more. -/
def pw (k : Nat) (f : Bool) : Nat → Nat × Bool
  | 0 => (k, f)
  | i + 1 => (thenK (pw k f i).1 k f, (pw k f i).2 != f)
theorem pw_lt {k : Nat} (hk : k < 4) (f : Bool) : ∀ i, (pw k f i).1 < 4
  | 0 => hk
  | i + 1 => thenK_lt _ _ _
/-- How often it must be done beside the first time. -/
def tN (k : Nat) (f : Bool) : Nat := if f then 1 else if k = 0 then 0 else if k = 2 then 1 else 3
theorem tN_le (k : Nat) (f : Bool) : tN k f ≤ 3 := by unfold tN; split <;> (try split) <;> (try split) <;> omega
theorem tN_table : ∀ (k : Fin 4) (f : Bool) (i : Fin 4), i.val ≤ tN k f → (pw k f i = (0, false) ↔ i.val = tN k f) := by decide +kernel
theorem tN_test {k : Nat} (hk : k < 4) (f : Bool) {i : Nat} (hi : i ≤ tN k f) : (decide ((pw k f i).1 = 0) && ((pw k f i).2 == false)) = decide (i = tN k f) := by
  have h := tN_table ⟨k, hk⟩ f ⟨i, by have := tN_le k f; omega⟩ hi
  rw [Bool.eq_iff_iff]
  simp only [Bool.and_eq_true, decide_eq_true_eq, beq_iff_eq]
  rw [← h]
  exact ⟨fun e => Prod.ext e.1 e.2, fun e => by simp at e; rw [e]; exact ⟨rfl, rfl⟩⟩

theorem then_lin {k l : Nat} (hk : k < 4) (hl : l < 4) (f g : Bool) (w : World) :
    Calls Try.prog 36 #[isoF k f 0 0, isoF l g 0 0] w fun e w' => e = .returned (.tuple #[isoF (thenK k l g) (f != g) 0 0, .int .i64 0]) ∧ Below w.heap.size w w' := by
  have e1 : dox l g 0 0 0 = 0 := by simp [dox, fl]
  have e2 : doy l g 0 0 0 = 0 := by simp [doy, fl]
  have e4 : nearB 0 0 = true := rfl
  cases g
  · have h := then_dir f (isMap_F (x := 0) (y := 0) hk (by omega) (by omega)) (isMap_F (k := l) (x := 0) (y := 0) hl (by omega) (by omega)) w
    rw [e1, e2, e4] at h
    exact h
  · have h := then_flip f (isMap_F (x := 0) (y := 0) hk (by omega) (by omega)) (isMap_F (k := l) (x := 0) (y := 0) hl (by omega) (by omega)) w
    rw [e1, e2, e4] at h
    exact h

theorem part_lin {k : Nat} (hk : k < 4) (f : Bool) (w : World) :
    Calls Try.prog 40 #[.int .i64 (linN k f)] w fun e w' => e = .returned (.tuple #[isoF k f 0 0, .int .i64 0]) ∧ Below w.heap.size w w' := by
  cases f
  · have := part_yes (k := k) (by omega) w
    rw [Nat.mod_eq_of_lt hk, show decide (4 ≤ k) = false from by simp; omega] at this
    exact this
  · have := part_yes (k := k + 4) (by omega) w
    rw [show (k + 4) % 4 = k from by omega, show decide (4 ≤ k + 4) = true from by simp] at this
    have e : linN k true = ((k + 4 : Nat) : Int) := by simp [linN]
    rw [e]
    exact this

set_option maxHeartbeats 400000 in
theorem times_no {k : Int} (h : k < 0 ∨ 7 < k) (w : World) :
    Calls Try.prog 42 #[.int .i64 k] w fun e w' => e = .returned (.tuple #[.int .i64 0, .int .i64 2]) ∧ Below w.heap.size w w' := by
  have K10 := fun W => part_no h W
  have K1 := Lib.hid K10
  clear K10
  unfold isoZero at *
  clear h
  go_enter Try.func42, Try.ntmps42
  go_wp2_with fail
  refine (K1.out _).mono ?_
  rintro e w1 ⟨rfl, hb⟩
  obtain ⟨hc1, hf1⟩ := bcell hb
  have hs1 : w.heap.size ≤ w1.heap.size := by have := hb.size; (try simp at this); omega
  have hB1 := Lib.hid (below_then (B := w.heap.size) (w := w) (by repeat (first | exact Below.refl _ _ | refine Below.alloc ?_ (by first | omega | (simp; done) | (simp; omega)) _ | refine Below.setCell ?_ (by first | omega | (simp; done) | (simp; omega)) _ | refine Below.drew ?_)) hb (by first | omega | (simp; done) | (simp; omega)))
  clear hb
  go_wp2
  go_ret2
  exact ⟨rfl, by repeat (first | exact Below.refl _ _ | exact hB1.out | refine Below.alloc ?_ (by first | omega | (simp; done) | (simp; omega)) _ | refine Below.setCell ?_ (by first | omega | (simp; done) | (simp; omega)) _ | refine Below.drew ?_)⟩

/-- At a loop's head: the power so far lies in its box, the part itself in its own. -/
def TimesRel (w : World) (M : Nat) (k : Nat) (f : Bool) (n all : Value) (wr : World) : Prop :=
  ∃ i blk : Nat, i ≤ tN k f ∧ n = .int .i64 ((i : Int) + 1) ∧ all = .pointer (some ⟨blk, 0, none⟩) ∧ w.heap.size ≤ M ∧ M < blk ∧
    (wr.cell? ⟨blk, 0, none⟩ = some (.complex .f64 (F (tvx (pw k f i).1)) (F (tvy (pw k f i).1))) ∧ wr.cell? ⟨blk, 1, none⟩ = some (.bool (pw k f i).2) ∧ wr.cell? ⟨blk, 2, none⟩ = some (.complex .f64 (F 0) (F 0)) ∧
    wr.cell? ⟨M, 0, none⟩ = some (.complex .f64 (F (tvx k)) (F (tvy k))) ∧ wr.cell? ⟨M, 1, none⟩ = some (.bool f) ∧ wr.cell? ⟨M, 2, none⟩ = some (.complex .f64 (F 0) (F 0))) ∧ (∀ o, wr.frozen? ⟨blk, o, none⟩ = false) ∧ Below w.heap.size w wr

theorem below_boxes {w W : World} {blk : Nat} {u v x : Value} (h : Below w.heap.size w W) (hb : w.heap.size ≤ blk) (o : Obj) : Below w.heap.size w ((((W.setCell ⟨blk, 0, none⟩ u).setCell ⟨blk, 1, none⟩ v).setCell ⟨blk, 2, none⟩ x).alloc o) :=
  Below.alloc (((h.setCell hb _).setCell hb _).setCell hb _) (by have := h.size; simpa [World.setCell] using this) _

set_option maxHeartbeats 8000000 in
theorem times_yes {k : Nat} (f : Bool) (hk : k < 4) (w : World) :
    Calls Try.prog 42 #[.int .i64 (linN k f)] w fun e w' => e = .returned (.tuple #[.int .i64 ((tN k f : Int) + 1), .int .i64 0]) ∧ Below w.heap.size w w' := by
  have K10 := fun W => part_lin hk f W
  have K1 := Lib.hid K10
  clear K10
  have ht3 := tN_le k f
  have K20 := fun W => made_int false isInt_one isInt_zero isInt_zero isInt_zero W
  have K2 := Lib.hid K20
  clear K20
  unfold isoF at *
  generalize hnm : linN k f = nm at *
  clear hnm
  go_enter Try.func42, Try.ntmps42
  go_wp2_with fail
  refine (K1.out _).mono ?_
  rintro e w1 ⟨rfl, hb⟩
  obtain ⟨hc1, hf1⟩ := bcell hb
  have hs1 : w.heap.size ≤ w1.heap.size := by have := hb.size; (try simp at this); omega
  have hB1 := Lib.hid (below_then (B := w.heap.size) (w := w) (by repeat (first | exact Below.refl _ _ | refine Below.alloc ?_ (by first | omega | (simp; done) | (simp; omega)) _ | refine Below.setCell ?_ (by first | omega | (simp; done) | (simp; omega)) _ | refine Below.drew ?_)) hb (by first | omega | (simp; done) | (simp; omega)))
  clear hb
  go_wp2
  go_loopw [6, 7] (fun n all wr => TimesRel w w1.heap.size k f n all wr) (fun n _ _ => 8 - (intOf n).toNat)
  case atStart =>
    refine ⟨0, w1.heap.size + 1, by omega, by go_num, rfl, hs1, by omega, ⟨?_, ?_, ?_, ?_, ?_, ?_⟩, ?_, ?_⟩
    · go_simp; exact ⟨rfl, rfl⟩
    · go_simp; rfl
    · go_simp
    · go_simp
    · go_simp
    · go_simp
    · intro o; go_simp
    · exact Below.alloc (Below.alloc hB1.out (by omega) _) (by simp; omega) _
  case round =>
    clear hc1 hf1
    obtain ⟨i, blk, hi, rfl, rfl, _, hMb, hcells, fz, hBel⟩ := hrel
    have hB0 := Lib.hid hBel
    clear hBel
    have hp := pw_lt hk f i
    have he : ∀ W, (binOp .neq 38 (isoV (F (tvx (pw k f i).1)) (F (tvy (pw k f i).1)) (pw k f i).2 (F 0) (F 0)) (isoV (F 1) (F 0) false (F 0) (F 0))).run Try.prog W = .ok (.bool (!decide (i = tN k f))) W := fun W => by
      have ta := tv_abs hp
      rw [run_neq_iso, eqc_int (isInt_F _ (by omega)) (isInt_F _ (by omega)) (isInt_F _ (by decide)) (isInt_F _ (by decide)), eqc_int (isInt_F _ (by decide)) (isInt_F _ (by decide)) (isInt_F _ (by decide)) (isInt_F _ (by decide)), ← tN_test hk f hi]
      have : (decide (tvx (pw k f i).1 = 1) && decide (tvy (pw k f i).1 = 0)) = decide ((pw k f i).1 = 0) := by
        have hp' : (pw k f i).1 = 0 ∨ (pw k f i).1 = 1 ∨ (pw k f i).1 = 2 ∨ (pw k f i).1 = 3 := by omega
        rcases hp' with h | h | h | h <;> rw [h] <;> decide
      rw [this]
      simp
    have K30 : ∀ W, Calls Try.prog 36 #[isoV (F (tvx (pw k f i).1)) (F (tvy (pw k f i).1)) (pw k f i).2 (F 0) (F 0), isoV (F (tvx k)) (F (tvy k)) f (F 0) (F 0)] W fun e w' => e = .returned (.tuple #[isoV (F (tvx (pw k f (i + 1)).1)) (F (tvy (pw k f (i + 1)).1)) (pw k f (i + 1)).2 (F 0) (F 0), .int .i64 0]) ∧ Below W.heap.size W w' := fun W => then_lin hp hk (pw k f i).2 f W
    have K3 := Lib.hid K30
    clear K30 hp
    have hrn : Hid (∀ wr' : World, wr'.cell? ⟨0, 0, none⟩ = wr'.cell? ⟨0, 0, none⟩) := fun _ => rfl
    have hC := Lib.hid hcells
    obtain ⟨c0, c1, c2, m0, m1, m2⟩ := hcells
    generalize hP : F (tvx (pw k f i).1) = P at *
    generalize hQ : F (tvy (pw k f i).1) = Q at *
    generalize hg : (pw k f i).2 = g at *
    generalize hX : F (tvx (pw k f (i + 1)).1) = X at *
    generalize hY : F (tvy (pw k f (i + 1)).1) = Y at *
    generalize hG : (pw k f (i + 1)).2 = G at *
    generalize hA : F (tvx k) = A at *
    generalize hB : F (tvy k) = B at *
    have hX' := Lib.hid hX
    have hY' := Lib.hid hY
    have hG' := Lib.hid hG
    have hA' := Lib.hid hA
    have hB' := Lib.hid hB
    clear hP hQ hg hX hY hG hA hB
    generalize hZ : F 0 = Z at *
    have hZ' := Lib.hid hZ
    clear hZ
    generalize F 1 = O at *
    have ⟨t, ht⟩ : ∃ t, decide (i = tN k f) = t := ⟨_, rfl⟩
    rw [ht] at he
    have hbl := World.block_lt_of_cell? wr _ c0
    have hMl := World.block_lt_of_cell? wr _ m0
    have hneM : blk ≠ w1.heap.size := by omega
    have hneM' : w1.heap.size ≠ blk := by omega
    have ht' := Lib.hid ht
    clear ht
    go_wp2_with fail
    go_region_held3 (fun w' => w'.cell? ⟨blk, 0, none⟩ = some (.complex .f64 P Q) ∧ w'.cell? ⟨blk, 1, none⟩ = some (.bool g) ∧ w'.cell? ⟨blk, 2, none⟩ = some (.complex .f64 Z Z) ∧
        w'.cell? ⟨w1.heap.size, 0, none⟩ = some (.complex .f64 A B) ∧ w'.cell? ⟨w1.heap.size, 1, none⟩ = some (.bool f) ∧ w'.cell? ⟨w1.heap.size, 2, none⟩ = some (.complex .f64 Z Z))
      (first | exact ⟨c0, c1, c2, m0, m1, m2⟩ | exact back_keep (W := wr) ⟨c0, c1, c2, m0, m1, m2⟩ q2)
      (first | (go_at_call 62; refine (K2.out _).mono ?_; rintro e w2 ⟨rfl, hb⟩; have q2 : Below wr.heap.size wr w2 := ⟨hb.os, hb.tape, hb.output, hb.size, hb.block⟩))
    have n0 := cell_kept q2 c0
    have n1 := cell_kept q2 c1
    have n2 := cell_kept q2 c2
    have n3 := froz_kept q2 c0 fz
    have o0 := cell_kept q2 m0
    have o1 := cell_kept q2 m1
    have o2 := cell_kept q2 m2
    have hB2 := Lib.hid (below_then hB0.out q2 (by have := hB0.out.size; omega))
    clear hb c0 c1 c2 m0 m1 m2 fz q2
    cases t
    · go_wp2_with fail
      refine (K3.out _).mono ?_
      rintro e w3 ⟨rfl, hb⟩
      have r0 := cell_kept hb n0
      have r1 := cell_kept hb n1
      have r2 := cell_kept hb n2
      have r3 := froz_kept hb n0 n3
      have s0 := cell_kept hb o0
      have s1 := cell_kept hb o1
      have s2 := cell_kept hb o2
      have hB3 := Lib.hid (below_then hB2.out hb (by have := hB2.out.size; omega))
      have hbl3 := World.block_lt_of_cell? w3 _ r0
      clear hb n0 n1 n2 n3 o0 o1 o2
      have hlt : i < tN k f := by have := ht'.out; simp at this; omega
      have hwM : w1.heap.size < w3.heap.size := World.block_lt_of_cell? w3 _ s0
      go_wp2
      refine ⟨⟨i + 1, w3.heap.size, by omega, by go_num, rfl, hs1, hwM, ⟨?_, ?_, ?_, ?_, ?_, ?_⟩, ?_, below_boxes hB3.out (by omega) _⟩, by simp [intOf]; omega⟩
      · rw [hX'.out, hY'.out]; go_simp
      · rw [hG'.out]; go_simp
      · rw [hZ'.out]; go_simp
      · rw [hA'.out, hB'.out]; go_simp
      · go_simp
      · rw [hZ'.out]; go_simp
      · intro o; go_simp
    · go_wp2
      go_ret2
      exact ⟨by have := ht'.out; simp at this; rw [this]; rfl, hB2.out⟩
/-! ### The document's Times -/
set_option maxHeartbeats 400000 in
theorem rtimes_no {k : Int} (h : k < 0 ∨ 7 < k) (w : World) :
    Calls Try.prog 43 #[.int .i64 k] w fun e w' => e = .returned (.tuple #[.int .i64 0, .int .i64 2]) ∧ Below w.heap.size w w' := by
  rcases h with h | h
  · go_enter Try.func43, Try.ntmps43
    go_wp2
    go_ret2
    exact ⟨rfl, Below.refl _ _⟩
  · go_enter Try.func43, Try.ntmps43
    go_wp2
    go_ret2
    exact ⟨rfl, Below.refl _ _⟩

theorem lin_range {k : Nat} (hk : k < 4) (f : Bool) : 0 ≤ linN k f ∧ linN k f ≤ 7 := by unfold linN; split <;> omega
theorem lin_zero {k : Nat} (f : Bool) : (linN k f = 0) ↔ (decide (k = 0) && (f == false)) = true := by unfold linN; cases f <;> simp; omega

set_option maxHeartbeats 2000000 in
theorem rtimes_yes {k : Nat} (f : Bool) (hk : k < 4) (w : World) :
    Calls Try.prog 43 #[.int .i64 (linN k f)] w fun e w' => e = .returned (.tuple #[.int .i64 ((tN k f : Int) + 1), .int .i64 0]) ∧ Below w.heap.size w w' := by
  obtain ⟨b1, b2⟩ := lin_range hk f
  have ht3 := tN_le k f
  have C0 : ∀ i W, Calls Try.prog 68 #[.int .i64 (linN (pw k f i).1 (pw k f i).2), .int .i64 (linN k f)] W fun e w' => e = .returned (.int .i64 (linN (pw k f (i + 1)).1 (pw k f (i + 1)).2)) ∧ W = w' := fun i W => rboth (pw_lt hk f i) (pw k f i).2 hk f W
  have C := Lib.hid C0
  clear C0
  have T0 : ∀ i, i ≤ tN k f → (linN (pw k f i).1 (pw k f i).2 = 0 ↔ i = tN k f) := fun i hi => by
    rw [lin_zero, tN_test hk f hi]; simp
  have T := Lib.hid T0
  clear T0
  have e0 : linN k f = linN (pw k f 0).1 (pw k f 0).2 := rfl
  have E0 := Lib.hid e0
  clear e0
  generalize hn : linN k f = n at *
  clear hn
  go_enter Try.func43, Try.ntmps43
  go_wp2
  go_loop [4, 5] (fun a b => ∃ i : Nat, i ≤ tN k f ∧ a = .int .i64 ((i : Int) + 1) ∧ b = .int .i64 (linN (pw k f i).1 (pw k f i).2)) (fun a _ => 8 - (intOf a).toNat)
  case atStart => exact ⟨0, by omega, by go_num, by rw [E0.out]⟩
  case round =>
    obtain ⟨i, hi, rfl, rfl⟩ := hrel
    have Ti := Lib.hid (T.out i hi)
    have Ci := Lib.hid (C.out i)
    generalize linN (pw k f i).1 (pw k f i).2 = q at *
    generalize hq : linN (pw k f (i + 1)).1 (pw k f (i + 1)).2 = q' at *
    have Hq := Lib.hid hq
    clear hq
    by_cases h : i = tN k f
    · have f1 : (q == 0) = true := by simp [Ti.out.2 h]
      have f2 : (q != 0) = false := by simp [Ti.out.2 h]
      have H := Lib.hid h
      clear h
      go_wp2
      go_ret2
      exact ⟨by rw [H.out]; rfl, Below.refl _ _⟩
    · have hq0 : ¬ q = 0 := fun e => h (Ti.out.1 e)
      have f1 : (q == 0) = false := by simpa using hq0
      have f2 : (q != 0) = true := by simpa using hq0
      have hlt : i < tN k f := by omega
      clear h hq0
      go_wp2_with fail
      refine (Ci.out _).mono ?_
      rintro e w0 ⟨rfl, rfl⟩
      go_wp2
      go_round
      case rel => exact ⟨i + 1, by omega, by go_num, by rw [Hq.out]⟩
      case measure => simp [intOf]; omega
end Go.Proofs.Ytjomgjlicfoehaa
