import Derived.Test.YtcbhbojplcddkaaGreatDoorZFdP
import Derived.Test.YtcbhbojplcddkaaGreatDoorZFdH
namespace Go.Proofs.YtcbhbojplcddkaaGreatDoor
open Go.RowKit Go.RowBits
set_option linter.unusedSimpArgs false
set_option linter.unusedVariables false

/-! ### A field, whatever keeps its cells -/
/-- Only blocks from B up to E are other ones. -/
structure Only (B E : Nat) (W W' : World) : Prop where
  os : W'.os = W.os
  tape : W'.tape = W.tape
  output : W'.output = W.output
  size : W.heap.size ≤ W'.heap.size
  block : ∀ k, k < W.heap.size → (k < B ∨ E ≤ k) → W'.heap[k]? = W.heap[k]?
theorem Only.refl (B E : Nat) (W : World) : Only B E W W := ⟨rfl, rfl, rfl, Nat.le_refl _, fun _ _ _ => rfl⟩
theorem Only.trans {B E : Nat} {W W' W'' : World} (h : Only B E W W') (k : Only B E W' W'') : Only B E W W'' :=
  ⟨k.os.trans h.os, k.tape.trans h.tape, k.output.trans h.output, Nat.le_trans h.size k.size, fun i hi he => (k.block i (Nat.lt_of_lt_of_le hi h.size) he).trans (h.block i hi he)⟩
theorem Only.of_below {B E : Nat} {W W' : World} (h : Below W.heap.size W W') : Only B E W W' := ⟨h.os, h.tape, h.output, h.size, fun k hk _ => h.block k hk⟩
theorem Only.of_grown {B E g : Nat} {W W' : World} (h : W.grownBy W' (some g)) (hg : B ≤ g ∧ g < E) : Only B E W W' :=
  ⟨h.os, h.tape, h.output, h.size, fun k hk he => h.block k hk (fun e => by injection e with e; omega)⟩
theorem Only.below {B E : Nat} {W W' : World} (h : Only B E W W') (hB : B ≤ W.heap.size) : Below B W W' := ⟨h.os, h.tape, h.output, h.size, fun k hk => h.block k (Nat.lt_of_lt_of_le hk hB) (.inl hk)⟩
theorem Only.wider {B E B' E' : Nat} {W W' : World} (h : Only B E W W') (hB : B' ≤ B) (hE : E ≤ E') : Only B' E' W W' := ⟨h.os, h.tape, h.output, h.size, fun k hk he => h.block k hk (by omega)⟩
theorem YBlk.only {B E : Nat} {W W' : World} {g : Nat} {l : List Nat} (h : YBlk W g l) (ho : Only B E W W') (hg : g < B ∨ E ≤ g) : YBlk W' g l := (ho.block g h.lt hg).trans h
theorem WBlk.only {B E : Nat} {W W' : World} {g : Nat} {l : List Nat} (h : WBlk W g l) (ho : Only B E W W') (hg : g < B ∨ E ≤ g) : WBlk W' g l := (ho.block g h.lt hg).trans h
/-- What a store keeps: by bytes. -/
def KeepY (B E w h : Nat) (u : Value) (gs : Nat → Nat) (c : Nat → Nat → Nat) (W : World) : Prop :=
  ∃ gr cap cells cs, u = .agg #[.slice (some ⟨gr, 0, none⟩) h cap] ∧ cells.length = h ∧ StY B W gr cap w cells gs cs ∧ (gr < E ∧ ∀ y, y < h → gs y < E) ∧ ∀ y x, y < h → x < w → (cells.getD y []).getD x 0 = c y x
/-- by bits. -/
def KeepW (B E w h : Nat) (u : Value) (gs : Nat → Nat) (c : Nat → Nat → Nat) (W : World) : Prop :=
  ∃ gr cap ws cs, u = .agg #[.slice (some ⟨gr, 0, none⟩) h cap] ∧ ws.length = h ∧ StW B W gr cap w ws gs cs ∧ (gr < E ∧ ∀ y, y < h → gs y < E) ∧ ∀ y x, y < h → x < w → (bitw (ws.getD y []) x).toNat = c y x
section
variable {B E w h : Nat} {u : Value} {gs : Nat → Nat} {c : Nat → Nat → Nat} {W W' : World}
theorem KeepY.kept (k : KeepY B E w h u gs c W) (hb : Below W.heap.size W W') : KeepY B E w h u gs c W' := by
  obtain ⟨gr, cap, cells, cs, e1, e2, h1, h2, h3⟩ := k
  exact ⟨gr, cap, cells, cs, e1, e2, h1.kept hb, h2, h3⟩
theorem KeepW.kept (k : KeepW B E w h u gs c W) (hb : Below W.heap.size W W') : KeepW B E w h u gs c W' := by
  obtain ⟨gr, cap, cells, cs, e1, e2, h1, h2, h3⟩ := k
  exact ⟨gr, cap, cells, cs, e1, e2, h1.kept hb, h2, h3⟩
theorem KeepY.lower {B' E' : Nat} (k : KeepY B E w h u gs c W) (hB : B' ≤ B) (hE : E ≤ E') : KeepY B' E' w h u gs c W := by
  obtain ⟨gr, cap, cells, cs, e1, e2, h1, h2, h3⟩ := k
  exact ⟨gr, cap, cells, cs, e1, e2, h1.lower hB, ⟨by omega, fun y hy => by have := h2.2 y hy; omega⟩, h3⟩
theorem KeepW.lower {B' E' : Nat} (k : KeepW B E w h u gs c W) (hB : B' ≤ B) (hE : E ≤ E') : KeepW B' E' w h u gs c W := by
  obtain ⟨gr, cap, cells, cs, e1, e2, h1, h2, h3⟩ := k
  exact ⟨gr, cap, cells, cs, e1, e2, h1.lower hB, ⟨by omega, fun y hy => by have := h2.2 y hy; omega⟩, h3⟩
theorem KeepY.congr {c' : Nat → Nat → Nat} (k : KeepY B E w h u gs c W) (hc : ∀ y x, y < h → x < w → c y x = c' y x) : KeepY B E w h u gs c' W := by
  obtain ⟨gr, cap, cells, cs, e1, e2, h1, h2, h3⟩ := k
  exact ⟨gr, cap, cells, cs, e1, e2, h1, h2, fun y x hy hx => (h3 y x hy hx).trans (hc y x hy hx)⟩
theorem KeepW.congr {c' : Nat → Nat → Nat} (k : KeepW B E w h u gs c W) (hc : ∀ y x, y < h → x < w → c y x = c' y x) : KeepW B E w h u gs c' W := by
  obtain ⟨gr, cap, cells, cs, e1, e2, h1, h2, h3⟩ := k
  exact ⟨gr, cap, cells, cs, e1, e2, h1, h2, fun y x hy hx => (h3 y x hy hx).trans (hc y x hy hx)⟩
theorem KeepY.get (k : KeepY B E w h u gs c W) {x y : Nat} (hx : x < w) (hy : y < h) : Calls Tryz.prog 118 #[u, .int .i64 (x : Int), .int .i64 (y : Int)] W fun e w' => e = .returned (.int .u8 ((c y x : Nat) : Int)) ∧ Below W.heap.size W w' := by
  obtain ⟨gr, cap, cells, cs, rfl, rfl, h1, h2, h3⟩ := k
  rw [← h3 y x hy hx]
  exact get104 h1 hx hy
theorem KeepW.get (k : KeepW B E w h u gs c W) (hw : w ≤ 65536) (hh : h ≤ 65536) {x y : Nat} (hx : x < w) (hy : y < h) : Calls Tryz.prog 114 #[u, .int .i64 (x : Int), .int .i64 (y : Int)] W fun e w' => e = .returned (.int .u8 ((c y x : Nat) : Int)) ∧ Below W.heap.size W w' := by
  obtain ⟨gr, cap, cells, cs, rfl, rfl, h1, h2, h3⟩ := k
  rw [← h3 y x hy hx]
  exact get100 h1 hx hw hy hh
theorem KeepY.set (k : KeepY B E w h u gs c W) {x y s : Nat} (hx : x < w) (hy : y < h) : Calls Tryz.prog 119 #[u, .int .i64 (x : Int), .int .i64 (y : Int), .int .u8 (s : Int)] W fun e w' => (∃ v, e = .returned v) ∧ KeepY B E w h u gs (upd c y x s) w' ∧ W.grownBy w' (some (gs y)) := by
  obtain ⟨gr, cap, cells, cs, rfl, rfl, h1, h2, h3⟩ := k
  refine (set105 h1 hx hy).mono ?_
  rintro e w' ⟨q1, q2, q3⟩
  refine ⟨q1, ⟨gr, cap, setAt cells x y s, cs, rfl, setAt_len _ _ _ _, q2, h2, fun y' x' hy' hx' => ?_⟩, q3⟩
  rw [setAt_get _ _ _ hy']
  have hl := h1.len hy
  unfold upd
  by_cases e : y = y'
  · subst e
    rw [if_pos rfl]
    by_cases e2 : x = x'
    · subst e2
      rw [if_pos ⟨rfl, rfl⟩, getD_set_self (by omega)]
    · rw [if_neg (by omega), Go.RowBits.getD_set_ne e2, h3 y x' hy' hx']
  · rw [if_neg e, if_neg (by omega), h3 y' x' hy' hx']
theorem KeepW.set (k : KeepW B E w h u gs c W) (hw : w ≤ 65536) (hh : h ≤ 65536) {x y s : Nat} (hx : x < w) (hy : y < h) (hs : s < 2) : Calls Tryz.prog 115 #[u, .int .i64 (x : Int), .int .i64 (y : Int), .int .u8 (s : Int)] W fun e w' => (∃ v, e = .returned v) ∧ KeepW B E w h u gs (upd c y x s) w' ∧ W.grownBy w' (some (gs y)) := by
  obtain ⟨gr, cap, cells, cs, rfl, rfl, h1, h2, h3⟩ := k
  refine (set101 h1 hx hw hy hh hs).mono ?_
  rintro e w' ⟨q1, q2, q3⟩
  refine ⟨q1, ⟨gr, cap, setBits cells x y s, cs, rfl, setBits_len _ _ _ _, q2, h2, fun y' x' hy' hx' => ?_⟩, q3⟩
  rw [setBits_get _ _ _ hy']
  unfold upd
  by_cases e : y = y'
  · subst e
    rw [if_pos rfl, (setRow_good (h1.good y hy') hx hs).2 x' hx']
    by_cases e2 : x' = x
    · subst e2
      rw [if_pos rfl, if_pos ⟨rfl, rfl⟩]
      obtain rfl | rfl : s = 0 ∨ s = 1 := by omega
      · rfl
      · rfl
    · rw [if_neg e2, if_neg (by omega), h3 y x' hy' hx']
  · rw [if_neg e, if_neg (by omega), h3 y' x' hy' hx']
theorem KeepY.same (k : KeepY B E w h u gs c W) (hb : ∀ g, B ≤ g → g < E → g < W.heap.size → W'.heap[g]? = W.heap[g]?) : KeepY B E w h u gs c W' := by
  obtain ⟨gr, cap, cells, cs, e1, e2, h1, h2, h3⟩ := k
  subst e2
  refine ⟨gr, cap, cells, cs, e1, rfl, ⟨⟨h1.rows.1, ?_⟩, fun y hy => ⟨(h1.row y hy).1, ?_⟩, h1.sep, h1.pos⟩, h2, h3⟩
  · rcases h1.rows.2 with h0 | ⟨g, cp, cur, q1, q2, q3, q4⟩
    · exact .inl h0
    · injection q1 with e1 e2 e3
      injection e1 with e1
      injection e1 with e1 e4
      subst e1
      exact .inr ⟨gr, cp, cur, by rw [e3], q2, (hb gr q2 h2.1 (Array.getElem?_eq_some_iff.1 q3).1).trans q3, q4⟩
  · rcases (h1.row y hy).2 with h0 | ⟨g, cp, cur, q1, q2, q3, q4⟩
    · exact .inl h0
    · injection q1 with e1 e2 e3
      injection e1 with e1
      injection e1 with e1 e4
      subst e1
      exact .inr ⟨gs y, cp, cur, by rw [e3], q2, (hb _ q2 (h2.2 y hy) (Array.getElem?_eq_some_iff.1 q3).1).trans q3, q4⟩
theorem KeepW.same (k : KeepW B E w h u gs c W) (hb : ∀ g, B ≤ g → g < E → g < W.heap.size → W'.heap[g]? = W.heap[g]?) : KeepW B E w h u gs c W' := by
  obtain ⟨gr, cap, cells, cs, e1, e2, h1, h2, h3⟩ := k
  subst e2
  refine ⟨gr, cap, cells, cs, e1, rfl, ⟨⟨h1.rows.1, ?_⟩, fun y hy => ⟨(h1.row y hy).1, ?_⟩, h1.good, h1.sep, h1.pos⟩, h2, h3⟩
  · rcases h1.rows.2 with h0 | ⟨g, cp, cur, q1, q2, q3, q4⟩
    · exact .inl h0
    · injection q1 with e1 e2 e3
      injection e1 with e1
      injection e1 with e1 e4
      subst e1
      exact .inr ⟨gr, cp, cur, by rw [e3], q2, (hb gr q2 h2.1 (Array.getElem?_eq_some_iff.1 q3).1).trans q3, q4⟩
  · rcases (h1.row y hy).2 with h0 | ⟨g, cp, cur, q1, q2, q3, q4⟩
    · exact .inl h0
    · injection q1 with e1 e2 e3
      injection e1 with e1
      injection e1 with e1 e4
      subst e1
      exact .inr ⟨gs y, cp, cur, by rw [e3], q2, (hb _ q2 (h2.2 y hy) (Array.getElem?_eq_some_iff.1 q3).1).trans q3, q4⟩
theorem KeepY.only {B' E' : Nat} (k : KeepY B E w h u gs c W) (ho : Only B' E' W W') (hd : E ≤ B' ∨ E' ≤ B) : KeepY B E w h u gs c W' := k.same fun g q1 q2 q3 => ho.block g q3 (by omega)
theorem KeepW.only {B' E' : Nat} (k : KeepW B E w h u gs c W) (ho : Only B' E' W W') (hd : E ≤ B' ∨ E' ≤ B) : KeepW B E w h u gs c W' := k.same fun g q1 q2 q3 => ho.block g q3 (by omega)
end
/-- A field: its block fb, its sides, how many states, whether packed, its cells; all its blocks from B up to E. -/
structure Fld (B E : Nat) (W : World) (fb w h s : Nat) (pk : Bool) (c : Nat → Nat → Nat) : Prop where
  side : (1 ≤ w ∧ w ≤ 65536) ∧ (1 ≤ h ∧ h ≤ 65536) ∧ (2 ≤ s ∧ s ≤ 256) ∧ w * h ≤ 1048576
  lies : B ≤ fb ∧ fb < E ∧ E ≤ W.heap.size
  keeps : (pk = false ∧ ∃ u gs, FBlk W fb w h s pk 151 u ∧ KeepY B E w h u gs c W) ∨ (pk = true ∧ s = 2 ∧ ∃ u gs, FBlk W fb w h s pk 147 u ∧ KeepW B E w h u gs c W)
  low : ∀ y x, y < h → x < w → c y x < s
section
variable {B E : Nat} {W W' : World} {fb w h s : Nat} {pk : Bool} {c : Nat → Nat → Nat}
theorem Fld.kept (f : Fld B E W fb w h s pk c) (hb : Below W.heap.size W W') : Fld B E W' fb w h s pk c := by
  refine ⟨f.side, ⟨f.lies.1, f.lies.2.1, Nat.le_trans f.lies.2.2 hb.size⟩, ?_, f.low⟩
  rcases f.keeps with ⟨h1, u, gs, h2, h3⟩ | ⟨h1, h0, u, gs, h2, h3⟩
  · exact .inl ⟨h1, u, gs, h2.kept hb, h3.kept hb⟩
  · exact .inr ⟨h1, h0, u, gs, h2.kept hb, h3.kept hb⟩
theorem Fld.only {B' E' : Nat} (f : Fld B E W fb w h s pk c) (ho : Only B' E' W W') (hd : E ≤ B' ∨ E' ≤ B) : Fld B E W' fb w h s pk c := by
  obtain ⟨l1, l2, l3⟩ := f.lies
  refine ⟨f.side, ⟨l1, l2, Nat.le_trans l3 ho.size⟩, ?_, f.low⟩
  rcases f.keeps with ⟨h1, u, gs, h2, h3⟩ | ⟨h1, h0, u, gs, h2, h3⟩
  · exact .inl ⟨h1, u, gs, (ho.block fb h2.lt (by omega)).trans h2, h3.only ho hd⟩
  · exact .inr ⟨h1, h0, u, gs, (ho.block fb h2.lt (by omega)).trans h2, h3.only ho hd⟩
theorem Fld.same (f : Fld B E W fb w h s pk c) (hb : ∀ g, B ≤ g → g < E → g < W.heap.size → W'.heap[g]? = W.heap[g]?) (hz : W.heap.size ≤ W'.heap.size) : Fld B E W' fb w h s pk c := by
  obtain ⟨l1, l2, l3⟩ := f.lies
  refine ⟨f.side, ⟨l1, l2, Nat.le_trans l3 hz⟩, ?_, f.low⟩
  rcases f.keeps with ⟨h1, u, gs, h2, h3⟩ | ⟨h1, h0, u, gs, h2, h3⟩
  · exact .inl ⟨h1, u, gs, (hb fb l1 l2 h2.lt).trans h2, h3.same hb⟩
  · exact .inr ⟨h1, h0, u, gs, (hb fb l1 l2 h2.lt).trans h2, h3.same hb⟩
theorem Fld.congr {c' : Nat → Nat → Nat} (f : Fld B E W fb w h s pk c) (hc : ∀ y x, y < h → x < w → c y x = c' y x) : Fld B E W fb w h s pk c' := by
  refine ⟨f.side, f.lies, ?_, fun y x hy hx => by rw [← hc y x hy hx]; exact f.low y x hy hx⟩
  rcases f.keeps with ⟨h1, u, gs, h2, h3⟩ | ⟨h1, h0, u, gs, h2, h3⟩
  · exact .inl ⟨h1, u, gs, h2, h3.congr hc⟩
  · exact .inr ⟨h1, h0, u, gs, h2, h3.congr hc⟩
theorem Fld.blk (f : Fld B E W fb w h s pk c) : ∃ T u, FBlk W fb w h s pk T u := by
  rcases f.keeps with ⟨h1, u, gs, h2, h3⟩ | ⟨h1, h0, u, gs, h2, h3⟩
  · exact ⟨_, _, h2⟩
  · exact ⟨_, _, h2⟩
theorem Fld.isnone (f : Fld B E W fb w h s pk c) : Calls Tryz.prog 32 #[.pointer (some ⟨fb, 0, none⟩)] W fun e w' => e = .returned (.bool false) ∧ w' = W := by
  obtain ⟨T, u, hf⟩ := f.blk
  exact none33 hf
theorem Fld.wide (f : Fld B E W fb w h s pk c) : Calls Tryz.prog 40 #[.pointer (some ⟨fb, 0, none⟩)] W fun e w' => e = .returned (.int .i64 (w : Int)) ∧ w' = W := by
  obtain ⟨T, u, hf⟩ := f.blk
  exact w37 hf
theorem Fld.high (f : Fld B E W fb w h s pk c) : Calls Tryz.prog 42 #[.pointer (some ⟨fb, 0, none⟩)] W fun e w' => e = .returned (.int .i64 (h : Int)) ∧ w' = W := by
  obtain ⟨T, u, hf⟩ := f.blk
  exact h39 hf
theorem Fld.count (f : Fld B E W fb w h s pk c) : Calls Tryz.prog 43 #[.pointer (some ⟨fb, 0, none⟩)] W fun e w' => e = .returned (.int .i64 (s : Int)) ∧ w' = W := by
  obtain ⟨T, u, hf⟩ := f.blk
  exact states40 hf
theorem Fld.bits (f : Fld B E W fb w h s pk c) : Calls Tryz.prog 8 #[.pointer (some ⟨fb, 0, none⟩)] W fun e w' => e = .returned (.bool pk) ∧ w' = W := by
  obtain ⟨T, u, hf⟩ := f.blk
  exact packed14 hf
def GetPost (W : World) (w h : Nat) (c : Nat → Nat → Nat) (x y : Int) (e : Ending) (w' : World) : Prop := ∃ v r : Int, e = .returned (gotV v r) ∧ (0 ≤ x ∧ x < (w : Int) ∧ 0 ≤ y ∧ y < (h : Int) → v = ((c y.toNat x.toNat : Nat) : Int) ∧ r = 0) ∧ (¬ (0 ≤ x ∧ x < (w : Int) ∧ 0 ≤ y ∧ y < (h : Int)) → v = 0 ∧ r = 130) ∧ Below W.heap.size W w'
theorem Fld.get (f : Fld B E W fb w h s pk c) (x y : Int) : Calls Tryz.prog 69 #[.pointer (some ⟨fb, 0, none⟩), .int .i64 x, .int .i64 y] W (GetPost W w h c x y) := by
  by_cases hin : 0 ≤ x ∧ x < (w : Int) ∧ 0 ≤ y ∧ y < (h : Int)
  · have hb : hasB w h x y = true := by unfold hasB; exact decide_eq_true hin
    obtain ⟨a, rfl⟩ : ∃ a : Nat, x = (a : Int) := ⟨x.toNat, by omega⟩
    obtain ⟨b, rfl⟩ : ∃ b : Nat, y = (b : Int) := ⟨y.toNat, by omega⟩
    rcases f.keeps with ⟨h1, u, gs, h2, h3⟩ | ⟨h1, h0, u, gs, h2, h3⟩
    · refine (get61y h2 hb (fun W' hb' => (h3.kept hb').get (by omega) (by omega))).mono ?_
      rintro e w' ⟨rfl, hb'⟩
      exact ⟨_, _, rfl, fun _ => ⟨by simp, rfl⟩, fun hn => absurd hin hn, hb'⟩
    · refine (get61w h2 hb (fun W' hb' => (h3.kept hb').get f.side.1.2 f.side.2.1.2 (by omega) (by omega))).mono ?_
      rintro e w' ⟨rfl, hb'⟩
      exact ⟨_, _, rfl, fun _ => ⟨by simp, rfl⟩, fun hn => absurd hin hn, hb'⟩
  · have hb : hasB w h x y = false := by unfold hasB; exact decide_eq_false hin
    obtain ⟨T, u, hf⟩ := f.blk
    refine (get61off hf hb).mono ?_
    rintro e w' ⟨rfl, hb'⟩
    exact ⟨_, _, rfl, fun hi => absurd hi hin, fun _ => ⟨rfl, rfl⟩, hb'⟩
def LinePost (W : World) (w : Nat) (l : Nat → Nat) (e : Ending) (w' : World) : Prop := ∃ g, e = .returned (.tuple #[.slice (some ⟨g, 0, none⟩) w w, .int .i64 0]) ∧ W.heap.size ≤ g ∧ YBlk w' g ((List.range w).map l) ∧ Below W.heap.size W w'
theorem markY_all (c : Nat → Nat) (w : Nat) : markY c (List.replicate w 0) w = (List.range w).map c := by
  unfold markY
  rw [List.length_replicate]
  apply List.map_congr_left
  intro j hj
  rw [if_pos (List.mem_range.1 hj)]
theorem Fld.line (f : Fld B E W fb w h s pk c) {y : Nat} (hy : y < h) : Calls Tryz.prog 14 #[.pointer (some ⟨fb, 0, none⟩), .int .i64 (y : Int)] W (LinePost W w (c y)) := by
  rcases f.keeps with ⟨h1, u, gs, h2, h3⟩ | ⟨h1, h0, u, gs, h2, h3⟩
  · refine (line28y (c := c y) h2 f.side.1 hy (fun W' x hb hx => (h3.kept hb).get hx hy)).mono ?_
    rintro e w' ⟨g, rfl, q1, q2, q3⟩
    rw [markY_all] at q2
    exact ⟨g, rfl, q1, q2, q3⟩
  · refine (line28w (c := c y) h2 f.side.1 hy (fun W' x hb hx => (h3.kept hb).get f.side.1.2 f.side.2.1.2 hx hy)).mono ?_
    rintro e w' ⟨g, rfl, q1, q2, q3⟩
    rw [markY_all] at q2
    exact ⟨g, rfl, q1, q2, q3⟩
end
end Go.Proofs.YtcbhbojplcddkaaGreatDoor
namespace Go.Proofs.YtcbhbojplcddkaaGreatDoor
open Go.RowKit Go.RowBits
set_option linter.unusedSimpArgs false
set_option linter.unusedVariables false

/-! ### Set, Lay, Clone, New of a field, whatever keeps its cells -/
section
variable {B E : Nat} {W W' : World} {fb w h s : Nat} {pk : Bool} {c : Nat → Nat → Nat}
theorem upd_low {y x v : Nat} (hl : ∀ y x, y < h → x < w → c y x < s) (hv : v < s) : ∀ y' x', y' < h → x' < w → upd c y x v y' x' < s := fun y' x' hy hx => by
  unfold upd
  split
  · exact hv
  · exact hl y' x' hy hx
theorem updK_low {y k : Nat} {l : List Nat} (hl : ∀ y x, y < h → x < w → c y x < s) (hv : ∀ j, l.getD j 0 < s) : ∀ y' x', y' < h → x' < w → updK c y l k y' x' < s := fun y' x' hy hx => by
  unfold updK
  split
  · exact hv x'
  · exact hl y' x' hy hx
def SetPost (B E : Nat) (W : World) (fb w h s : Nat) (pk : Bool) (c : Nat → Nat → Nat) (x y : Int) (v : Nat) (e : Ending) (w' : World) : Prop :=
  (∃ r : Int, e = .returned (.int .i64 r)) ∧ (∃ c', Fld B E w' fb w h s pk c' ∧ ((0 ≤ x ∧ x < (w : Int) ∧ 0 ≤ y ∧ y < (h : Int)) ∧ v < s → e = .returned (.int .i64 0) ∧ c' = upd c y.toNat x.toNat v)) ∧ Only B E W w'
theorem Fld.grown (f : Fld B E W fb w h s pk c) {g : Nat} {u u' : Value} {T : TypeId} (hg : W.grownBy W' (some g)) (hf : FBlk W fb w h s pk T u) (hne : fb ≠ g) : FBlk W' fb w h s pk T u := hf.grown hg hne
theorem Fld.set (f : Fld B E W fb w h s pk c) (x y : Int) {v : Nat} (hv8 : v < 256) : Calls Tryz.prog 19 #[.pointer (some ⟨fb, 0, none⟩), .int .i64 x, .int .i64 y, .int .u8 (v : Int)] W (SetPost B E W fb w h s pk c x y v) := by
  obtain ⟨l1, l2, l3⟩ := f.lies
  by_cases hin : 0 ≤ x ∧ x < (w : Int) ∧ 0 ≤ y ∧ y < (h : Int)
  · have hb : hasB w h x y = true := by unfold hasB; exact decide_eq_true hin
    by_cases hv : v < s
    · obtain ⟨a, rfl⟩ : ∃ a : Nat, x = (a : Int) := ⟨x.toNat, by omega⟩
      obtain ⟨b, rfl⟩ : ∃ b : Nat, y = (b : Int) := ⟨y.toNat, by omega⟩
      rcases f.keeps with ⟨h1, u, gs, h2, h3⟩ | ⟨h1, h0, u, gs, h2, h3⟩
      · have hgs : ∀ W1, Below W.heap.size W W1 → B ≤ gs b ∧ gs b < E ∧ fb ≠ gs b := fun W1 hb' => by
          obtain ⟨gr, cap, cells, cs, _, e2, q1, q2, q3⟩ := h3
          obtain ⟨r1, _, cur, r2, _⟩ := own_slice (q1.row b (by omega))
          refine ⟨r1, q2.2 b (by omega), fun e => ?_⟩
          unfold FBlk at h2
          rw [e, r2] at h2
          injection h2 with h2
          injection h2 with _ h2 _
          cases h2
        refine (set32y (P := fun w' => ∃ c', Fld B E w' fb w h s pk c' ∧ c' = upd c b a v ∧ Only B E W w') h2 hb hv8 hv (fun W1 hb1 => ?_)).mono ?_
        · refine ((h3.kept hb1).set (by omega) (by omega)).mono ?_
          rintro e w' ⟨q1, q2, q3⟩
          obtain ⟨g1, g2, g3⟩ := hgs W1 hb1
          exact ⟨q1, _, ⟨f.side, ⟨l1, l2, Nat.le_trans (Nat.le_trans l3 hb1.size) q3.size⟩, .inl ⟨h1, u, gs, (h2.kept hb1).grown q3 g3, q2⟩, upd_low f.low hv⟩, rfl, (Only.of_below hb1).trans (Only.of_grown q3 ⟨g1, g2⟩)⟩
        · rintro e w' ⟨rfl, c', q1, q2, q3⟩
          exact ⟨⟨0, rfl⟩, ⟨c', q1, fun _ => ⟨rfl, by simpa using q2⟩⟩, q3⟩
      · have hgs : ∀ W1, Below W.heap.size W W1 → B ≤ gs b ∧ gs b < E ∧ fb ≠ gs b := fun W1 hb' => by
          obtain ⟨gr, cap, cells, cs, _, e2, q1, q2, q3⟩ := h3
          obtain ⟨r1, _, cur, r2, _⟩ := own_slice (q1.row b (by omega))
          refine ⟨r1, q2.2 b (by omega), fun e => ?_⟩
          unfold FBlk at h2
          rw [e, r2] at h2
          injection h2 with h2
          injection h2 with _ h2 _
          cases h2
        refine (set32w (P := fun w' => ∃ c', Fld B E w' fb w h s pk c' ∧ c' = upd c b a v ∧ Only B E W w') h2 hb hv8 hv (fun W1 hb1 => ?_)).mono ?_
        · refine ((h3.kept hb1).set f.side.1.2 f.side.2.1.2 (by omega) (by omega) (by omega)).mono ?_
          rintro e w' ⟨q1, q2, q3⟩
          obtain ⟨g1, g2, g3⟩ := hgs W1 hb1
          exact ⟨q1, _, ⟨f.side, ⟨l1, l2, Nat.le_trans (Nat.le_trans l3 hb1.size) q3.size⟩, .inr ⟨h1, h0, u, gs, (h2.kept hb1).grown q3 g3, q2⟩, upd_low f.low hv⟩, rfl, (Only.of_below hb1).trans (Only.of_grown q3 ⟨g1, g2⟩)⟩
        · rintro e w' ⟨rfl, c', q1, q2, q3⟩
          exact ⟨⟨0, rfl⟩, ⟨c', q1, fun _ => ⟨rfl, by simpa using q2⟩⟩, q3⟩
    · obtain ⟨T, u, hf⟩ := f.blk
      refine (set32bad hf hb hv8 (by omega)).mono ?_
      rintro e w' ⟨rfl, hb'⟩
      exact ⟨⟨7, rfl⟩, ⟨c, f.kept hb', fun q => absurd q.2 hv⟩, Only.of_below hb'⟩
  · have hb : hasB w h x y = false := by unfold hasB; exact decide_eq_false hin
    obtain ⟨T, u, hf⟩ := f.blk
    refine (set32off hf hb).mono ?_
    rintro e w' ⟨rfl, hb'⟩
    exact ⟨⟨130, rfl⟩, ⟨c, f.kept hb', fun q => absurd q.1 hin⟩, Only.of_below hb'⟩
def LayPost (B E : Nat) (W : World) (fb w h s : Nat) (pk : Bool) (c : Nat → Nat → Nat) (y : Nat) (l : List Nat) (e : Ending) (w' : World) : Prop :=
  e = .returned (.int .i64 0) ∧ Fld B E w' fb w h s pk (updK c y l w) ∧ Only B E W w'
theorem getD_lt {l : List Nat} {s : Nat} (hs : 0 < s) (h : ∀ j, j < l.length → l.getD j 0 < s) (j : Nat) : l.getD j 0 < s := by
  by_cases hj : j < l.length
  · exact h j hj
  · have : l.getD j 0 = 0 := by simp [List.getD, List.getElem?_eq_none (Nat.le_of_not_lt hj)]
    omega
theorem Fld.lay (f : Fld B E W fb w h s pk c) {y lb cap : Nat} {l : List Nat} (hy : y < h) (hY : YBlk W lb l) (hl : l.length = w) (hlt : ∀ j, j < l.length → l.getD j 0 < s) (hlb : E ≤ lb) :
    Calls Tryz.prog 11 #[.pointer (some ⟨fb, 0, none⟩), .int .i64 (y : Int), .slice (some ⟨lb, 0, none⟩) w cap] W (LayPost B E W fb w h s pk c y l) := by
  obtain ⟨l1, l2, l3⟩ := f.lies
  have hs := f.side.2.2.1
  rcases f.keeps with ⟨h1, u, gs, h2, h3⟩ | ⟨h1, h0, u, gs, h2, h3⟩
  · have hgs : B ≤ gs y ∧ gs y < E ∧ fb ≠ gs y := by
      obtain ⟨gr, cap, cells, cs, _, e2, q1, q2, q3⟩ := h3
      obtain ⟨r1, _, cur, r2, _⟩ := own_slice (q1.row y (by omega))
      refine ⟨r1, q2.2 y (by omega), fun e => ?_⟩
      unfold FBlk at h2
      rw [e, r2] at h2
      injection h2 with h2
      injection h2 with _ h2 _
      cases h2
    refine (lay25y (S := fun c W => KeepY B E w h u gs c W) h2 f.side.1 hs.2 hy (fun c W1 W2 q hb => q.kept hb) (fun c W1 x v q hx hv => q.set hx hy) h3 hY hl hlt hgs.2.2 (by omega)).mono ?_
    rintro e w' ⟨rfl, q1, q2⟩
    exact ⟨rfl, ⟨f.side, ⟨l1, l2, Nat.le_trans l3 q2.size⟩, .inl ⟨h1, u, gs, h2.grown q2 hgs.2.2, q1⟩, updK_low f.low (getD_lt (by omega) hlt)⟩, Only.of_grown q2 ⟨hgs.1, hgs.2.1⟩⟩
  · have hgs : B ≤ gs y ∧ gs y < E ∧ fb ≠ gs y := by
      obtain ⟨gr, cap, cells, cs, _, e2, q1, q2, q3⟩ := h3
      obtain ⟨r1, _, cur, r2, _⟩ := own_slice (q1.row y (by omega))
      refine ⟨r1, q2.2 y (by omega), fun e => ?_⟩
      unfold FBlk at h2
      rw [e, r2] at h2
      injection h2 with h2
      injection h2 with _ h2 _
      cases h2
    refine (lay25w (S := fun c W => KeepW B E w h u gs c W) h2 f.side.1 hs.2 hy (fun c W1 W2 q hb => q.kept hb) (fun c W1 x v q hx hv => q.set f.side.1.2 f.side.2.1.2 hx hy (by omega)) h3 hY hl hlt hgs.2.2 (by omega)).mono ?_
    rintro e w' ⟨rfl, q1, q2⟩
    exact ⟨rfl, ⟨f.side, ⟨l1, l2, Nat.le_trans l3 q2.size⟩, .inr ⟨h1, h0, u, gs, h2.grown q2 hgs.2.2, q1⟩, updK_low f.low (getD_lt (by omega) hlt)⟩, Only.of_grown q2 ⟨hgs.1, hgs.2.1⟩⟩
/-- A store's blocks are in the heap. -/
theorem StY.below {B gr cap w : Nat} {cells : List (List Nat)} {gs cs : Nat → Nat} (h : StY B W gr cap w cells gs cs) : gr < W.heap.size ∧ ∀ y, y < cells.length → gs y < W.heap.size := by
  obtain ⟨_, _, _, q, _⟩ := own_slice h.rows
  refine ⟨(Array.getElem?_eq_some_iff.1 q).1, fun y hy => ?_⟩
  obtain ⟨_, _, _, q, _⟩ := own_slice (h.row y hy)
  exact (Array.getElem?_eq_some_iff.1 q).1
theorem StW.below {B gr cap w : Nat} {cells : List (List Nat)} {gs cs : Nat → Nat} (h : StW B W gr cap w cells gs cs) : gr < W.heap.size ∧ ∀ y, y < cells.length → gs y < W.heap.size := by
  obtain ⟨_, _, _, q, _⟩ := own_slice h.rows
  refine ⟨(Array.getElem?_eq_some_iff.1 q).1, fun y hy => ?_⟩
  obtain ⟨_, _, _, q, _⟩ := own_slice (h.row y hy)
  exact (Array.getElem?_eq_some_iff.1 q).1
def ClonePost (W : World) (w h s : Nat) (pk : Bool) (c : Nat → Nat → Nat) (e : Ending) (w' : World) : Prop := ∃ fb', e = .returned (.pointer (some ⟨fb', 0, none⟩)) ∧ Fld W.heap.size w'.heap.size w' fb' w h s pk c ∧ Below W.heap.size W w'
theorem Fld.clone (f : Fld B E W fb w h s pk c) : Calls Tryz.prog 21 #[.pointer (some ⟨fb, 0, none⟩)] W (ClonePost W w h s pk c) := by
  rcases f.keeps with ⟨h1, u, gs, h2, h3⟩ | ⟨h1, h0, u, gs, h2, h3⟩
  · obtain ⟨gr, cap, cells, cs, rfl, e2, q1, q2, q3⟩ := h3
    subst e2
    refine (cloneY h2 q1 f.side.1.2 f.side.2.1.2).mono ?_
    rintro e w' ⟨fb', gr', gs', cs', rfl, r1, r2, r3, r4⟩
    exact ⟨fb', rfl, ⟨f.side, ⟨r1, r2.lt, Nat.le_refl _⟩, .inl ⟨h1, _, gs', r2, ⟨gr', _, cells, cs', rfl, rfl, r3, r3.below, q3⟩⟩, f.low⟩, r4⟩
  · obtain ⟨gr, cap, cells, cs, rfl, e2, q1, q2, q3⟩ := h3
    subst e2
    refine (cloneW h2 q1 f.side.1.2 f.side.2.1.2).mono ?_
    rintro e w' ⟨fb', gr', gs', cs', rfl, r1, r2, r3, r4⟩
    exact ⟨fb', rfl, ⟨f.side, ⟨r1, r2.lt, Nat.le_refl _⟩, .inr ⟨h1, h0, _, gs', r2, ⟨gr', _, cells, cs', rfl, rfl, r3, r3.below, q3⟩⟩, f.low⟩, r4⟩
theorem KeepY.zero {gr cap : Nat} {gs : Nat → Nat} (h1 : StY B W gr cap w (List.replicate h (List.replicate w 0)) gs (fun _ => w)) : KeepY B W.heap.size w h (.agg #[.slice (some ⟨gr, 0, none⟩) h cap]) gs (fun _ _ => 0) W := by
  refine ⟨gr, cap, _, _, rfl, by simp, h1, by simpa using h1.below, fun y x hy hx => ?_⟩
  simp [List.getD, hy, hx]
theorem KeepW.zero {gr cap : Nat} {gs : Nat → Nat} (h1 : StW B W gr cap w (List.replicate h (List.replicate ((w + 63) / 64) 0)) gs (fun _ => (w + 63) / 64)) : KeepW B W.heap.size w h (.agg #[.slice (some ⟨gr, 0, none⟩) h cap]) gs (fun _ _ => 0) W := by
  refine ⟨gr, cap, _, _, rfl, by simp, h1, by simpa using h1.below, fun y x hy hx => ?_⟩
  have : (List.replicate h (List.replicate ((w + 63) / 64) 0)).getD y [] = List.replicate ((w + 63) / 64) 0 := by simp [List.getD, hy]
  rw [this]
  have hx2 : x / 64 < (w + 63) / 64 := by omega
  unfold bitw
  have e0 : (List.replicate ((w + 63) / 64) 0).getD (x / 64) 0 = 0 := by simp [List.getD, List.getElem?_replicate, hx2]
  rw [e0]
  simp
end
def NewFld (W : World) (w h s : Nat) (pk : Bool) (e : Ending) (w' : World) : Prop := ∃ fb', e = .returned (.tuple #[.pointer (some ⟨fb', 0, none⟩), .int .i64 0]) ∧ Fld W.heap.size w'.heap.size w' fb' w h s pk (fun _ _ => 0) ∧ Below W.heap.size W w'
theorem new_fld {w h s : Nat} {pk : Bool} (hok : newOk (w : Int) (h : Int) (s : Int)) (hwh : w * h ≤ 1048576) (hpk : pk = true → s ≤ 2) (W : World) :
    Calls Tryz.prog 10 #[.int .i64 (w : Int), .int .i64 (h : Int), .int .i64 (s : Int), .bool pk] W (NewFld W w h s pk) := by
  obtain ⟨n0, n1, n2, n3, n4, n5⟩ := hok
  cases pk with
  | false =>
    refine (new27y (P := fun u W' => ∃ gs E, E ≤ W'.heap.size ∧ KeepY W.heap.size E w h u gs (fun _ _ => 0) W') ⟨n0, n1, n2, n3, n4, n5⟩ hwh W (fun W' hz => ?_) ?_).mono ?_
    · refine (fresh41y (by omega) (by omega) W').mono ?_
      rintro e w' ⟨gr, cap, gs, rfl, q1, q2⟩
      exact ⟨_, rfl, ⟨gs, _, Nat.le_refl _, (KeepY.zero q1).lower hz (Nat.le_refl _)⟩, q2⟩
    · rintro u' W1 W2 ⟨gs, E, q1, q2⟩ hb
      exact ⟨gs, E, Nat.le_trans q1 hb.size, q2.kept hb⟩
    · rintro e w' ⟨fb', u', rfl, r1, r2, ⟨gs, E, q1, q2⟩, r4⟩
      exact ⟨fb', rfl, ⟨⟨by omega, by omega, by omega, hwh⟩, ⟨r1, r2.lt, Nat.le_refl _⟩, .inl ⟨rfl, u', gs, r2, q2.lower (Nat.le_refl _) q1⟩, fun _ _ _ _ => by omega⟩, r4⟩
  | true =>
    have hs2 := hpk rfl
    refine (new27w (P := fun u W' => ∃ gs E, E ≤ W'.heap.size ∧ KeepW W.heap.size E w h u gs (fun _ _ => 0) W') ⟨n0, n1, n2, n3, n4, n5⟩ hwh hs2 W (fun W' hz => ?_) ?_).mono ?_
    · refine (fresh41w (by omega) (by omega) W').mono ?_
      rintro e w' ⟨gr, cap, gs, rfl, q1, q2⟩
      exact ⟨_, rfl, ⟨gs, _, Nat.le_refl _, (KeepW.zero q1).lower hz (Nat.le_refl _)⟩, q2⟩
    · rintro u' W1 W2 ⟨gs, E, q1, q2⟩ hb
      exact ⟨gs, E, Nat.le_trans q1 hb.size, q2.kept hb⟩
    · rintro e w' ⟨fb', u', rfl, r1, r2, ⟨gs, E, q1, q2⟩, r4⟩
      exact ⟨fb', rfl, ⟨⟨by omega, by omega, by omega, hwh⟩, ⟨r1, r2.lt, Nat.le_refl _⟩, .inr ⟨rfl, by omega, u', gs, r2, q2.lower (Nat.le_refl _) q1⟩, fun _ _ _ _ => by omega⟩, r4⟩
end Go.Proofs.YtcbhbojplcddkaaGreatDoor
