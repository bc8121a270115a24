import Derived.Test.YtcbhbojplcddkaaGreatDoorZGdG1
import Derived.Test.YtcbhbojplcddkaaGreatDoorZGdG2
import Derived.Test.YtcbhbojplcddkaaGreatDoorZGdG3
import Derived.Test.YtcbhbojplcddkaaGreatDoorZGdG4
import Derived.Test.YtcbhbojplcddkaaGreatDoorZGdG5
import Derived.Laws.CopyOwn
import Derived.Laws.EntriesVeiled
namespace Go.Proofs.YtcbhbojplcddkaaGreatDoor
open Go.RowKit Go.RowBits
set_option linter.unusedSimpArgs false
set_option linter.unusedVariables false

/-! ### fold.Ring of any topology -/
def ringP (k W H tn sh x y : Int) : Int × Int := if k = 1 then (x, y) else if k = 2 then torusF W H tn sh x y else if k = 3 then kleinF W H tn sh x y else if k = 4 then crossF W H x y else sphereF W x y
def ringB (k W H x y : Int) : Bool := if k = 1 then onB x W && onB y H else true
theorem ringP_bd {k W H tn sh x y : Int} (W1 : 1 ≤ W) (W2 : W ≤ 65536) (H1 : 1 ≤ H) (H2 : H ≤ 65536) (x1 : -1 ≤ x) (x2 : x ≤ W) (y1 : -1 ≤ y) (y2 : y ≤ H) (hk : k = 5 → W = H) :
    -65537 ≤ (ringP k W H tn sh x y).1 ∧ (ringP k W H tn sh x y).1 ≤ 131073 ∧ -65537 ≤ (ringP k W H tn sh x y).2 ∧ (ringP k W H tn sh x y).2 ≤ 131073 := by
  have mW : ∀ a : Int, 0 ≤ a % W ∧ a % W < W := fun a => ⟨Int.emod_nonneg a (by omega), Int.emod_lt_of_pos a (by omega)⟩
  have mH : ∀ a : Int, 0 ≤ a % H ∧ a % H < H := fun a => ⟨Int.emod_nonneg a (by omega), Int.emod_lt_of_pos a (by omega)⟩
  unfold ringP
  split
  · dsimp only; omega
  split
  · unfold torusF
    split
    · have := mW (x - y / H * sh); have := mH y; dsimp only; omega
    split
    · have := mW x; have := mH (y - x / W * sh); dsimp only; omega
    · have := mW x; have := mH y; dsimp only; omega
  split
  · unfold kleinF
    split
    · have := mW (W - 1 - x + sh); have := mH y; dsimp only; omega
    split
    · have := mW x; have := mH (H - 1 - y + sh); dsimp only; omega
    · have := mW x; have := mH y; dsimp only; omega
  split
  · unfold crossF
    have := mW x
    have := mH y
    dsimp only
    split <;> split <;> omega
  · unfold sphereF
    repeat' split
    all_goals (dsimp only; omega)
theorem ring60 {k W H tn sh x y : Int} (ht : 0 ≤ tn) (hok : TopoOk k W H tn sh) (W1 : 1 ≤ W) (H1 : 1 ≤ H) (x1 : -1 ≤ x) (x2 : x ≤ W) (y1 : -1 ≤ y) (y2 : y ≤ H) (w : World) :
    Calls Tryz.prog 68 #[topoV k W H tn sh, ptV (x - W / 2) (y - H / 2)] w (RingPost w W H (ringP k W H tn sh x y) (ringB k W H x y)) := by
  have hok0 := hok
  obtain ⟨⟨k1, k2⟩, ⟨_, W2, _, H2⟩, q5, q3, qn, qt, qk, q0, qs1, qs2, qz⟩ := hok
  have hbd := ringP_bd (k := k) (W := W) (H := H) (tn := tn) (sh := sh) (x := x) (y := y) W1 W2 H1 H2 x1 x2 y1 y2 q5
  have hs : -65536 ≤ sh ∧ sh ≤ 65536 := by
    rcases (show tn = 0 ∨ tn = 1 ∨ tn = 2 by omega) with rfl | rfl | rfl
    · have := q0 rfl; omega
    · have := qs1 rfl; omega
    · have := qs2 rfl; omega
  rcases (show k = 1 ∨ k = 2 ∨ k = 3 ∨ k = 4 ∨ k = 5 by omega) with rfl | rfl | rfl | rfl | rfl
  · exact ring60_1 ht hok0 W1 H1 x1 x2 y1 y2 hbd (fun w => flat71 W1 H1 w) w
  · refine ring60_2 ht hok0 W1 H1 x1 x2 y1 y2 hbd (fun w => ?_) w
    rcases (show tn = 0 ∨ tn = 1 ∨ tn = 2 by omega) with rfl | rfl | rfl
    · exact torus72_0 ⟨W1, W2⟩ ⟨H1, H2⟩ ⟨x1, x2⟩ ⟨y1, y2⟩ hs w
    · exact torus72_1 ⟨W1, W2⟩ ⟨H1, H2⟩ ⟨x1, x2⟩ ⟨y1, y2⟩ hs w
    · exact torus72_2 ⟨W1, W2⟩ ⟨H1, H2⟩ ⟨x1, x2⟩ ⟨y1, y2⟩ hs w
  · refine ring60_3 ht hok0 W1 H1 x1 x2 y1 y2 hbd (fun w => ?_) w
    rcases (show tn = 1 ∨ tn = 2 by have := qk rfl; omega) with rfl | rfl
    · rcases Int.emod_two_eq (y / H) with q | q
      · exact klein73_10 ⟨W1, W2⟩ ⟨H1, H2⟩ ⟨x1, x2⟩ ⟨y1, y2⟩ hs q w
      · exact klein73_11 ⟨W1, W2⟩ ⟨H1, H2⟩ ⟨x1, x2⟩ ⟨y1, y2⟩ hs q w
    · rcases Int.emod_two_eq (x / W) with q | q
      · exact klein73_20 ⟨W1, W2⟩ ⟨H1, H2⟩ ⟨x1, x2⟩ ⟨y1, y2⟩ hs q w
      · exact klein73_21 ⟨W1, W2⟩ ⟨H1, H2⟩ ⟨x1, x2⟩ ⟨y1, y2⟩ hs q w
  · refine ring60_4 ht hok0 W1 H1 x1 x2 y1 y2 hbd (fun w => ?_) w
    rcases Int.emod_two_eq (y / H) with q | q <;> rcases Int.emod_two_eq (x / W) with q' | q'
    · exact cross74_00 ⟨W1, W2⟩ ⟨H1, H2⟩ ⟨x1, x2⟩ ⟨y1, y2⟩ hs q q' w
    · exact cross74_01 ⟨W1, W2⟩ ⟨H1, H2⟩ ⟨x1, x2⟩ ⟨y1, y2⟩ hs q q' w
    · exact cross74_10 ⟨W1, W2⟩ ⟨H1, H2⟩ ⟨x1, x2⟩ ⟨y1, y2⟩ hs q q' w
    · exact cross74_11 ⟨W1, W2⟩ ⟨H1, H2⟩ ⟨x1, x2⟩ ⟨y1, y2⟩ hs q q' w
  · obtain rfl : W = H := q5 rfl
    refine ring60_5 ht hok0 W1 H1 x1 x2 y1 y2 hbd (fun w => ?_) w
    rcases (show x = -1 ∨ x = W ∨ (0 ≤ x ∧ x < W) by omega) with rfl | hx | ⟨u1, u2⟩ <;> rcases (show y = -1 ∨ y = W ∨ (0 ≤ y ∧ y < W) by omega) with rfl | hy | ⟨v1, v2⟩
    · exact sphere75_ll W1 W2 w
    · rw [hy]; exact sphere75_lh W1 W2 w
    · exact sphere75_lm W1 W2 v1 v2 w
    · rw [hx]; exact sphere75_hl W1 W2 w
    · rw [hx, hy]; exact sphere75_hh W1 W2 w
    · rw [hx]; exact sphere75_hm W1 W2 v1 v2 w
    · exact sphere75_ml W1 W2 u1 u2 w
    · rw [hy]; exact sphere75_mh W1 W2 u1 u2 w
    · exact sphere75_mm W1 W2 u1 u2 v1 v2 w
end Go.Proofs.YtcbhbojplcddkaaGreatDoor
namespace Go.Proofs.YtcbhbojplcddkaaGreatDoor
open Go.RowKit Go.RowBits
set_option linter.unusedSimpArgs false
set_option linter.unusedVariables false

/-! ### ring.frame: what it holds -/
def cellI (w h : Nat) (c : Nat → Nat → Nat) (x y : Int) : Nat := if 0 ≤ x ∧ x < (w : Int) ∧ 0 ≤ y ∧ y < (h : Int) then c y.toNat x.toNat else 0
def frameB (k tn sh : Int) (w h : Nat) (c : Nat → Nat → Nat) (x y : Int) : Bool :=
  if 0 ≤ x ∧ x < (w : Int) ∧ 0 ≤ y ∧ y < (h : Int) then decide (c y.toNat x.toNat ≠ 0)
  else if ringB k w h x y then decide (cellI w h c (ringP k w h tn sh x y).1 (ringP k w h tn sh x y).2 ≠ 0) else false
/-- The frame, one line behind the other. -/
def frameAt (k tn sh : Int) (w h : Nat) (c : Nat → Nat → Nat) (i : Nat) : Bool := frameB k tn sh w h c (((i % (w + 2) : Nat) : Int) - 1) (((i / (w + 2) : Nat) : Int) - 1)
def frameL (k tn sh : Int) (w h : Nat) (c : Nat → Nat → Nat) : List Bool := (List.range ((w + 2) * (h + 2))).map (frameAt k tn sh w h c)
theorem frameAt_at {k tn sh : Int} {w h : Nat} {c : Nat → Nat → Nat} {R q : Nat} (hq : q < w + 2) : frameAt k tn sh w h c (R * (w + 2) + q) = frameB k tn sh w h c ((q : Int) - 1) ((R : Int) - 1) := by
  unfold frameAt
  have e1 : (R * (w + 2) + q) % (w + 2) = q := by rw [Nat.add_comm, Nat.add_mul_mod_self_right, Nat.mod_eq_of_lt hq]
  have e2 : (R * (w + 2) + q) / (w + 2) = R := by rw [Nat.add_comm, Nat.add_mul_div_right _ _ (by omega), Nat.div_eq_of_lt hq]; omega
  rw [e1, e2]
theorem info4' : (Tryz.prog.info? 4).map (fun i => (i.zero, i.size, i.bytes)) = some (some (.bool false), 1, 1) := by kernel_rfl
theorem size4' : (Tryz.prog.info? 4).map (·.size) = some 1 := by kernel_rfl
theorem made_bools (m : Nat) : madeCells #[.bool false] m = ((List.replicate m false).map bv).toArray := by
  apply Array.ext'
  rw [toList_madeCells_one]
  simp [bv]
theorem BBlk.keptW {B : Nat} {w w' : World} {g : Nat} {ws : List Bool} (h : BBlk w g ws) (hb : Below B w w') (hg : g < B) : BBlk w' g ws := (hb.block g hg).trans h
theorem BBlk.new (w : World) (cs : Array Value) (ws : List Bool) (h : cs = (ws.map bv).toArray) : BBlk (w.alloc (.cells cs 4)) w.heap.size ws := by
  rw [h]
  exact heap_alloc_new w _
theorem setB_get {l : List Bool} {j i : Nat} {v : Bool} (hj : j < l.length) : (l.set j v).getD i false = if i = j then v else l.getD i false := by
  by_cases e : i = j
  · subst e; rw [if_pos rfl]; simp [List.getD, hj]
  · have : j ≠ i := fun q => e q.symm
    rw [if_neg e]; simp [List.getD, List.getElem?_set, this]
theorem extB {a b : List Bool} (hl : a.length = b.length) (h : ∀ i, i < a.length → a.getD i false = b.getD i false) : a = b := by
  apply List.ext_getElem hl
  intro j h1 h2
  have := h j h1
  simpa [h1, h2] using this
theorem frameL_len (k tn sh : Int) (w h : Nat) (c : Nat → Nat → Nat) : (frameL k tn sh w h c).length = (w + 2) * (h + 2) := by unfold frameL; simp
theorem frameL_get (k tn sh : Int) (w h : Nat) (c : Nat → Nat → Nat) {i : Nat} (hi : i < (w + 2) * (h + 2)) : (frameL k tn sh w h c).getD i false = frameAt k tn sh w h c i := by unfold frameL; simp [hi]
/-- A list with a piece laid over it. -/
def spliceL (l m : List Bool) (o : Nat) : List Bool := l.take o ++ (m ++ l.drop (o + m.length))
theorem splice_len {l m : List Bool} {o : Nat} (h : o + m.length ≤ l.length) : (spliceL l m o).length = l.length := by unfold spliceL; simp; omega
theorem splice_get {l m : List Bool} {o i : Nat} (h : o + m.length ≤ l.length) : (spliceL l m o).getD i false = if o ≤ i ∧ i < o + m.length then m.getD (i - o) false else l.getD i false := by
  unfold spliceL
  have h1 : (l.take o).length = o := by simp; omega
  by_cases a : i < o
  · rw [if_neg (by omega)]
    simp only [List.getD]
    rw [List.getElem?_append_left (by omega), List.getElem?_take, if_pos a]
  · by_cases b : i < o + m.length
    · rw [if_pos ⟨by omega, b⟩]
      simp only [List.getD]
      rw [List.getElem?_append_right (by omega), h1, List.getElem?_append_left (by omega)]
    · rw [if_neg (by omega)]
      simp only [List.getD]
      rw [List.getElem?_append_right (by omega), h1, List.getElem?_append_right (by omega), List.getElem?_drop]
      congr 2
      omega
theorem BBlk.splice {w : World} {g o : Nat} {l m : List Bool} (h : BBlk w g l) : BBlk (w.setRow g (((l.map bv).toArray.toList.take o) ++ (m.map bv ++ (l.map bv).toArray.toList.drop (o + (m.map bv).length))).toArray) g (spliceL l m o) := by
  unfold BBlk
  rw [setRow_heap w g _ _ 4 _ h]
  unfold spliceL
  simp [List.map_take, List.map_drop]
set_option maxHeartbeats 1000000 in
theorem hold45 (v : Nat) (w : World) : Calls Tryz.prog 47 #[.int .u8 (v : Int)] w fun e w' => e = .returned (.bool (decide (v ≠ 0))) ∧ w' = w := by
  by_cases h : v = 0
  · subst h
    go_enter Tryz.func47, Tryz.ntmps47
    go_wp2
    go_ret
    exact ⟨rfl, rfl⟩
  · have h1 : ((v : Int) == 0) = false := by rw [beq_eq_false_iff_ne]; omega
    have h2 : ((v : Int) != 0) = true := by simp [bne, h1]
    have hd : Hid (decide (v ≠ 0) = true) := by show _ = _; simp [h]
    go_enter Tryz.func47, Tryz.ntmps47
    go_wp2
    go_ret
    exact ⟨by rw [hd.out]; rfl, rfl⟩
/-- The line's slice. -/
theorem slice99_lh (W : World) (g N P Q : Nat) (h1 : P < Q) (h2 : Q ≤ N) : (Instr.slice 113 (.slice (some ⟨g, 0, none⟩) N N) (some (.int .i64 (P : Int))) (some (.int .i64 (Q : Int))) none).run Tryz.prog W = .ok (.slice (some ⟨g, P, none⟩) (Q - P) (N - P)) W := by
  have h := run_slice_lh (P := Tryz.prog) W 113 (some ⟨g, 0, none⟩) N N (by kernel_rfl) .i64 .i64 (P : Int) (Q : Int) (by omega) (by omega) (by omega)
  rw [h]
  have e2 : ¬ N - P = 0 := by omega
  have e3 : ¬ N = P := by omega
  go_simp
theorem slice99_l (W : World) (g P n cap : Nat) (hn : 1 < cap) (h : 1 ≤ n) : (Instr.slice 113 (.slice (some ⟨g, P, none⟩) n cap) (some (.int .i64 1)) none none).run Tryz.prog W = .ok (.slice (some ⟨g, P + 1, none⟩) (n - 1) (cap - 1)) W := by
  have h := run_slice_l (P := Tryz.prog) W 113 (some ⟨g, P, none⟩) n cap (by kernel_rfl) .i64 1 (by omega) (by omega)
  rw [h]
  have e2 : ¬ cap = 1 := by omega
  have e3 : ¬ cap - 1 = 0 := by omega
  go_simp
end Go.Proofs.YtcbhbojplcddkaaGreatDoor
