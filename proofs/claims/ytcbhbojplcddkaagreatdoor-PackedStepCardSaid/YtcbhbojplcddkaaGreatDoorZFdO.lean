import Derived.Test.YtcbhbojplcddkaaGreatDoorZFdN
import Derived.Test.YtcbhbojplcddkaaGreatDoorZFdF
import Derived.Deep.AppendLies
import Derived.Deep.RegionLaw
namespace Go.Proofs.YtcbhbojplcddkaaGreatDoor
open Go.RowKit Go.RowBits
set_option linter.unusedSimpArgs false
set_option linter.unusedVariables false

/-! ### A fresh store -/
theorem own_block_le {W : World} {B : Nat} {e : TypeId} {size : Nat} {v : Value} {n : Nat} {xs : List Value} (h : W.ownsRow B e size v n xs) : ∀ k, v.ownBlock = some k → B ≤ k := fun k hk => by
  rcases h.2 with ⟨rfl, _⟩ | ⟨g, cap, cur, rfl, hg, hb, _⟩
  · cases hk
  · injection hk with hk
    have hk : g = k := hk
    omega
theorem own_type {W : World} {B : Nat} {e : TypeId} {size : Nat} {v : Value} {n : Nat} {xs : List Value} (h : W.ownsRow B e size v n xs) : ∀ k, v.ownBlock = some k → ∃ cur, W.heap[k]? = some (.cells cur e (0, 0)) := fun k hk => by
  rcases h.2 with ⟨rfl, _⟩ | ⟨g, cap, cur, rfl, hg, hb, _⟩
  · cases hk
  · injection hk with hk
    have hk : g = k := hk
    exact ⟨cur, hk ▸ hb⟩
theorem YBlk.own {w : World} {g base : Nat} {ws : List Nat} (h : YBlk w g ws) (hb : base ≤ g) (hm : ws.length ≤ maxLen) : w.ownsRow base 5 1 (.slice (some ⟨g, 0, none⟩) ws.length ws.length) ws.length (ws.map yv) := by
  refine ⟨by simp, .inr ⟨g, ws.length, (ws.map yv).toArray, rfl, hb, h, by omega, hm, by simp, ?_⟩⟩
  rw [Nat.mul_one]
  exact List.take_of_length_le (by simp)
def FreshY (W : World) (h w : Nat) (e : Ending) (w' : World) : Prop := ∃ gr cap gs, e = .returned (.iface 151 (.agg #[.slice (some ⟨gr, 0, none⟩) h cap])) ∧ StY W.heap.size w' gr cap w (List.replicate h (List.replicate w 0)) gs (fun _ => w) ∧ Below W.heap.size W w'
def FrRel (W0 : World) (b h w : Nat) (i : Value) (wx : World) : Prop :=
  ∃ (k : Nat) (gs : Nat → Nat) (rv : Value), k ≤ h ∧ i = .int .i64 (k : Int) ∧ Below b W0 wx ∧ wx.heap[b]? = some (.cells #[rv] 151 (0, 0)) ∧
    wx.ownsRow (b + 1) 51 1 rv k ((List.range k).map fun y => .slice (some ⟨gs y, 0, none⟩) w w) ∧ (∀ y, y < k → b < gs y ∧ YBlk wx (gs y) (List.replicate w 0)) ∧ ∀ y z, y < k → z < k → y ≠ z → gs y ≠ gs z
set_option maxRecDepth 20000 in
set_option maxHeartbeats 4000000 in
theorem fresh41y {w h s : Nat} (hw : 1 ≤ w ∧ w ≤ 65536) (hh : 1 ≤ h ∧ h ≤ 65536) (W : World) : Calls Tryz.prog 33 #[shapeV w h s, .bool false] W (FreshY W h w) := by
  obtain ⟨n1, n2⟩ := hw
  obtain ⟨n3, n4⟩ := hh
  have hmk := fun m => run_make_row' (P := Tryz.prog) 51 5 (.int .u8 0) 1 Tryz.underlying51 info5' rfl .i64 .i64 m
  have hmkn : ∀ W, (Instr.makeSlice 51 (.int .i64 (w : Int)) (.int .i64 (w : Int))).run Tryz.prog W = .ok (.slice (some ⟨W.heap.size, 0, none⟩) w w) (W.alloc (.cells (madeCells #[.int .u8 0] w) 5)) := fun W => hmk w (by omega) (by omega) W
  clear hmk
  go_enter Tryz.func33, Tryz.ntmps33
  go_wp2
  obtain ⟨W2, hW2⟩ : ∃ W2, W2 = ((W.alloc (.cells #[.int .i64 (w : Int), .int .i64 (h : Int), .int .i64 (s : Int)] 91)).alloc (.cells #[.slice none 0 0] 151)) := ⟨_, rfl⟩
  have hB2 : Hid (Below W.heap.size W W2) := by rw [hW2]; exact (below_new _).alloc (by simp) _
  have E2 : Blks W2 [(W.heap.size + 1, #[.slice none 0 0], 151), (W.heap.size, #[.int .i64 (w : Int), .int .i64 (h : Int), .int .i64 (s : Int)], 91)] := by
    rw [hW2]
    exact ((Blks.nil _).alloc (n := W.heap.size) rfl #[.int .i64 (w : Int), .int .i64 (h : Int), .int .i64 (s : Int)] 91).alloc (n := W.heap.size + 1) (by simp) #[.slice none 0 0] 151
  have hp2 : Hid (W2.heap[W.heap.size]? = some (.cells #[.int .i64 (w : Int), .int .i64 (h : Int), .int .i64 (s : Int)] 91 (0, 0))) := E2 (W.heap.size, #[.int .i64 (w : Int), .int .i64 (h : Int), .int .i64 (s : Int)], 91) (by simp)
  have hb2 : Hid (W2.heap[W.heap.size + 1]? = some (.cells #[.slice none 0 0] 151 (0, 0))) := E2 (W.heap.size + 1, #[.slice none 0 0], 151) (by simp)
  have hz2 : Hid (W2.heap.size = W.heap.size + 2) := by rw [hW2]; show _ = _; simp
  rw [← hW2]
  clear hW2 E2
  go_loopw [33] (fun i wx => FrRel W2 (W.heap.size + 1) h w i wx) (fun i _ => h - (intOf i).toNat)
  case atStart => exact ⟨0, fun _ => 0, _, by omega, by go_num, Below.refl _ _, hb2.out, World.ownsRow_nil _ _ _ _, by omega, by omega⟩
  case round =>
    obtain ⟨k, gs, rv, hk, rfl, hB, hb, hr, hy, hs⟩ := hrel
    have hB' := Lib.hid hB
    have hb' := Lib.hid hb
    have hr' := Lib.hid hr
    have hy' := Lib.hid hy
    have hs' := Lib.hid hs
    have hpb := (hB.block W.heap.size (by omega)).trans hp2.out
    have p0 : wr.cell? ⟨W.heap.size, 0, none⟩ = some (.int .i64 (w : Int)) := by rw [cell_of_row wr _ 0 _ 91 (0, 0) hpb]; rfl
    have p1 : wr.cell? ⟨W.heap.size, 1, none⟩ = some (.int .i64 (h : Int)) := by rw [cell_of_row wr _ 1 _ 91 (0, 0) hpb]; rfl
    have c0 : wr.cell? ⟨W.heap.size + 1, 0, none⟩ = some rv := by rw [cell_of_row wr _ 0 _ 151 (0, 0) hb]; rfl
    have hzb : W.heap.size + 1 < wr.heap.size := (Array.getElem?_eq_some_iff.1 hb).1
    clear hB hb hr hy hs hpb
    by_cases hlt : k < h
    · have hzp : W.heap.size < wr.heap.size := by omega
      obtain ⟨i0, hi, hq0, hq1, hq2⟩ := info_parts info51'
      have hi' := Lib.hid hi
      clear hi
      have hnb : ¬ W.heap.size + 1 = wr.heap.size := by omega
      have hnb3 : ¬ W.heap.size + 1 = wr.heap.size + 1 := by omega
      have hrvb : Hid (rv.ownBlock ≠ some (W.heap.size + 1)) := fun e => by have := own_block_le hr'.out _ e; omega
      have fb : Hid (∀ w1 : World, ((wr.alloc (.cells (madeCells #[.int .u8 0] w) 5)).alloc (.cells #[.slice (some ⟨wr.heap.size, 0, none⟩) w w] 51)).drew.grownBy w1 rv.ownBlock → w1.cell? ⟨W.heap.size + 1, 0, none⟩ = some rv ∧ w1.frozen? ⟨W.heap.size + 1, 0, none⟩ = false) := fun w1 hgrow => by
        have hbx : ((wr.alloc (.cells (madeCells #[.int .u8 0] w) 5)).alloc (.cells #[.slice (some ⟨wr.heap.size, 0, none⟩) w w] 51)).drew.heap[W.heap.size + 1]? = some (.cells #[rv] 151 (0, 0)) := ((((below_new (w := wr) (.cells (madeCells #[.int .u8 0] w) 5)).alloc (by simp) (.cells #[.slice (some ⟨wr.heap.size, 0, none⟩) w w] 51)).drew).block _ hzb).trans hb'.out
        have hb1 := (hgrow.block _ (by simp; omega) (fun e => hrvb.out e.symm)).trans hbx
        exact ⟨by rw [cell_of_row w1 _ 0 _ 151 (0, 0) hb1]; rfl, frozen_of_row w1 _ 0 _ 151 hb1⟩
      have hnew : Hid (((wr.alloc (.cells (madeCells #[.int .u8 0] w) 5)).alloc (.cells #[.slice (some ⟨wr.heap.size, 0, none⟩) w w] 51)).drew.heap[wr.heap.size + 1]? = some (.cells #[.slice (some ⟨wr.heap.size, 0, none⟩) w w] 51 (0, 0))) := by
        have := heap_alloc_new (wr.alloc (.cells (madeCells #[.int .u8 0] w) 5)) (.cells #[.slice (some ⟨wr.heap.size, 0, none⟩) w w] 51)
        rw [size_alloc] at this
        exact this
      have hBA : Hid (Below wr.heap.size wr ((wr.alloc (.cells (madeCells #[.int .u8 0] w) 5)).alloc (.cells #[.slice (some ⟨wr.heap.size, 0, none⟩) w w] 51)).drew) := ((below_new (w := wr) (.cells (madeCells #[.int .u8 0] w) 5)).alloc (by simp) (.cells #[.slice (some ⟨wr.heap.size, 0, none⟩) w w] 51)).drew
      have hYn : Hid (YBlk ((wr.alloc (.cells (madeCells #[.int .u8 0] w) 5)).alloc (.cells #[.slice (some ⟨wr.heap.size, 0, none⟩) w w] 51)).drew wr.heap.size (List.replicate w 0)) := (YBlk.new wr _ _ (made_bytes w)).kept ((below_new _).drew)
      go_wp2_with fail
      go_region_law ((refine step_append_lies _ (by rfl) _ _ _ (by rfl) (W.heap.size + 1 + 1) 51 i0 _ 1 24 Tryz.underlying149 hi'.out hq0 hq1 hq2 rfl (by omega) rv k _ (by rfl) (((hr'.out.alloc _).alloc _).drew) ⟨wr.heap.size + 1, 0, none⟩ 1 1 [.slice (some ⟨wr.heap.size, 0, none⟩) w w] (by rfl) (by rfl) (World.news_of_block (cs := #[.slice (some ⟨wr.heap.size, 0, none⟩) w w]) (t := 51) (fr := (0, 0)) (by exact hnew.out)) (by simp [Value.oneCell']) (by omega) (by unfold maxLen; omega) (by omega) (by simp; omega) (wr.heap.size + 2) (by simp) ?_; intro gg cap w1 hown1 hgrow hat hlt1; obtain ⟨g1, g2⟩ := fb.out w1 hgrow; have hown1' := Lib.hid hown1; have hgrow' := Lib.hid hgrow; have hat' := Lib.hid hat; clear hown1 hgrow hat hlt1))
      all_goals
        go_wp2
        obtain ⟨XX, hXX⟩ : ∃ XX, XX = ((wr.alloc (.cells (madeCells #[.int .u8 0] w) 5)).alloc (.cells #[.slice (some ⟨wr.heap.size, 0, none⟩) w w] 51)).drew := ⟨_, rfl⟩
        have hsz : XX.heap.size = wr.heap.size + 2 := by rw [hXX]; simp
        rw [← hXX] at hgrow' hBA hYn
        have hrx := own_below hr'.out hBA.out
        have hbx := (hBA.out.block _ hzb).trans hb'.out
        have hyx : ∀ y, y < k → gs y < wr.heap.size ∧ YBlk w1 (gs y) (List.replicate w 0) := fun y hy0 => by
          have h1 := (hy'.out y hy0).2
          refine ⟨h1.lt, ?_⟩
          have h2 := h1.kept hBA.out
          refine (hgrow'.out.block _ h2.lt (fun e => ?_)).trans h2
          obtain ⟨cur, q⟩ := own_type hrx _ e.symm
          unfold YBlk at h2
          rw [h2] at q
          injection q with q
          injection q with _ q _
          cases q
        have hyn : YBlk w1 wr.heap.size (List.replicate w 0) := by
          refine (hgrow'.out.block _ hYn.out.lt (fun e => ?_)).trans hYn.out
          obtain ⟨cur, q⟩ := own_type hr'.out _ e.symm
          have := (Array.getElem?_eq_some_iff.1 q).1
          omega
        have hBx : Below (W.heap.size + 1) W2 w1 := hB'.out.trans ((hBA.out.mono (by omega)).grown hgrow'.out (by omega) (fun q hq => by have := own_block_le hr'.out q hq; omega))
        have hbl : w1.heap[W.heap.size + 1]? = some (.cells #[rv] 151 (0, 0)) := (hgrow'.out.block _ (by omega) (fun e => hrvb.out e.symm)).trans hbx
        refine ⟨⟨k + 1, fun y => if y = k then wr.heap.size else gs y, _, by omega, by go_num, hBx.setCell (by simp) _, (heap_setCell_same w1 _ 0 _ 151 _ hbl).trans rfl, own_other ?_ ?_ _, fun y hy0 => ?_, fun y z hy0 hz0 hyz => ?_⟩, by simp [intOf]; omega⟩
        · have hx := hown1'.out
          rw [List.range_succ, List.map_append]
          have e1 : (List.range k).map (fun y => Value.slice (some ⟨if y = k then wr.heap.size else gs y, 0, none⟩) w w) = (List.range k).map (fun y => Value.slice (some ⟨gs y, 0, none⟩) w w) := by
            apply List.map_congr_left
            intro y hy0
            have := List.mem_range.1 hy0
            have e : ¬ y = k := by omega
            simp [e]
          rw [e1]
          simpa using hx
        · intro e
          have e : some gg = some (W.heap.size + 1) := e
          injection e with e
          rcases hat'.out with q | q
          · have := own_block_le hr'.out _ q; omega
          · omega
        · dsimp only
          by_cases e : y = k
          · subst e
            rw [if_pos rfl]
            exact ⟨by omega, hyn.setOther (by omega) _⟩
          · rw [if_neg e]
            have h1 := (hy'.out y (by omega)).1
            exact ⟨h1, (hyx y (by omega)).2.setOther (by omega) _⟩
        · dsimp only
          by_cases e : y = k
          · have e2 : ¬ z = k := by omega
            rw [if_pos e, if_neg e2]
            have := (hyx z (by omega)).1
            omega
          · by_cases e2 : z = k
            · rw [if_neg e, if_pos e2]
              have := (hyx y (by omega)).1
              omega
            · rw [if_neg e, if_neg e2]
              exact hs'.out y z (by omega) (by omega) hyz
    · obtain rfl : k = h := by omega
      have FIN : Hid (∃ gr cap, rv = .slice (some ⟨gr, 0, none⟩) k cap ∧ StY W.heap.size wr gr cap w (List.replicate k (List.replicate w 0)) gs (fun _ => w)) := by
        obtain ⟨gr, cap, e⟩ : ∃ gr cap, rv = .slice (some ⟨gr, 0, none⟩) k cap := by
          rcases hr'.out.2 with ⟨_, q⟩ | ⟨g, cap, cur, q, _⟩
          · omega
          · exact ⟨g, cap, q⟩
        subst e
        refine ⟨gr, cap, rfl, ⟨?_, fun y hy0 => ?_, fun y z hy0 hz0 => ?_, ?_⟩⟩
        · rw [List.length_replicate]
          exact own_lower hr'.out (by omega)
        · rw [List.length_replicate] at hy0
          have h1 := hy'.out y hy0
          have e1 : (List.replicate k (List.replicate w 0)).getD y [] = List.replicate w 0 := by simp [List.getD, hy0]
          rw [e1]
          have := h1.2.own (base := W.heap.size) (by omega) (by unfold maxLen; simp; omega)
          simpa using this
        · rw [List.length_replicate] at hy0 hz0
          exact hs'.out y z hy0 hz0
        · rw [List.length_replicate]; omega
      obtain ⟨gr, cap, rfl, hst⟩ := FIN.out
      have hst' := Lib.hid hst
      clear hst FIN
      go_wp2
      go_ret
      exact ⟨gr, cap, gs, rfl, hst'.out, hB2.out.trans (hB'.out.mono (by omega))⟩
end Go.Proofs.YtcbhbojplcddkaaGreatDoor
namespace Go.Proofs.YtcbhbojplcddkaaGreatDoor
open Go.RowKit Go.RowBits
set_option linter.unusedSimpArgs false
set_option linter.unusedVariables false

/-! ### A fresh store of bits -/
def FreshW (W : World) (h w : Nat) (e : Ending) (w' : World) : Prop := ∃ gr cap gs, e = .returned (.iface 147 (.agg #[.slice (some ⟨gr, 0, none⟩) h cap])) ∧ StW W.heap.size w' gr cap w (List.replicate h (List.replicate ((w + 63) / 64) 0)) gs (fun _ => (w + 63) / 64) ∧ Below W.heap.size W w'
def FwRel (W0 : World) (b h w : Nat) (i : Value) (wx : World) : Prop :=
  ∃ (k : Nat) (gs : Nat → Nat) (rv : Value), k ≤ h ∧ i = .int .i64 (k : Int) ∧ Below b W0 wx ∧ wx.heap[b]? = some (.cells #[rv] 147 (0, 0)) ∧
    wx.ownsRow (b + 1) 58 2 rv k (rowPairs w gs (fun _ => (w + 63) / 64) ((w + 63) / 64) k) ∧ (∀ y, y < k → b < gs y ∧ WBlk wx (gs y) (List.replicate ((w + 63) / 64) 0)) ∧ ∀ y z, y < k → z < k → y ≠ z → gs y ≠ gs z
theorem rowPairs_succ (w : Nat) (gs cs : Nat → Nat) (L h : Nat) : rowPairs w gs cs L (h + 1) = rowPairs w gs cs L h ++ rowPair w gs cs L h := by
  unfold rowPairs
  rw [List.range_succ, List.flatMap_append]
  simp
theorem rowPairs_congr (w : Nat) (gs gs' cs : Nat → Nat) (L : Nat) : ∀ h, (∀ y, y < h → gs y = gs' y) → rowPairs w gs cs L h = rowPairs w gs' cs L h
  | 0, _ => rfl
  | h + 1, hg => by
    rw [rowPairs_succ, rowPairs_succ, rowPairs_congr w gs gs' cs L h (fun y hy => hg y (by omega))]
    unfold rowPair
    rw [hg h (by omega)]
theorem zeros_good (w : Nat) : RowGood w (List.replicate ((w + 63) / 64) 0) := by
  have hl : (List.replicate ((w + 63) / 64) 0).length = (w + 63) / 64 := by simp
  have hz : ∀ j, (List.replicate ((w + 63) / 64) 0).getD j 0 = 0 := fun j => by
    by_cases h : j < (w + 63) / 64 <;> simp [List.getD, List.getElem?_replicate, h]
  refine (good_iff hl (fun j => by rw [hz]; unfold U; omega)).2 fun i _ _ => ?_
  unfold bitw
  rw [hz]
  simp
set_option maxRecDepth 20000 in
set_option maxHeartbeats 4000000 in
theorem fresh41w {w h s : Nat} (hw : 1 ≤ w ∧ w ≤ 65536) (hh : 1 ≤ h ∧ h ≤ 65536) (W : World) : Calls Tryz.prog 33 #[shapeV w h s, .bool true] W (FreshW W h w) := by
  obtain ⟨n1, n2⟩ := hw
  obtain ⟨n3, n4⟩ := hh
  have K := Lib.hid (fun W' => new59 (n := w) (m := (w + 63) / 64) (by omega) rfl W')
  obtain ⟨L, hL⟩ : ∃ L, L = (w + 63) / 64 := ⟨_, rfl⟩
  have hL' := Lib.hid hL
  rw [← hL] at K
  go_enter Tryz.func33, Tryz.ntmps33
  go_wp2
  obtain ⟨W2, hW2⟩ : ∃ W2, W2 = ((W.alloc (.cells #[.int .i64 (w : Int), .int .i64 (h : Int), .int .i64 (s : Int)] 91)).alloc (.cells #[.slice none 0 0] 147)) := ⟨_, rfl⟩
  have hB2 : Hid (Below W.heap.size W W2) := by rw [hW2]; exact (below_new _).alloc (by simp) _
  have E2 : Blks W2 [(W.heap.size + 1, #[.slice none 0 0], 147), (W.heap.size, #[.int .i64 (w : Int), .int .i64 (h : Int), .int .i64 (s : Int)], 91)] := by
    rw [hW2]
    exact ((Blks.nil _).alloc (n := W.heap.size) rfl #[.int .i64 (w : Int), .int .i64 (h : Int), .int .i64 (s : Int)] 91).alloc (n := W.heap.size + 1) (by simp) #[.slice none 0 0] 147
  have hp2 : Hid (W2.heap[W.heap.size]? = some (.cells #[.int .i64 (w : Int), .int .i64 (h : Int), .int .i64 (s : Int)] 91 (0, 0))) := E2 (W.heap.size, #[.int .i64 (w : Int), .int .i64 (h : Int), .int .i64 (s : Int)], 91) (by simp)
  have hb2 : Hid (W2.heap[W.heap.size + 1]? = some (.cells #[.slice none 0 0] 147 (0, 0))) := E2 (W.heap.size + 1, #[.slice none 0 0], 147) (by simp)
  have hz2 : Hid (W2.heap.size = W.heap.size + 2) := by rw [hW2]; show _ = _; simp
  rw [← hW2]
  clear hW2 E2 hL
  go_loopw [13] (fun i wx => FwRel W2 (W.heap.size + 1) h w i wx) (fun i _ => h - (intOf i).toNat)
  case atStart => exact ⟨0, fun _ => 0, _, by omega, by go_num, Below.refl _ _, hb2.out, World.ownsRow_nil _ _ _ _, by omega, by omega⟩
  case round =>
    obtain ⟨k, gs, rv, hk, rfl, hB, hb, hr, hy, hs⟩ := hrel
    have hB' := Lib.hid hB
    have hb' := Lib.hid hb
    have hr' := Lib.hid hr
    have hy' := Lib.hid hy
    have hs' := Lib.hid hs
    have hpb := (hB.block W.heap.size (by omega)).trans hp2.out
    have p0 : wr.cell? ⟨W.heap.size, 0, none⟩ = some (.int .i64 (w : Int)) := by rw [cell_of_row wr _ 0 _ 91 (0, 0) hpb]; rfl
    have p1 : wr.cell? ⟨W.heap.size, 1, none⟩ = some (.int .i64 (h : Int)) := by rw [cell_of_row wr _ 1 _ 91 (0, 0) hpb]; rfl
    have c0 : wr.cell? ⟨W.heap.size + 1, 0, none⟩ = some rv := by rw [cell_of_row wr _ 0 _ 147 (0, 0) hb]; rfl
    have hzb : W.heap.size + 1 < wr.heap.size := (Array.getElem?_eq_some_iff.1 hb).1
    clear hB hb hr hy hs hpb
    by_cases hlt : k < h
    · have hzp : W.heap.size < wr.heap.size := by omega
      obtain ⟨i0, hi, hq0, hq1, hq2⟩ := info_parts info58'
      have hi' := Lib.hid hi
      clear hi
      go_wp2_with fail
      refine (K.out _).mono ?_
      rintro e w1 ⟨gb, rfl, hgb, hgB, hb⟩
      have hgB' := Lib.hid hgB
      have hB1 := Lib.hid hb
      have c1 := cell_kept hb c0
      have f1 : w1.frozen? ⟨W.heap.size + 1, 0, none⟩ = false := frozen_of_row w1 _ 0 _ 147 ((hb.block _ hzb).trans hb'.out)
      have hz1 : W.heap.size + 1 < w1.heap.size := by have := hb.size; omega
      have hgl : gb < w1.heap.size := (Array.getElem?_eq_some_iff.1 hgB).1
      have hnb : ¬ W.heap.size + 1 = w1.heap.size := by omega
      have hnb3 : ¬ W.heap.size + 1 = w1.heap.size + 1 := by omega
      have hrvb : Hid (rv.ownBlock ≠ some (W.heap.size + 1)) := fun e => by have := own_block_le hr'.out _ e; omega
      clear c0 p0 p1 hb hgB K
      obtain ⟨XX, hXX⟩ : ∃ XX, Hid (XX = (w1.alloc (.cells #[.int .i64 (w : Int), .slice (some ⟨gb, 0, none⟩) L L] 58)).alloc (.cells #[.int .i64 (w : Int), .slice (some ⟨gb, 0, none⟩) L L] 58)) := ⟨_, rfl⟩
      have hBA : Hid (Below wr.heap.size wr XX) := by rw [hXX.out]; exact (hB1.out.alloc hB1.out.size _).alloc (by simp; have := hB1.out.size; omega) _
      have hnew : Hid (XX.heap[w1.heap.size + 1]? = some (.cells #[.int .i64 (w : Int), .slice (some ⟨gb, 0, none⟩) L L] 58 (0, 0))) := by
        rw [hXX.out]
        have := heap_alloc_new (w1.alloc (.cells #[.int .i64 (w : Int), .slice (some ⟨gb, 0, none⟩) L L] 58)) (.cells #[.int .i64 (w : Int), .slice (some ⟨gb, 0, none⟩) L L] 58)
        rw [size_alloc] at this
        exact this
      have hWn : Hid (WBlk XX gb (List.replicate L 0)) := by rw [hXX.out]; exact WBlk.kept (WBlk.kept hgB'.out (below_new _)) (below_new _)
      have hsz : Hid (XX.heap.size = w1.heap.size + 2) := by rw [hXX.out]; show _ = _; simp
      have fb : Hid (∀ w2 : World, XX.grownBy w2 rv.ownBlock → w2.cell? ⟨W.heap.size + 1, 0, none⟩ = some rv ∧ w2.frozen? ⟨W.heap.size + 1, 0, none⟩ = false) := fun w2 hgrow => by
        have hbx := (hBA.out.block _ hzb).trans hb'.out
        have hb1 := (hgrow.block _ (by rw [hsz.out]; omega) (fun e => hrvb.out e.symm)).trans hbx
        exact ⟨by rw [cell_of_row w2 _ 0 _ 147 (0, 0) hb1]; rfl, frozen_of_row w2 _ 0 _ 147 hb1⟩
      go_wp2_with (at_builtin; rw [← hXX.out]; refine wpList_append_lies _ rfl _ _ 71 rfl (W.heap.size + 1 + 1) 58 i0 _ 2 32 Tryz.underlying71 hi'.out hq0 hq1 hq2 rfl (by omega) rv k _ (by rfl) (own_below hr'.out hBA.out) ⟨w1.heap.size + 1, 0, none⟩ 1 1 [.int .i64 (w : Int), .slice (some ⟨gb, 0, none⟩) L L] (by rfl) (by rfl) (World.news_of_block (cs := #[.int .i64 (w : Int), .slice (some ⟨gb, 0, none⟩) L L]) (t := 58) (fr := (0, 0)) (by exact hnew.out)) (by simp [Value.oneCell']) (by omega) (by unfold maxLen; omega) (by omega) (by rw [hsz.out]; omega) (w1.heap.size + 2) (by rw [hsz.out]) ?_; intro gg cap w2 hown1 hgrow hat hlt1; obtain ⟨g1, g2⟩ := fb.out w2 hgrow; have hown1' := Lib.hid hown1; have hgrow' := Lib.hid hgrow; have hat' := Lib.hid hat; clear hown1 hgrow hat hlt1)
      have hrx := own_below hr'.out hBA.out
      have hbx := (hBA.out.block _ hzb).trans hb'.out
      have hszo := hsz.out
      have hyx : ∀ y, y < k → gs y < wr.heap.size ∧ WBlk w2 (gs y) (List.replicate L 0) := fun y hy0 => by
        have h1 := (hy'.out y hy0).2
        rw [← hL'.out] at h1
        refine ⟨h1.lt, ?_⟩
        have h2 := h1.kept hBA.out
        refine (hgrow'.out.block _ h2.lt (fun e => ?_)).trans h2
        obtain ⟨cur, q⟩ := own_type hrx _ e.symm
        unfold WBlk at h2
        rw [h2] at q
        injection q with q
        injection q with _ q _
        cases q
      have hyn : WBlk w2 gb (List.replicate L 0) := by
        refine (hgrow'.out.block _ hWn.out.lt (fun e => ?_)).trans hWn.out
        obtain ⟨cur, q⟩ := own_type hr'.out _ e.symm
        have := (Array.getElem?_eq_some_iff.1 q).1
        omega
      have hBx : Below (W.heap.size + 1) W2 w2 := hB'.out.trans ((hBA.out.mono (by omega)).grown hgrow'.out (by omega) (fun q hq => by have := own_block_le hr'.out q hq; omega))
      have hbl : w2.heap[W.heap.size + 1]? = some (.cells #[rv] 147 (0, 0)) := (hgrow'.out.block _ (by omega) (fun e => hrvb.out e.symm)).trans hbx
      have hgbw : gb ≠ W.heap.size + 1 := by omega
      refine ⟨⟨k + 1, fun y => if y = k then gb else gs y, _, by omega, by go_num, hBx.setCell (by simp) _, (heap_setCell_same w2 _ 0 _ 147 _ hbl).trans rfl, own_other ?_ ?_ _, fun y hy0 => ?_, fun y z hy0 hz0 hyz => ?_⟩, by simp [intOf]; omega⟩
      · have hx := hown1'.out
        rw [rowPairs_succ, rowPairs_congr w (fun y => if y = k then gb else gs y) gs _ _ k (fun y hy => if_neg (by omega))]
        unfold rowPair
        dsimp only
        rw [if_pos rfl, ← hL'.out]
        rw [← hL'.out] at hx
        exact hx
      · intro e
        have e : some gg = some (W.heap.size + 1) := e
        injection e with e
        rcases hat'.out with q | q
        · have := own_block_le hr'.out _ q; omega
        · omega
      · dsimp only
        rw [← hL'.out]
        by_cases e : y = k
        · subst e
          rw [if_pos rfl]
          exact ⟨by omega, hyn.setOther hgbw _⟩
        · rw [if_neg e]
          have h1 := (hy'.out y (by omega)).1
          exact ⟨h1, (hyx y (by omega)).2.setOther (by omega) _⟩
      · dsimp only
        by_cases e : y = k
        · have e2 : ¬ z = k := by omega
          rw [if_pos e, if_neg e2]
          have := (hyx z (by omega)).1
          omega
        · by_cases e2 : z = k
          · rw [if_neg e, if_pos e2]
            have := (hyx y (by omega)).1
            omega
          · rw [if_neg e, if_neg e2]
            exact hs'.out y z (by omega) (by omega) hyz
    · obtain rfl : k = h := by omega
      have FIN : Hid (∃ gr cap, rv = .slice (some ⟨gr, 0, none⟩) k cap ∧ StW W.heap.size wr gr cap w (List.replicate k (List.replicate ((w + 63) / 64) 0)) gs (fun _ => (w + 63) / 64)) := by
        obtain ⟨gr, cap, e⟩ : ∃ gr cap, rv = .slice (some ⟨gr, 0, none⟩) k cap := by
          rcases hr'.out.2 with ⟨_, q⟩ | ⟨g, cap, cur, q, _⟩
          · omega
          · exact ⟨g, cap, q⟩
        subst e
        have e1 : ∀ y, y < k → (List.replicate k (List.replicate ((w + 63) / 64) 0)).getD y [] = List.replicate ((w + 63) / 64) 0 := fun y hy => by simp [List.getD, hy]
        refine ⟨gr, cap, rfl, ⟨?_, fun y hy0 => ?_, fun y hy0 => ?_, fun y z hy0 hz0 => ?_, ?_⟩⟩
        · rw [List.length_replicate]
          exact own_lower hr'.out (by omega)
        · rw [List.length_replicate] at hy0
          have h1 := hy'.out y hy0
          rw [e1 y hy0]
          have := h1.2.own (base := W.heap.size) (by omega) (by unfold maxLen; simp; omega)
          simpa using this
        · rw [List.length_replicate] at hy0
          rw [e1 y hy0]
          exact zeros_good w
        · rw [List.length_replicate] at hy0 hz0
          exact hs'.out y z hy0 hz0
        · rw [List.length_replicate]; omega
      obtain ⟨gr, cap, rfl, hst⟩ := FIN.out
      have hst' := Lib.hid hst
      clear hst FIN
      go_wp2
      go_ret
      exact ⟨gr, cap, gs, rfl, hst'.out, hB2.out.trans (hB'.out.mono (by omega))⟩
end Go.Proofs.YtcbhbojplcddkaaGreatDoor
