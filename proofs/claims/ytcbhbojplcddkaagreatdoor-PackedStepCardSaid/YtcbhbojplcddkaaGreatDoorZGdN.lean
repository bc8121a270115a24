import Derived.StillTailTactics
import Derived.Test.YtcbhbojplcddkaaGreatDoorZGdN0
import Derived.Test.YtcbhbojplcddkaaGreatDoorZRegInv
import Derived.Test.YtcbhbojplcddkaaGreatDoorZColD
import Derived.Test.YtcbhbojplcddkaaGreatDoorZPkK
namespace Go.Proofs.YtcbhbojplcddkaaGreatDoor
open Go.RowKit Go.RowBits Go.Shelf Go.ColD
set_option linter.unusedSimpArgs false
set_option linter.unusedVariables false
attribute [local go_sem] Oper.semAt_some
attribute [local go_sem] RegInv.putAll

/-! ### packed.Run -/
def lineC (hd : Int) (born stay w : Nat) (rb : Nat → List Bool) (y : Nat) : List Bool := lineB (offs hd) born stay (pack (rb y)) (pack (rb (y + 1))) (pack (rb (y + 2))) w
theorem lifeE_kind {hd : Int} {born stay : Nat} (h : lifeE hd born stay = 0) : hd = 1 ∨ hd = 2 ∨ hd = 3 := by
  unfold lifeE at h
  split at h
  · assumption
  · omega
/-- The cells one generation later. -/
def stepC (hd : Int) (born stay : Nat) (k tn sh : Int) (w h : Nat) (c : Nat → Nat → Nat) : Nat → Nat → Nat := fun y x => ((lineC hd born stay w (rowB k tn sh w h c) y).getD x false).toNat
def iterC (hd : Int) (born stay : Nat) (k tn sh : Int) (w h : Nat) (c : Nat → Nat → Nat) : Nat → Nat → Nat → Nat
  | 0 => c
  | n + 1 => stepC hd born stay k tn sh w h (iterC hd born stay k tn sh w h c n)
def RunPost (W0 : World) (w h : Nat) (c : Nat → Nat → Nat) (e : Ending) (w' : World) : Prop := ∃ fb' B' E', e = .returned (.tuple #[.pointer (some ⟨fb', 0, none⟩), .int .i64 0]) ∧ W0.heap.size ≤ B' ∧ Fld B' E' w' fb' w h 2 true c ∧ Below W0.heap.size W0 w'
def PrR (hd : Int) (born stay : Nat) (h m L L2 w gr y Y1 Y2 : Nat) (gs : Nat → Nat) (ws : List Nat) (N : Nat) : Nat → Value → World → Prop
  | 0, v, _ => v = .agg #[.int .u8 hd, .int .u16 (born : Int), .int .u16 (stay : Int)]
  | 1, v, _ => v = .slice (some ⟨gr, 0, none⟩) (h + 2) (h + 2)
  | 2, v, _ => v = .int .i64 (y : Int)
  | 3, v, _ => v = .pointer (some ⟨gr, y * 2, none⟩)
  | 4, v, _ => v = .agg #[.int .i64 (m : Int), .slice (some ⟨gs y, 0, none⟩) L L]
  | 5, v, _ => v = .slice (some ⟨gr, 0, none⟩) (h + 2) (h + 2)
  | 6, v, _ => v = .int .i64 (y : Int)
  | 7, v, _ => v = .int .i64 (Y1 : Int)
  | 8, v, _ => v = .pointer (some ⟨gr, Y1 * 2, none⟩)
  | 9, v, _ => v = .agg #[.int .i64 (m : Int), .slice (some ⟨gs Y1, 0, none⟩) L L]
  | 10, v, _ => v = .slice (some ⟨gr, 0, none⟩) (h + 2) (h + 2)
  | 11, v, _ => v = .int .i64 (y : Int)
  | 12, v, _ => v = .int .i64 (Y2 : Int)
  | 13, v, _ => v = .pointer (some ⟨gr, Y2 * 2, none⟩)
  | 14, v, _ => v = .agg #[.int .i64 (m : Int), .slice (some ⟨gs Y2, 0, none⟩) L L]
  | 15, v, _ => v = .agg #[.int .i64 (m : Int), .slice (some ⟨gs y, 0, none⟩) L L, .int .i64 (m : Int), .slice (some ⟨gs Y1, 0, none⟩) L L, .int .i64 (m : Int), .slice (some ⟨gs Y2, 0, none⟩) L L]
  | 16, v, w' => ∃ g, v = .agg #[.int .i64 (w : Int), .slice (some ⟨g, 0, none⟩) L2 L2] ∧ N ≤ g ∧ WBlk w' g ws
  | 17, v, w' => ∃ bl, v = .pointer (some ⟨bl, 0, none⟩) ∧ N ≤ bl ∧ w'.heap[bl]? = some (.cells #[.int .i64 0, .slice none 0 0] 58 (0, 0))
  | _, _, _ => True
theorem PrR.mono {hd : Int} {born stay : Nat} {h m L L2 w gr y Y1 Y2 : Nat} {gs : Nat → Nat} {ws : List Nat} {N : Nat} : ∀ i v w1 w2, PrR hd born stay h m L L2 w gr y Y1 Y2 gs ws N i v w1 → Below w1.heap.size w1 w2 → PrR hd born stay h m L L2 w gr y Y1 Y2 gs ws N i v w2 := fun i v w1 w2 hp hb => by
  match i, hp with
  | 0, hp => exact hp
  | 1, hp => exact hp
  | 2, hp => exact hp
  | 3, hp => exact hp
  | 4, hp => exact hp
  | 5, hp => exact hp
  | 6, hp => exact hp
  | 7, hp => exact hp
  | 8, hp => exact hp
  | 9, hp => exact hp
  | 10, hp => exact hp
  | 11, hp => exact hp
  | 12, hp => exact hp
  | 13, hp => exact hp
  | 14, hp => exact hp
  | 15, hp => exact hp
  | 16, ⟨g, h1, h2, h3⟩ => exact ⟨g, h1, h2, h3.kept hb⟩
  | 17, ⟨g, h1, h2, h3⟩ => exact ⟨g, h1, h2, (hb.block g (Array.getElem?_eq_some_iff.1 h3).1).trans h3⟩
  | _ + 18, _ => trivial
/-- The frame's blocks that the loops leave. -/
structure RowsAt (E5 : Nat) (w h : Nat) (rb : Nat → List Bool) (gr : Nat) (gs : Nat → Nat) (W : World) : Prop where
  ge : E5 ≤ gr
  row : ∀ y, y < h + 2 → E5 ≤ gs y ∧ W.cell? ⟨gr, y * 2, none⟩ = some (.int .i64 ((w + 2 : Nat) : Int)) ∧ W.cell? ⟨gr, y * 2 + 1, none⟩ = some (.slice (some ⟨gs y, 0, none⟩) ((w + 65) / 64) ((w + 65) / 64)) ∧ WBlk W (gs y) (pack (rb y))
theorem cell_same {W W' : World} {b o : Nat} {u : Value} (h : W.cell? ⟨b, o, none⟩ = some u) (hb : W'.heap[b]? = W.heap[b]?) : W'.cell? ⟨b, o, none⟩ = some u := by
  unfold World.cell? at *
  simp only at *
  rw [hb]
  exact h
theorem RowsAt.same {E5 w h : Nat} {rb : Nat → List Bool} {gr : Nat} {gs : Nat → Nat} {W W' : World} (r : RowsAt E5 w h rb gr gs W) (hb : ∀ g, E5 ≤ g → (∃ cs t fr, W.heap[g]? = some (.cells cs t fr)) → W'.heap[g]? = W.heap[g]?) : RowsAt E5 w h rb gr gs W' := by
  refine ⟨r.ge, fun y hy => ?_⟩
  obtain ⟨h1, h2, h3, h4⟩ := r.row y hy
  have hc : ∃ cs t fr, W.heap[gr]? = some (.cells cs t fr) := by
    unfold World.cell? at h2
    cases e : W.heap[gr]? with
    | none => rw [e] at h2; simp at h2
    | some o =>
      rw [e] at h2
      cases o with
      | cells cs t fr => exact ⟨cs, t, fr, rfl⟩
      | _ => simp at h2
  exact ⟨h1, cell_same h2 (hb gr r.ge hc), cell_same h3 (hb gr r.ge hc), (hb (gs y) h1 ⟨_, _, _, h4⟩).trans h4⟩
def mixC (st c : Nat → Nat → Nat) (y : Nat) : Nat → Nat → Nat := fun y' x => if y' < y then st y' x else c y' x
structure RunW (B5 E5 fb4 w h : Nat) (w3 : World) (Ds : List Nat) (c : Nat → Nat → Nat) (wx : World) : Prop where
  fld : Fld B5 E5 wx fb4 w h 2 true c
  coll : Coll E5 Ds wx
  below : Below B5 w3 wx
def RunO (hd : Int) (born stay : Nat) (k tn sh : Int) (w h n fb b0 fb4 : Nat) (B5 E5 : Nat) (w3 : World) (c : Nat → Nat → Nat) (a : Act) (wx : World) : Prop := ∃ (j : Nat) (Ds : List Nat), j ≤ n ∧ RunW B5 E5 fb4 w h w3 Ds (iterC hd born stay k tn sh w h c j) wx ∧
  ∃ u13 u14 u15 u16 u17 u18 u19 u37 u38 u39 u40 u41 u42 u43 u44 u45 u46 u47 u48 u49 u50 u51 u52 u53 u54 u55 u56 u57 u58 u59 u60 u61 u62 u63 u64 u65 u66 u67 u68 u69 u70 u71 u72 u73 u74 u75 u76 u77 u78 u79 u80 u81 u82 u83 u84 u85 u86 : Value, a = { tmps := #[lifeV hd born stay, topoV k (w : Int) (h : Int) tn sh, .pointer (some ⟨fb, 0, none⟩), .int .i64 (n : Int), .pointer (some ⟨b0, 0, none⟩), .pointer (some ⟨b0 + 1, 0, none⟩), undef, undef, .pointer none, .int .i64 0, .int .i64 0, .pointer (some ⟨fb4, 0, none⟩), .int .i64 0, u13, u14, u15, u16, u17, u18, u19, .agg #[.int .u8 hd, .int .u16 (born : Int), .int .u16 (stay : Int)], topoV k (w : Int) (h : Int) tn sh, .pointer (some ⟨fb, 0, none⟩), .int .i64 (n : Int), .int .i64 0, .int .i64 0, .bool false, undef, .pointer (some ⟨fb, 0, none⟩), .pointer (some ⟨fb4, 0, none⟩), .pointer (some ⟨fb4, 0, none⟩), .int .i64 0, .int .i64 0, .bool false, undef, .int .i64 (n : Int), .int .i64 (j : Int), u37, u38, u39, u40, u41, u42, u43, u44, u45, u46, u47, u48, u49, u50, u51, u52, u53, u54, u55, u56, u57, u58, u59, u60, u61, u62, u63, u64, u65, u66, u67, u68, u69, u70, u71, u72, u73, u74, u75, u76, u77, u78, u79, u80, u81, u82, u83, u84, u85, u86, undef], defers := Ds.map colD }
def RunI (hd : Int) (born stay : Nat) (k tn sh : Int) (w h n fb b0 fb4 : Nat) (B5 E5 : Nat) (w3 : World) (cj : Nat → Nat → Nat) (j gr : Nat) (gs : Nat → Nat) (a : Act) (wx : World) : Prop := ∃ (y : Nat) (Ds : List Nat), y ≤ h ∧ RunW B5 E5 fb4 w h w3 Ds (mixC (stepC hd born stay k tn sh w h cj) cj y) wx ∧ RowsAt E5 w h (rowB k tn sh w h cj) gr gs wx ∧
  ∃ u14 u15 u16 u17 u18 u19 u37 u38 u39 u40 u41 u42 u43 u44 u45 u46 u47 u50 u51 u52 u53 u54 u55 u56 u57 u58 u59 u60 u61 u62 u63 u64 u65 u66 u67 u68 u69 u70 u71 u72 u73 u74 u75 u76 u77 u78 u79 u80 u81 u82 u83 u84 u85 u86 : Value, a = { tmps := #[lifeV hd born stay, topoV k (w : Int) (h : Int) tn sh, .pointer (some ⟨fb, 0, none⟩), .int .i64 (n : Int), .pointer (some ⟨b0, 0, none⟩), .pointer (some ⟨b0 + 1, 0, none⟩), undef, undef, .pointer none, .int .i64 0, .int .i64 0, .pointer (some ⟨fb4, 0, none⟩), .int .i64 0, .slice (some ⟨gr, 0, none⟩) (h + 2) (h + 2), u14, u15, u16, u17, u18, u19, .agg #[.int .u8 hd, .int .u16 (born : Int), .int .u16 (stay : Int)], topoV k (w : Int) (h : Int) tn sh, .pointer (some ⟨fb, 0, none⟩), .int .i64 (n : Int), .int .i64 0, .int .i64 0, .bool false, undef, .pointer (some ⟨fb, 0, none⟩), .pointer (some ⟨fb4, 0, none⟩), .pointer (some ⟨fb4, 0, none⟩), .int .i64 0, .int .i64 0, .bool false, undef, .int .i64 (n : Int), .int .i64 (j : Int), u37, u38, u39, u40, u41, u42, u43, u44, u45, u46, u47, .int .i64 (h : Int), .int .i64 (y : Int), u50, u51, u52, u53, u54, u55, u56, u57, u58, u59, u60, u61, u62, u63, u64, u65, u66, u67, u68, u69, u70, u71, u72, u73, u74, u75, u76, u77, u78, u79, u80, u81, u82, u83, u84, u85, u86, undef], defers := Ds.map colD }
section
variable {B E : Nat} {W0 : World} {fb w h : Nat} {pk : Bool} {c : Nat → Nat → Nat} {hd : Int} {born stay : Nat} {k tn sh : Int} {n : Nat}
set_option maxRecDepth 100000 in
set_option maxHeartbeats 8000000 in
theorem run7 (f : Fld B E W0 fb w h 2 pk c) (hT : Tab W0) (hb1 : born < 65536) (hs1 : stay < 65536) (hk : 0 ≤ k ∧ k < 256) (ht : 0 ≤ tn) (hA : MayA hd born stay k w h tn sh w h 2 n) (hn : (n : Int) ≤ 67108864 / ((w : Int) * (h : Int))) :
    Calls Tryz.prog 6 #[lifeV hd born stay, topoV k w h tn sh, .pointer (some ⟨fb, 0, none⟩), .int .i64 (n : Int)] W0 (RunPost W0 w h (iterC hd born stay k tn sh w h c n)) := by
  have hok := hA.2.1
  have hnb : (n : Int) ≤ 67108864 := by
    have := Int.ediv_le_self (b := (w : Int) * (h : Int)) (show (0 : Int) ≤ 67108864 by omega)
    omega
  obtain ⟨W2, hW2⟩ : ∃ W2, Hid (W2 = (W0.alloc (.cells #[.int .u8 hd, .int .u16 (born : Int), .int .u16 (stay : Int)] 24)).alloc (.cells #[.int .u8 k, .int .i64 (w : Int), .int .i64 (h : Int), .int .u8 tn, .int .i64 sh] 26)) := ⟨_, rfl⟩
  have hB2 : Hid (Below W0.heap.size W0 W2) := by rw [hW2.out]; exact (below_new _).alloc (by simp) _
  have E2 : Blks W2 [(W0.heap.size + 1, #[.int .u8 k, .int .i64 (w : Int), .int .i64 (h : Int), .int .u8 tn, .int .i64 sh], 26), (W0.heap.size, #[.int .u8 hd, .int .u16 (born : Int), .int .u16 (stay : Int)], 24)] := by
    rw [hW2.out]
    exact ((Blks.nil _).alloc (n := W0.heap.size) rfl #[.int .u8 hd, .int .u16 (born : Int), .int .u16 (stay : Int)] 24).alloc (n := W0.heap.size + 1) (by simp) #[.int .u8 k, .int .i64 (w : Int), .int .i64 (h : Int), .int .u8 tn, .int .i64 sh] 26
  have E2' := Lib.hid E2
  have KM := Lib.hid (may19 (W := (w : Int)) (H := (h : Int)) (sh := sh) (n := (n : Int)) (hd := hd) (f.kept hB2.out) hb1 hs1 hk ht)
  have KC := Lib.hid (fun (W' : World) (hb : Below W0.heap.size W0 W') => (f.kept hb).clone)
  have hA' := Lib.hid hA
  have hn' := Lib.hid hn
  have hok' := Lib.hid hok
  have hT' := Lib.hid hT
  have hside := Lib.hid f.side
  clear E2 f hA hn hok hT
  refine (callsIn_wide (n := 8)).1 ?_
  refine callsIn_of_wp_marks Tryz.func6 rfl trivial ?_ rfl
  simp only [Tryz.ntmps6, List.size_toArray, List.length_cons, List.length_nil, Nat.reduceAdd, Nat.reduceSub, Array.replicate_succ, Array.replicate_zero, List.push_toArray, List.append_toArray, List.nil_append, List.cons_append]
  gi_wp2_with fail
  rw [← hW2.out]
  refine ⟨trivial, callsIn_wide.2 ((KM.out).mono ?_)⟩
  rintro e w3 ⟨r, rfl, hr0, _, _, hb3⟩
  obtain rfl : r = 0 := hr0 hA'.out hn'.out
  have hb3' := Lib.hid hb3
  have hB3 := Lib.hid (below_then hB2.out hb3 hB2.out.size)
  have KC3 := Lib.hid (KC.out _ hB3.out)
  clear hb3 hr0 KM KC
  gi_wp2_with fail
  refine ⟨trivial, callsIn_wide.2 ((KC3.out).mono ?_)⟩
  rintro e w4 ⟨fb4, rfl, f4, hb4⟩
  have KP := Lib.hid (pack21 f4)
  have hB4 := Lib.hid (below_then hB3.out hb4 hB3.out.size)
  have hb4' := Lib.hid hb4
  clear f4 hb4 KC3
  gi_wp2_with fail
  refine ⟨trivial, callsIn_wide.2 ((KP.out).mono ?_)⟩
  rintro e w5 ⟨E5, rfl, f5, hE5, ho5⟩
  have f5' := Lib.hid f5
  have ho5' := Lib.hid ho5
  clear f5 ho5 KP
  gi_wp2_with fail
  have hw35 : Hid (Below w3.heap.size w3 w5) := hb4'.out.trans (ho5'.out.below hb4'.out.size)
  have hgen : Hid (RunW w3.heap.size E5 fb4 w h w3 [] (iterC hd born stay k tn sh w h c 0) w5) := ⟨f5'.out, Coll.nil _ _, hw35.out⟩
  have hpar : Hid (∀ W' : World, Below w3.heap.size w3 W' → W'.cell? ⟨W0.heap.size, 0, none⟩ = some (.int .u8 hd) ∧ W'.cell? ⟨W0.heap.size, 1, none⟩ = some (.int .u16 (born : Int)) ∧ W'.cell? ⟨W0.heap.size, 2, none⟩ = some (.int .u16 (stay : Int)) ∧ W'.cell? ⟨W0.heap.size + 1, 0, none⟩ = some (.int .u8 k) ∧ W'.cell? ⟨W0.heap.size + 1, 1, none⟩ = some (.int .i64 (w : Int)) ∧ W'.cell? ⟨W0.heap.size + 1, 2, none⟩ = some (.int .i64 (h : Int)) ∧ W'.cell? ⟨W0.heap.size + 1, 3, none⟩ = some (.int .u8 tn) ∧ W'.cell? ⟨W0.heap.size + 1, 4, none⟩ = some (.int .i64 sh)) := fun W' hb => by
    have h3 := ((E2'.out.kept hb3'.out).kept hb)
    have a1 := h3 (W0.heap.size, #[.int .u8 hd, .int .u16 (born : Int), .int .u16 (stay : Int)], 24) (by simp)
    have a2 := h3 (W0.heap.size + 1, #[.int .u8 k, .int .i64 (w : Int), .int .i64 (h : Int), .int .u8 tn, .int .i64 sh], 26) (by simp)
    refine ⟨?_, ?_, ?_, ?_, ?_, ?_, ?_, ?_⟩
    · rw [cell_of_row W' _ 0 _ 24 (0, 0) a1]; rfl
    · rw [cell_of_row W' _ 1 _ 24 (0, 0) a1]; rfl
    · rw [cell_of_row W' _ 2 _ 24 (0, 0) a1]; rfl
    · rw [cell_of_row W' _ 0 _ 26 (0, 0) a2]; rfl
    · rw [cell_of_row W' _ 1 _ 26 (0, 0) a2]; rfl
    · rw [cell_of_row W' _ 2 _ 26 (0, 0) a2]; rfl
    · rw [cell_of_row W' _ 3 _ 26 (0, 0) a2]; rfl
    · rw [cell_of_row W' _ 4 _ 26 (0, 0) a2]; rfl
  refine wpIn_loop (RunO hd born stay k tn sh w h n fb W0.heap.size fb4 w3.heap.size E5 w3 c) (fun a _ => n - (intOf (a.tmps.getD 36 undef)).toNat) ?o0 ?o1
  case o0 =>
    refine ⟨0, [], by omega, hgen.out, ?_⟩
    repeat apply Exists.intro
    rfl
  case o1 =>
    rintro a wr ⟨j, Ds, hj, hW, u13, u14, u15, u16, u17, u18, u19, u37, u38, u39, u40, u41, u42, u43, u44, u45, u46, u47, u48, u49, u50, u51, u52, u53, u54, u55, u56, u57, u58, u59, u60, u61, u62, u63, u64, u65, u66, u67, u68, u69, u70, u71, u72, u73, u74, u75, u76, u77, u78, u79, u80, u81, u82, u83, u84, u85, u86, rfl⟩
    have hW' := Lib.hid hW
    have KR := Lib.hid (rows22 hW.fld hk ht hok'.out)
    obtain ⟨m0, m1, m2, m3, m4, m5, m6, m7⟩ := hpar.out wr hW.below
    clear hW
    by_cases hlt : j < n
    · gi_wp2_with fail
      refine ⟨trivial, callsIn_wide.2 ((KR.out).mono ?_)⟩
      rintro e w6 ⟨gr, gs, rfl, hgr, hrows, hb6⟩
      have hEr : E5 ≤ wr.heap.size := hW'.out.fld.lies.2.2
      have hR6 : Hid (RowsAt E5 w h (rowB k tn sh w h (iterC hd born stay k tn sh w h c j)) gr gs w6) := ⟨by omega, fun y hy => by
        obtain ⟨a1, a2, a3, a4⟩ := hrows y hy
        exact ⟨by omega, a2, a3, a4⟩⟩
      have hW6 : Hid (RunW w3.heap.size E5 fb4 w h w3 Ds (mixC (stepC hd born stay k tn sh w h (iterC hd born stay k tn sh w h c j)) (iterC hd born stay k tn sh w h c j) 0) w6) := ⟨(hW'.out.fld.kept hb6).congr (fun y x _ _ => by unfold mixC; rw [if_neg (by omega)]), hW'.out.coll.kept (fun q o hq ho hE => (hb6.block q (Array.getElem?_eq_some_iff.1 hq).1).trans hq), below_then hW'.out.below hb6 hW'.out.below.size⟩
      obtain ⟨q0, q1, q2, q3, q4, q5, q6, q7⟩ := hpar.out w6 hW6.out.below
      clear hb6 hrows KR m0 m1 m2 m3 m4 m5 m6 m7
      gi_wp2_with fail
      refine wpIn_loop (RunI hd born stay k tn sh w h n fb W0.heap.size fb4 w3.heap.size E5 w3 (iterC hd born stay k tn sh w h c j) j gr gs) (fun a _ => h - (intOf (a.tmps.getD 49 undef)).toNat) ?i0 ?i1
      case i0 =>
        refine ⟨0, Ds, by omega, hW6.out, hR6.out, ?_⟩
        repeat apply Exists.intro
        rfl
      case i1 =>
        clear hW6 hR6 q0 q1 q2 q3 q4 q5 q6 q7 hW'
        rintro a wx ⟨y, Dy, hy, hX, hR, u14, u15, u16, u17, u18, u19, u37, u38, u39, u40, u41, u42, u43, u44, u45, u46, u47, u50, u51, u52, u53, u54, u55, u56, u57, u58, u59, u60, u61, u62, u63, u64, u65, u66, u67, u68, u69, u70, u71, u72, u73, u74, u75, u76, u77, u78, u79, u80, u81, u82, u83, u84, u85, u86, rfl⟩
        have hX' := Lib.hid hX
        have hR' := Lib.hid hR
        obtain ⟨q0, q1, q2, q3, q4, q5, q6, q7⟩ := hpar.out wx hX.below
        by_cases hyl : y < h
        · obtain ⟨z0, z0a, z0b, z0w⟩ := hR.row y (by omega)
          obtain ⟨z1, z1a, z1b, z1w⟩ := hR.row (y + 1) (by omega)
          obtain ⟨z2, z2a, z2b, z2w⟩ := hR.row (y + 2) (by omega)
          clear hX hR
          obtain ⟨m, hm⟩ : ∃ m : Nat, Hid (m = w + 2) := ⟨_, rfl⟩
          obtain ⟨L, hL⟩ : ∃ L : Nat, Hid (L = (w + 65) / 64) := ⟨_, rfl⟩
          obtain ⟨L2, hL2⟩ : ∃ L2 : Nat, Hid (L2 = (w + 63) / 64) := ⟨_, rfl⟩
          rw [← hm.out] at z0a z1a z2a
          rw [← hL.out] at z0b z1b z2b
          obtain ⟨Y1, hY1⟩ : ∃ Y1 : Nat, Hid (Y1 = y + 1) := ⟨_, rfl⟩
          obtain ⟨Y2, hY2⟩ : ∃ Y2 : Nat, Hid (Y2 = y + 2) := ⟨_, rfl⟩
          have iy1 : (Y1 : Int) < (h : Int) + 2 := by have := hY1.out; omega
          have iy2 : (Y2 : Int) < (h : Int) + 2 := by have := hY2.out; omega
          have jy1 : IntKind.i64.wrap ((y : Int) + 1) = (Y1 : Int) := by rw [IntWalk.i64_in _ (by have := hside.out; omega), hY1.out]; rfl
          have jy2 : IntKind.i64.wrap ((y : Int) + 2) = (Y2 : Int) := by rw [IntWalk.i64_in _ (by have := hside.out; omega), hY2.out]; rfl
          rw [← hY1.out] at z1a z1b z1w
          rw [← hY2.out] at z2a z2b z2w
          obtain ⟨lb, hlb⟩ : ∃ lb : List Bool, Hid (lb = lineC hd born stay w (rowB k tn sh w h (iterC hd born stay k tn sh w h c j)) y) := ⟨_, rfl⟩
          have KLn : Hid (∀ wz : World, Below wx.heap.size wx wz → Calls Tryz.prog 24 #[.agg #[.int .u8 hd, .int .u16 (born : Int), .int .u16 (stay : Int)], .agg #[.int .i64 (m : Int), .slice (some ⟨gs y, 0, none⟩) L L, .int .i64 (m : Int), .slice (some ⟨gs Y1, 0, none⟩) L L, .int .i64 (m : Int), .slice (some ⟨gs Y2, 0, none⟩) L L]] wz fun e w' => ∃ g, e = .returned (.agg #[.int .i64 (w : Int), .slice (some ⟨g, 0, none⟩) L2 L2]) ∧ wz.heap.size ≤ g ∧ WBlk w' g (pack lb) ∧ Below wz.heap.size wz w') := by
            intro wz hwz
            have hh := lifeE_kind hA'.out.1
            rw [hY1.out] at z1w
            rw [hY2.out] at z2w
            rw [hY1.out, hY2.out]
            have hside' := hside.out
            have hlen : ∀ y', y' < h + 2 → (pack (rowB k tn sh w h (iterC hd born stay k tn sh w h c j) y')).length = L ∧ RowGood m (pack (rowB k tn sh w h (iterC hd born stay k tn sh w h c j) y')) := fun y' hy' => by
              have h1 := pack_good (rowB k tn sh w h (iterC hd born stay k tn sh w h c j) y')
              rw [rowB_len hy', ← hm.out] at h1
              exact ⟨by rw [h1.len, hm.out, hL.out], h1⟩
            have a0 := (z0w.kept hwz).has (cap := L)
            have a1 := (z1w.kept hwz).has (cap := L)
            have a2 := (z2w.kept hwz).has (cap := L)
            rw [(hlen y (by omega)).1] at a0
            rw [(hlen (y + 1) (by omega)).1] at a1
            rw [(hlen (y + 2) (by omega)).1] at a2
            refine (line47 (n := m) hh hb1 hs1 (by have := hm.out; omega) (by have := hm.out; omega) (hlen y (by omega)).2 (hlen (y + 1) (by omega)).2 (hlen (y + 2) (by omega)).2 a0 a1 a2).mono ?_
            rintro e w' ⟨g, rfl, r1, r2, r3⟩
            have e1 : (m : Int) - 2 = (w : Int) := by have := hm.out; omega
            have e2 : m - 2 = w := by have := hm.out; omega
            rw [e1, e2, ← hL2.out]
            rw [e2] at r2
            have hl8 := offs_len hd
            rw [line_eq ⟨(hlen y (by omega)).2.w64, (hlen (y + 1) (by omega)).2.w64, (hlen (y + 2) (by omega)).2.w64⟩ (fun q hq => (offs_near hh q hq).1) (by omega)] at r2
            refine ⟨g, rfl, r1, ?_, r3⟩
            rw [hlb.out]
            exact r2
          replace z0a := Lib.hid z0a
          replace z0b := Lib.hid z0b
          replace z1a := Lib.hid z1a
          replace z1b := Lib.hid z1b
          replace z2a := Lib.hid z2a
          replace z2b := Lib.hid z2b
          replace iy1 := Lib.hid iy1
          replace iy2 := Lib.hid iy2
          replace jy1 := Lib.hid jy1
          replace jy2 := Lib.hid jy2
          clear q0 q1 q2 z0w z1w z2w
          gi_wp2_with fail
          refine wpIn_wide.2 ?_
          refine RegInv.wp_region_inv 18 [52, 53, 54, 55, 56, 57, 58, 59, 60, 61, 62, 63, 64, 65, 66, 67, 68, 16] (RegInv.ILv (PrR hd born stay h m L L2 w gr y Y1 Y2 gs (pack lb) wx.heap.size) 18 wx) (by kernel_rfl) (by kernel_rfl) (RegInv.ILv.start _ 18 (by simp) (Below.refl _ _).drew) (fun i hi L9 vs w' hLi hd9 hI K hK => ?s0) (fun vs w' hI => ?s1)
          case s0 =>
            obtain ⟨hlen, hB9, hA0⟩ := hI
            obtain ⟨us, rfl⟩ := RegInv.list_fn hlen
            have hA9 : ∀ i, i < 18 → L9 i = true → (PrR hd born stay h m L L2 w gr y Y1 Y2 gs (pack lb) wx.heap.size) i ([us 0, us 1, us 2, us 3, us 4, us 5, us 6, us 7, us 8, us 9, us 10, us 11, us 12, us 13, us 14, us 15, us 16, us 17].getD i undef) w' := hA0
            change wpOp _ _ _ _ _ (RegInv.putAll _ _ [us 0, us 1, us 2, us 3, us 4, us 5, us 6, us 7, us 8, us 9, us 10, us 11, us 12, us 13, us 14, us 15, us 16, us 17]) _
            clear hlen hA0
            generalize us 0 = u90 at hA9 ⊢
            generalize us 1 = u91 at hA9 ⊢
            generalize us 2 = u92 at hA9 ⊢
            generalize us 3 = u93 at hA9 ⊢
            generalize us 4 = u94 at hA9 ⊢
            generalize us 5 = u95 at hA9 ⊢
            generalize us 6 = u96 at hA9 ⊢
            generalize us 7 = u97 at hA9 ⊢
            generalize us 8 = u98 at hA9 ⊢
            generalize us 9 = u99 at hA9 ⊢
            generalize us 10 = u910 at hA9 ⊢
            generalize us 11 = u911 at hA9 ⊢
            generalize us 12 = u912 at hA9 ⊢
            generalize us 13 = u913 at hA9 ⊢
            generalize us 14 = u914 at hA9 ⊢
            generalize us 15 = u915 at hA9 ⊢
            generalize us 16 = u916 at hA9 ⊢
            generalize us 17 = u917 at hA9 ⊢
            clear us
            match i, hi with
            | 0, _ =>
              obtain ⟨q0, q1, q2, q3, q4, q5, q6, q7⟩ := hpar.out w' (below_then hX'.out.below hB9 hX'.out.below.size)
              clear q3 q4 q5 q6 q7
              refine wpOp_step rfl (fun K' hK' => ?_)
              go_simp
              have hI : RegInv.ILv (PrR hd born stay h m L L2 w gr y Y1 Y2 gs (pack lb) wx.heap.size) 18 wx (fun j => decide (j = 0) || L9 j) [(.agg #[.int .u8 hd, .int .u16 (born : Int), .int .u16 (stay : Int)]), u91, u92, u93, u94, u95, u96, u97, u98, u99, u910, u911, u912, u913, u914, u915, u916, u917] w' := RegInv.ILv.step (Pr := (PrR hd born stay h m L L2 w gr y Y1 Y2 gs (pack lb) wx.heap.size)) (n := 18) (vs := [u90, u91, u92, u93, u94, u95, u96, u97, u98, u99, u910, u911, u912, u913, u914, u915, u916, u917]) PrR.mono rfl hB9 hA9 0 (.agg #[.int .u8 hd, .int .u16 (born : Int), .int .u16 (stay : Int)]) (Below.refl _ _) (rfl)
              have hk := hK' _ _ (hK _ _ hI)
              revert hk
              go_simp
            | 1, _ =>
              refine wpOp_step rfl (fun K' hK' => ?_)
              go_simp
              have hI : RegInv.ILv (PrR hd born stay h m L L2 w gr y Y1 Y2 gs (pack lb) wx.heap.size) 18 wx (fun j => decide (j = 1) || L9 j) [u90, (.slice (some ⟨gr, 0, none⟩) (h + 2) (h + 2)), u92, u93, u94, u95, u96, u97, u98, u99, u910, u911, u912, u913, u914, u915, u916, u917] w' := RegInv.ILv.step (Pr := (PrR hd born stay h m L L2 w gr y Y1 Y2 gs (pack lb) wx.heap.size)) (n := 18) (vs := [u90, u91, u92, u93, u94, u95, u96, u97, u98, u99, u910, u911, u912, u913, u914, u915, u916, u917]) PrR.mono rfl hB9 hA9 1 (.slice (some ⟨gr, 0, none⟩) (h + 2) (h + 2)) (Below.refl _ _) (rfl)
              have hk := hK' _ _ (hK _ _ hI)
              revert hk
              go_simp
            | 2, _ =>
              refine wpOp_step rfl (fun K' hK' => ?_)
              go_simp
              have hI : RegInv.ILv (PrR hd born stay h m L L2 w gr y Y1 Y2 gs (pack lb) wx.heap.size) 18 wx (fun j => decide (j = 2) || L9 j) [u90, u91, (.int .i64 (y : Int)), u93, u94, u95, u96, u97, u98, u99, u910, u911, u912, u913, u914, u915, u916, u917] w' := RegInv.ILv.step (Pr := (PrR hd born stay h m L L2 w gr y Y1 Y2 gs (pack lb) wx.heap.size)) (n := 18) (vs := [u90, u91, u92, u93, u94, u95, u96, u97, u98, u99, u910, u911, u912, u913, u914, u915, u916, u917]) PrR.mono rfl hB9 hA9 2 (.int .i64 (y : Int)) (Below.refl _ _) (rfl)
              have hk := hK' _ _ (hK _ _ hI)
              revert hk
              go_simp
            | 3, _ =>
              have hd' : ([1, 2] : List Nat).all L9 = true := hd9
              simp only [List.all_cons, List.all_nil, Bool.and_true, Bool.and_eq_true] at hd'
              have hp1 : PrR hd born stay h m L L2 w gr y Y1 Y2 gs (pack lb) wx.heap.size 1 u91 w' := hA9 1 (by omega) (hd'.1)
              obtain rfl : u91 = .slice (some ⟨gr, 0, none⟩) (h + 2) (h + 2) := hp1
              have hp2 : PrR hd born stay h m L L2 w gr y Y1 Y2 gs (pack lb) wx.heap.size 2 u92 w' := hA9 2 (by omega) (hd'.2)
              obtain rfl : u92 = .int .i64 (y : Int) := hp2
              have iy0 : (y : Int) < (h : Int) + 2 := by omega
              refine wpOp_step rfl (fun K' hK' => ?_)
              go_simp
              have hI : RegInv.ILv (PrR hd born stay h m L L2 w gr y Y1 Y2 gs (pack lb) wx.heap.size) 18 wx (fun j => decide (j = 3) || L9 j) [u90, (.slice (some ⟨gr, 0, none⟩) (h + 2) (h + 2)), (.int .i64 (y : Int)), (.pointer (some ⟨gr, y * 2, none⟩)), u94, u95, u96, u97, u98, u99, u910, u911, u912, u913, u914, u915, u916, u917] w' := RegInv.ILv.step (Pr := (PrR hd born stay h m L L2 w gr y Y1 Y2 gs (pack lb) wx.heap.size)) (n := 18) (vs := [u90, (.slice (some ⟨gr, 0, none⟩) (h + 2) (h + 2)), (.int .i64 (y : Int)), u93, u94, u95, u96, u97, u98, u99, u910, u911, u912, u913, u914, u915, u916, u917]) PrR.mono rfl hB9 hA9 3 (.pointer (some ⟨gr, y * 2, none⟩)) (Below.refl _ _) (rfl)
              have hk := hK' _ _ (hK _ _ hI)
              revert hk
              go_simp
            | 4, _ =>
              have hd' : ([3] : List Nat).all L9 = true := hd9
              simp only [List.all_cons, List.all_nil, Bool.and_true, Bool.and_eq_true] at hd'
              have hp3 : PrR hd born stay h m L L2 w gr y Y1 Y2 gs (pack lb) wx.heap.size 3 u93 w' := hA9 3 (by omega) (hd')
              obtain rfl : u93 = .pointer (some ⟨gr, y * 2, none⟩) := hp3
              have za := cell_kept hB9 z0a.out
              have zb := cell_kept hB9 z0b.out
              refine wpOp_step rfl (fun K' hK' => ?_)
              go_simp
              have hI : RegInv.ILv (PrR hd born stay h m L L2 w gr y Y1 Y2 gs (pack lb) wx.heap.size) 18 wx (fun j => decide (j = 4) || L9 j) [u90, u91, u92, (.pointer (some ⟨gr, y * 2, none⟩)), (.agg #[.int .i64 (m : Int), .slice (some ⟨gs y, 0, none⟩) L L]), u95, u96, u97, u98, u99, u910, u911, u912, u913, u914, u915, u916, u917] w' := RegInv.ILv.step (Pr := (PrR hd born stay h m L L2 w gr y Y1 Y2 gs (pack lb) wx.heap.size)) (n := 18) (vs := [u90, u91, u92, (.pointer (some ⟨gr, y * 2, none⟩)), u94, u95, u96, u97, u98, u99, u910, u911, u912, u913, u914, u915, u916, u917]) PrR.mono rfl hB9 hA9 4 (.agg #[.int .i64 (m : Int), .slice (some ⟨gs y, 0, none⟩) L L]) (Below.refl _ _) (rfl)
              have hk := hK' _ _ (hK _ _ hI)
              revert hk
              go_simp
            | 5, _ =>
              refine wpOp_step rfl (fun K' hK' => ?_)
              go_simp
              have hI : RegInv.ILv (PrR hd born stay h m L L2 w gr y Y1 Y2 gs (pack lb) wx.heap.size) 18 wx (fun j => decide (j = 5) || L9 j) [u90, u91, u92, u93, u94, (.slice (some ⟨gr, 0, none⟩) (h + 2) (h + 2)), u96, u97, u98, u99, u910, u911, u912, u913, u914, u915, u916, u917] w' := RegInv.ILv.step (Pr := (PrR hd born stay h m L L2 w gr y Y1 Y2 gs (pack lb) wx.heap.size)) (n := 18) (vs := [u90, u91, u92, u93, u94, u95, u96, u97, u98, u99, u910, u911, u912, u913, u914, u915, u916, u917]) PrR.mono rfl hB9 hA9 5 (.slice (some ⟨gr, 0, none⟩) (h + 2) (h + 2)) (Below.refl _ _) (rfl)
              have hk := hK' _ _ (hK _ _ hI)
              revert hk
              go_simp
            | 6, _ =>
              refine wpOp_step rfl (fun K' hK' => ?_)
              go_simp
              have hI : RegInv.ILv (PrR hd born stay h m L L2 w gr y Y1 Y2 gs (pack lb) wx.heap.size) 18 wx (fun j => decide (j = 6) || L9 j) [u90, u91, u92, u93, u94, u95, (.int .i64 (y : Int)), u97, u98, u99, u910, u911, u912, u913, u914, u915, u916, u917] w' := RegInv.ILv.step (Pr := (PrR hd born stay h m L L2 w gr y Y1 Y2 gs (pack lb) wx.heap.size)) (n := 18) (vs := [u90, u91, u92, u93, u94, u95, u96, u97, u98, u99, u910, u911, u912, u913, u914, u915, u916, u917]) PrR.mono rfl hB9 hA9 6 (.int .i64 (y : Int)) (Below.refl _ _) (rfl)
              have hk := hK' _ _ (hK _ _ hI)
              revert hk
              go_simp
            | 7, _ =>
              have hd' : ([6] : List Nat).all L9 = true := hd9
              simp only [List.all_cons, List.all_nil, Bool.and_true, Bool.and_eq_true] at hd'
              have hp6 : PrR hd born stay h m L L2 w gr y Y1 Y2 gs (pack lb) wx.heap.size 6 u96 w' := hA9 6 (by omega) (hd')
              obtain rfl : u96 = .int .i64 (y : Int) := hp6
              have jy := jy1.out
              refine wpOp_step rfl (fun K' hK' => ?_)
              go_simp
              have hI : RegInv.ILv (PrR hd born stay h m L L2 w gr y Y1 Y2 gs (pack lb) wx.heap.size) 18 wx (fun j => decide (j = 7) || L9 j) [u90, u91, u92, u93, u94, u95, (.int .i64 (y : Int)), (.int .i64 (Y1 : Int)), u98, u99, u910, u911, u912, u913, u914, u915, u916, u917] w' := RegInv.ILv.step (Pr := (PrR hd born stay h m L L2 w gr y Y1 Y2 gs (pack lb) wx.heap.size)) (n := 18) (vs := [u90, u91, u92, u93, u94, u95, (.int .i64 (y : Int)), u97, u98, u99, u910, u911, u912, u913, u914, u915, u916, u917]) PrR.mono rfl hB9 hA9 7 (.int .i64 (Y1 : Int)) (Below.refl _ _) (rfl)
              have hk := hK' _ _ (hK _ _ hI)
              revert hk
              go_simp
            | 8, _ =>
              have hd' : ([5, 7] : List Nat).all L9 = true := hd9
              simp only [List.all_cons, List.all_nil, Bool.and_true, Bool.and_eq_true] at hd'
              have hp5 : PrR hd born stay h m L L2 w gr y Y1 Y2 gs (pack lb) wx.heap.size 5 u95 w' := hA9 5 (by omega) (hd'.1)
              obtain rfl : u95 = .slice (some ⟨gr, 0, none⟩) (h + 2) (h + 2) := hp5
              have hp7 : PrR hd born stay h m L L2 w gr y Y1 Y2 gs (pack lb) wx.heap.size 7 u97 w' := hA9 7 (by omega) (hd'.2)
              obtain rfl : u97 = .int .i64 (Y1 : Int) := hp7
              have iy := iy1.out
              refine wpOp_step rfl (fun K' hK' => ?_)
              go_simp
              have hI : RegInv.ILv (PrR hd born stay h m L L2 w gr y Y1 Y2 gs (pack lb) wx.heap.size) 18 wx (fun j => decide (j = 8) || L9 j) [u90, u91, u92, u93, u94, (.slice (some ⟨gr, 0, none⟩) (h + 2) (h + 2)), u96, (.int .i64 (Y1 : Int)), (.pointer (some ⟨gr, Y1 * 2, none⟩)), u99, u910, u911, u912, u913, u914, u915, u916, u917] w' := RegInv.ILv.step (Pr := (PrR hd born stay h m L L2 w gr y Y1 Y2 gs (pack lb) wx.heap.size)) (n := 18) (vs := [u90, u91, u92, u93, u94, (.slice (some ⟨gr, 0, none⟩) (h + 2) (h + 2)), u96, (.int .i64 (Y1 : Int)), u98, u99, u910, u911, u912, u913, u914, u915, u916, u917]) PrR.mono rfl hB9 hA9 8 (.pointer (some ⟨gr, Y1 * 2, none⟩)) (Below.refl _ _) (rfl)
              have hk := hK' _ _ (hK _ _ hI)
              revert hk
              go_simp
            | 9, _ =>
              have hd' : ([8] : List Nat).all L9 = true := hd9
              simp only [List.all_cons, List.all_nil, Bool.and_true, Bool.and_eq_true] at hd'
              have hp8 : PrR hd born stay h m L L2 w gr y Y1 Y2 gs (pack lb) wx.heap.size 8 u98 w' := hA9 8 (by omega) (hd')
              obtain rfl : u98 = .pointer (some ⟨gr, Y1 * 2, none⟩) := hp8
              have za := cell_kept hB9 z1a.out
              have zb := cell_kept hB9 z1b.out
              refine wpOp_step rfl (fun K' hK' => ?_)
              go_simp
              have hI : RegInv.ILv (PrR hd born stay h m L L2 w gr y Y1 Y2 gs (pack lb) wx.heap.size) 18 wx (fun j => decide (j = 9) || L9 j) [u90, u91, u92, u93, u94, u95, u96, u97, (.pointer (some ⟨gr, Y1 * 2, none⟩)), (.agg #[.int .i64 (m : Int), .slice (some ⟨gs Y1, 0, none⟩) L L]), u910, u911, u912, u913, u914, u915, u916, u917] w' := RegInv.ILv.step (Pr := (PrR hd born stay h m L L2 w gr y Y1 Y2 gs (pack lb) wx.heap.size)) (n := 18) (vs := [u90, u91, u92, u93, u94, u95, u96, u97, (.pointer (some ⟨gr, Y1 * 2, none⟩)), u99, u910, u911, u912, u913, u914, u915, u916, u917]) PrR.mono rfl hB9 hA9 9 (.agg #[.int .i64 (m : Int), .slice (some ⟨gs Y1, 0, none⟩) L L]) (Below.refl _ _) (rfl)
              have hk := hK' _ _ (hK _ _ hI)
              revert hk
              go_simp
            | 10, _ =>
              refine wpOp_step rfl (fun K' hK' => ?_)
              go_simp
              have hI : RegInv.ILv (PrR hd born stay h m L L2 w gr y Y1 Y2 gs (pack lb) wx.heap.size) 18 wx (fun j => decide (j = 10) || L9 j) [u90, u91, u92, u93, u94, u95, u96, u97, u98, u99, (.slice (some ⟨gr, 0, none⟩) (h + 2) (h + 2)), u911, u912, u913, u914, u915, u916, u917] w' := RegInv.ILv.step (Pr := (PrR hd born stay h m L L2 w gr y Y1 Y2 gs (pack lb) wx.heap.size)) (n := 18) (vs := [u90, u91, u92, u93, u94, u95, u96, u97, u98, u99, u910, u911, u912, u913, u914, u915, u916, u917]) PrR.mono rfl hB9 hA9 10 (.slice (some ⟨gr, 0, none⟩) (h + 2) (h + 2)) (Below.refl _ _) (rfl)
              have hk := hK' _ _ (hK _ _ hI)
              revert hk
              go_simp
            | 11, _ =>
              refine wpOp_step rfl (fun K' hK' => ?_)
              go_simp
              have hI : RegInv.ILv (PrR hd born stay h m L L2 w gr y Y1 Y2 gs (pack lb) wx.heap.size) 18 wx (fun j => decide (j = 11) || L9 j) [u90, u91, u92, u93, u94, u95, u96, u97, u98, u99, u910, (.int .i64 (y : Int)), u912, u913, u914, u915, u916, u917] w' := RegInv.ILv.step (Pr := (PrR hd born stay h m L L2 w gr y Y1 Y2 gs (pack lb) wx.heap.size)) (n := 18) (vs := [u90, u91, u92, u93, u94, u95, u96, u97, u98, u99, u910, u911, u912, u913, u914, u915, u916, u917]) PrR.mono rfl hB9 hA9 11 (.int .i64 (y : Int)) (Below.refl _ _) (rfl)
              have hk := hK' _ _ (hK _ _ hI)
              revert hk
              go_simp
            | 12, _ =>
              have hd' : ([11] : List Nat).all L9 = true := hd9
              simp only [List.all_cons, List.all_nil, Bool.and_true, Bool.and_eq_true] at hd'
              have hp11 : PrR hd born stay h m L L2 w gr y Y1 Y2 gs (pack lb) wx.heap.size 11 u911 w' := hA9 11 (by omega) (hd')
              obtain rfl : u911 = .int .i64 (y : Int) := hp11
              have jy := jy2.out
              refine wpOp_step rfl (fun K' hK' => ?_)
              go_simp
              have hI : RegInv.ILv (PrR hd born stay h m L L2 w gr y Y1 Y2 gs (pack lb) wx.heap.size) 18 wx (fun j => decide (j = 12) || L9 j) [u90, u91, u92, u93, u94, u95, u96, u97, u98, u99, u910, (.int .i64 (y : Int)), (.int .i64 (Y2 : Int)), u913, u914, u915, u916, u917] w' := RegInv.ILv.step (Pr := (PrR hd born stay h m L L2 w gr y Y1 Y2 gs (pack lb) wx.heap.size)) (n := 18) (vs := [u90, u91, u92, u93, u94, u95, u96, u97, u98, u99, u910, (.int .i64 (y : Int)), u912, u913, u914, u915, u916, u917]) PrR.mono rfl hB9 hA9 12 (.int .i64 (Y2 : Int)) (Below.refl _ _) (rfl)
              have hk := hK' _ _ (hK _ _ hI)
              revert hk
              go_simp
            | 13, _ =>
              have hd' : ([10, 12] : List Nat).all L9 = true := hd9
              simp only [List.all_cons, List.all_nil, Bool.and_true, Bool.and_eq_true] at hd'
              have hp10 : PrR hd born stay h m L L2 w gr y Y1 Y2 gs (pack lb) wx.heap.size 10 u910 w' := hA9 10 (by omega) (hd'.1)
              obtain rfl : u910 = .slice (some ⟨gr, 0, none⟩) (h + 2) (h + 2) := hp10
              have hp12 : PrR hd born stay h m L L2 w gr y Y1 Y2 gs (pack lb) wx.heap.size 12 u912 w' := hA9 12 (by omega) (hd'.2)
              obtain rfl : u912 = .int .i64 (Y2 : Int) := hp12
              have iy := iy2.out
              refine wpOp_step rfl (fun K' hK' => ?_)
              go_simp
              have hI : RegInv.ILv (PrR hd born stay h m L L2 w gr y Y1 Y2 gs (pack lb) wx.heap.size) 18 wx (fun j => decide (j = 13) || L9 j) [u90, u91, u92, u93, u94, u95, u96, u97, u98, u99, (.slice (some ⟨gr, 0, none⟩) (h + 2) (h + 2)), u911, (.int .i64 (Y2 : Int)), (.pointer (some ⟨gr, Y2 * 2, none⟩)), u914, u915, u916, u917] w' := RegInv.ILv.step (Pr := (PrR hd born stay h m L L2 w gr y Y1 Y2 gs (pack lb) wx.heap.size)) (n := 18) (vs := [u90, u91, u92, u93, u94, u95, u96, u97, u98, u99, (.slice (some ⟨gr, 0, none⟩) (h + 2) (h + 2)), u911, (.int .i64 (Y2 : Int)), u913, u914, u915, u916, u917]) PrR.mono rfl hB9 hA9 13 (.pointer (some ⟨gr, Y2 * 2, none⟩)) (Below.refl _ _) (rfl)
              have hk := hK' _ _ (hK _ _ hI)
              revert hk
              go_simp
            | 14, _ =>
              have hd' : ([13] : List Nat).all L9 = true := hd9
              simp only [List.all_cons, List.all_nil, Bool.and_true, Bool.and_eq_true] at hd'
              have hp13 : PrR hd born stay h m L L2 w gr y Y1 Y2 gs (pack lb) wx.heap.size 13 u913 w' := hA9 13 (by omega) (hd')
              obtain rfl : u913 = .pointer (some ⟨gr, Y2 * 2, none⟩) := hp13
              have za := cell_kept hB9 z2a.out
              have zb := cell_kept hB9 z2b.out
              refine wpOp_step rfl (fun K' hK' => ?_)
              go_simp
              have hI : RegInv.ILv (PrR hd born stay h m L L2 w gr y Y1 Y2 gs (pack lb) wx.heap.size) 18 wx (fun j => decide (j = 14) || L9 j) [u90, u91, u92, u93, u94, u95, u96, u97, u98, u99, u910, u911, u912, (.pointer (some ⟨gr, Y2 * 2, none⟩)), (.agg #[.int .i64 (m : Int), .slice (some ⟨gs Y2, 0, none⟩) L L]), u915, u916, u917] w' := RegInv.ILv.step (Pr := (PrR hd born stay h m L L2 w gr y Y1 Y2 gs (pack lb) wx.heap.size)) (n := 18) (vs := [u90, u91, u92, u93, u94, u95, u96, u97, u98, u99, u910, u911, u912, (.pointer (some ⟨gr, Y2 * 2, none⟩)), u914, u915, u916, u917]) PrR.mono rfl hB9 hA9 14 (.agg #[.int .i64 (m : Int), .slice (some ⟨gs Y2, 0, none⟩) L L]) (Below.refl _ _) (rfl)
              have hk := hK' _ _ (hK _ _ hI)
              revert hk
              go_simp
            | 15, _ =>
              have hd' : ([4, 9, 14] : List Nat).all L9 = true := hd9
              simp only [List.all_cons, List.all_nil, Bool.and_true, Bool.and_eq_true] at hd'
              have hp4 : PrR hd born stay h m L L2 w gr y Y1 Y2 gs (pack lb) wx.heap.size 4 u94 w' := hA9 4 (by omega) (hd'.1)
              obtain rfl : u94 = .agg #[.int .i64 (m : Int), .slice (some ⟨gs y, 0, none⟩) L L] := hp4
              have hp9 : PrR hd born stay h m L L2 w gr y Y1 Y2 gs (pack lb) wx.heap.size 9 u99 w' := hA9 9 (by omega) (hd'.2.1)
              obtain rfl : u99 = .agg #[.int .i64 (m : Int), .slice (some ⟨gs Y1, 0, none⟩) L L] := hp9
              have hp14 : PrR hd born stay h m L L2 w gr y Y1 Y2 gs (pack lb) wx.heap.size 14 u914 w' := hA9 14 (by omega) (hd'.2.2)
              obtain rfl : u914 = .agg #[.int .i64 (m : Int), .slice (some ⟨gs Y2, 0, none⟩) L L] := hp14
              refine wpOp_step rfl (fun K' hK' => ?_)
              go_simp
              have hI : RegInv.ILv (PrR hd born stay h m L L2 w gr y Y1 Y2 gs (pack lb) wx.heap.size) 18 wx (fun j => decide (j = 15) || L9 j) [u90, u91, u92, u93, (.agg #[.int .i64 (m : Int), .slice (some ⟨gs y, 0, none⟩) L L]), u95, u96, u97, u98, (.agg #[.int .i64 (m : Int), .slice (some ⟨gs Y1, 0, none⟩) L L]), u910, u911, u912, u913, (.agg #[.int .i64 (m : Int), .slice (some ⟨gs Y2, 0, none⟩) L L]), (.agg #[.int .i64 (m : Int), .slice (some ⟨gs y, 0, none⟩) L L, .int .i64 (m : Int), .slice (some ⟨gs Y1, 0, none⟩) L L, .int .i64 (m : Int), .slice (some ⟨gs Y2, 0, none⟩) L L]), u916, u917] w' := RegInv.ILv.step (Pr := (PrR hd born stay h m L L2 w gr y Y1 Y2 gs (pack lb) wx.heap.size)) (n := 18) (vs := [u90, u91, u92, u93, (.agg #[.int .i64 (m : Int), .slice (some ⟨gs y, 0, none⟩) L L]), u95, u96, u97, u98, (.agg #[.int .i64 (m : Int), .slice (some ⟨gs Y1, 0, none⟩) L L]), u910, u911, u912, u913, (.agg #[.int .i64 (m : Int), .slice (some ⟨gs Y2, 0, none⟩) L L]), u915, u916, u917]) PrR.mono rfl hB9 hA9 15 (.agg #[.int .i64 (m : Int), .slice (some ⟨gs y, 0, none⟩) L L, .int .i64 (m : Int), .slice (some ⟨gs Y1, 0, none⟩) L L, .int .i64 (m : Int), .slice (some ⟨gs Y2, 0, none⟩) L L]) (Below.refl _ _) (rfl)
              have hk := hK' _ _ (hK _ _ hI)
              revert hk
              go_simp
            | 16, _ =>
              have hd' : ([0, 15] : List Nat).all L9 = true := hd9
              simp only [List.all_cons, List.all_nil, Bool.and_true, Bool.and_eq_true] at hd'
              have hp0 : PrR hd born stay h m L L2 w gr y Y1 Y2 gs (pack lb) wx.heap.size 0 u90 w' := hA9 0 (by omega) (hd'.1)
              obtain rfl : u90 = .agg #[.int .u8 hd, .int .u16 (born : Int), .int .u16 (stay : Int)] := hp0
              have hp15 : PrR hd born stay h m L L2 w gr y Y1 Y2 gs (pack lb) wx.heap.size 15 u915 w' := hA9 15 (by omega) (hd'.2)
              obtain rfl : u915 = .agg #[.int .i64 (m : Int), .slice (some ⟨gs y, 0, none⟩) L L, .int .i64 (m : Int), .slice (some ⟨gs Y1, 0, none⟩) L L, .int .i64 (m : Int), .slice (some ⟨gs Y2, 0, none⟩) L L] := hp15
              refine wpOp_step rfl (fun K' hK' => ?_)
              go_simp
              refine (KLn.out w' hB9).mono ?_
              rintro e w6 ⟨g, rfl, hg, hY, hb⟩
              have hg9 : Hid (wx.heap.size ≤ g) := Nat.le_trans hB9.size hg
              have hw9 : Hid (WBlk w6 g (pack lb)) := hY
              have hb6 := Lib.hid hb
              clear hg hY hb
              have hI : RegInv.ILv (PrR hd born stay h m L L2 w gr y Y1 Y2 gs (pack lb) wx.heap.size) 18 wx (fun j => decide (j = 16) || L9 j) [(.agg #[.int .u8 hd, .int .u16 (born : Int), .int .u16 (stay : Int)]), u91, u92, u93, u94, u95, u96, u97, u98, u99, u910, u911, u912, u913, u914, (.agg #[.int .i64 (m : Int), .slice (some ⟨gs y, 0, none⟩) L L, .int .i64 (m : Int), .slice (some ⟨gs Y1, 0, none⟩) L L, .int .i64 (m : Int), .slice (some ⟨gs Y2, 0, none⟩) L L]), (.agg #[.int .i64 (w : Int), .slice (some ⟨g, 0, none⟩) L2 L2]), u917] w6 := RegInv.ILv.step (Pr := (PrR hd born stay h m L L2 w gr y Y1 Y2 gs (pack lb) wx.heap.size)) (n := 18) (vs := [(.agg #[.int .u8 hd, .int .u16 (born : Int), .int .u16 (stay : Int)]), u91, u92, u93, u94, u95, u96, u97, u98, u99, u910, u911, u912, u913, u914, (.agg #[.int .i64 (m : Int), .slice (some ⟨gs y, 0, none⟩) L L, .int .i64 (m : Int), .slice (some ⟨gs Y1, 0, none⟩) L L, .int .i64 (m : Int), .slice (some ⟨gs Y2, 0, none⟩) L L]), u916, u917]) PrR.mono rfl hB9 hA9 16 (.agg #[.int .i64 (w : Int), .slice (some ⟨g, 0, none⟩) L2 L2]) hb6.out (⟨g, rfl, hg9.out, hw9.out⟩)
              have hk := hK' _ _ (hK _ _ hI)
              revert hk
              go_simp
            | 17, _ =>
              refine wpOp_step rfl (fun K' hK' => ?_)
              go_simp
              have hI : RegInv.ILv (PrR hd born stay h m L L2 w gr y Y1 Y2 gs (pack lb) wx.heap.size) 18 wx (fun j => decide (j = 17) || L9 j) [u90, u91, u92, u93, u94, u95, u96, u97, u98, u99, u910, u911, u912, u913, u914, u915, u916, (.pointer (some ⟨w'.heap.size, 0, none⟩))] (w'.alloc (.cells #[.int .i64 0, .slice none 0 0] 58)) := RegInv.ILv.step (Pr := (PrR hd born stay h m L L2 w gr y Y1 Y2 gs (pack lb) wx.heap.size)) (n := 18) (vs := [u90, u91, u92, u93, u94, u95, u96, u97, u98, u99, u910, u911, u912, u913, u914, u915, u916, u917]) PrR.mono rfl hB9 hA9 17 (.pointer (some ⟨w'.heap.size, 0, none⟩)) (below_new _) (⟨w'.heap.size, rfl, hB9.size, heap_alloc_new w' _⟩)
              have hk := hK' _ _ (hK _ _ hI)
              revert hk
              go_simp
            | (_ + 18), h18 => exact absurd h18 (by omega)
          case s1 =>
          obtain ⟨hlen, hB9, hA0⟩ := hI
          obtain ⟨us, rfl⟩ := RegInv.list_fn hlen
          have hp16 : (PrR hd born stay h m L L2 w gr y Y1 Y2 gs (pack lb) wx.heap.size) 16 (us 16) w' := hA0 16 (by omega) (by decide)
          have hp17 : (PrR hd born stay h m L L2 w gr y Y1 Y2 gs (pack lb) wx.heap.size) 17 (us 17) w' := hA0 17 (by omega) (by decide)
          change wpList _ _ _ _ (RegInv.putAll _ _ [us 0, us 1, us 2, us 3, us 4, us 5, us 6, us 7, us 8, us 9, us 10, us 11, us 12, us 13, us 14, us 15, us 16, us 17]) _
          clear hlen hA0
          generalize us 0 = u90 at *
          generalize us 1 = u91 at *
          generalize us 2 = u92 at *
          generalize us 3 = u93 at *
          generalize us 4 = u94 at *
          generalize us 5 = u95 at *
          generalize us 6 = u96 at *
          generalize us 7 = u97 at *
          generalize us 8 = u98 at *
          generalize us 9 = u99 at *
          generalize us 10 = u910 at *
          generalize us 11 = u911 at *
          generalize us 12 = u912 at *
          generalize us 13 = u913 at *
          generalize us 14 = u914 at *
          generalize us 15 = u915 at *
          generalize us 16 = u916 at *
          generalize us 17 = u917 at *
          clear us
          obtain ⟨gl, rfl, hgl, hwl⟩ := hp16
          obtain ⟨bl, rfl, hbl, hkl⟩ := hp17
          have hwl' := Lib.hid hwl
          have hkl' := Lib.hid hkl
          have hB9' := Lib.hid hB9
          have k0 : w'.cell? ⟨bl, 0, none⟩ = some (.int .i64 0) := by rw [cell_of_row w' bl 0 _ 58 (0, 0) hkl]; rfl
          have k1 : w'.cell? ⟨bl, 1, none⟩ = some (.slice none 0 0) := by rw [cell_of_row w' bl 1 _ 58 (0, 0) hkl]; rfl
          have k2 : w'.frozen? ⟨bl, 0, none⟩ = false := frozen_of_row w' bl 0 _ 58 hkl
          have k3 : w'.frozen? ⟨bl, 1, none⟩ = false := frozen_of_row w' bl 1 _ 58 hkl
          clear hwl hkl hB9
          clear KLn z0a z1a z2a z0b z1b z2b iy1 iy2 jy1 jy2
          go_wp2_with fail
          obtain ⟨W8, hW8⟩ : ∃ W8, Hid (W8 = (w'.setCell ⟨bl, 0, none⟩ (.int .i64 (w : Int))).setCell ⟨bl, 1, none⟩ (.slice (some ⟨gl, 0, none⟩) L2 L2)) := ⟨_, rfl⟩
          have hB8 : Hid (Below wx.heap.size wx W8) := by rw [hW8.out]; exact (hB9'.out.setCell hbl _).setCell hbl _
          have hne : Hid (gl ≠ bl) := by
            rintro rfl
            have h1 := hkl'.out
            rw [show w'.heap[gl]? = _ from hwl'.out] at h1
            simp at h1
          have hk8 : Hid (W8.heap[bl]? = some (.cells #[.int .i64 (w : Int), .slice (some ⟨gl, 0, none⟩) L2 L2] 58 (0, 0))) := by
            rw [hW8.out]
            show _ = _
            rw [heap_setCell_same _ bl 1 _ 58 _ (heap_setCell_same w' bl 0 _ 58 _ hkl'.out)]
            rfl
          have hw8 : Hid (WBlk W8 gl (pack lb)) := by
            rw [hW8.out]
            exact ((heap_setCell_other _ _ gl _ hne.out).trans (heap_setCell_other w' _ gl _ hne.out)).trans hwl'.out
          have hz8 : Hid (W8.heap.size = w'.heap.size) := by rw [hW8.out]; show _ = _; simp
          have d0 : W8.cell? ⟨bl, 0, none⟩ = some (.int .i64 (w : Int)) := by rw [cell_of_row W8 bl 0 _ 58 (0, 0) hk8.out]; rfl
          rw [← hW8.out]
          have hsd := hside.out
          obtain ⟨⟨sw1, sw2⟩, ⟨sh1, sh2⟩, _, swh⟩ := hsd
          clear swh sh1 sh2
          have hmk := fun m => run_make_row' (P := Tryz.prog) 51 5 (.int .u8 0) 1 Tryz.underlying51 info5' rfl .i64 .i64 m
          have hmkn : ∀ W, (Instr.makeSlice 51 (.int .i64 (w : Int)) (.int .i64 (w : Int))).run Tryz.prog W = .ok (.slice (some ⟨W.heap.size, 0, none⟩) w w) (W.alloc (.cells (madeCells #[.int .u8 0] w) 5)) := fun W => hmk w (by omega) (by omega) W
          clear hmk k0 k1 k2 k3
          obtain ⟨W10, hW10⟩ : ∃ W10, Hid (W10 = (W8.alloc (.cells (madeCells #[.int .u8 0] w) 5)).alloc (.cells #[.slice (some ⟨W8.heap.size, 0, none⟩) w w] 51)) := ⟨_, rfl⟩
          have hB10 : Hid (Below W8.heap.size W8 W10) := by rw [hW10.out]; exact (below_new _).alloc (by simp) _
          have hlL : Hid (lb.length = w) := by rw [hlb.out]; show _ = _; unfold lineC lineB; simp
          have KB : Hid (Calls Tryz.prog 25 #[.agg #[.int .i64 (w : Int), .slice (some ⟨gl, 0, none⟩) L2 L2]] W10 (BitsPost W10 (pack lb))) := by
            have h1 := pack_good lb
            rw [hlL.out] at h1
            have h2 := (hw8.out.kept hB10.out).has (cap := L2)
            rw [show (pack lb).length = L2 by rw [h1.len, hL2.out]] at h2
            exact bits24 (by omega) h1 h2
          have hYc : Hid (YBlk W10 W8.heap.size (List.replicate w 0)) := by
            rw [hW10.out]
            exact (YBlk.new W8 _ _ (made_bytes w)).kept (below_new _)
          have hbw : Hid (W10.heap[W8.heap.size + 1]? = some (.cells #[.slice (some ⟨W8.heap.size, 0, none⟩) w w] 51 (0, 0))) := by
            rw [hW10.out]
            rw [show W8.heap.size + 1 = (W8.alloc (.cells (madeCells #[.int .u8 0] w) 5)).heap.size by simp]
            exact heap_alloc_new _ _
          have e0 : ((W8.alloc (.cells (madeCells #[.int .u8 0] w) 5)).alloc (.cells #[.slice (some ⟨W8.heap.size, 0, none⟩) w w] 51)).cell? ⟨bl, 0, none⟩ = some (.int .i64 (w : Int)) := by
            rw [← hW10.out]
            rw [cell_of_row W10 bl 0 _ 58 (0, 0) ((hB10.out.block bl (Array.getElem?_eq_some_iff.1 hk8.out).1).trans hk8.out)]; rfl
          have e1 : ((W8.alloc (.cells (madeCells #[.int .u8 0] w) 5)).alloc (.cells #[.slice (some ⟨W8.heap.size, 0, none⟩) w w] 51)).cell? ⟨bl, 1, none⟩ = some (.slice (some ⟨gl, 0, none⟩) L2 L2) := by
            rw [← hW10.out]
            rw [cell_of_row W10 bl 1 _ 58 (0, 0) ((hB10.out.block bl (Array.getElem?_eq_some_iff.1 hk8.out).1).trans hk8.out)]; rfl
          gi_wp2_with fail
          rw [← hW10.out]
          clear e0 e1 d0 hmkn
          refine ⟨trivial, callsIn_wide.2 ((KB.out).mono ?_)⟩
          rintro e W11 ⟨bx, g, rfl, hbx, hgw, hbxg, hgg, hb11⟩
          have hbx' := Lib.hid hbx
          have hgw' := Lib.hid hgw
          have hb11' := Lib.hid hb11
          clear hbx hgw hb11 KB
          gi_wp2_with fail
          have hgood : Hid (RowGood w (pack lb)) := by
            have h1 := pack_good lb
            rw [hlL.out] at h1
            exact h1
          have hT8 : Hid (Tab W8) := ((hT'.out.kept hB3.out).kept hX'.out.below).kept hB8.out
          have hT11 : Hid (Tab W11) := (hT8.out.kept hB10.out).kept hb11'.out
          have hz10 : Hid (W10.heap.size = W8.heap.size + 2) := by rw [hW10.out]; show _ = _; simp
          have hY11 : Hid (YBlk W11 W8.heap.size (List.replicate w 0)) := hYc.out.kept hb11'.out
          have hbw11 : Hid (W11.heap[W8.heap.size + 1]? = some (.cells #[.slice (some ⟨W8.heap.size, 0, none⟩) w w] 51 (0, 0))) := (hb11'.out.block _ (Array.getElem?_eq_some_iff.1 hbw.out).1).trans hbw.out
          have hz11 : Hid (W8.heap.size + 2 ≤ W11.heap.size) := by have := hb11'.out.size; have := hz10.out; show _ ≤ _; omega
          refine wpIn_rangeFunc_ownG rfl (by omega) (gf := 54) (lb := #[.pointer (some ⟨bx, 0, none⟩)]) rfl trivial (enters_of Tryz.func54 (by kernel_rfl) rfl)
            (bits_stops (n := w) (ws := pack lb) (d := 7) (D := W11.heap.size) (B1 := W8.heap.size) (E1 := W8.heap.size + 1) (by omega) (by omega) hgood.out hT11.out hbx'.out hgw'.out hgw'.out.lt (by have := hz11.out; omega) hT8.out.lt (.inr (by have := hz10.out; omega))) (fun h k => h.trans k) (fun W l o o' hl _ _ _ => KpO.putObj W l o o' hl) (Below.refl _ _) (fun _ => rfl)
            (fun pre W => BitI W11 W8.heap.size w W11.heap.size (pre.map (·.1)) W) (fun _ _ _ => False) ?hI ?hIx ?h0 (fun p => { tmps := #[lifeV hd born stay, topoV k (w : Int) (h : Int) tn sh, .pointer (some ⟨fb, 0, none⟩), .int .i64 (n : Int), .pointer (some ⟨W0.heap.size, 0, none⟩), .pointer (some ⟨W0.heap.size + 1, 0, none⟩), undef, undef, .pointer none, .int .i64 0, .int .i64 0, .pointer (some ⟨fb4, 0, none⟩), .int .i64 0, .slice (some ⟨gr, 0, none⟩) (h + 2) (h + 2), u14, .int .i64 (y : Int), .pointer (some ⟨bl, 0, none⟩), .pointer (some ⟨W8.heap.size + 1, 0, none⟩), .int .i64 (p.1 : Int), u19, .agg #[.int .u8 hd, .int .u16 (born : Int), .int .u16 (stay : Int)], topoV k (w : Int) (h : Int) tn sh, .pointer (some ⟨fb, 0, none⟩), .int .i64 (n : Int), .int .i64 0, .int .i64 0, .bool false, undef, .pointer (some ⟨fb, 0, none⟩), .pointer (some ⟨fb4, 0, none⟩), .pointer (some ⟨fb4, 0, none⟩), .int .i64 0, .int .i64 0, .bool false, undef, .int .i64 (n : Int), .int .i64 (j : Int), u37, u38, u39, u40, u41, u42, u43, u44, u45, u46, u47, .int .i64 (h : Int), .int .i64 (y : Int), .bool true, .int .i64 (y : Int), u90, u91, u92, u93, u94, u95, u96, u97, u98, u99, u910, u911, u912, u913, u914, u915, .agg #[.int .i64 (w : Int), .slice (some ⟨gl, 0, none⟩) L2 L2], .pointer (some ⟨bl, 0, none⟩), .int .i64 (w : Int), .slice (some ⟨W8.heap.size, 0, none⟩) w w, .agg #[.int .i64 (w : Int), .slice (some ⟨gl, 0, none⟩) L2 L2], .func (.func 54) #[] #[.pointer (some ⟨bx, 0, none⟩)], .int .i64 (p.1 : Int), u75, u76, u77, u78, u79, u80, u81, u82, u83, u84, u85, u86, undef], defers := [] }) ?assign ?body ?done ?stop
          case hI =>
            intro pre A C row hs hg hr
            obtain ⟨k1, k2, k3⟩ := hs
            have hD := hz11.out
            refine ⟨(hg.block _ k1.lt (fun e => ?_)).trans k1, ⟨hg.os.trans k2.os, hg.tape.trans k2.tape, hg.output.trans k2.output, Nat.le_trans k2.size hg.size, fun q hq hne => (hg.block q (Nat.lt_of_lt_of_le hq k2.size) (fun e => ?_)).trans (k2.block q hq hne)⟩, Nat.le_trans k3 hg.size⟩
            · have := (hr _ e.symm).1; omega
            · have := (hr _ e.symm).1; omega
          case hIx => intro c0 s A C row hs hg hr; exact hs.elim
          case h0 => exact ⟨by rw [show (([] : List (BitPt w (pack lb))).map (·.1)) = [] from rfl, mk1_nil]; exact hY11.out, World.grownBy.refl _ _, Nat.le_refl _⟩
          case assign =>
            intro l x W' K hK
            unfold encBit
            gi_wp2
            simpa using hK
          case body =>
            rintro l pre p W' ⟨k1, k2, k3⟩ hlt
            have hpw := p.2.1
            have c17 : W'.cell? ⟨W8.heap.size + 1, 0, none⟩ = some (.slice (some ⟨W8.heap.size, 0, none⟩) w w) := by
              rw [cell_of_row W' (W8.heap.size + 1) 0 _ 51 (0, 0) ((k2.block _ (Array.getElem?_eq_some_iff.1 hbw11.out).1 (fun e => by injection e with e; omega)).trans hbw11.out)]; rfl
            have cx := k1.cell (j := p.1) (by rw [mk1_len]; exact hpw)
            have fx := k1.frozen p.1
            have k1' := Lib.hid k1
            have k2' := Lib.hid k2
            have k3' := Lib.hid k3
            have hms : Hid (mk1 w ((pre ++ [p]).map (·.1)) = (mk1 w (pre.map (·.1))).set p.1 1) := by show _ = _; rw [mk1_set]; simp
            clear k1 k2 k3 hlt
            generalize p.1 = q at *
            gi_wp2
            have hg := grown_setCell W' W8.heap.size q (.int .u8 1)
            refine ⟨(KeepsOthers.setCell _ _ _).from _, KpO.of_only (Only.of_grown hg ⟨Nat.le_refl _, by omega⟩) k3'.out, ?_, k2'.out.trans hg, Nat.le_trans k3'.out hg.size⟩
            rw [hms.out]
            exact k1'.out.set 1
          case stop =>
            rintro D c0 pre W' _ _ hi _
            exact hi.elim
          case done =>
            rintro D xs W12 hD hxs ⟨k1, k2, k3⟩ hK
            rw [show xs.map (·.1) = posL (pack lb) w from hxs] at k1
            have hz9 := hB9'.out.size
            have hzz : w'.heap.size ≤ W8.heap.size := by have := hz8.out; omega
            have hEw := hX'.out.fld.lies.2.2
            have hz11' := hz11.out
            have hb811 : Hid (Below wx.heap.size wx W11) := (hB8.out.trans (hB10.out.mono (by omega))).trans (hb11'.out.mono (by have := hz10.out; omega))
            have k1' := Lib.hid k1
            have k2' := Lib.hid k2
            have hK' := Lib.hid hK
            have f11 := hX'.out.fld.kept hb811.out
            have f12 : Hid (Fld w3.heap.size E5 W12 fb4 w h 2 true (mixC (stepC hd born stay k tn sh w h (iterC hd born stay k tn sh w h c j)) (iterC hd born stay k tn sh w h c j) y)) := f11.same (fun g _ h2 h3 => k2.block g h3 (fun e => by injection e with e; omega)) k2.size
            have KL := Lib.hid (f12.out.lay (y := y) (lb := W8.heap.size) (cap := w) hyl k1 (mk1_len _ _) (fun q _ => mk1_lt _) (by omega))
            have c17 : W12.cell? ⟨W8.heap.size + 1, 0, none⟩ = some (.slice (some ⟨W8.heap.size, 0, none⟩) w w) := by
              rw [cell_of_row W12 (W8.heap.size + 1) 0 _ 51 (0, 0) ((k2.block _ (Array.getElem?_eq_some_iff.1 hbw11.out).1 (fun e => by injection e with e; omega)).trans hbw11.out)]; rfl
            have hwy : IntKind.i64.wrap ((y : Int) + 1) = ((y + 1 : Nat) : Int) := by rw [IntWalk.i64_in _ (by have := hside.out; omega)]; rfl
            clear k1 k2 hK f11 hxs
            gi_wp2_with fail
            refine ⟨trivial, callsIn_wide.2 ((KL.out).mono ?_)⟩
            rintro e w13 ⟨rfl, f13, ho13⟩
            have f13' := Lib.hid f13
            have ho13' := Lib.hid ho13
            clear f13 ho13 KL c17
            gi_wp2_with fail
            have k2 := k2'.out
            have ho := ho13'.out
            have hlt12 : ∀ q, q < W11.heap.size → q < W12.heap.size := fun q hq => Nat.lt_of_lt_of_le hq k2.size
            have hto : ∀ q, E5 ≤ q → q < wx.heap.size → w13.heap[q]? = wx.heap[q]? := fun q h1 h2 =>
              ((ho.block q (hlt12 q (by omega)) (.inr h1)).trans (k2.block q (by omega) (fun e => by injection e with e; omega))).trans (hb811.out.block q h2)
            refine ⟨⟨y + 1, D :: Dy, by omega, ⟨f13'.out.congr ?f, ?coll, ?bel⟩, hR'.out.same fun q h1 ⟨cs, t, fr, h2⟩ => hto q h1 (Array.getElem?_eq_some_iff.1 h2).1, ?_⟩, ?_⟩
            case f =>
              intro y' x h1 h2
              unfold updK mixC
              by_cases e : y' = y
              · subst e
                rw [if_pos ⟨rfl, h2⟩, if_pos (by omega), mk1_posL hlL.out h2, hlb.out]
                rfl
              · rw [if_neg (fun q => e q.1)]
                by_cases l : y' < y
                · rw [if_pos l, if_pos (by omega)]
                · rw [if_neg l, if_neg (by omega)]
            case coll =>
              have h12 : Coll E5 Dy W12 := hX'.out.coll.kept fun q o hq _ hE => by
                have hql := (Array.getElem?_eq_some_iff.1 hq).1
                exact ((k2.block q (by omega) (fun e => by injection e with e; omega)).trans (hb811.out.block q hql)).trans hq
              have hDn : D ∉ Dy := fun hm => by
                have := (Array.getElem?_eq_some_iff.1 (hX'.out.coll.held D hm).2).1
                omega
              exact (h12.cons hDn (by omega) hK'.out).kept fun q o hq _ hE => (ho.block q (Array.getElem?_eq_some_iff.1 hq).1 (.inr hE)).trans hq
            case bel =>
              have hz0 := hX'.out.below.size
              have a1 := below_then hX'.out.below hb811.out hX'.out.below.size
              have a2 : Below w3.heap.size w3 W12 := a1.grown k2 (by omega) (fun q e => by injection e with e; omega)
              exact a2.trans (ho.below (by omega))
            · repeat apply Exists.intro
              rfl
            · simp [intOf]
              omega
        · obtain rfl : h = y := by omega
          have hwj : IntKind.i64.wrap ((j : Int) + 1) = ((j + 1 : Nat) : Int) := by rw [IntWalk.i64_in _ (by omega)]; rfl
          clear hX hR hyl
          gi_wp2_with fail
          refine ⟨⟨j + 1, Dy, by omega, ⟨hX'.out.fld.congr ?f2, hX'.out.coll, hX'.out.below⟩, ?_⟩, ?_⟩
          case f2 =>
            intro y' x h1 h2
            show mixC _ _ _ y' x = stepC _ _ _ _ _ _ _ _ _ y' x
            unfold mixC
            rw [if_pos h1]
          · repeat apply Exists.intro
            rfl
          · simp [intOf]
            omega
    · obtain rfl : n = j := by omega
      clear hlt KR
      gi_wp2_with fail
      refine leaves_coll (D0 := E5) Ds _ hW'.out.coll fun w' hs => ?_
      refine ⟨_, results_tmp2 rfl _ _ _, ?_⟩
      have hmem : ∀ q, q < E5 → q ∉ Ds := fun q hq hm => by
        have := (hW'.out.coll.held q hm).1
        omega
      have hz2 := hB2.out.size
      have hz3 := hB3.out.size
      have hz4 := hb4'.out.size
      have a1 := below_then hB3.out hW'.out.below hB3.out.size
      exact ⟨fb4, w3.heap.size, E5, rfl, hz3, hW'.out.fld.same (fun g _ h2 _ => hs.block g (hmem g h2)) hs.size, ⟨hs.os.trans a1.os, hs.tape.trans a1.tape, hs.output.trans a1.output, Nat.le_trans a1.size hs.size, fun q hq => (hs.block q (hmem q (by omega))).trans (a1.block q hq)⟩⟩
end
end Go.Proofs.YtcbhbojplcddkaaGreatDoor
