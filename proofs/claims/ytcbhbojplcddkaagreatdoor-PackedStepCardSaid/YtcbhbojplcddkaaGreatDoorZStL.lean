import Derived.Test.YtcbhbojplcddkaaGreatDoorZStE
import Derived.Test.YtcbhbojplcddkaaGreatDoorZGdN
namespace Go.Proofs.YtcbhbojplcddkaaGreatDoor
open Go.RowKit Go.RowBits Go.Shelf Go.MapRaw
set_option linter.unusedSimpArgs false
set_option linter.unusedVariables false

/-! ### step.Run of a rule of births and stays -/
theorem rule11 {w : World} {b : Nat} {hd : Int} {born stay : Nat} (h : w.heap[b]? = some (.cells (lifeRuleC hd born stay) 46 (0, 0))) :
    w.cell? ⟨b, 0, none⟩ = some (.int .u8 1) ∧ w.cell? ⟨b, 1, none⟩ = some (.int .u8 hd) ∧ w.cell? ⟨b, 2, none⟩ = some (.int .u16 (born : Int)) ∧ w.cell? ⟨b, 3, none⟩ = some (.int .u16 (stay : Int)) ∧ w.cell? ⟨b, 4, none⟩ = some (.int .i64 2) ∧ w.cell? ⟨b, 5, none⟩ = some (.string ⟨#[]⟩) ∧ w.cell? ⟨b, 6, none⟩ = some (.int .i64 0) ∧ w.cell? ⟨b, 7, none⟩ = some (.int .u8 0) ∧ w.cell? ⟨b, 8, none⟩ = some (.int .u8 0) ∧ w.cell? ⟨b, 9, none⟩ = some (.slice none 0 0) ∧ w.cell? ⟨b, 10, none⟩ = some (.slice none 0 0) := by
  have e : ∀ j, w.cell? ⟨b, j, none⟩ = (lifeRuleC hd born stay)[j]? := fun j => cell_of_row w b j _ 46 (0, 0) h
  exact ⟨(e 0).trans rfl, (e 1).trans rfl, (e 2).trans rfl, (e 3).trans rfl, (e 4).trans rfl, (e 5).trans rfl, (e 6).trans rfl, (e 7).trans rfl, (e 8).trans rfl, (e 9).trans rfl, (e 10).trans rfl⟩
theorem topo5 {w : World} {b : Nat} {k W H tn sh : Int} (h : w.heap[b]? = some (.cells #[.int .u8 k, .int .i64 W, .int .i64 H, .int .u8 tn, .int .i64 sh] 26 (0, 0))) :
    w.cell? ⟨b, 0, none⟩ = some (.int .u8 k) ∧ w.cell? ⟨b, 1, none⟩ = some (.int .i64 W) ∧ w.cell? ⟨b, 2, none⟩ = some (.int .i64 H) ∧ w.cell? ⟨b, 3, none⟩ = some (.int .u8 tn) ∧ w.cell? ⟨b, 4, none⟩ = some (.int .i64 sh) := by
  have e : ∀ j, w.cell? ⟨b, j, none⟩ = (#[.int .u8 k, .int .i64 W, .int .i64 H, .int .u8 tn, .int .i64 sh] : Array Value)[j]? := fun j => cell_of_row w b j _ 26 (0, 0) h
  exact ⟨(e 0).trans rfl, (e 1).trans rfl, (e 2).trans rfl, (e 3).trans rfl, (e 4).trans rfl⟩
theorem slice51_lo (W : World) (g o N : Nat) (h : o < N) : (Instr.slice 51 (.slice (some ⟨g, 0, none⟩) N N) (some (.int .i64 (o : Int))) none none).run Tryz.prog W = .ok (.slice (some ⟨g, o, none⟩) (N - o) (N - o)) W := by
  have h := run_slice_l (P := Tryz.prog) W 51 (some ⟨g, 0, none⟩) N N (by kernel_rfl) .i64 (o : Int) (by omega) (by omega)
  rw [h]
  have e2 : ¬ N - o = 0 := by omega
  have e3 : ¬ N = o := by omega
  go_simp
theorem slice51_hi (W : World) (g o n cap w : Nat) (h1 : w ≤ cap) (h0 : 0 < w) : (Instr.slice 51 (.slice (some ⟨g, o, none⟩) n cap) none (some (.int .i64 (w : Int))) none).run Tryz.prog W = .ok (.slice (some ⟨g, o, none⟩) w cap) W := by
  have h := run_slice_h (P := Tryz.prog) W 51 (some ⟨g, o, none⟩) n cap (by kernel_rfl) .i64 (w : Int) (by omega) (by omega)
  rw [h]
  have e2 : ¬ cap = 0 := by omega
  go_simp
theorem YBlk.partY {w : World} {g o n cap : Nat} {ws : List Nat} (h : YBlk w g ws) (hn : o + n ≤ ws.length) : HasY w (.slice (some ⟨g, o, none⟩) n cap) ((ws.drop o).take n) := by
  have hl : ((ws.drop o).take n).length = n := by simp; omega
  refine ⟨some ⟨g, o, none⟩, cap, by rw [hl], fun j hj => ⟨g, o, rfl, ?_⟩⟩
  rw [hl] at hj
  rw [h.cell (by omega)]
  congr 3
  simp [List.getD, List.getElem?_take, hj]
def StepPost (W0 : World) (w h : Nat) (pk : Bool) (c : Nat → Nat → Nat) (e : Ending) (w' : World) : Prop := ∃ fb' B' E', e = .returned (.tuple #[.pointer (some ⟨fb', 0, none⟩), .int .i64 0]) ∧ W0.heap.size ≤ B' ∧ Fld B' E' w' fb' w h 2 pk c ∧ Below W0.heap.size W0 w'
section
variable {B E : Nat} {W0 : World} {fb w h : Nat} {pk : Bool} {c : Nat → Nat → Nat} {hd : Int} {born stay : Nat} {k tn sh : Int} {n : Nat}
/-- What the loops keep. -/
structure StepW (hd : Int) (born stay : Nat) (mb B5 E5 : Nat) (w5 : World) (mv rb fo w h : Nat) (pk : Bool) (c : Nat → Nat → Nat) (wx : World) : Prop where
  ask : AskAt wx hd born stay mv mb rb
  fld : Fld B5 E5 wx fo w h 2 pk c
  mix : Mix mb B5 E5 w5 wx
set_option maxRecDepth 100000 in
set_option maxHeartbeats 16000000 in
theorem stepRun7 (f : Fld B E W0 fb w h 2 pk c) (hb1 : born < 65536) (hs1 : stay < 65536) (hk : 0 ≤ k ∧ k < 256) (ht : 0 ≤ tn) (hE : lifeE hd born stay = 0) (hok : TopoOk k w h tn sh) (hn : (n : Int) ≤ 67108864 / ((w : Int) * (h : Int))) :
    Calls Tryz.prog 7 #[lifeRule hd born stay, topoV k w h tn sh, .pointer (some ⟨fb, 0, none⟩), .int .i64 (n : Int)] W0 (StepPost W0 w h pk (iterS hd born stay k tn sh w h c n)) := by
  have hnb : (n : Int) ≤ 67108864 := by
    have := Int.ediv_le_self (b := (w : Int) * (h : Int)) (show (0 : Int) ≤ 67108864 by omega)
    omega
  have hside := Lib.hid f.side
  obtain ⟨⟨w1', w2'⟩, ⟨h1', h2'⟩, _, hwh⟩ := f.side
  have hm : mayE hd born stay k (w : Int) (h : Int) tn sh w h 2 (n : Int) 7 = 0 := mayE_0 hE hok (by omega) (by omega) (by omega) ⟨rfl, rfl⟩ rfl (by omega)
  obtain ⟨W2, hW2⟩ : ∃ W2, Hid (W2 = (W0.alloc (.cells (lifeRuleC hd born stay) 46)).alloc (.cells #[.int .u8 k, .int .i64 (w : Int), .int .i64 (h : Int), .int .u8 tn, .int .i64 sh] 26)) := ⟨_, rfl⟩
  have hB2 : Hid (Below W0.heap.size W0 W2) := by rw [hW2.out]; exact (below_new _).alloc (by simp) _
  have E2 : Hid (Blks W2 [(W0.heap.size + 1, #[.int .u8 k, .int .i64 (w : Int), .int .i64 (h : Int), .int .u8 tn, .int .i64 sh], 26), (W0.heap.size, lifeRuleC hd born stay, 46)]) := by
    rw [hW2.out]
    exact ((Blks.nil W0).alloc rfl _ _).alloc (by simp) _ _
  have K1 : Hid (Calls Tryz.prog 26 #[lifeRule hd born stay, topoV k w h tn sh, .pointer (some ⟨fb, 0, none⟩), .int .i64 (n : Int)] W2 fun e w' => e = .returned (.int .i64 0) ∧ Below W2.heap.size W2 w') := by
    have := refusedR (hd := hd) (W := (w : Int)) (H := (h : Int)) (n := (n : Int)) (sh := sh) (f.kept hB2.out) hb1 hs1 hk ht
    rw [hm] at this
    exact this
  have KH := Lib.hid (fun W' => hood77 (h := hd) hb1 hs1 hE W')
  have F := Lib.hid f
  have hb1' := Lib.hid hb1
  have hs1' := Lib.hid hs1
  have hk' := Lib.hid hk
  have ht' := Lib.hid ht
  have hE' := Lib.hid hE
  have hok' := Lib.hid hok
  clear f hb1 hs1 hk ht hE hok hn hm hwh
  go_enter Tryz.func7, Tryz.ntmps7
  go_wp2_with fail
  rw [← hW2.out]
  clear hW2
  refine (K1.out).mono ?_
  rintro e w1 ⟨rfl, hb⟩
  have hB1 := Lib.hid (below_then hB2.out hb hB2.out.size)
  have E1 := Lib.hid (E2.out.kept hb)
  obtain ⟨r0, r1, r2, r3, r4, r5, r6, r7, r8, r9, r10⟩ := rule11 (hd := hd) (born := born) (stay := stay) (E1.out (W0.heap.size, _, _) (by simp))
  clear hb E2 hB2 K1
  go_wp2_with fail
  refine (KH.out _).mono ?_
  rintro e w3 ⟨rfl, hb⟩
  have hB3 := Lib.hid (below_then hB1.out hb hB1.out.size)
  have E3 := Lib.hid (E1.out.kept hb)
  have KA := Lib.hid (asker28 hd born stay w3)
  have hz03 : W0.heap.size + 1 < w3.heap.size := E3.out.lt (x := (W0.heap.size + 1, #[.int .u8 k, .int .i64 (w : Int), .int .i64 (h : Int), .int .u8 tn, .int .i64 sh], 26)) (by simp)
  clear hb E1 hB1 KH r0 r1 r2 r3 r4 r5 r6 r7 r8 r9 r10
  obtain ⟨r0, r1, r2, r3, r4, r5, r6, r7, r8, r9, r10⟩ := rule11 (hd := hd) (born := born) (stay := stay) (E3.out (W0.heap.size, _, _) (by simp))
  go_wp2_with fail
  refine (KA.out).mono ?_
  rintro e w4 ⟨rfl, A4, hb⟩
  have hB4 := Lib.hid (below_then hB3.out hb hB3.out.size)
  have E4 := Lib.hid (E3.out.kept hb)
  have A4' := Lib.hid A4
  have hz34 : w3.heap.size + 1 + 1 < w4.heap.size := A4.lt.1
  have KC := Lib.hid (F.out.kept hB4.out).clone
  clear hb E3 KA A4 r0 r1 r2 r3 r4 r5 r6 r7 r8 r9 r10
  go_wp2_with fail
  refine (KC.out).mono ?_
  rintro e w5 ⟨fo, rfl, f5, hb⟩
  have hB5 := Lib.hid (below_then hB4.out hb hB4.out.size)
  have E5 := Lib.hid (E4.out.kept hb)
  have f5' := Lib.hid f5
  have A5 := Lib.hid (A4'.out.kept hb)
  have hz45 : w4.heap.size ≤ w5.heap.size := hb.size
  clear hb E4 KC f5
  go_wp2_with fail
  obtain ⟨mv, hmv⟩ : ∃ mv, mv = w3.heap.size + 1 + 1 := ⟨_, rfl⟩
  obtain ⟨mb, hmb⟩ : ∃ mb, mb = w3.heap.size + 1 := ⟨_, rfl⟩
  obtain ⟨rb, hrb⟩ : ∃ rb, rb = w3.heap.size := ⟨_, rfl⟩
  rw [← hmv, ← hmb, ← hrb] at A5
  rw [← hmv, ← hrb]
  have hmbB : mb < w4.heap.size := by omega
  have hmb1 : W0.heap.size + 1 < mb := by omega
  have hmvB : mv < w4.heap.size := by omega
  have hmvb : mv ≠ mb := by omega
  have hrbB : rb < w4.heap.size := by omega
  have T5 : Hid (∀ wx, Mix mb w4.heap.size w5.heap.size w5 wx → wx.heap[W0.heap.size + 1]? = some (.cells #[.int .u8 k, .int .i64 (w : Int), .int .i64 (h : Int), .int .u8 tn, .int .i64 sh] 26 (0, 0))) := fun wx hx => (hx.block _ (by omega) (by omega) (.inl (by omega))).trans (E5.out (W0.heap.size + 1, _, _) (by simp))
  have S5 : Hid (StepW hd born stay mb w4.heap.size w5.heap.size w5 mv rb fo w h pk c w5) := ⟨A5.out, f5'.out, Mix.refl _ _ _ _⟩
  clear A4' hmv hmb hrb hz34
  go_loopw [42] (fun i wr => ∃ j : Nat, j ≤ n ∧ i = .int .i64 (j : Int) ∧ StepW hd born stay mb w4.heap.size w5.heap.size w5 mv rb fo w h pk (iterS hd born stay k tn sh w h c j) wr) (fun i _ => n - (intOf i).toNat)
  case atStart => exact ⟨0, by omega, by go_num, S5.out⟩
  case round =>
    obtain ⟨j, hj, rfl, hS⟩ := hrel
    have hS' := Lib.hid hS
    clear hS
    by_cases hlt : j < n
    · obtain ⟨cj, hcj⟩ : ∃ cj, Hid (cj = iterS hd born stay k tn sh w h c j) := ⟨_, rfl⟩
      rw [← hcj.out] at hS'
      have hnx : Hid (iterS hd born stay k tn sh w h c (j + 1) = stepS hd born stay k tn sh w h cj) := by rw [hcj.out]; rfl
      obtain ⟨t0, t1, t2, t3, t4⟩ := topo5 (T5.out _ hS'.out.mix)
      have KB := Lib.hid (bytes29 hS'.out.fld hk'.out ht'.out hok'.out)
      obtain ⟨F9, hF9⟩ : ∃ F9, Hid (F9 = frameLN k tn sh w h cj) := ⟨_, rfl⟩
      rw [← hF9.out] at KB
      have hFl : Hid (F9.length = (w + 2) * (h + 2)) := by show _ = _; rw [hF9.out, frameLN_len]
      have hFlt : Hid (∀ i, F9.getD i 0 < 2) := fun i => by rw [hF9.out]; exact frameLN_lt (fun y x hy hx => hS'.out.fld.low y x hy hx) i
      obtain ⟨L, hL⟩ : ∃ L, Hid (L = F9.length) := ⟨_, rfl⟩
      have hji : (j : Int) < (n : Int) := by omega
      go_wp2_with fail
      refine (KB.out).mono ?_
      rintro e w6 ⟨gF, rfl, hgF, hYF, hb6⟩
      rw [← hL.out]
      have hb6' := Lib.hid hb6
      have hYF' := Lib.hid hYF
      obtain ⟨w7, hw7⟩ : ∃ w7, Hid (w7 = w6.alloc (.cells #[.int .i64 (w : Int), .int .i64 (h : Int), .slice (some ⟨gF, 0, none⟩) L L] 85)) := ⟨_, rfl⟩
      have hb7 : Below w6.heap.size w6 w7 := by rw [hw7.out]; exact below_new _
      have hF7 : Hid (w7.heap[w6.heap.size]? = some (.cells #[.int .i64 (w : Int), .int .i64 (h : Int), .slice (some ⟨gF, 0, none⟩) L L] 85 (0, 0))) := by rw [hw7.out]; exact heap_alloc_new w6 _
      have hb67 := Lib.hid (below_then hb6 hb7 hb6.size)
      have S7 : Hid (StepW hd born stay mb w4.heap.size w5.heap.size w5 mv rb fo w h pk cj w7) := ⟨hS'.out.ask.kept hb67.out, hS'.out.fld.kept hb67.out, hS'.out.mix.trans (Mix.of_below hb67.out)⟩
      have Y7 := Lib.hid (hYF.kept hb7)
      have hz67 : w6.heap.size < w7.heap.size := (Array.getElem?_eq_some_iff.1 hF7.out).1
      have hgFz : w5.heap.size ≤ gF := by have := hS'.out.mix.size; omega
      have hz56 : w5.heap.size ≤ w6.heap.size := by have := hS'.out.mix.size; have := hb6.size; omega
      clear hb6 hYF hb7 KB hgF t0 t1 t2 t3 t4
      obtain ⟨t0, t1, t2, t3, t4⟩ := topo5 (T5.out _ S7.out.mix)
      have hne : ¬ (W0.heap.size + 1 = w6.heap.size) := by omega
      have hlt6 : W0.heap.size + 1 < w6.heap.size := by omega
      have u0 : w6.cell? ⟨W0.heap.size + 1, 2, none⟩ = some (.int .i64 (h : Int)) := by
        have hb : Below wr.heap.size wr w6 := hb6'.out
        exact cell_kept hb (topo5 (T5.out _ hS'.out.mix)).2.2.1
      go_wp2_with fail
      rw [← hw7.out]
      clear hw7
      have hYr : Hid (∀ wx, Mix mb w4.heap.size w5.heap.size w7 wx → YBlk wx gF F9) := fun wx hx => (hx.block gF Y7.out.lt (by omega) (.inr hgFz)).trans Y7.out
      have hFr : Hid (∀ wx, Mix mb w4.heap.size w5.heap.size w7 wx → wx.heap[w6.heap.size]? = some (.cells #[.int .i64 (w : Int), .int .i64 (h : Int), .slice (some ⟨gF, 0, none⟩) L L] 85 (0, 0))) := fun wx hx => (hx.block _ hz67 (by omega) (.inr hz56)).trans hF7.out
      clear t0 t1 t2 t3 t4 u0 hb67 hb6' hYF'
      go_loopw [55] (fun i wx => ∃ y : Nat, y ≤ h ∧ i = .int .i64 (y : Int) ∧ StepW hd born stay mb w4.heap.size w5.heap.size w7 mv rb fo w h pk (mixC (stepS hd born stay k tn sh w h cj) cj y) wx) (fun i _ => h - (intOf i).toNat)
      case atStart => exact ⟨0, by omega, by go_num, S7.out.ask, S7.out.fld.congr (fun y x _ _ => by unfold mixC; rw [if_neg (by omega)]), Mix.refl _ _ _ _⟩
      case round =>
        obtain ⟨y, hy, rfl, hX⟩ := hrel
        have hX' := Lib.hid hX
        have hXm : Hid (Mix mb w4.heap.size w5.heap.size w5 wr) := S7.out.mix.trans hX.mix
        clear hX
        obtain ⟨t0, t1, t2, t3, t4⟩ := topo5 (T5.out _ hXm.out)
        by_cases hly : y < h
        · obtain ⟨p0, p1, p2, pf0, pf1, pf2⟩ := row3 (hFr.out _ hX'.out.mix)
          obtain ⟨o, ho⟩ : ∃ o, o = (y + 1) * (w + 2) + 1 := ⟨_, rfl⟩
          obtain ⟨P, hP⟩ : ∃ P, P = (y + 1) * (w + 2) := ⟨_, rfl⟩
          have hPI : ((y : Int) + 1) * ((w : Int) + 2) = (P : Int) := by rw [hP]; simp
          have hoI : (P : Int) + 1 = (o : Int) := by omega
          have hLv : L = (w + 2) * (h + 2) := hL.out.trans hFl.out
          have hoL : o + w + 1 ≤ L := by
            have h1 : (y + 1 + 1) * (w + 2) ≤ (h + 2) * (w + 2) := Nat.mul_le_mul_right _ (by omega)
            rw [Nat.add_mul, Nat.one_mul, Nat.mul_comm (h + 2), ← hLv] at h1
            omega
          have hLb : L ≤ 2000000 := by
            have := hside.out.2.2.2
            rw [hLv, Nat.add_mul, Nat.mul_add]
            omega
          have hs1 : ∀ W, (Instr.slice 51 (.slice (some ⟨gF, 0, none⟩) L L) (some (.int .i64 (o : Int))) none none).run Tryz.prog W = .ok (.slice (some ⟨gF, o, none⟩) (L - o) (L - o)) W := fun W => slice51_lo W gF o L (by omega)
          have hs2 : ∀ W, (Instr.slice 51 (.slice (some ⟨gF, o, none⟩) (L - o) (L - o)) none (some (.int .i64 (w : Int))) none).run Tryz.prog W = .ok (.slice (some ⟨gF, o, none⟩) w (L - o)) W := fun W => slice51_hi W gF o (L - o) (L - o) w (by omega) (by omega)
          obtain ⟨l0, hl0⟩ : ∃ l0, Hid (l0 = (F9.drop o).take w) := ⟨_, rfl⟩
          have hl0l : Hid (l0.length = w) := by show _ = _; rw [hl0.out]; simp; have := hL.out; omega
          have hl0g : Hid (∀ x, x < w → l0.getD x 0 = cj y x) := fun x hx => by
            rw [hl0.out, ← frameLN_in (k := k) (tn := tn) (sh := sh) (c := cj) hly hx, ← hF9.out, ← ho]
            simp [List.getD, List.getElem?_take, hx]
          have hdr : Hid (Below wr.heap.size wr wr.drew) := (Below.refl _ _).drew
          have KC : Hid (∀ w', Below wr.heap.size wr w' → Calls Tryz.prog 30 #[.slice (some ⟨gF, o, none⟩) w (L - o)] w' (ClonePostY w' l0)) := fun w' hb => by
            have hv := ((hYr.out _ hX'.out.mix).kept hb).partY (o := o) (n := w) (cap := L - o) (by have := hL.out; omega)
            rw [← hl0.out] at hv
            exact clone30 hl0l.out (by omega) hv (by omega)
          have hyh : (y : Int) < (h : Int) := by omega
          have hPb : (P : Int) ≤ 2000000 := by omega
          have hob : (o : Int) ≤ 2000000 := by omega
          have hw1 : IntKind.i64.wrap ((y : Int) + 1) = (y : Int) + 1 := IntWalk.i64_in _ (by omega)
          have hw2 : IntKind.i64.wrap ((w : Int) + 2) = (w : Int) + 2 := IntWalk.i64_in _ (by omega)
          have hw3 : IntKind.i64.wrap (P : Int) = (P : Int) := IntWalk.i64_in _ (by omega)
          have hw4 : IntKind.i64.wrap (o : Int) = (o : Int) := IntWalk.i64_in _ (by omega)
          clear ho hP hLv
          go_wp2_with fail
          go_region_held3 (fun w' => w'.cell? ⟨w6.heap.size, 0, none⟩ = some (.int .i64 (w : Int)) ∧ w'.cell? ⟨w6.heap.size, 1, none⟩ = some (.int .i64 (h : Int)) ∧ w'.cell? ⟨w6.heap.size, 2, none⟩ = some (.slice (some ⟨gF, 0, none⟩) L L) ∧ w'.cell? ⟨W0.heap.size + 1, 1, none⟩ = some (.int .i64 (w : Int))) (go_keep)
            (first
              | (go_at_call 30; refine (KC.out _ hdr.out).mono ?_; rintro e w9 ⟨lv, rfl, hlo, hb9⟩; have y0 := cell_kept hb9 (cell_kept hdr.out p0); have y1 := cell_kept hb9 (cell_kept hdr.out p1); have y2 := cell_kept hb9 (cell_kept hdr.out p2); have y3 := cell_kept hb9 (cell_kept hdr.out t1); have hlo' := Lib.hid hlo; have hb9' := Lib.hid (below_then hdr.out hb9 hdr.out.size); clear hlo hb9))
          obtain ⟨gl, lc, rfl, hgl, hYR⟩ := YRow.own hlo'.out (by rw [hl0l.out]; omega)
          rw [hl0l.out]
          have hYR' := Lib.hid hYR
          have X9 : Hid (StepW hd born stay mb w4.heap.size w5.heap.size w7 mv rb fo w h pk (mixC (stepS hd born stay k tn sh w h cj) cj y) w9) := ⟨hX'.out.ask.kept hb9'.out, hX'.out.fld.kept hb9'.out, hX'.out.mix.trans (Mix.of_below hb9'.out)⟩
          have hgl7 : w7.heap.size ≤ gl := by have := hX'.out.mix.size; have : wr.heap.size ≤ gl := hgl; omega
          clear y0 y1 y2 y3 p0 p1 p2 pf0 pf1 pf2 t0 t1 t2 t3 t4 hlo' hYR hs1 hs2 KC hdr hgl hw1 hw2 hw3 hw4
          go_wp2_with fail
          have hd3 := (lifeE_good hE'.out).1
          have hd3' := Lib.hid hd3
          have hstep : Hid (∀ x, stepS hd born stay k tn sh w h cj y x = nextN born stay (cj y x) (aroundL (offs hd) w F9 x y)) := fun x => by rw [hF9.out]; rfl
          have hgw5 : w5.heap.size ≤ w7.heap.size := S7.out.mix.size
          clear hd3 hPI hoI hoL
          go_loopw [74] (fun i wx => ∃ (x : Nat) (l : List Nat), x ≤ w ∧ i = .int .i64 (x : Int) ∧ StepW hd born stay mb w4.heap.size w5.heap.size w7 mv rb fo w h pk (mixC (stepS hd born stay k tn sh w h cj) cj y) wx ∧ YRow wx gl l ∧ l.length = w ∧ ∀ q, q < w → l.getD q 0 = if q < x then stepS hd born stay k tn sh w h cj y q else cj y q) (fun i _ => w - (intOf i).toNat)
          case atStart => exact ⟨0, l0, by omega, by go_num, X9.out, hYR'.out, hl0l.out, fun q hq => by rw [if_neg (by omega)]; exact hl0g.out q hq⟩
          case round =>
            obtain ⟨x, l, hx, rfl, hZ, hYl, hll, hlg⟩ := hrel
            have hZ' := Lib.hid hZ
            have hYl' := Lib.hid hYl
            have hll' := Lib.hid hll
            have hlg' := Lib.hid hlg
            clear hZ hYl hll hlg
            by_cases hlx : x < w
            · have hcl : cj y x < 2 := S7.out.fld.low y x hly hlx
              have hgx := hlg'.out x hlx
              rw [if_neg (by omega)] at hgx
              have d1 : wr.cell? ⟨gl, x, none⟩ = some (.int .u8 ((cj y x : Nat) : Int)) := by rw [hYl'.out.cell (by rw [hll'.out]; exact hlx), hgx]
              obtain ⟨p0, p1, p2, pf0, pf1, pf2⟩ := row3 (hFr.out _ hZ'.out.mix)
              have KR := Lib.hid (around31 (w := w) (h := h) (g := gF) (L := L) (F := F9) (hd := hd) (x := x) (y := y) (W := wr) hside.out.1 hside.out.2.1 hside.out.2.2.2 (hL.out.trans hFl.out) (hYr.out _ hZ'.out.mix) hL.out.symm hd3'.out hlx hly)
              obtain ⟨cx, hcx⟩ : ∃ cx, Hid (cx = cj y x) := ⟨_, rfl⟩
              rw [← hcx.out] at d1 hcl
              have hglr : gl < wr.heap.size := hYl'.out.lt
              have hxw : (x : Int) < (w : Int) := by omega
              have f1 := hYl'.out.frozen x
              clear hgx
              go_wp2_with fail
              refine (KR.out).mono ?_
              rintro e w10 ⟨av, rfl, hav, hb10⟩
              have Z10 : Hid (StepW hd born stay mb w4.heap.size w5.heap.size w7 mv rb fo w h pk (mixC (stepS hd born stay k tn sh w h cj) cj y) w10) := ⟨hZ'.out.ask.kept hb10, hZ'.out.fld.kept hb10, hZ'.out.mix.trans (Mix.of_below hb10)⟩
              have Yl10 := Lib.hid (hYl'.out.kept hb10)
              have KQ := Lib.hid (ask58 (c := cx) Z10.out.ask hcl hb1'.out hs1'.out hE'.out (by rw [aroundL_len]) hav (fun j => aroundL_lt hFlt.out j))
              clear hav hb10 KR d1 f1 p0 p1 p2 pf0 pf1 pf2
              go_wp2_with fail
              refine (KQ.out).mono ?_
              rintro e w11 ⟨rfl, A11, hg11⟩
              have hglm : gl ≠ mb := by omega
              have Yl11 := Lib.hid (Yl10.out.grown hg11 hglm)
              have A11' := Lib.hid A11
              have hg11' := Lib.hid hg11
              have d1 := Yl11.out.cell (j := x) (by rw [hll'.out]; exact hlx)
              have f1 := Yl11.out.frozen x
              have hgl11 : gl < w11.heap.size := Yl11.out.lt
              obtain ⟨N, hN⟩ : ∃ N, Hid (N = nextN born stay cx (aroundL (offs hd) w F9 x y)) := ⟨_, rfl⟩
              rw [← hN.out]
              generalize l.getD x 0 = ox at d1
              clear A11 hg11 KQ
              go_wp2_with fail
              have hlz := A11'.out.lt
              have hF11 : Hid (Fld w4.heap.size w5.heap.size w11 fo w h 2 pk (mixC (stepS hd born stay k tn sh w h cj) cj y)) := Z10.out.fld.same (fun q h1 _ h3 => hg11'.out.block q h3 (fun e => by injection e with e; omega)) hg11'.out.size
              have gs := grown_setCell w11 gl x (.int .u8 (N : Int))
              have hsame : ∀ q, q < w7.heap.size → q < w11.heap.size → (w11.setCell ⟨gl, x, none⟩ (.int .u8 (N : Int))).heap[q]? = w11.heap[q]? := fun q h1 h2 => gs.block q h2 (fun e => by injection e with e; omega)
              have h7z := S7.out.ask.lt
              refine ⟨⟨x + 1, l.set x N, by omega, by go_num, ⟨A11'.out.same (hsame _ h7z.1 hlz.1) (hsame _ h7z.2.1 hlz.2.1) (hsame _ h7z.2.2 hlz.2.2), hF11.out.same (fun q _ h2 h3 => hsame q (by omega) h3) gs.size, (Z10.out.mix.trans (Mix.of_grown hg11'.out)).setCell hgl7⟩, Yl11.out.set (by rw [hll'.out]; exact hlx) N, by rw [List.length_set]; exact hll'.out, fun q hq => ?_⟩, by simp [intOf]; omega⟩
              by_cases e : q = x
              · subst e
                rw [if_pos (by omega), hstep.out, ← hcx.out, ← hN.out]
                have : q < l.length := by rw [hll'.out]; exact hq
                simp [List.getD, this]
              · have e2 : (l.set x N).getD q 0 = l.getD q 0 := by
                  have : ¬ x = q := fun h => e h.symm
                  simp [List.getD, List.getElem?_set, this]
                rw [e2, hlg'.out q hq]
                by_cases e3 : q < x
                · rw [if_pos e3, if_pos (by omega)]
                · rw [if_neg e3, if_neg (by omega)]
            · obtain rfl : x = w := by omega
              have hlt2 : ∀ q, q < l.length → l.getD q 0 < 2 := fun q hq => by
                rw [hll'.out] at hq
                rw [hlg'.out q hq, if_pos hq, hstep.out]
                exact nextN_lt _ _ _ _
              have KLy := Lib.hid (hZ'.out.fld.layR (cap := lc) hly hYl'.out hll'.out hlt2 (by omega))
              clear hlt2
              go_wp2_with fail
              refine (KLy.out).mono ?_
              rintro e w12 ⟨rfl, hf12, ho12⟩
              have hf12' := Lib.hid hf12
              have ho12' := Lib.hid ho12
              clear hf12 ho12 KLy
              go_wp2_with fail
              have az := hZ'.out.ask.lt
              refine ⟨⟨y + 1, by omega, by go_num, hZ'.out.ask.same (ho12'.out.block _ az.1 (.inl hmvB)) (ho12'.out.block _ az.2.1 (.inl hmbB)) (ho12'.out.block _ az.2.2 (.inl (by omega))), hf12'.out.congr (fun y' x' h1 h2 => ?_), hZ'.out.mix.trans (Mix.of_only ho12'.out)⟩, by simp [intOf]; omega⟩
              unfold updK mixC
              by_cases e : y' = y
              · subst e
                rw [if_pos ⟨rfl, h2⟩, if_pos (by omega), hlg'.out x' h2, if_pos h2]
              · rw [if_neg (fun q => e q.1)]
                by_cases l : y' < y
                · rw [if_pos l, if_pos (by omega)]
                · rw [if_neg l, if_neg (by omega)]
        · obtain rfl : y = h := by omega
          go_wp2_with fail
          exact ⟨⟨j + 1, by omega, by go_num, by rw [hnx.out]; exact ⟨hX'.out.ask, hX'.out.fld.congr (fun y' x hy' _ => by unfold mixC; rw [if_pos hy']), hXm.out⟩⟩, by simp [intOf]; omega⟩
    · obtain rfl : j = n := by omega
      go_wp2_with fail
      refine bodyPost_ret (v := .tuple #[.pointer (some ⟨fo, 0, none⟩), .int .i64 0]) ?_ rfl ⟨fo, _, _, rfl, hB4.out.size, hS'.out.fld, hB5.out.trans (hS'.out.mix.below hB5.out.size (by omega) hB4.out.size)⟩
      simp only [results, Tryz.f7, Array.toList]
      go_simp
end
end Go.Proofs.YtcbhbojplcddkaaGreatDoor
