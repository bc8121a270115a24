import Derived.Test.YtcbhbojplcddkaaGreatDoorZPkC
namespace Go.Proofs.YtcbhbojplcddkaaGreatDoor
open Go.RowKit Go.RowBits
set_option linter.unusedSimpArgs false
set_option linter.unusedVariables false

def SL1 (w : World) (b2 b4 A : Nat) (lf : List Value) (R : Nat → List Nat) (i : Value) (wr : World) : Prop := ∃ (y : Nat) (sv : Nat → Value), y ≤ 3 ∧ i = .int .i64 (y : Int) ∧ SeenR w b2 b4 A lf R (3 * y) sv wr
def SL2 (w : World) (b2 b4 A B n c y : Nat) (lf : List Value) (R : Nat → List Nat) (i : Value) (wr : World) : Prop := ∃ (x : Nat) (sv : Nat → Value) (v : Value), x ≤ 3 ∧ i = .int .i64 (x : Int) ∧ SeenR w b2 b4 A lf R (c + x) sv wr ∧
  wr.cell? ⟨B, 0, none⟩ = some (.int .i64 (n : Int)) ∧ wr.cell? ⟨B, 1, none⟩ = some v ∧ (∀ o, wr.frozen? ⟨B, o, none⟩ = false) ∧ HasW wr v (shN (R y) x) ∧ blkOf v ≠ some A ∧ blkOf v ≠ some B ∧ (∀ j, j < c + x → blkOf (sv j) ≠ some B) ∧ A < B ∧ B < wr.heap.size
def rows3 (a h b : List Nat) : Nat → List Nat
  | 0 => a
  | 1 => h
  | _ => b
def O3 (W5 : World) (O : Nat) (Lp : List (Int × Int)) (born stay : Nat) (a h b : List Nat) (m : Nat) (i : Value) (wr : World) : Prop := ∃ k : Nat, k ≤ m ∧ i = .int .i64 (k : Int) ∧ WBlk wr O (outI Lp born stay a h b m k 0) ∧ W5.grownBy wr (some O)
def O4 (W5 : World) (O : Nat) (Lp : List (Int × Int)) (born stay : Nat) (a h b : List Nat) (m i : Nat) (v1 v2 v3 v4 k : Value) (wr : World) : Prop := ∃ kk : Nat, kk ≤ Lp.length ∧ k = .int .i64 (kk : Int) ∧
  v1 = .int .u64 ((cntW Lp a h b i kk).a : Int) ∧ v2 = .int .u64 ((cntW Lp a h b i kk).b : Int) ∧ v3 = .int .u64 ((cntW Lp a h b i kk).c : Int) ∧ v4 = .int .u64 ((cntW Lp a h b i kk).d : Int) ∧ WBlk wr O (outI Lp born stay a h b m i 0) ∧ W5.grownBy wr (some O)
def O5 (W6 : World) (O : Nat) (Lp : List (Int × Int)) (born stay : Nat) (a h b : List Nat) (m i : Nat) (s : Cnt) (here : Nat) (k : Value) (wr : World) : Prop := ∃ kk : Nat, kk ≤ Lp.length + 1 ∧ k = .int .i64 (kk : Int) ∧ WBlk wr O (outI Lp born stay a h b m i (accK born stay s here kk)) ∧ W6.grownBy wr (some O)
def O6 (W7 : World) (s : Cnt) (k : Nat) (v d : Value) (wr : World) : Prop := ∃ dd : Nat, dd ≤ 4 ∧ d = .int .i64 (dd : Int) ∧ v = .int .u64 ((selD s k dd : Nat) : Int) ∧ wr = W7
theorem offs_near {h : Int} (hh : h = 1 ∨ h = 2 ∨ h = 3) : ∀ k, k < (offs h).length → -1 ≤ ((offs h).getD k (0, 0)).1 ∧ ((offs h).getD k (0, 0)).1 ≤ 1 ∧ -1 ≤ ((offs h).getD k (0, 0)).2 ∧ ((offs h).getD k (0, 0)).2 ≤ 1 := by
  intro k hk
  have h8 := offs_len h
  rcases hh with rfl | rfl | rfl
  · rw [offs_1] at *
    exact (by decide : ∀ k : Fin 8, k.val < moore.length → -1 ≤ (moore.getD k.val (0, 0)).1 ∧ (moore.getD k.val (0, 0)).1 ≤ 1 ∧ -1 ≤ (moore.getD k.val (0, 0)).2 ∧ (moore.getD k.val (0, 0)).2 ≤ 1) ⟨k, by omega⟩ hk
  · rw [offs_2] at *
    match k, hk with
    | 0, _ | 1, _ | 2, _ | 3, _ => decide
  · rw [offs_3] at *
    match k, hk with
    | 0, _ | 1, _ | 2, _ | 3, _ | 4, _ | 5, _ => decide
theorem rows3_at (a h b : List Nat) {y : Int} (h1 : -1 ≤ y) (h2 : y ≤ 1) : rows3 a h b (y + 1).toNat = Go.RowBits.rowAt a h b y := by
  obtain rfl | rfl | rfl : y = -1 ∨ y = 0 ∨ y = 1 := by omega
  · rfl
  · rfl
  · rfl

theorem rowGood_pos {n : Nat} {ws : List Nat} (h : RowGood n ws) (hn : 0 < n) : 0 < ws.length := by have := h.len; omega
theorem good_shN {n : Nat} {ws : List Nat} (h : RowGood n ws) (m : Nat) : RowGood n (shN ws m) := shN_good h m

theorem idx99_0 (n0 n1 n2 : Int) (v0 v1 v2 : Value) (w : World) : (Instr.index 75 (.agg #[.int .i64 n0, v0, .int .i64 n1, v1, .int .i64 n2, v2]) (.int .i64 0)).run Tryz.prog w = .ok (.agg #[.int .i64 n0, v0]) w := by kernel_rfl
theorem idx99_1 (n0 n1 n2 : Int) (v0 v1 v2 : Value) (w : World) : (Instr.index 75 (.agg #[.int .i64 n0, v0, .int .i64 n1, v1, .int .i64 n2, v2]) (.int .i64 1)).run Tryz.prog w = .ok (.agg #[.int .i64 n1, v1]) w := by kernel_rfl
theorem idx99_2 (n0 n1 n2 : Int) (v0 v1 v2 : Value) (w : World) : (Instr.index 75 (.agg #[.int .i64 n0, v0, .int .i64 n1, v1, .int .i64 n2, v2]) (.int .i64 2)).run Tryz.prog w = .ok (.agg #[.int .i64 n2, v2]) w := by kernel_rfl
theorem seen_start {R : Nat → List Nat} (w : World) (h born stay : Int) (o3 : Obj) :
    SeenR w w.heap.size (w.heap.size + 1 + 1) (w.heap.size + 1 + 1 + 1) [.int .u8 h, .int .u16 born, .int .u16 stay] R (3 * 0) (fun _ => .slice none 0 0)
      ((((w.alloc (.cells #[.int .u8 h, .int .u16 born, .int .u16 stay] 24)).alloc o3).alloc (.cells #[.int .i64 0, .slice none 0 0] 58)).alloc (.cells #[.slice none 0 0, .slice none 0 0, .slice none 0 0, .slice none 0 0, .slice none 0 0, .slice none 0 0, .slice none 0 0, .slice none 0 0, .slice none 0 0] 117)) := by
  refine ⟨fun j hj => ?_, by go_simp, by go_simp, fun o => by go_simp, fun j hj => ?_, fun j => by go_simp, fun j hj => by omega, fun j hj => by omega, ?_, ⟨Nat.le_refl _, by omega, by omega, by simp⟩⟩
  · match j, hj with
    | 0, _ | 1, _ | 2, _ => go_simp
  · match j, hj with
    | 0, _ | 1, _ | 2, _ | 3, _ | 4, _ | 5, _ | 6, _ | 7, _ | 8, _ => go_simp
  · exact (((below_new _).alloc (by simp) _).alloc (by simp; omega) _).alloc (by simp; omega) _

set_option maxRecDepth 100000 in
set_option maxHeartbeats 16000000 in
theorem line47 {w : World} {h : Int} {born stay n : Nat} {va vh vb : Value} {a hr b : List Nat} (hh : h = 1 ∨ h = 2 ∨ h = 3) (hb1 : born < 65536) (hs1 : stay < 65536) (hn3 : 3 ≤ n) (hn : n ≤ 65538)
    (ga : RowGood n a) (gh : RowGood n hr) (gb : RowGood n b) (ha : HasW w va a) (hv : HasW w vh hr) (hb : HasW w vb b) :
    Calls Tryz.prog 24 #[.agg #[.int .u8 h, .int .u16 (born : Int), .int .u16 (stay : Int)], .agg #[.int .i64 (n : Int), va, .int .i64 (n : Int), vh, .int .i64 (n : Int), vb]] w fun e w' => ∃ g, e = .returned (.agg #[.int .i64 ((n : Int) - 2), .slice (some ⟨g, 0, none⟩) ((n - 2 + 63) / 64) ((n - 2 + 63) / 64)]) ∧
      w.heap.size ≤ g ∧ WBlk w' g (maskW (n - 2) (outW (offs h) born stay a hr b (n - 2))) ∧ Below w.heap.size w w' := by
  have KD : Hid (∀ (m : Nat) (ws : List Nat) (v : Value) (W : World), RowGood n ws → HasW W v ws → Calls Tryz.prog 49 #[.agg #[.int .i64 (n : Int), v], .bool false] W fun e w' => ∃ g b, e = .returned (.tuple #[.agg #[.int .i64 (n : Int), .slice (some ⟨g, 0, none⟩) ws.length ws.length], .bool b, .int .i64 0]) ∧
    W.heap.size ≤ g ∧ WBlk w' g (downW ws) ∧ Below W.heap.size W w') := fun m ws v W hg hw => down_any hn (by omega) hg hw
  have hgood : Hid (∀ y, RowGood n (rows3 a hr b y)) := fun y => by
    match y with
    | 0 => exact ga
    | 1 => exact gh
    | (y + 2) => exact gb
  have ga' := Lib.hid ga
  have gh' := Lib.hid gh
  have gb' := Lib.hid gb
  have ha' := Lib.hid ha
  have hv' := Lib.hid hv
  have hb' := Lib.hid hb
  obtain ⟨ada, capa, rfl, _⟩ := ha
  obtain ⟨adh, caph, rfl, _⟩ := hv
  obtain ⟨adb, capb, rfl, _⟩ := hb
  have la := ga.len
  have lh := gh.len
  have lb := gb.len
  obtain ⟨L, hL⟩ : ∃ L, L = (n + 63) / 64 := ⟨_, rfl⟩
  rw [← hL] at la lh lb
  rw [la] at ha'
  rw [lh] at hv'
  rw [lb] at hb'
  rw [la, lh, lb]
  have hL' := Lib.hid hL
  have hL0 : 0 < L := by omega
  have la' := Lib.hid la
  have lh' := Lib.hid lh
  have lb' := Lib.hid lb
  obtain ⟨adf, hadf⟩ : ∃ f : Nat → Option Addr, (fun y => if y = 0 then ada else if y = 1 then adh else adb) = f := ⟨_, rfl⟩
  obtain ⟨capf, hcapf⟩ : ∃ f : Nat → Nat, (fun y => if y = 0 then capa else if y = 1 then caph else capb) = f := ⟨_, rfl⟩
  have hlens : Hid (∀ y, (rows3 a hr b y).length = L) := fun y => by
    match y with
    | 0 => exact la
    | 1 => exact lh
    | (y + 2) => exact lb
  have hargs : Hid (∀ y, y < 3 → HasW w (.slice (adf y) L (capf y)) (rows3 a hr b y)) := fun y hy => by
    rw [← hadf, ← hcapf]
    match y, hy with
    | 0, _ => exact ha'.out
    | 1, _ => exact hv'.out
    | 2, _ => exact hb'.out
  have hidx : Hid (∀ y : Nat, y < 3 → ∀ W, (Instr.index 75 (.agg #[.int .i64 (n : Int), .slice ada L capa, .int .i64 (n : Int), .slice adh L caph, .int .i64 (n : Int), .slice adb L capb]) (.int .i64 (y : Int))).run Tryz.prog W = .ok (.agg #[.int .i64 (n : Int), .slice (adf y) L (capf y)]) W) := fun y hy W => by
    rw [← hadf, ← hcapf]
    match y, hy with
    | 0, _ => exact idx99_0 _ _ _ _ _ _ W
    | 1, _ => exact idx99_1 _ _ _ _ _ _ W
    | 2, _ => exact idx99_2 _ _ _ _ _ _ W
  have hr64 : Hid (Rows64 a hr b) := ⟨ga.w64, gh.w64, gb.w64⟩
  clear la lh lb hL ga gh gb hadf hcapf
  go_enter Tryz.func24, Tryz.ntmps24
  go_wp2
  have st := Lib.hid (seen_start (R := rows3 a hr b) w h (born : Int) (stay : Int) (.cells #[.int .i64 (n : Int), .slice ada L capa, .int .i64 (n : Int), .slice adh L caph, .int .i64 (n : Int), .slice adb L capb] 75))
  generalize ((((w.alloc (.cells #[.int .u8 h, .int .u16 (born : Int), .int .u16 (stay : Int)] 24)).alloc (.cells #[.int .i64 (n : Int), .slice ada L capa, .int .i64 (n : Int), .slice adh L caph, .int .i64 (n : Int), .slice adb L capb] 75)).alloc (.cells #[.int .i64 0, .slice none 0 0] 58)).alloc (.cells #[.slice none 0 0, .slice none 0 0, .slice none 0 0, .slice none 0 0, .slice none 0 0, .slice none 0 0, .slice none 0 0, .slice none 0 0, .slice none 0 0] 117)) = W4 at *
  obtain ⟨b4, hb4⟩ : ∃ b4, w.heap.size + 1 + 1 = b4 := ⟨_, rfl⟩
  obtain ⟨A, hA⟩ : ∃ A, w.heap.size + 1 + 1 + 1 = A := ⟨_, rfl⟩
  obtain ⟨lf, hlf⟩ : ∃ lf, ([.int .u8 h, .int .u16 (born : Int), .int .u16 (stay : Int)] : List Value) = lf := ⟨_, rfl⟩
  rw [hlf] at st
  have hlf' := Lib.hid hlf
  have hb4l : w.heap.size < b4 := by omega
  have hAl : b4 < A := by omega
  rw [hA, hb4] at st
  rw [hA, hb4]
  clear hlf hb4 hA
  go_loopw [32] (fun i wr => SL1 w w.heap.size b4 A lf (rows3 a hr b) i wr) (fun i _ => 3 - (intOf i).toNat)
  case atStart => exact ⟨0, _, by omega, by go_num, st.out⟩
  case round =>
    obtain ⟨y, sv, hy, rfl, hS⟩ := hrel
    have hS1 := Lib.hid hS
    have hsz := hS.s2.2.2.2
    clear hS st
    by_cases hlt : y < 3
    · have hWv := Lib.hid ((hargs.out y hlt).keptB hS1.out.hB (Nat.le_refl _))
      have hnA := Lib.hid ((hargs.out y hlt).blk_lt (by rw [hlens.out y]; exact hL0) (b := A) (by omega))
      have hnB := Lib.hid (hWv.out.blk_lt (by rw [hlens.out y]; exact hL0) (b := wr.heap.size) (Nat.le_refl _))
      have hoB : Hid (∀ j, j < 3 * y → blkOf (sv j) ≠ some wr.heap.size) := fun j hj => (hS1.out.has j (by omega)).blk_lt (by rw [shN_len]; exact rowGood_pos (hgood.out _) (by omega)) (Nat.le_refl _)
      rename World => w1
      have hix := hidx.out y hlt
      go_wp2
      rw [show decide ((y : Int) < 3) = true from decide_eq_true (by omega)]
      go_loopw [36] (fun i wx => SL2 w w.heap.size b4 A w1.heap.size n (3 * y) y lf (rows3 a hr b) i wx) (fun i _ => 3 - (intOf i).toNat)
      case atStart =>
        exact ⟨0, sv, _, by omega, by go_num, hS1.out.below (below_new _), by go_simp, by go_simp, fun o => by go_simp, hWv.out.kept (below_new _), hnA.out, hnB.out, hoB.out, hsz, by simp⟩
      case round =>
        obtain ⟨x, sv, v, hx, rfl, hS, hc0, hc1, hcf, hvW, hvA, hvB, hvo, hAB, hBs⟩ := hrel
        have hS2 := Lib.hid hS
        have hvW' := Lib.hid hvW
        have hvA' := Lib.hid hvA
        have hvB' := Lib.hid hvB
        have hvo' := Lib.hid hvo
        clear hS hvW hvA hvB hvo
        by_cases hltx : x < 3
        · have hz1 : A < wr.heap.size := hS2.out.s2.2.2.2
          have hAf := hS2.out.seenf
          have hAc : wr.cell? ⟨A, y * 3 + x, none⟩ = some (sv (3 * y + x)) := by rw [show y * 3 + x = 3 * y + x from by omega]; exact hS2.out.seen (3 * y + x) (by omega)
          have hlen : (shN (rows3 a hr b y) x).length = L := by rw [shN_len]; exact hlens.out y
          have hvs : ∃ ad cap, v = .slice ad L cap := by
            obtain ⟨ad, cap, e, _⟩ := hvW'.out
            exact ⟨ad, cap, by rw [e, hlen]⟩
          obtain ⟨adv, capv, rfl⟩ := hvs
          have S3 : SeenR w w.heap.size b4 A lf (rows3 a hr b) (3 * y + (x + 1)) (fun j => if j = 3 * y + x then .slice adv L capv else sv j) (wr.setCell ⟨A, y * 3 + x, none⟩ (.slice adv L capv)) := by
            rw [show (⟨A, y * 3 + x, none⟩ : Addr) = ⟨A, 3 * y + x, none⟩ from by rw [show y * 3 + x = 3 * y + x from by omega]]
            refine hS2.out.put (by omega) ?_ hvA'.out
            rw [show (3 * y + x) / 3 = y from by omega, show (3 * y + x) % 3 = x from by omega]
            exact hvW'.out
          have S4 := Lib.hid (S3.below (w' := (wr.setCell ⟨A, y * 3 + x, none⟩ (.slice adv L capv)).drew) (Below.drew (Below.refl _ _)))
          have hW5 : HasW ((wr.setCell ⟨A, y * 3 + x, none⟩ (.slice adv L capv)).drew) (.slice adv L capv) (shN (rows3 a hr b y) x) := hvW'.out.store hvA'.out _
          have KD1 := Lib.hid (KD.out 0 _ _ _ (good_shN (hgood.out y) x) hW5)
          rw [hlen] at KD1
          have hlen' := Lib.hid hlen
          have hAneB : w1.heap.size ≠ A := by omega
          clear hW5 S3 hlen
          go_wp2
          go_region
          go_wp2_with fail
          refine KD1.out.mono ?_
          rintro e w3 ⟨g, bo, rfl, hgl, hblk, hb⟩
          have hz3 : wr.heap.size ≤ w3.heap.size := by have := hb.size; simpa [World.setCell] using this
          have hgl' : wr.heap.size ≤ g := by simpa [World.setCell] using hgl
          have cc0 : w3.cell? ⟨w1.heap.size, 0, none⟩ = some (.int .i64 (n : Int)) := cellB hb (by go_simp) (by simp [World.setCell]; omega)
          have cc1 : w3.cell? ⟨w1.heap.size, 1, none⟩ = some (.slice adv L capv) := cellB hb (by go_simp) (by simp [World.setCell]; omega)
          have ccf : ∀ o, w3.frozen? ⟨w1.heap.size, o, none⟩ = false := fun o => by
            rw [hb.frozen (p := ⟨w1.heap.size, o, none⟩) (by simp [World.setCell]; omega)]
            have := hcf o
            go_simp
          have S5 := Lib.hid (S4.out.below hb)
          have hblk' := Lib.hid hblk
          have hoff : ∀ j, j < 3 * y + (x + 1) → blkOf (if j = 3 * y + x then Value.slice adv L capv else sv j) ≠ some w1.heap.size := fun j hj => by
            by_cases e : j = 3 * y + x
            · rw [if_pos e]; exact hvB'.out
            · rw [if_neg e]; exact hvo'.out j (by omega)
          have hWn : HasW w3 (.slice (some ⟨g, 0, none⟩) L L) (shN (rows3 a hr b y) (x + 1)) := by
            have h1 : HasW w3 (.slice (some ⟨g, 0, none⟩) (downW (shN (rows3 a hr b y) x)).length L) (downW (shN (rows3 a hr b y) x)) := hblk.has
            rw [downW_len, hlen'.out] at h1
            exact h1
          have hgB : blkOf (.slice (some ⟨g, 0, none⟩) L L) ≠ some w1.heap.size := fun e => by have : g = w1.heap.size := Option.some.inj e; omega
          have hgA : blkOf (.slice (some ⟨g, 0, none⟩) L L) ≠ some A := fun e => by have : g = A := Option.some.inj e; omega
          have R : SL2 w w.heap.size b4 A w1.heap.size n (3 * y) y lf (rows3 a hr b) (.int .i64 ((x : Int) + 1)) ((w3.setCell ⟨w1.heap.size, 0, none⟩ (.int .i64 (n : Int))).setCell ⟨w1.heap.size, 1, none⟩ (.slice (some ⟨g, 0, none⟩) L L)) :=
            ⟨x + 1, _, .slice (some ⟨g, 0, none⟩) L L, by omega, by go_num, (S5.out.other hAB hoff _).other hAB hoff _, by go_simp, by go_simp, fun o => by have := ccf o; go_simp, (hWn.store hgB _).store hgB _, hgA, hgB, hoff, hAB, by simp [World.setCell]; omega⟩
          have R' := Lib.hid R
          clear hb hblk R hWn hoff hgl
          go_wp2
          exact ⟨R'.out, by simp [intOf]; omega⟩
        · obtain rfl : x = 3 := by omega
          go_wp2
          exact ⟨⟨y + 1, sv, by omega, by go_num, hS2.out⟩, by simp [intOf]; omega⟩
    · have hy3 : y = 3 := by omega
      have S9 : SeenR w w.heap.size b4 A lf (rows3 a hr b) (3 * 3) sv wr := by have := hS1.out; rw [hy3] at this; exact this
      have S9' := Lib.hid S9
      have lf0 : wr.cell? ⟨w.heap.size, 0, none⟩ = some (.int .u8 h) := by rw [S9.life 0 (by omega), ← hlf'.out]; rfl
      have KO1 := fun W => offsets_any h W
      rw [hoodErr_good hh] at KO1
      have KO := Lib.hid KO1
      have hnear := Lib.hid (offs_near hh)
      have hp8 := offs_len h
      generalize hLp : offs h = Lp at *
      have hLp' := Lib.hid hLp
      clear hLp
      clear S9 hy3 KO1 hS1
      go_wp2_with fail
      refine (KO.out _).mono ?_
      rintro e w2 ⟨vl, rfl, ol, hb⟩
      have S10 := Lib.hid (S9'.out.below hb)
      have pts := Lib.hid (HasPts.own ol)
      obtain ⟨adl, capl, rfl⟩ := own_shape ol
      have hz2 : wr.heap.size ≤ w2.heap.size := hb.size
      clear hb ol S9'
      obtain ⟨m, hm⟩ : ∃ m, m = (n - 2 + 63) / 64 := ⟨_, rfl⟩
      have h2 : ((n : Int) - 2 + 63) / 64 = (m : Int) := by omega
      have hmL : m ≤ L := by have := hL'.out; omega
      have hm1 : m ≤ 1025 := by omega
      have hmk := fun n => run_make_row' (P := Tryz.prog) 56 61 (.int .u64 0) 8 Tryz.underlying56 info61' rfl .i64 .i64 n
      have hmk' : ∀ W, (Instr.makeSlice 56 (.int .i64 (m : Int)) (.int .i64 (m : Int))).run Tryz.prog W = .ok (.slice (some ⟨W.heap.size, 0, none⟩) m m) (W.alloc (.cells (madeCells #[.int .u64 0] m) 61)) := fun W => hmk m (by omega) (by omega) W
      have hm' := Lib.hid hm
      clear hmk hm
      go_wp2
      have S11 := Lib.hid (S10.out.below (below_new (.cells (madeCells #[.int .u64 0] m) 61)))
      have pts5 := Lib.hid (pts.out.kept (below_new (.cells (madeCells #[.int .u64 0] m) 61)))
      have blk5 := Lib.hid (WBlk.new w2 _ _ (made_words m))
      have hO1 : w2.heap.size < (w2.alloc (.cells (madeCells #[.int .u64 0] m) 61)).heap.size := by simp
      have hptO : Hid (∀ k, k < Lp.length → ∃ g, adl = some ⟨g, 0, none⟩ ∧ g < w2.heap.size) := fun k hk => by
        obtain ⟨_, _, hv, hcs⟩ := pts.out
        cases hv
        obtain ⟨g, hg, c1, _⟩ := hcs k hk
        exact ⟨g, hg, World.block_lt_of_cell? w2 _ c1⟩
      have hsvO : Hid (∀ j, j < 9 → blkOf (sv j) ≠ some w2.heap.size) := fun j hj => (S10.out.has j hj).blk_lt (by rw [shN_len]; exact rowGood_pos (hgood.out _) (by omega)) (Nat.le_refl _)
      have hAO : A < w2.heap.size := S10.out.s2.2.2.2
      clear S10 pts
      generalize hO : w2.heap.size = O at *
      generalize (w2.alloc (.cells (madeCells #[.int .u64 0] m) 61)) = W5 at *
      clear hO
      rw [h2]
      clear h2 hmk'
      go_loopw [65] (fun i wx => O3 W5 O Lp born stay a hr b m i wx) (fun i _ => m - (intOf i).toNat)
      case atStart => exact ⟨0, by omega, by go_num, by rw [outI_zero]; exact blk5.out, grown_refl _ _⟩
      case round =>
        obtain ⟨i, hi, rfl, hW, hG⟩ := hrel
        have hW3 := Lib.hid hW
        have hG3 := Lib.hid hG
        clear hW hG blk5
        by_cases hlt : i < m
        · rename World => wi
          go_wp2
          try rw [show decide ((i : Int) < (m : Int)) = true from decide_eq_true (by omega)]
          go_loopw [14, 15, 16, 17, 70] (fun v1 v2 v3 v4 k wx => O4 W5 O Lp born stay a hr b m i v1 v2 v3 v4 k wx) (fun _ _ _ _ k _ => Lp.length - (intOf k).toNat)
          case atStart => exact ⟨0, by omega, by go_num, rfl, rfl, rfl, rfl, hW3.out, hG3.out⟩
          case round =>
            obtain ⟨k, hk, rfl, rfl, rfl, rfl, rfl, hW, hG⟩ := hrel
            have hW4 := Lib.hid hW
            have hG4 := Lib.hid hG
            clear hW hG
            by_cases hltk : k < Lp.length
            · obtain ⟨q1, q2, q3, q4⟩ := hnear.out k hltk
              obtain ⟨gp, hgp, hgpO⟩ := hptO.out k hltk
              obtain ⟨_, _, hpv, hpc⟩ := pts5.out
              cases hpv
              obtain ⟨gp2, hgp2, p1, p2⟩ := hpc k hltk
              rw [hgp] at hgp2
              cases hgp2
              subst hgp
              have p1' := hG4.out.cell p1 (fun e => by have : gp = O := Option.some.inj e; omega)
              have p2' := hG4.out.cell p2 (fun e => by have : gp = O := Option.some.inj e; omega)
              obtain ⟨j, hj⟩ : ∃ j, j = (((Lp.getD k (0, 0)).2 + 1).toNat * 3 + ((Lp.getD k (0, 0)).1 + 1).toNat) := ⟨_, rfl⟩
              have hj9 : j < 9 := by omega
              have hjd : j / 3 = ((Lp.getD k (0, 0)).2 + 1).toNat := by omega
              have hjm : j % 3 = ((Lp.getD k (0, 0)).1 + 1).toNat := by omega
              have hsc := hG4.out.cell (S11.out.seen j hj9) (fun e => by have : A = O := Option.some.inj e; omega)
              have hsw := (S11.out.has j hj9).stepg hG4.out (hsvO.out j hj9)
              rw [hjd, hjm, rows3_at a hr b q3 q4] at hsw
              have hwl : (shN (Go.RowBits.rowAt a hr b (Lp.getD k (0, 0)).2) ((Lp.getD k (0, 0)).1 + 1).toNat).length = L := by rw [shN_len, ← rows3_at a hr b q3 q4]; exact hlens.out _
              obtain ⟨adw, capw, hsv, hcw⟩ := hsw
              rw [hwl] at hsv hcw
              obtain ⟨gw, ow, hgw, cw0⟩ := hcw i (by omega)
              subst hgw
              rw [hsv, hj] at hsc
              have hword : Hid (wordOf Lp a hr b i k = (shN (Go.RowBits.rowAt a hr b (Lp.getD k (0, 0)).2) ((Lp.getD k (0, 0)).1 + 1).toNat).getD i 0) := rfl
              have hwlt := wordOf_lt (L := Lp) hr64.out i k
              have hok := cntW_ok (L := Lp) hr64.out i k
              have hnext : Hid (cntW Lp a hr b i (k + 1) = (cntW Lp a hr b i k).add (wordOf Lp a hr b i k)) := rfl
              rw [← hword.out] at cw0
              have hgwl : gw < wr.heap.size := World.block_lt_of_cell? wr _ cw0
              have hgpl : gp < wr.heap.size := World.block_lt_of_cell? wr _ p1'
              have hAl2 : A < wr.heap.size := World.block_lt_of_cell? wr _ hsc
              clear hcw hsv hwl hjd hjm hj hj9 hword
              generalize wordOf Lp a hr b i k = wd at *
              generalize cntW Lp a hr b i k = s at *
              obtain ⟨sa, sb, sc, sd⟩ := s
              obtain ⟨oa, ob, oc, od⟩ := hok
              simp only at oa ob oc od
              have H1 := Lib.hid (fun W => half71 oa hwlt W)
              have H2 := Lib.hid (fun W => half71 (b := sa &&& wd) ob (and_lt_U oa) W)
              have H3 := Lib.hid (fun W => half71 (b := sb &&& (sa &&& wd)) oc (and_lt_U ob) W)
              have hor := u64_or_nat sd (sc &&& (sb &&& (sa &&& wd))) od (and_lt_U oc)
              generalize (Lp.getD k (0, 0)).1 = X at *
              generalize (Lp.getD k (0, 0)).2 = Y at *
              clear oa ob oc od hwlt
              go_wp2
              go_quiet (fail)
              go_wp2_with fail
              refine (H1.out _).mono ?_
              rintro e w3 ⟨rfl, rfl⟩
              go_wp2_with fail
              refine (H2.out _).mono ?_
              rintro e w3 ⟨rfl, rfl⟩
              go_wp2_with fail
              refine (H3.out _).mono ?_
              rintro e w3 ⟨rfl, rfl⟩
              go_wp2
              exact ⟨⟨k + 1, by omega, by go_num, by rw [hnext.out]; rfl, by rw [hnext.out]; rfl, by rw [hnext.out]; rfl, by rw [hnext.out]; rfl, (hW4.out.kept (below_new _)).drewN _, grown_drewN (grown_alloc hG4.out _) _⟩, by simp [intOf]; omega⟩
            · have hkl : k = Lp.length := by omega
              have hok := cntW_ok (L := Lp) hr64.out i k
              have hsE : Hid (cntW Lp a hr b i Lp.length = cntW Lp a hr b i k) := by rw [hkl]; rfl
              have hsc := hG4.out.cell (S11.out.seen 4 (by omega)) (fun e => by have : A = O := Option.some.inj e; omega)
              have hsw : HasW wr (sv 4) (shN hr 1) := (S11.out.has 4 (by omega)).stepg hG4.out (hsvO.out 4 (by omega))
              have hwl : (shN hr 1).length = L := by rw [shN_len]; exact lh'.out
              obtain ⟨adw, capw, hsv, hcw⟩ := hsw
              rw [hwl] at hsv hcw
              obtain ⟨gw, ow, hgw, cw0⟩ := hcw i (by omega)
              subst hgw
              rw [hsv] at hsc
              have hgwl : gw < wr.heap.size := World.block_lt_of_cell? wr _ cw0
              have hAl2 : A < wr.heap.size := World.block_lt_of_cell? wr _ hsc
              have hhl := shN_64 hr64.out.h 1 i
              have hout : Hid (outWord Lp born stay a hr b i = accK born stay (cntW Lp a hr b i k) ((shN hr 1).getD i 0) (Lp.length + 1)) := by
                show outWord Lp born stay a hr b i = _
                unfold outWord
                rw [hsE.out]
              have lf1 : wr.cell? ⟨w.heap.size, 1, none⟩ = some (.int .u16 (born : Int)) := hG4.out.cell (by rw [S11.out.life 1 (by omega), ← hlf'.out]; rfl) (fun e => by have : w.heap.size = O := Option.some.inj e; omega)
              have lf2 : wr.cell? ⟨w.heap.size, 2, none⟩ = some (.int .u16 (stay : Int)) := hG4.out.cell (by rw [S11.out.life 2 (by omega), ← hlf'.out]; rfl) (fun e => by have : w.heap.size = O := Option.some.inj e; omega)
              have hOl : O < wr.heap.size := hW4.out.lt
              generalize cntW Lp a hr b i k = s at *
              generalize (shN hr 1).getD i 0 = hw at *
              have hok' := Lib.hid hok
              have hhl' := Lib.hid hhl
              have lf1' := Lib.hid (cell_kept (below_new (.cells #[.int .u64 (s.a : Int), .int .u64 (s.b : Int), .int .u64 (s.c : Int), .int .u64 (s.d : Int)] 125)) lf1)
              have lf2' := Lib.hid (cell_kept (below_new (.cells #[.int .u64 (s.a : Int), .int .u64 (s.b : Int), .int .u64 (s.c : Int), .int .u64 (s.d : Int)] 125)) lf2)
              have hW6 := Lib.hid (hW4.out.kept (below_new (.cells #[.int .u64 (s.a : Int), .int .u64 (s.b : Int), .int .u64 (s.c : Int), .int .u64 (s.d : Int)] 125)))
              have hG6 := Lib.hid (grown_alloc hG4.out (.cells #[.int .u64 (s.a : Int), .int .u64 (s.b : Int), .int .u64 (s.c : Int), .int .u64 (s.d : Int)] 125))
              clear hcw hsv hwl hok hhl hsE lf1 lf2
              rename World => wc
              go_wp2
              try rw [show decide ((i : Int) < (m : Int)) = true from decide_eq_true (by omega)]
              go_loopw [122] (fun kv wx => O5 (wc.alloc (.cells #[.int .u64 (s.a : Int), .int .u64 (s.b : Int), .int .u64 (s.c : Int), .int .u64 (s.d : Int)] 125)) O Lp born stay a hr b m i s hw kv wx) (fun kv _ => Lp.length + 1 - (intOf kv).toNat)
              case atStart => exact ⟨0, by omega, by go_num, hW6.out, grown_refl _ _⟩
              case round =>
                obtain ⟨k2, hk2, rfl, hW, hG⟩ := hrel
                have hW7 := Lib.hid hW
                have hG7 := Lib.hid hG
                have cC0 : wr.cell? ⟨wc.heap.size, 0, none⟩ = some (.int .u64 (s.a : Int)) := hG.cell (by go_simp) (fun e => by have : wc.heap.size = O := Option.some.inj e; omega)
                have cC1 : wr.cell? ⟨wc.heap.size, 1, none⟩ = some (.int .u64 (s.b : Int)) := hG.cell (by go_simp) (fun e => by have : wc.heap.size = O := Option.some.inj e; omega)
                have cC2 : wr.cell? ⟨wc.heap.size, 2, none⟩ = some (.int .u64 (s.c : Int)) := hG.cell (by go_simp) (fun e => by have : wc.heap.size = O := Option.some.inj e; omega)
                have cC3 : wr.cell? ⟨wc.heap.size, 3, none⟩ = some (.int .u64 (s.d : Int)) := hG.cell (by go_simp) (fun e => by have : wc.heap.size = O := Option.some.inj e; omega)
                have l1 := hG.cell lf1'.out (fun e => by have : w.heap.size = O := Option.some.inj e; omega)
                have l2 := hG.cell lf2'.out (fun e => by have : w.heap.size = O := Option.some.inj e; omega)
                have d1 := hW.cell (j := i) (by rw [outI_len]; exact hlt)
                rw [outI_get hlt] at d1
                have f1 := hW.frozen i
                clear hW hG
                by_cases hltk2 : k2 < Lp.length + 1
                · have hltk3 : (k2 : Int) < (Lp.length : Int) + 1 := by omega
                  go_wp2
                  try rw [show decide ((k2 : Int) < (Lp.length : Int) + 1) = true from decide_eq_true (by omega)]
                  rename World => wd
                  go_loopw [24, 126] (fun v d wx => O6 wd s k2 v d wx) (fun _ d _ => 4 - (intOf d).toNat)
                  case atStart => exact ⟨0, by omega, by go_num, rfl, rfl⟩
                  case round =>
                    obtain ⟨d, hd, rfl, rfl, rfl⟩ := hrel
                    by_cases hltd : d < 4
                    · have hix := idxC s hltd
                      have hbit := bit_i64 (k := k2) (d := d) (by omega)
                      have hcl := cw_lt hok'.out d
                      have hsl := selD_lt (s := s) k2 d
                      have hsn : Hid (selD s k2 (d + 1) = selD s k2 d &&& sel1 k2 d (cw s d)) := rfl
                      generalize cw s d = cd at *
                      generalize selD s k2 d = se at *
                      cases hkb : k2.testBit d with
                      | true =>
                        rw [hkb, if_pos rfl] at hbit
                        have hand := u64_and_nat se cd hsl hcl
                        go_wp2
                        exact ⟨⟨d + 1, by omega, by go_num, by rw [hsn.out, sel1, hkb, if_pos rfl], rfl⟩, by simp [intOf]; omega⟩
                      | false =>
                        rw [hkb, if_neg (by simp)] at hbit
                        have hcm := compl_u64 hcl
                        have hand := u64_and_nat se (U - 1 - cd) hsl (compl_lt cd)
                        have hlast : bits .and .u64 (se : Int) (bits .xor .u64 (if IntKind.u64.signed = true then -1 else IntKind.u64.max) (cd : Int)) = ((se &&& sel1 k2 d cd : Nat) : Int) := by
                          rw [hcm, hand, sel1, hkb, if_neg (by simp)]
                        have hlast' := Lib.hid hlast
                        clear hcm hand hlast
                        go_wp2
                        exact ⟨⟨d + 1, by omega, by go_num, by rw [hlast'.out, hsn.out], rfl⟩, by simp [intOf]; omega⟩
                    · have hd4 : d = 4 := by omega
                      have hse : selD s k2 d = sel s k2 := by rw [hd4]; exact selD_four s k2
                      rw [hse]
                      have hsl : sel s k2 < U := by rw [← hse]; exact selD_lt k2 d
                      have hal := accK_lt born stay hok'.out hhl'.out k2
                      have hac := Lib.hid (accK_next born stay s hw k2)
                      have hbb := bit_u16 (d := k2) hb1
                      have hsb := bit_u16 (d := k2) hs1
                      have e1 := u64_andNot_nat (sel s k2) hw hsl hhl'.out
                      have e3 := u64_and_nat (sel s k2) hw hsl hhl'.out
                      obtain ⟨A1, hA1⟩ : ∃ A1, sel s k2 &&& (18446744073709551615 - hw) = A1 := ⟨_, rfl⟩
                      obtain ⟨A2, hA2⟩ : ∃ A2, sel s k2 &&& hw = A2 := ⟨_, rfl⟩
                      have l1' : A1 < U := by rw [← hA1]; exact and_lt_U hsl
                      have l2' : A2 < U := by rw [← hA2]; exact and_lt_U hsl
                      have hac2 : Hid (accK born stay s hw (k2 + 1) = if stay.testBit k2 then (if born.testBit k2 then accK born stay s hw k2 ||| A1 else accK born stay s hw k2) ||| A2 else (if born.testBit k2 then accK born stay s hw k2 ||| A1 else accK born stay s hw k2)) := by
                        show _ = _
                        rw [hac.out, ← hA1, ← hA2]
                        rfl
                      rw [hA1] at e1
                      rw [hA2] at e3
                      have hst1 := Lib.hid (hW7.out.set (j := i) (accK born stay s hw k2 ||| A1))
                      have hst2 := Lib.hid (hW7.out.set (j := i) (accK born stay s hw k2 ||| A2))
                      have hst3 := Lib.hid ((hW7.out.set (j := i) (accK born stay s hw k2 ||| A1)).set (j := i) ((accK born stay s hw k2 ||| A1) ||| A2))
                      have e2 := u64_or_nat (accK born stay s hw k2) A1 hal l1'
                      have e4 := u64_or_nat (accK born stay s hw k2) A2 hal l2'
                      have e5 := u64_or_nat (accK born stay s hw k2 ||| A1) A2 (or_lt_U hal l1') l2'
                      clear hA1 hA2 hac hd4 hse hsl l1' l2'
                      generalize accK born stay s hw k2 = x at *
                      generalize sel s k2 = se at *
                      cases hbk : born.testBit k2 with
                      | true =>
                        rw [hbk, if_pos rfl] at hbb
                        cases hsk : stay.testBit k2 with
                        | true =>
                          rw [hsk, if_pos rfl] at hsb
                          go_wp2
                          refine ⟨⟨k2 + 1, by omega, by go_num, ?_, grown_set (grown_set hG7.out _) _⟩, by simp [intOf]; omega⟩
                          rw [hac2.out, hbk, hsk, if_pos rfl, if_pos rfl]
                          have := hst3.out
                          rw [outI_set, outI_set] at this
                          exact this
                        | false =>
                          rw [hsk, if_neg (by simp)] at hsb
                          go_wp2
                          refine ⟨⟨k2 + 1, by omega, by go_num, ?_, grown_set hG7.out _⟩, by simp [intOf]; omega⟩
                          rw [hac2.out, hbk, hsk, if_neg (by simp), if_pos rfl]
                          have := hst1.out
                          rw [outI_set] at this
                          exact this
                      | false =>
                        rw [hbk, if_neg (by simp)] at hbb
                        cases hsk : stay.testBit k2 with
                        | true =>
                          rw [hsk, if_pos rfl] at hsb
                          go_wp2
                          refine ⟨⟨k2 + 1, by omega, by go_num, ?_, grown_set hG7.out _⟩, by simp [intOf]; omega⟩
                          rw [hac2.out, hbk, hsk, if_pos rfl, if_neg (by simp)]
                          have := hst2.out
                          rw [outI_set] at this
                          exact this
                        | false =>
                          rw [hsk, if_neg (by simp)] at hsb
                          go_wp2
                          refine ⟨⟨k2 + 1, by omega, by go_num, ?_, hG7.out⟩, by simp [intOf]; omega⟩
                          rw [hac2.out, hbk, hsk, if_neg (by simp), if_neg (by simp)]
                          exact hW7.out
                · have hkl2 : k2 = Lp.length + 1 := by omega
                  have hWi : Hid (WBlk wr O (outI Lp born stay a hr b m (i + 1) 0)) := by
                    have := hW7.out
                    rw [outI_next (by rw [hout.out, hkl2])] at this
                    exact this
                  have hGi : Hid (W5.grownBy wr (some O)) := grownBy_trans_new hG6.out hG7.out (.inl rfl)
                  have hltk3 : ¬ (k2 : Int) < (Lp.length : Int) + 1 := by omega
                  go_wp2
                  exact ⟨⟨i + 1, by omega, by go_num, hWi.out, hGi.out⟩, by simp [intOf]; omega⟩
        · have him : i = m := by omega
          have hb4O : b4 ≠ O := by have := S11.out.s2; omega
          have r0 := hG3.out.cell S11.out.res0 (fun e => hb4O (Option.some.inj e))
          have r1 := hG3.out.cell S11.out.res1 (fun e => hb4O (Option.some.inj e))
          have hb45 : b4 < W5.heap.size := by have := S11.out.s2; omega
          have rf : ∀ o, wr.frozen? ⟨b4, o, none⟩ = false := fun o => by
            rw [World.frozen?_of_block (w := W5) (w' := wr) (a := ⟨b4, o, none⟩) (hG3.out.block b4 hb45 (fun e => hb4O (Option.some.inj e)))]
            exact S11.out.resf o
          have hsz3 : W5.heap.size ≤ wr.heap.size := hG3.out.size
          have hwO : w.heap.size ≤ O := by have := S11.out.s2; omega
          have hBf := Lib.hid (S11.out.hB.grown hG3.out (by have := S11.out.s2; omega) (fun q e => by cases e; omega))
          have hfin : Hid (WBlk wr O (outW Lp born stay a hr b (n - 2))) := by
            have := hW3.out
            rw [him, outI_all] at this
            unfold outW
            rw [← hm'.out]
            exact this
          obtain ⟨N2, hN2⟩ : ∃ N2, n - 2 = N2 := ⟨_, rfl⟩
          have hN : (n : Int) - 2 = (N2 : Int) := by omega
          rw [hN]
          have hm0 : 0 < m := by have := hm'.out; omega
          have hln := outW_len (L := Lp) (born := born) (stay := stay) (a := a) (h := hr) (b := b) (n - 2)
          rw [← hm'.out] at hln
          have hN1 : N2 ≤ 65538 := by omega
          obtain ⟨ow, how⟩ : ∃ ow, outW Lp born stay a hr b (n - 2) = ow := ⟨_, rfl⟩
          rw [how] at hfin hln
          have hln' := Lib.hid hln
          have hN2' := Lib.hid hN2
          have hN' := Lib.hid hN
          have how' := Lib.hid how
          have hpost : Hid (∀ X, (Ending.returned (.agg #[.int .i64 (N2 : Int), .slice (some ⟨O, 0, none⟩) m m]) = X) → Ending.returned (.agg #[.int .i64 ((n : Int) - 2), .slice (some ⟨O, 0, none⟩) ((n - 2 + 63) / 64) ((n - 2 + 63) / 64)]) = X) := fun X hX => by rw [hN, ← hm'.out]; exact hX
          clear him hln hN2 hN how
          by_cases h0 : N2 % 64 = 0
          · have h0' : (N2 : Int) % 64 = 0 := by omega
            have hmk0 : Hid (maskW N2 ow = ow) := by show _ = _; unfold maskW; rw [if_pos h0]
            go_wp2
            try simp only [Exit.inBlock, Exit.then]
            refine bodyPost_ret (v := .agg #[.int .i64 (N2 : Int), .slice (some ⟨O, 0, none⟩) m m]) ?_ rfl ⟨O, (hpost.out _ rfl).symm, hwO, ?_, ?_⟩
            · rw [results_cell1 rfl]
              go_simp
            · rw [hLp'.out, how'.out, hN2'.out, hmk0.out]
              exact WBlk.setOther (WBlk.setOther hfin.out (fun e => hb4O e.symm) _) (fun e => hb4O e.symm) _
            · exact (hBf.out.setCell (by simp; omega) _).setCell (by simp; omega) _
          · have h0' : ¬ (N2 : Int) % 64 = 0 := by omega
            have hx : wr.cell? ⟨O, m - 1, none⟩ = some (.int .u64 ((ow.getD (m - 1) 0 : Nat) : Int)) := hfin.out.cell (by rw [hln'.out]; omega)
            have hxf := hfin.out.frozen (m - 1)
            have em1 : ((m : Int) - 1).toNat = m - 1 := by omega
            have hOl : O < wr.heap.size := hfin.out.lt
            have hmI : (m : Int) - 1 < (m : Int) := by omega
            have hmI0 : 0 ≤ (m : Int) - 1 := by omega
            have hx64 : ow.getD (m - 1) 0 < U := by rw [← how'.out]; exact outW_64 hr64.out (n - 2) (m - 1)
            have hval : bits .and .u64 ((ow.getD (m - 1) 0 : Nat) : Int) (IntKind.u64.wrap (IntKind.u64.wrap ((2 : Int) ^ (N2 % 64)) - 1)) = ((ow.getD (m - 1) 0 &&& (2 ^ (N2 % 64) - 1) : Nat) : Int) := by
              rw [wrap_mask (by omega), u64_and_nat _ _ hx64 (by have := pow_64 (m := N2 % 64) (by omega); omega)]
            have hmk1 : Hid (maskW N2 ow = ow.set (m - 1) (ow.getD (m - 1) 0 &&& (2 ^ (N2 % 64) - 1))) := by show _ = _; unfold maskW; rw [if_neg h0, hln'.out]
            have hset := Lib.hid (hfin.out.set (j := m - 1) (ow.getD (m - 1) 0 &&& (2 ^ (N2 % 64) - 1)))
            rw [← hval] at hset
            clear hval hx64
            generalize ow.getD (m - 1) 0 = x at *
            go_wp2
            go_region
            go_wp2
            try simp only [Exit.inBlock, Exit.then]
            refine bodyPost_ret (v := .agg #[.int .i64 (N2 : Int), .slice (some ⟨O, 0, none⟩) m m]) ?_ rfl ⟨O, (hpost.out _ rfl).symm, hwO, ?_, ?_⟩
            · rw [results_cell1 rfl]
              go_simp
            · rw [hLp'.out, how'.out, hN2'.out, hmk1.out]
              exact WBlk.setOther (WBlk.setOther (WBlk.drew hset.out) (fun e => hb4O e.symm) _) (fun e => hb4O e.symm) _
            · exact ((Below.drew (hBf.out.setCell (by simp; omega) _)).setCell (by simp; omega) _).setCell (by simp; omega) _
end Go.Proofs.YtcbhbojplcddkaaGreatDoor
