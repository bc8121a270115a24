import Derived.Test.YtigghbehnnghnaaRlE
namespace Go.Proofs.Ytigghbehnnghnaa
open Go.RowKit Go.RowBits
set_option linter.unusedSimpArgs false
set_option linter.unusedVariables false

theorem offsN {h : Int} (hh : h = 1 ∨ h = 2 ∨ h = 3) : ∀ k, k < (offs h).length → -1 ≤ ((offs h).getD k (0, 0)).1 ∧ ((offs h).getD k (0, 0)).1 ≤ 1 ∧ -1 ≤ ((offs h).getD k (0, 0)).2 ∧ ((offs h).getD k (0, 0)).2 ≤ 1 := by
  intro k hk
  have h8 := offs_len h
  rcases hh with rfl | rfl | rfl
  · rw [offs_1] at *
    exact (by decide : ∀ k : Fin 8, k.val < moore.length → -1 ≤ (moore.getD k.val (0, 0)).1 ∧ (moore.getD k.val (0, 0)).1 ≤ 1 ∧ -1 ≤ (moore.getD k.val (0, 0)).2 ∧ (moore.getD k.val (0, 0)).2 ≤ 1) ⟨k, by omega⟩ hk
  · rw [offs_2] at *
    match k, hk with
    | 0, _ | 1, _ | 2, _ | 3, _ => decide
  · rw [offs_3] at *
    match k, hk with
    | 0, _ | 1, _ | 2, _ | 3, _ | 4, _ | 5, _ => decide

/-! ### The row behind three rows of a strip -/
def markY (c : Nat → Nat) (ws : List Nat) (k : Nat) : List Nat := (List.range ws.length).map fun j => if j < k then c j else ws.getD j 0
theorem markY_len (c : Nat → Nat) (ws : List Nat) (k : Nat) : (markY c ws k).length = ws.length := by unfold markY; simp
theorem extY {a b : List Nat} (hl : a.length = b.length) (h : ∀ j, j < a.length → a.getD j 0 = b.getD j 0) : a = b := by
  apply List.ext_getElem hl
  intro j h1 h2
  have := h j h1
  simpa [h1, h2] using this
theorem markY_get (c : Nat → Nat) (ws : List Nat) {j k : Nat} (hj : j < ws.length) : (markY c ws k).getD j 0 = if j < k then c j else ws.getD j 0 := by unfold markY; simp [hj]
theorem markY_zero (c : Nat → Nat) (ws : List Nat) : markY c ws 0 = ws := by
  refine extY (markY_len _ _ _) fun j hj => ?_
  rw [markY_len] at hj
  rw [markY_get c ws hj, if_neg (by omega)]
theorem markY_succ (c : Nat → Nat) (ws : List Nat) {k : Nat} (hk : k < ws.length) : markY c ws (k + 1) = (markY c ws k).set k (c k) := by
  refine extY (by simp [markY_len]) fun j h1 => ?_
  have hj : j < ws.length := by rw [markY_len] at h1; exact h1
  rw [markY_get c ws hj]
  by_cases e : k = j
  · subst e
    rw [if_pos (by omega), getD_set_self (by rw [markY_len]; exact hk)]
  · rw [Go.RowBits.getD_set_ne e, markY_get c ws hj]
    by_cases h : j < k
    · rw [if_pos (by omega), if_pos h]
    · rw [if_neg (by omega), if_neg h]
theorem markY_full (c : Nat → Nat) (ws ws' : List Nat) (h : ws.length = ws'.length) : markY c ws ws.length = markY c ws' ws'.length := by
  refine extY (by rw [markY_len, markY_len, h]) fun j hj => ?_
  rw [markY_len] at hj
  rw [markY_get c ws hj, markY_get c ws' (by omega), if_pos hj, if_pos (by omega)]

/-! ### Blocks that are known whole -/
def Blks (w : World) (l : List (Nat × Array Value × Nat)) : Prop := ∀ x ∈ l, w.heap[x.1]? = some (.cells x.2.1 x.2.2 (0, 0))
theorem Blks.lt {w : World} {l : List (Nat × Array Value × Nat)} (h : Blks w l) {x : Nat × Array Value × Nat} (hx : x ∈ l) : x.1 < w.heap.size := (Array.getElem?_eq_some_iff.1 (h x hx)).1
theorem Blks.kept {w w' : World} {l : List (Nat × Array Value × Nat)} (h : Blks w l) (hb : Below w.heap.size w w') : Blks w' l := fun x hx => (hb.block x.1 (h.lt hx)).trans (h x hx)
theorem Blks.nil (w : World) : Blks w [] := fun x hx => by cases hx
theorem Blks.alloc {w : World} {l : List (Nat × Array Value × Nat)} (h : Blks w l) {n : Nat} (hn : w.heap.size = n) (cs : Array Value) (T : Nat) : Blks (w.alloc (.cells cs T)) ((n, cs, T) :: l) := by
  subst hn
  intro y hy
  rcases List.mem_cons.1 hy with rfl | hy
  · exact heap_alloc_new w _
  · exact (h.kept (below_new _)) y hy
theorem Blks.cell {w : World} {l : List (Nat × Array Value × Nat)} (h : Blks w l) {b j : Nat} {cs : Array Value} {T : Nat} {u : Value} (hx : (b, cs, T) ∈ l) (hj : cs[j]? = some u) : w.cell? ⟨b, j, none⟩ = some u := by
  rw [cell_of_row w b j cs T (0, 0) (h _ hx), hj]

theorem rows_at (af : Nat → Option Addr) (cf : Nat → Nat) (n : Nat) {i : Nat} (hi : i < 3) : (#[.slice (af 0) n (cf 0), .slice (af 1) n (cf 1), .slice (af 2) n (cf 2)] : Array Value)[i]? = some (.slice (af i) n (cf i)) := by
  match i, hi with
  | 0, _ | 1, _ | 2, _ => rfl
theorem set_same (l : List Nat) (j a b : Nat) : (l.set j a).set j b = l.set j b := List.set_set ..
/-- Where a neighbour lies in its row. -/
def nbrU (k : Int) (n x : Nat) (p : Int × Int) : Int := if k = 2 then ((x : Int) + p.1) % (n : Int) else (x : Int) + p.1
def nbr (k : Int) (n : Nat) (R : Nat → List Nat) (x : Nat) (p : Int × Int) : Nat := if 0 ≤ nbrU k n x p ∧ nbrU k n x p < (n : Int) then (R (p.2 + 1).toNat).getD (nbrU k n x p).toNat 0 else 0
def arnd (h k : Int) (n : Nat) (R : Nat → List Nat) (x : Nat) : List Nat := markY (fun j => nbr k n R x ((offs h).getD j (0, 0))) (List.replicate (offs h).length 0) (offs h).length
def winBit (h : Int) (born stay : Nat) (k : Int) (n : Nat) (R : Nat → List Nat) (x : Nat) : Nat := if lineBit born stay (ones (arnd h k n R x)) ((R 1).getD x 0 == 1) then 1 else 0
def winL (h : Int) (born stay : Nat) (k : Int) (n : Nat) (R : Nat → List Nat) : List Nat := markY (winBit h born stay k n R) (List.replicate n 0) n
theorem winBit_int (h : Int) (born stay : Nat) (k : Int) (n : Nat) (R : Nat → List Nat) (x : Nat) : ((winBit h born stay k n R x : Nat) : Int) = if lineBit born stay (ones (arnd h k n R x)) ((R 1).getD x 0 == 1) then 1 else 0 := by
  unfold winBit
  split <;> rfl
theorem arnd_of (h k : Int) (n : Nat) (R : Nat → List Nat) (x : Nat) {al : List Nat} (hl : al.length = (offs h).length) : markY (fun j => nbr k n R x ((offs h).getD j (0, 0))) al al.length = arnd h k n R x := by
  unfold arnd
  rw [markY_full _ al (List.replicate (offs h).length 0) (by simpa using hl)]
  simp
theorem arnd_len (h k : Int) (n : Nat) (R : Nat → List Nat) (x : Nat) : (arnd h k n R x).length = (offs h).length := by unfold arnd; rw [markY_len]; simp
theorem winL_len (h : Int) (born stay : Nat) (k : Int) (n : Nat) (R : Nat → List Nat) : (winL h born stay k n R).length = n := by unfold winL; rw [markY_len]; simp
theorem nbr_lt {k : Int} {n : Nat} {R : Nat → List Nat} {x : Nat} {p : Int × Int} (h2 : ∀ i j, i < 3 → (R i).getD j 0 < 2) (hp : -1 ≤ p.2 ∧ p.2 ≤ 1) : nbr k n R x p < 2 := by
  unfold nbr
  by_cases h : 0 ≤ nbrU k n x p ∧ nbrU k n x p < (n : Int)
  · rw [if_pos h]; exact h2 _ _ (by omega)
  · rw [if_neg h]; omega
theorem arnd_lt {h k : Int} {n : Nat} {R : Nat → List Nat} {x : Nat} (hh : h = 1 ∨ h = 2 ∨ h = 3) (h2 : ∀ i j, i < 3 → (R i).getD j 0 < 2) : ∀ j, j < (arnd h k n R x).length → (arnd h k n R x).getD j 0 < 2 := fun j hj => by
  rw [arnd_len] at hj
  unfold arnd
  rw [markY_get _ _ (by simpa using hj), if_pos hj]
  have := offsN hh j hj
  exact nbr_lt h2 ⟨this.2.2.1, this.2.2.2⟩
def ORel (B : Nat) (W0 : World) (go ga L n : Nat) (c : Nat → Nat) (i : Value) (wx : World) : Prop :=
  ∃ x : Nat, x ≤ n ∧ i = .int .i64 (x : Int) ∧ Below B W0 wx ∧ YBlk wx go (markY c (List.replicate n 0) x) ∧ ∃ l : List Nat, l.length = L ∧ YBlk wx ga l
def NRel (B : Nat) (W0 : World) (go ga : Nat) (ol al : List Nat) (c : Nat → Nat) (i : Value) (wx : World) : Prop :=
  ∃ j : Nat, j ≤ al.length ∧ i = .int .i64 (j : Int) ∧ Below B W0 wx ∧ YBlk wx go ol ∧ YBlk wx ga (markY c al j)

set_option maxRecDepth 20000 in
set_option maxHeartbeats 4000000 in
theorem line54 {h : Int} {born stay : Nat} {k : Int} {n : Nat} {w : World} {R : Nat → List Nat} (af : Nat → Option Addr) (cf : Nat → Nat) (S : Strip h born stay k (n : Int)) (hR : ∀ i, i < 3 → HasY w (.slice (af i) n (cf i)) (R i)) (hn : ∀ i, i < 3 → (R i).length = n) (h2 : ∀ i j, i < 3 → (R i).getD j 0 < 2) :
    Calls Try.prog 54 #[lifeRule h born stay, topoV k (n : Int) 0, .agg #[.slice (af 0) n (cf 0), .slice (af 1) n (cf 1), .slice (af 2) n (cf 2)]] w fun e w' =>
      ∃ g, e = .returned (.slice (some ⟨g, 0, none⟩) n n) ∧ w.heap.size ≤ g ∧ YBlk w' g (winL h born stay k n R) ∧ Below w.heap.size w w' := by
  obtain ⟨hb1, hs1, hE, hh, hr, h0, hk, hW⟩ := S
  have hl8 := offs_len h
  have K1 := Lib.hid (fun W' => hood77 (h := h) hb1 hs1 hE W')
  have K20 := fun W' => offsets_any h W'
  rw [hoodErr_good hh] at K20
  have K2 := Lib.hid K20
  have hnear := Lib.hid (offsN hh)
  have hR' := Lib.hid hR
  have hn' := Lib.hid hn
  have h2' := Lib.hid h2
  have KN := Lib.hid (fun (x : Nat) W' (v : Value) (hv : HasY W' v (arnd h k n R x)) => next79 (w := W') (c := (R 1).getD x 0) (h2 1 x (by omega)) hb1 hs1 hE hh hr (arnd_len h k n R x) hv (arnd_lt hh h2))
  have KM := Lib.hid (fun (a : Int) (ha : -65537 ≤ a ∧ a ≤ 65537) W' => mod78 ha hW W')
  have hmk := fun m => run_make_row' (P := Try.prog) 53 5 (.int .u8 0) 1 Try.underlying53 info5' rfl .i64 .i64 m
  have hmkn : ∀ W, (Instr.makeSlice 53 (.int .i64 (n : Int)) (.int .i64 (n : Int))).run Try.prog W = .ok (.slice (some ⟨W.heap.size, 0, none⟩) n n) (W.alloc (.cells (madeCells #[.int .u8 0] n) 5)) := fun W => hmk n (by omega) (by omega) W
  generalize hL : (offs h).length = L at *
  have hmkL : ∀ W, (Instr.makeSlice 53 (.int .i64 (L : Int)) (.int .i64 (L : Int))).run Try.prog W = .ok (.slice (some ⟨W.heap.size, 0, none⟩) L L) (W.alloc (.cells (madeCells #[.int .u8 0] L) 5)) := fun W => hmk L (by omega) (by omega) W
  have hL' := Lib.hid hL
  clear K20 hmk hE hh hr hR hn h2 hL h0
  obtain ⟨n1, n2⟩ := hW
  have n1' : 1 ≤ n := by omega
  have n2' : n ≤ 65536 := by omega
  go_enter Try.func54, Try.ntmps54
  go_wp2_with fail
  refine (K1.out _).mono ?_
  rintro e w1 ⟨rfl, hb⟩
  have E1 := (((((Blks.nil w).alloc rfl #[.int .u8 1, .int .u8 h, .int .u16 (born : Int), .int .u16 (stay : Int), .int .i64 2, .string ⟨#[]⟩, .int .i64 0, .int .u8 0, .int .u8 0, .slice none 0 0, .slice none 0 0] 46).alloc (n := w.heap.size + 1) (by simp) #[.int .u8 k, .int .i64 (n : Int), .int .i64 0, .int .u8 0, .int .i64 0] 49).alloc (n := w.heap.size + 1 + 1) (by simp) #[.slice (af 0) n (cf 0), .slice (af 1) n (cf 1), .slice (af 2) n (cf 2)] 106)).kept hb
  have hz1 : w.heap.size + 1 + 1 < w1.heap.size := by have := hb.size; simp at this; omega
  have hB1 := Lib.hid (below_then (B := w.heap.size) (((below_new _).alloc (by simp) _).alloc (by simp; omega) _) hb (by simp; omega))
  clear hb
  go_wp2_with fail
  refine (K2.out _).mono ?_
  rintro e w2 ⟨vl, rfl, ol, hb⟩
  have pts := Lib.hid (HasPts.own (l := offs h) (by rw [hL'.out]; exact ol))
  obtain ⟨adl, capl, rfl⟩ := own_shape ol
  have hpc : Hid (∀ j, j < L → ∃ g, adl = some ⟨g, 0, none⟩ ∧ w2.cell? ⟨g, j * 2, none⟩ = some (.int .i64 ((offs h).getD j (0, 0)).1) ∧ w2.cell? ⟨g, j * 2 + 1, none⟩ = some (.int .i64 ((offs h).getD j (0, 0)).2)) := by
    obtain ⟨ad', cap', e', hc'⟩ := pts.out
    injection e' with e1 e2 e3
    intro j hj
    obtain ⟨g, hg, q1, q2⟩ := hc' j (by rw [hL'.out]; exact hj)
    exact ⟨g, by rw [e1]; exact hg, q1, q2⟩
  have E2 := Lib.hid (E1.kept hb)
  have hz2 : w1.heap.size ≤ w2.heap.size := hb.size
  have hB2 := Lib.hid (below_then hB1.out hb hB1.out.size)
  have t1 : w2.cell? ⟨w.heap.size + 1, 1, none⟩ = some (.int .i64 (n : Int)) := E2.out.cell (cs := #[.int .u8 k, .int .i64 (n : Int), .int .i64 0, .int .u8 0, .int .i64 0]) (T := 49) (by simp) rfl
  clear hb E1 ol
  go_wp2
  clear t1
  have Y1 := YBlk.new w2 _ _ (made_bytes n)
  have Y2 := YBlk.new (w2.alloc (.cells (madeCells #[.int .u8 0] n) 5)) _ _ (made_bytes L)
  rw [size_alloc] at Y2
  have Y1' := Lib.hid (Y1.kept (below_new (.cells (madeCells #[.int .u8 0] L) 5)))
  have Y2' := Lib.hid Y2
  have hB3 : Hid (Below w2.heap.size w2 ((w2.alloc (.cells (madeCells #[.int .u8 0] n) 5)).alloc (.cells (madeCells #[.int .u8 0] L) 5))) := (below_new _).alloc (by simp) _
  clear Y1 Y2
  generalize ((w2.alloc (.cells (madeCells #[.int .u8 0] n) 5)).alloc (.cells (madeCells #[.int .u8 0] L) 5)) = W3 at *
  go_loopw [35] (fun i wx => ORel w2.heap.size w2 w2.heap.size (w2.heap.size + 1) L n (winBit h born stay k n R) i wx) (fun i _ => n - (intOf i).toNat)
  case atStart => exact ⟨0, by omega, by go_num, hB3.out, by rw [markY_zero]; exact Y1'.out, _, by simp, Y2'.out⟩
  case round =>
    obtain ⟨x, hx, rfl, hB, hO, al, hal, hA⟩ := hrel
    have hB' := Lib.hid hB
    have hO' := Lib.hid hO
    have hA' := Lib.hid hA
    have hal' := Lib.hid hal
    have hzo := hO.lt
    have hza := hA.lt
    have E3 := Lib.hid (E2.out.kept hB)
    clear hB hO hA hal
    by_cases hlt : x < n
    · rename World => wo
      go_wp2
      try rw [show decide ((x : Int) < (n : Int)) = true from decide_eq_true (by omega)]
      go_loopw [40] (fun i wx => NRel w2.heap.size w2 w2.heap.size (w2.heap.size + 1) (markY (winBit h born stay k n R) (List.replicate n 0) x) al (fun j => nbr k n R x ((offs h).getD j (0, 0))) i wx) (fun i _ => L - (intOf i).toNat)
      case atStart => exact ⟨0, by omega, by go_num, hB'.out, hO'.out, by rw [markY_zero]; exact hA'.out⟩
      case round =>
        obtain ⟨j, hj, rfl, hB, hO, hA⟩ := hrel
        rw [hal'.out] at hj
        have hB5 := Lib.hid hB
        have hO5 := Lib.hid hO
        have hA5 := Lib.hid hA
        have E5 := Lib.hid (E2.out.kept hB)
        have hzo5 := hO.lt
        have hza5 := hA.lt
        clear hO hA
        by_cases hltj : j < L
        · obtain ⟨gp, rfl, p1, p2⟩ := hpc.out j hltj
          have p1 := cell_kept hB p1
          have p2 := cell_kept hB p2
          obtain ⟨x1, x2, x3, x4⟩ := hnear.out j hltj
          have hms : Hid (markY (fun j => nbr k n R x ((offs h).getD j (0, 0))) al (j + 1) = (markY (fun j => nbr k n R x ((offs h).getD j (0, 0))) al j).set j (nbr k n R x ((offs h).getD j (0, 0)))) := markY_succ _ al (k := j) (by rw [hal'.out]; exact hltj)
          have k0 : wr.cell? ⟨w.heap.size + 1, 0, none⟩ = some (.int .u8 k) := E5.out.cell (cs := #[.int .u8 k, .int .i64 (n : Int), .int .i64 0, .int .u8 0, .int .i64 0]) (T := 49) (by simp) rfl
          have k1 : wr.cell? ⟨w.heap.size + 1, 1, none⟩ = some (.int .i64 (n : Int)) := E5.out.cell (cs := #[.int .u8 k, .int .i64 (n : Int), .int .i64 0, .int .u8 0, .int .i64 0]) (T := 49) (by simp) rfl
          have y1 := hA5.out.cell (j := j) (by rw [markY_len, hal'.out]; exact hltj)
          have y2 := hA5.out.frozen j
          have hrow : Hid (∀ u : Int, 0 ≤ u → u < (n : Int) → ∃ g o, af (((offs h).getD j (0, 0)).2 + 1).toNat = some ⟨g, o, none⟩ ∧ wr.cell? ⟨w.heap.size + 1 + 1, (((offs h).getD j (0, 0)).2 + 1).toNat, none⟩ = some (.slice (some ⟨g, o, none⟩) n (cf (((offs h).getD j (0, 0)).2 + 1).toNat)) ∧
              wr.cell? ⟨g, o + u.toNat, none⟩ = some (.int .u8 (((R (((offs h).getD j (0, 0)).2 + 1).toNat).getD u.toNat 0 : Nat) : Int)) ∧ g < w2.heap.size) := fun u hu0 hu1 => by
            have hy3 : (((offs h).getD j (0, 0)).2 + 1).toNat < 3 := by omega
            obtain ⟨ad, cap, e, hc⟩ := hR'.out _ hy3
            injection e with e1 e2 e3
            obtain ⟨g, o, hg, c1⟩ := hc u.toNat (by rw [hn'.out _ hy3]; omega)
            rw [hg] at e1
            have hgw := World.block_lt_of_cell? w _ c1
            have hB6 := below_then hB2.out hB hB2.out.size
            refine ⟨g, o, e1, ?_, cellB hB6 c1 hgw, by have := hB2.out.size; simp at hgw; omega⟩
            rw [← e1]
            exact E5.out.cell (cs := #[.slice (af 0) n (cf 0), .slice (af 1) n (cf 1), .slice (af 2) n (cf 2)]) (T := 106) (by simp) (rows_at af cf n hy3)
          clear hB
          have hnbP : Hid (k = 1 → nbr k n R x ((offs h).getD j (0, 0)) = if 0 ≤ (x : Int) + ((offs h).getD j (0, 0)).1 ∧ (x : Int) + ((offs h).getD j (0, 0)).1 < (n : Int) then (R (((offs h).getD j (0, 0)).2 + 1).toNat).getD ((x : Int) + ((offs h).getD j (0, 0)).1).toNat 0 else 0) := fun hk1 => by
            unfold nbr nbrU; rw [if_neg (show ¬ k = 2 by omega)]
          have hnbT : Hid (k = 2 → nbr k n R x ((offs h).getD j (0, 0)) = if 0 ≤ ((x : Int) + ((offs h).getD j (0, 0)).1) % (n : Int) ∧ ((x : Int) + ((offs h).getD j (0, 0)).1) % (n : Int) < (n : Int) then (R (((offs h).getD j (0, 0)).2 + 1).toNat).getD (((x : Int) + ((offs h).getD j (0, 0)).1) % (n : Int)).toNat 0 else 0) := fun hk1 => by
            unfold nbr nbrU; rw [if_pos hk1]
          generalize nbr k n R x ((offs h).getD j (0, 0)) = nb at *
          generalize ((offs h).getD j (0, 0)).1 = X at *
          generalize ((offs h).getD j (0, 0)).2 = Y at *
          have e1 : 0 ≤ Y + 1 := by omega
          have e2 : Y + 1 < 3 := by omega
          have hne : w2.heap.size ≠ w2.heap.size + 1 := by omega
          have z1 : w.heap.size + 1 + 1 < wr.heap.size := by omega
          have z2 : w.heap.size + 1 < wr.heap.size := by omega
          have z3 : w.heap.size < wr.heap.size := by omega
          rcases hk with rfl | rfl
          · by_cases hin : 0 ≤ (x : Int) + X ∧ (x : Int) + X < (n : Int)
            · have hnb2 : nb = (R (Y + 1).toNat).getD ((x : Int) + X).toNat 0 := by rw [hnbP.out rfl, if_pos hin]
              obtain ⟨g, o, _, r1, r2, r3⟩ := hrow.out _ hin.1 hin.2
              rw [← hnb2] at r2
              obtain ⟨i1, i2⟩ := hin
              have hg1 : g ≠ w2.heap.size + 1 := by omega
              have hg2 : g ≠ wr.heap.size := by omega
              have hg3 : g < wr.heap.size := by omega
              clear hnb2
              go_wp2
              refine ⟨⟨j + 1, by rw [hal'.out]; omega, by go_num, ?_, ?_, ?_⟩, by simp [intOf]; omega⟩
              · exact ((hB5.out.setCell (by simp) _).setCell (by simp) _).alloc (by simp; omega) _
              · exact ((hO5.out.setOther hne _).setOther hne _).kept (below_new _)
              · rw [hms.out, ← set_same _ j 0]
                exact ((hA5.out.set (j := j) 0).set (j := j) nb).kept (below_new _)
            · have hnb2 : nb = 0 := by rw [hnbP.out rfl, if_neg hin]
              subst hnb2
              by_cases hlo : 0 ≤ (x : Int) + X
              · have hhi : ¬ ((x : Int) + X < (n : Int)) := fun e => hin ⟨hlo, e⟩
                clear hin
                go_wp2
                refine ⟨⟨j + 1, by rw [hal'.out]; omega, by go_num, ?_, ?_, ?_⟩, by simp [intOf]; omega⟩
                · exact (hB5.out.setCell (by simp) _).alloc (by simp; omega) _
                · exact (hO5.out.setOther hne _).kept (below_new _)
                · rw [hms.out]
                  exact (hA5.out.set (j := j) 0).kept (below_new _)
              · clear hin
                go_wp2
                refine ⟨⟨j + 1, by rw [hal'.out]; omega, by go_num, ?_, ?_, ?_⟩, by simp [intOf]; omega⟩
                · exact (hB5.out.setCell (by simp) _).alloc (by simp; omega) _
                · exact (hO5.out.setOther hne _).kept (below_new _)
                · rw [hms.out]
                  exact (hA5.out.set (j := j) 0).kept (below_new _)
          · have hm0 : 0 ≤ ((x : Int) + X) % (n : Int) := Int.emod_nonneg _ (by omega)
            have hm1 : ((x : Int) + X) % (n : Int) < (n : Int) := Int.emod_lt_of_pos _ (by omega)
            have hnb2 : nb = (R (Y + 1).toNat).getD (((x : Int) + X) % (n : Int)).toNat 0 := by rw [hnbT.out rfl, if_pos ⟨hm0, hm1⟩]
            obtain ⟨g, o, _, r1, r2, r3⟩ := hrow.out _ hm0 hm1
            rw [← hnb2] at r2
            have hg1 : g ≠ w2.heap.size + 1 := by omega
            have hg2 : g ≠ wr.heap.size := by omega
            have hg3 : g < wr.heap.size := by omega
            have KM1 := Lib.hid (KM.out ((x : Int) + X) (by omega))
            clear hnb2
            generalize ((x : Int) + X) % (n : Int) = u at *
            go_wp2_with fail
            refine (KM1.out _).mono ?_
            rintro e w5 ⟨rfl, rfl⟩
            go_wp2
            refine ⟨⟨j + 1, by rw [hal'.out]; omega, by go_num, ?_, ?_, ?_⟩, by simp [intOf]; omega⟩
            · exact ((hB5.out.setCell (by simp) _).setCell (by simp) _).alloc (by simp; omega) _
            · exact ((hO5.out.setOther hne _).setOther hne _).kept (below_new _)
            · rw [hms.out, ← set_same _ j 0]
              exact ((hA5.out.set (j := j) 0).set (j := j) nb).kept (below_new _)
        · obtain rfl : L = j := by omega
          clear hltj
          have KN1 : Hid (∀ W' v, HasY W' v (arnd h k n R x) → Calls Try.prog 79 #[lifeRule h born stay, .int .u8 (((R 1).getD x 0 : Nat) : Int), v] W' fun e w' => e = .returned (.tuple #[.int .u8 ((winBit h born stay k n R x : Nat) : Int), .int .i64 0]) ∧ Below W'.heap.size W' w') := fun W' v hv => by
            have := KN.out x W' v hv
            rw [← winBit_int] at this
            exact this
          have hAr : Hid (HasY wr.drew (.slice (some ⟨w2.heap.size + 1, 0, none⟩) L L) (arnd h k n R x)) := by
            have h1 := (hA5.out.has (cap := L)).drew
            have h2 : markY (fun j => nbr k n R x ((offs h).getD j (0, 0))) al L = arnd h k n R x := by
              rw [← arnd_of h k n R x (al := al) (by rw [hal'.out, hL'.out]), hal'.out]
            rw [h2, arnd_len, hL'.out] at h1
            exact h1
          have hms : Hid (markY (winBit h born stay k n R) (List.replicate n 0) (x + 1) = (markY (winBit h born stay k n R) (List.replicate n 0) x).set x (winBit h born stay k n R x)) := markY_succ _ _ (k := x) (by simpa using hlt)
          have hrow1 : ∃ g o, af 1 = some ⟨g, o, none⟩ ∧ wr.cell? ⟨g, o + x, none⟩ = some (.int .u8 (((R 1).getD x 0 : Nat) : Int)) := by
            obtain ⟨ad, cap, e, hc⟩ := hR'.out 1 (by omega)
            injection e with e1 e2 e3
            obtain ⟨g, o, hg, c1⟩ := hc x (by rw [hn'.out 1 (by omega)]; exact hlt)
            rw [hg] at e1
            exact ⟨g, o, e1, cellB (below_then hB2.out hB hB2.out.size) c1 (World.block_lt_of_cell? w _ c1)⟩
          obtain ⟨g1, o1, haf, c1⟩ := hrow1
          have r0 : wr.cell? ⟨w.heap.size, 0, none⟩ = some (.int .u8 1) := E5.out.cell (cs := #[.int .u8 1, .int .u8 h, .int .u16 (born : Int), .int .u16 (stay : Int), .int .i64 2, .string ⟨#[]⟩, .int .i64 0, .int .u8 0, .int .u8 0, .slice none 0 0, .slice none 0 0]) (T := 46) (by simp) rfl
          have r1 : wr.cell? ⟨w.heap.size, 1, none⟩ = some (.int .u8 h) := E5.out.cell (cs := #[.int .u8 1, .int .u8 h, .int .u16 (born : Int), .int .u16 (stay : Int), .int .i64 2, .string ⟨#[]⟩, .int .i64 0, .int .u8 0, .int .u8 0, .slice none 0 0, .slice none 0 0]) (T := 46) (by simp) rfl
          have r2 : wr.cell? ⟨w.heap.size, 2, none⟩ = some (.int .u16 (born : Int)) := E5.out.cell (cs := #[.int .u8 1, .int .u8 h, .int .u16 (born : Int), .int .u16 (stay : Int), .int .i64 2, .string ⟨#[]⟩, .int .i64 0, .int .u8 0, .int .u8 0, .slice none 0 0, .slice none 0 0]) (T := 46) (by simp) rfl
          have r3 : wr.cell? ⟨w.heap.size, 3, none⟩ = some (.int .u16 (stay : Int)) := E5.out.cell (cs := #[.int .u8 1, .int .u8 h, .int .u16 (born : Int), .int .u16 (stay : Int), .int .i64 2, .string ⟨#[]⟩, .int .i64 0, .int .u8 0, .int .u8 0, .slice none 0 0, .slice none 0 0]) (T := 46) (by simp) rfl
          have r4 : wr.cell? ⟨w.heap.size, 4, none⟩ = some (.int .i64 2) := E5.out.cell (cs := #[.int .u8 1, .int .u8 h, .int .u16 (born : Int), .int .u16 (stay : Int), .int .i64 2, .string ⟨#[]⟩, .int .i64 0, .int .u8 0, .int .u8 0, .slice none 0 0, .slice none 0 0]) (T := 46) (by simp) rfl
          have r5 : wr.cell? ⟨w.heap.size, 5, none⟩ = some (.string ⟨#[]⟩) := E5.out.cell (cs := #[.int .u8 1, .int .u8 h, .int .u16 (born : Int), .int .u16 (stay : Int), .int .i64 2, .string ⟨#[]⟩, .int .i64 0, .int .u8 0, .int .u8 0, .slice none 0 0, .slice none 0 0]) (T := 46) (by simp) rfl
          have r6 : wr.cell? ⟨w.heap.size, 6, none⟩ = some (.int .i64 0) := E5.out.cell (cs := #[.int .u8 1, .int .u8 h, .int .u16 (born : Int), .int .u16 (stay : Int), .int .i64 2, .string ⟨#[]⟩, .int .i64 0, .int .u8 0, .int .u8 0, .slice none 0 0, .slice none 0 0]) (T := 46) (by simp) rfl
          have r7 : wr.cell? ⟨w.heap.size, 7, none⟩ = some (.int .u8 0) := E5.out.cell (cs := #[.int .u8 1, .int .u8 h, .int .u16 (born : Int), .int .u16 (stay : Int), .int .i64 2, .string ⟨#[]⟩, .int .i64 0, .int .u8 0, .int .u8 0, .slice none 0 0, .slice none 0 0]) (T := 46) (by simp) rfl
          have r8 : wr.cell? ⟨w.heap.size, 8, none⟩ = some (.int .u8 0) := E5.out.cell (cs := #[.int .u8 1, .int .u8 h, .int .u16 (born : Int), .int .u16 (stay : Int), .int .i64 2, .string ⟨#[]⟩, .int .i64 0, .int .u8 0, .int .u8 0, .slice none 0 0, .slice none 0 0]) (T := 46) (by simp) rfl
          have r9 : wr.cell? ⟨w.heap.size, 9, none⟩ = some (.slice none 0 0) := E5.out.cell (cs := #[.int .u8 1, .int .u8 h, .int .u16 (born : Int), .int .u16 (stay : Int), .int .i64 2, .string ⟨#[]⟩, .int .i64 0, .int .u8 0, .int .u8 0, .slice none 0 0, .slice none 0 0]) (T := 46) (by simp) rfl
          have r10 : wr.cell? ⟨w.heap.size, 10, none⟩ = some (.slice none 0 0) := E5.out.cell (cs := #[.int .u8 1, .int .u8 h, .int .u16 (born : Int), .int .u16 (stay : Int), .int .i64 2, .string ⟨#[]⟩, .int .i64 0, .int .u8 0, .int .u8 0, .slice none 0 0, .slice none 0 0]) (T := 46) (by simp) rfl
          have rr : wr.cell? ⟨w.heap.size + 1 + 1, 1, none⟩ = some (.slice (af 1) n (cf 1)) := E5.out.cell (cs := #[.slice (af 0) n (cf 0), .slice (af 1) n (cf 1), .slice (af 2) n (cf 2)]) (T := 106) (by simp) rfl
          rw [haf] at rr
          have hO6 : Hid (YBlk wr.drew w2.heap.size (markY (winBit h born stay k n R) (List.replicate n 0) x)) := hO5.out.kept (Below.refl _ _).drew
          have hxI : (x : Int) < (n : Int) := by omega
          clear hB haf
          generalize winBit h born stay k n R x = wb at *
          generalize (R 1).getD x 0 = cx at *
          go_wp2
          go_region_with (go_at_call 79; refine (KN1.out _ _ hAr.out).mono ?_; rintro e w6 ⟨rfl, hb⟩; have hO7 := hO6.out.kept hb; have o1' := hO7.cell (j := x) (by rw [markY_len]; simpa using hlt); have o2' := hO7.frozen x; have O7 := Lib.hid hO7; have hb7 := Lib.hid hb; clear hb hO7)
          all_goals
            go_wp2
            have hB8 : Below w2.heap.size w2 w6 := below_then hB5.out.drew hb7.out (by have := hB5.out.size; simpa using this)
            have hA8 := ((hA5.out.kept (Below.refl _ _).drew).kept hb7.out)
            refine ⟨⟨x + 1, by omega, by go_num, hB8.setCell (by simp) _, by rw [hms.out]; exact O7.out.set wb, _, ?_, hA8.setOther (by omega) _⟩, by simp [intOf]; omega⟩
            rw [markY_len, hal'.out]
    · obtain rfl : n = x := by omega
      clear hlt
      go_wp2
      go_ret
      refine ⟨_, rfl, ?_, hO'.out, below_then hB2.out hB'.out hB2.out.size⟩
      have := hB2.out.size
      omega
end Go.Proofs.Ytigghbehnnghnaa
