import Derived.Test.YtigghbehnnghnaaWnC
namespace Go.Proofs.Ytigghbehnnghnaa
open Go.RowKit Go.RowBits
set_option linter.unusedSimpArgs false
set_option linter.unusedVariables false

/-! ### Any rule -/
structure RV where
  kind : Int
  hood : Int
  born : Int
  stay : Int
  states : Int
  name : ByteArray
  tst : Int
  tho : Int
  tsy : Int
  va : Option Addr
  vn : Nat
  vc : Nat
  ra : Option Addr
  rn : Nat
  rc : Nat
abbrev ruleC (r : RV) : Array Value := #[.int .u8 r.kind, .int .u8 r.hood, .int .u16 r.born, .int .u16 r.stay, .int .i64 r.states, .string r.name, .int .i64 r.tst, .int .u8 r.tho, .int .u8 r.tsy, .slice r.va r.vn r.vc, .slice r.ra r.rn r.rc]
abbrev ruleV (r : RV) : Value := .agg (ruleC r)
/-- A quiet rule that may be, as it stands from a world on, and a strip. -/
structure StripG (W0 : World) (r : RV) (ns : Nat) (h : Int) (nx : Nat → List Nat → Nat) (k W : Int) : Prop where
  hh : h = 1 ∨ h = 2 ∨ h = 3
  ns2 : 2 ≤ ns ∧ ns ≤ 256
  check : ∀ w, Below W0.heap.size W0 w → Calls Try.prog 55 #[ruleV r] w fun e w' => e = .returned (.int .i64 0) ∧ Below w.heap.size w w'
  states : ∀ w, Below W0.heap.size W0 w → Calls Try.prog 48 #[ruleV r] w fun e w' => e = .returned (.tuple #[.int .i64 (ns : Int), .int .i64 0]) ∧ Below w.heap.size w w'
  hood : ∀ w, Below W0.heap.size W0 w → Calls Try.prog 77 #[ruleV r] w fun e w' => e = .returned (.tuple #[.int .u8 h, .int .i64 0]) ∧ Below w.heap.size w w'
  quiet : ∀ w, Below W0.heap.size W0 w → Calls Try.prog 57 #[ruleV r] w fun e w' => e = .returned (.tuple #[.bool true, .int .i64 0]) ∧ Below w.heap.size w w'
  next : ∀ w (c : Nat) v (l : List Nat), Below W0.heap.size W0 w → c < ns → l.length = (offs h).length → (∀ j, j < l.length → l.getD j 0 < ns) → HasY w v l →
    Calls Try.prog 79 #[ruleV r, .int .u8 (c : Int), v] w fun e w' => e = .returned (.tuple #[.int .u8 ((nx c l : Nat) : Int), .int .i64 0]) ∧ Below w.heap.size w w'
  lt : ∀ (c : Nat) (l : List Nat), c < ns → l.length = (offs h).length → (∀ j, j < l.length → l.getD j 0 < ns) → nx c l < ns
  q : nx 0 (List.replicate (offs h).length 0) = 0
  hk : k = 1 ∨ k = 2
  hW : 1 ≤ W ∧ W ≤ 65536
theorem StripG.later {W0 W1 : World} {r : RV} {ns : Nat} {h : Int} {nx : Nat → List Nat → Nat} {k W : Int} (S : StripG W0 r ns h nx k W) (hb : Below W0.heap.size W0 W1) : StripG W1 r ns h nx k W :=
  have hs := fun w (h1 : Below W1.heap.size W1 w) => below_then hb h1 hb.size
  ⟨S.hh, S.ns2, fun w h1 => S.check w (hs w h1), fun w h1 => S.states w (hs w h1), fun w h1 => S.hood w (hs w h1), fun w h1 => S.quiet w (hs w h1), fun w c v l h1 => S.next w c v l (hs w h1), S.lt, S.q, S.hk, S.hW⟩
def lifeR (h : Int) (born stay : Nat) : RV := ⟨1, h, born, stay, 2, ⟨#[]⟩, 0, 0, 0, none, 0, 0, none, 0, 0⟩
def lifeNx (born stay : Nat) (c : Nat) (l : List Nat) : Nat := if lineBit born stay (ones l) (c == 1) then 1 else 0
theorem lifeNx_int (born stay c : Nat) (l : List Nat) : ((lifeNx born stay c l : Nat) : Int) = if lineBit born stay (ones l) (c == 1) then 1 else 0 := by
  unfold lifeNx
  split <;> rfl
theorem stripG_life {h : Int} {born stay : Nat} {k W : Int} (S : Strip h born stay k W) (W0 : World) : StripG W0 (lifeR h born stay) 2 h (lifeNx born stay) k W where
  hh := S.hh
  ns2 := by omega
  check := fun w _ => check55 S.hb1 S.hs1 S.hE w
  states := fun w _ => states48 S.hb1 S.hs1 S.hE w
  hood := fun w _ => hood77 S.hb1 S.hs1 S.hE w
  quiet := fun w _ => quiet57 (w := w) S.hb1 S.hs1 S.hE S.hh S.hr S.h0
  next := fun w c v l _ hc hl h2 hv => by
    have := next79 (w := w) (c := c) (v := v) (l := l) hc S.hb1 S.hs1 S.hE S.hh S.hr hl hv h2
    rw [lifeNx_int]
    exact this
  lt := fun c l _ _ _ => by unfold lifeNx; split <;> omega
  q := by
    unfold lifeNx
    have h1 : lineBit born stay (ones (List.replicate (offs h).length 0)) (0 == 1) = false := by
      rw [ones_zero]
      unfold lineBit
      simp [S.h0]
    rw [h1]
    rfl
  hk := S.hk
  hW := S.hW
set_option maxHeartbeats 2000000 in
theorem check28G {W0 : World} {r : RV} {ns : Nat} {h : Int} {nx : Nat → List Nat → Nat} {k W : Int} (S : StripG W0 r ns h nx k W) (w : World) (h0 : Below W0.heap.size W0 w) : Calls Try.prog 28 #[ruleV r, topoV k W 0] w fun e w' => e = .returned (.int .i64 0) ∧ Below w.heap.size w w' := by
  have hk := S.hk
  have hW := S.hW
  have K1 := Lib.hid (fun W' (hb : Below W0.heap.size W0 W') => S.check W' hb)
  have K20 := fun W' => endless56 (k := k) (W := W) (H := 0) hk ⟨by omega, hW.2⟩ (by omega) W'
  have hw0 : (W == 0) = false := by simpa using (show ¬ W = 0 by omega)
  rw [hw0] at K20
  rw [show ((0 : Int) == 0) = true from rfl] at K20
  have K2 := Lib.hid K20
  have K3 := Lib.hid (fun W' (hb : Below W0.heap.size W0 W') => S.quiet W' hb)
  have H0 := Lib.hid h0
  clear hk hW K20 hw0 S h0
  go_enter Try.func28, Try.ntmps28
  go_wp2_with fail
  refine (K1.out _ (below_then H0.out ((below_new _).alloc (by simp) _) H0.out.size)).mono ?_
  rintro e w1 ⟨rfl, hb⟩
  obtain ⟨hc1, hf1⟩ := bcell hb
  have hz1 : w.heap.size + 1 < w1.heap.size := by have := hb.size; simp at this; omega
  have hz1' : w.heap.size < w1.heap.size := by omega
  have hB1 := Lib.hid (below_then (B := w.heap.size) ((below_new _).alloc (by simp) _) hb (by simp; omega))
  clear hb
  go_wp2_with fail
  refine (K2.out _).mono ?_
  rintro e w2 ⟨rfl, hb⟩
  obtain ⟨hc2, hf2⟩ := bcell hb
  have hz2 : w.heap.size + 1 < w2.heap.size := by have := hb.size; omega
  have hz2' : w.heap.size < w2.heap.size := by omega
  have hB2 := Lib.hid (below_then hB1.out hb hB1.out.size)
  clear hb
  go_wp2_with fail
  refine (K3.out _ (below_then H0.out hB2.out H0.out.size)).mono ?_
  rintro e w3 ⟨rfl, hb⟩
  have hB3 := Lib.hid (below_then hB2.out hb hB2.out.size)
  clear hb
  go_wp2
  go_ret
  exact ⟨rfl, hB3.out⟩
set_option maxHeartbeats 2000000 in
theorem knows53G {W0 : World} {r : RV} {ns : Nat} {h : Int} {nx : Nat → List Nat → Nat} {k W : Int} (S : StripG W0 r ns h nx k W) {w : World} {v : Value} {l : List Nat} (h0 : Below W0.heap.size W0 w) (hl : l.length ≤ 65536) (hv : HasY w v l) (h2 : ∀ j, j < l.length → l.getD j 0 < ns) :
    Calls Try.prog 53 #[ruleV r, v] w fun e w' => e = .returned (.bool true) ∧ Below w.heap.size w w' := by
  have K1 := Lib.hid (fun W' (hb : Below W0.heap.size W0 W') => S.states W' hb)
  have hv' := Lib.hid hv
  have h2' := Lib.hid h2
  obtain ⟨ad, cap, rfl, hcs⟩ := hv
  have hcs' := Lib.hid hcs
  have H0 := Lib.hid h0
  have hns := S.ns2.2
  clear hcs h2 S h0
  go_enter Try.func53, Try.ntmps53
  go_wp2_with fail
  refine (K1.out _ (below_then H0.out (below_new _) H0.out.size)).mono ?_
  rintro e w1 ⟨rfl, hb⟩
  have hB1 := Lib.hid (below_then (B := w.heap.size) (below_new _) hb (by simp))
  clear hb
  go_wp2
  go_loop [16] (fun i => ∃ k : Nat, k ≤ l.length ∧ i = .int .i64 (k : Int)) (fun i => l.length - (intOf i).toNat)
  case atStart => exact ⟨0, by omega, by go_num⟩
  case round =>
    obtain ⟨k, hk, rfl⟩ := hrel
    by_cases hlt : k < l.length
    · obtain ⟨g, o, rfl, c1⟩ := hcs'.out k hlt
      have c2 := cell_kept hB1.out c1
      have hx := h2'.out k hlt
      clear c1
      generalize l.getD k 0 = x at *
      have hxI : (x : Int) < (ns : Int) := by omega
      go_wp2
      go_round
      case rel => exact ⟨k + 1, by omega, by go_num⟩
      case measure => simp [intOf]; omega
    · obtain rfl : k = l.length := by omega
      clear hlt
      go_wp2
      go_ret
      exact ⟨rfl, hB1.out⟩
/-! ### line -/
theorem nbr_ltN {ns : Nat} {k : Int} {n : Nat} {R : Nat → List Nat} {x : Nat} {p : Int × Int} (hns : 2 ≤ ns) (h2 : ∀ i j, i < 3 → (R i).getD j 0 < ns) (hp : -1 ≤ p.2 ∧ p.2 ≤ 1) : nbr k n R x p < ns := by
  unfold nbr
  by_cases h : 0 ≤ nbrU k n x p ∧ nbrU k n x p < (n : Int)
  · rw [if_pos h]; exact h2 _ _ (by omega)
  · rw [if_neg h]; omega
theorem arnd_ltN {ns : Nat} {h k : Int} {n : Nat} {R : Nat → List Nat} {x : Nat} (hns : 2 ≤ ns) (hh : h = 1 ∨ h = 2 ∨ h = 3) (h2 : ∀ i j, i < 3 → (R i).getD j 0 < ns) : ∀ j, j < (arnd h k n R x).length → (arnd h k n R x).getD j 0 < ns := fun j hj => by
  rw [arnd_len] at hj
  unfold arnd
  rw [markY_get _ _ (by simpa using hj), if_pos hj]
  have := offsN hh j hj
  exact nbr_ltN hns h2 ⟨this.2.2.1, this.2.2.2⟩
def bitG (nx : Nat → List Nat → Nat) (h k : Int) (n : Nat) (R : Nat → List Nat) (x : Nat) : Nat := nx ((R 1).getD x 0) (arnd h k n R x)
def winG (nx : Nat → List Nat → Nat) (h k : Int) (n : Nat) (R : Nat → List Nat) : List Nat := markY (bitG nx h k n R) (List.replicate n 0) n
theorem winG_len (nx : Nat → List Nat → Nat) (h k : Int) (n : Nat) (R : Nat → List Nat) : (winG nx h k n R).length = n := by unfold winG; rw [markY_len]; simp
set_option maxRecDepth 20000 in
set_option maxHeartbeats 4000000 in
theorem line54G {W0 : World} {r : RV} {ns : Nat} {h : Int} {nx : Nat → List Nat → Nat} {k : Int} {n : Nat} {w : World} {R : Nat → List Nat} (af : Nat → Option Addr) (cf : Nat → Nat) (S : StripG W0 r ns h nx k (n : Int)) (hw0 : Below W0.heap.size W0 w) (hR : ∀ i, i < 3 → HasY w (.slice (af i) n (cf i)) (R i)) (hn : ∀ i, i < 3 → (R i).length = n) (h2 : ∀ i j, i < 3 → (R i).getD j 0 < ns) :
    Calls Try.prog 54 #[ruleV r, topoV k (n : Int) 0, .agg #[.slice (af 0) n (cf 0), .slice (af 1) n (cf 1), .slice (af 2) n (cf 2)]] w fun e w' =>
      ∃ g, e = .returned (.slice (some ⟨g, 0, none⟩) n n) ∧ w.heap.size ≤ g ∧ YBlk w' g (winG nx h k n R) ∧ Below w.heap.size w w' := by
  have hh := S.hh
  have hk := S.hk
  have hW := S.hW
  have H0 := Lib.hid hw0
  have hl8 := offs_len h
  have K1 := Lib.hid (fun W' (hb : Below W0.heap.size W0 W') => S.hood W' hb)
  have K20 := fun W' => offsets_any h W'
  rw [hoodErr_good hh] at K20
  have K2 := Lib.hid K20
  have hnear := Lib.hid (offsN hh)
  have hR' := Lib.hid hR
  have hn' := Lib.hid hn
  have h2' := Lib.hid h2
  have KN := Lib.hid (fun (x : Nat) W' (v : Value) (hb : Below W0.heap.size W0 W') (hv : HasY W' v (arnd h k n R x)) => S.next W' ((R 1).getD x 0) v _ hb (h2 1 x (by omega)) (arnd_len h k n R x) (arnd_ltN S.ns2.1 hh h2) hv)
  have KM := Lib.hid (fun (a : Int) (ha : -65537 ≤ a ∧ a ≤ 65537) W' => mod78 ha hW W')
  have hmk := fun m => run_make_row' (P := Try.prog) 53 5 (.int .u8 0) 1 Try.underlying53 info5' rfl .i64 .i64 m
  have hmkn : ∀ W, (Instr.makeSlice 53 (.int .i64 (n : Int)) (.int .i64 (n : Int))).run Try.prog W = .ok (.slice (some ⟨W.heap.size, 0, none⟩) n n) (W.alloc (.cells (madeCells #[.int .u8 0] n) 5)) := fun W => hmk n (by omega) (by omega) W
  generalize hL : (offs h).length = L at *
  have hmkL : ∀ W, (Instr.makeSlice 53 (.int .i64 (L : Int)) (.int .i64 (L : Int))).run Try.prog W = .ok (.slice (some ⟨W.heap.size, 0, none⟩) L L) (W.alloc (.cells (madeCells #[.int .u8 0] L) 5)) := fun W => hmk L (by omega) (by omega) W
  have hL' := Lib.hid hL
  clear K20 hmk hh hR hn h2 hL S hw0
  obtain ⟨n1, n2⟩ := hW
  have n1' : 1 ≤ n := by omega
  have n2' : n ≤ 65536 := by omega
  go_enter Try.func54, Try.ntmps54
  go_wp2_with fail
  refine (K1.out _ (below_then H0.out (((below_new _).alloc (by simp) _).alloc (by simp; omega) _) H0.out.size)).mono ?_
  rintro e w1 ⟨rfl, hb⟩
  have E1 := (((((Blks.nil w).alloc rfl (ruleC r) 46).alloc (n := w.heap.size + 1) (by simp) #[.int .u8 k, .int .i64 (n : Int), .int .i64 0, .int .u8 0, .int .i64 0] 49).alloc (n := w.heap.size + 1 + 1) (by simp) #[.slice (af 0) n (cf 0), .slice (af 1) n (cf 1), .slice (af 2) n (cf 2)] 106)).kept hb
  have hz1 : w.heap.size + 1 + 1 < w1.heap.size := by have := hb.size; simp at this; omega
  have hB1 := Lib.hid (below_then (B := w.heap.size) (((below_new _).alloc (by simp) _).alloc (by simp; omega) _) hb (by simp; omega))
  clear hb
  go_wp2_with fail
  refine (K2.out _).mono ?_
  rintro e w2 ⟨vl, rfl, ol, hb⟩
  have pts := Lib.hid (HasPts.own (l := offs h) (by rw [hL'.out]; exact ol))
  obtain ⟨adl, capl, rfl⟩ := own_shape ol
  have hpc : Hid (∀ j, j < L → ∃ g, adl = some ⟨g, 0, none⟩ ∧ w2.cell? ⟨g, j * 2, none⟩ = some (.int .i64 ((offs h).getD j (0, 0)).1) ∧ w2.cell? ⟨g, j * 2 + 1, none⟩ = some (.int .i64 ((offs h).getD j (0, 0)).2)) := by
    obtain ⟨ad', cap', e', hc'⟩ := pts.out
    injection e' with e1 e2 e3
    intro j hj
    obtain ⟨g, hg, q1, q2⟩ := hc' j (by rw [hL'.out]; exact hj)
    exact ⟨g, by rw [e1]; exact hg, q1, q2⟩
  have E2 := Lib.hid (E1.kept hb)
  have hz2 : w1.heap.size ≤ w2.heap.size := hb.size
  have hB2 := Lib.hid (below_then hB1.out hb hB1.out.size)
  have t1 : w2.cell? ⟨w.heap.size + 1, 1, none⟩ = some (.int .i64 (n : Int)) := E2.out.cell (cs := #[.int .u8 k, .int .i64 (n : Int), .int .i64 0, .int .u8 0, .int .i64 0]) (T := 49) (by simp) rfl
  clear hb E1 ol
  go_wp2
  clear t1
  have Y1 := YBlk.new w2 _ _ (made_bytes n)
  have Y2 := YBlk.new (w2.alloc (.cells (madeCells #[.int .u8 0] n) 5)) _ _ (made_bytes L)
  rw [size_alloc] at Y2
  have Y1' := Lib.hid (Y1.kept (below_new (.cells (madeCells #[.int .u8 0] L) 5)))
  have Y2' := Lib.hid Y2
  have hB3 : Hid (Below w2.heap.size w2 ((w2.alloc (.cells (madeCells #[.int .u8 0] n) 5)).alloc (.cells (madeCells #[.int .u8 0] L) 5))) := (below_new _).alloc (by simp) _
  clear Y1 Y2
  generalize ((w2.alloc (.cells (madeCells #[.int .u8 0] n) 5)).alloc (.cells (madeCells #[.int .u8 0] L) 5)) = W3 at *
  go_loopw [35] (fun i wx => ORel w2.heap.size w2 w2.heap.size (w2.heap.size + 1) L n (bitG nx h k n R) i wx) (fun i _ => n - (intOf i).toNat)
  case atStart => exact ⟨0, by omega, by go_num, hB3.out, by rw [markY_zero]; exact Y1'.out, _, by simp, Y2'.out⟩
  case round =>
    obtain ⟨x, hx, rfl, hB, hO, al, hal, hA⟩ := hrel
    have hB' := Lib.hid hB
    have hO' := Lib.hid hO
    have hA' := Lib.hid hA
    have hal' := Lib.hid hal
    have hzo := hO.lt
    have hza := hA.lt
    have E3 := Lib.hid (E2.out.kept hB)
    clear hB hO hA hal
    by_cases hlt : x < n
    · rename World => wo
      go_wp2
      try rw [show decide ((x : Int) < (n : Int)) = true from decide_eq_true (by omega)]
      go_loopw [40] (fun i wx => NRel w2.heap.size w2 w2.heap.size (w2.heap.size + 1) (markY (bitG nx h k n R) (List.replicate n 0) x) al (fun j => nbr k n R x ((offs h).getD j (0, 0))) i wx) (fun i _ => L - (intOf i).toNat)
      case atStart => exact ⟨0, by omega, by go_num, hB'.out, hO'.out, by rw [markY_zero]; exact hA'.out⟩
      case round =>
        obtain ⟨j, hj, rfl, hB, hO, hA⟩ := hrel
        rw [hal'.out] at hj
        have hB5 := Lib.hid hB
        have hO5 := Lib.hid hO
        have hA5 := Lib.hid hA
        have E5 := Lib.hid (E2.out.kept hB)
        have hzo5 := hO.lt
        have hza5 := hA.lt
        clear hO hA
        by_cases hltj : j < L
        · obtain ⟨gp, rfl, p1, p2⟩ := hpc.out j hltj
          have p1 := cell_kept hB p1
          have p2 := cell_kept hB p2
          obtain ⟨x1, x2, x3, x4⟩ := hnear.out j hltj
          have hms : Hid (markY (fun j => nbr k n R x ((offs h).getD j (0, 0))) al (j + 1) = (markY (fun j => nbr k n R x ((offs h).getD j (0, 0))) al j).set j (nbr k n R x ((offs h).getD j (0, 0)))) := markY_succ _ al (k := j) (by rw [hal'.out]; exact hltj)
          have k0 : wr.cell? ⟨w.heap.size + 1, 0, none⟩ = some (.int .u8 k) := E5.out.cell (cs := #[.int .u8 k, .int .i64 (n : Int), .int .i64 0, .int .u8 0, .int .i64 0]) (T := 49) (by simp) rfl
          have k1 : wr.cell? ⟨w.heap.size + 1, 1, none⟩ = some (.int .i64 (n : Int)) := E5.out.cell (cs := #[.int .u8 k, .int .i64 (n : Int), .int .i64 0, .int .u8 0, .int .i64 0]) (T := 49) (by simp) rfl
          have y1 := hA5.out.cell (j := j) (by rw [markY_len, hal'.out]; exact hltj)
          have y2 := hA5.out.frozen j
          have hrow : Hid (∀ u : Int, 0 ≤ u → u < (n : Int) → ∃ g o, af (((offs h).getD j (0, 0)).2 + 1).toNat = some ⟨g, o, none⟩ ∧ wr.cell? ⟨w.heap.size + 1 + 1, (((offs h).getD j (0, 0)).2 + 1).toNat, none⟩ = some (.slice (some ⟨g, o, none⟩) n (cf (((offs h).getD j (0, 0)).2 + 1).toNat)) ∧
              wr.cell? ⟨g, o + u.toNat, none⟩ = some (.int .u8 (((R (((offs h).getD j (0, 0)).2 + 1).toNat).getD u.toNat 0 : Nat) : Int)) ∧ g < w2.heap.size) := fun u hu0 hu1 => by
            have hy3 : (((offs h).getD j (0, 0)).2 + 1).toNat < 3 := by omega
            obtain ⟨ad, cap, e, hc⟩ := hR'.out _ hy3
            injection e with e1 e2 e3
            obtain ⟨g, o, hg, c1⟩ := hc u.toNat (by rw [hn'.out _ hy3]; omega)
            rw [hg] at e1
            have hgw := World.block_lt_of_cell? w _ c1
            have hB6 := below_then hB2.out hB hB2.out.size
            refine ⟨g, o, e1, ?_, cellB hB6 c1 hgw, by have := hB2.out.size; simp at hgw; omega⟩
            rw [← e1]
            exact E5.out.cell (cs := #[.slice (af 0) n (cf 0), .slice (af 1) n (cf 1), .slice (af 2) n (cf 2)]) (T := 106) (by simp) (rows_at af cf n hy3)
          clear hB
          have hnbP : Hid (k = 1 → nbr k n R x ((offs h).getD j (0, 0)) = if 0 ≤ (x : Int) + ((offs h).getD j (0, 0)).1 ∧ (x : Int) + ((offs h).getD j (0, 0)).1 < (n : Int) then (R (((offs h).getD j (0, 0)).2 + 1).toNat).getD ((x : Int) + ((offs h).getD j (0, 0)).1).toNat 0 else 0) := fun hk1 => by
            unfold nbr nbrU; rw [if_neg (show ¬ k = 2 by omega)]
          have hnbT : Hid (k = 2 → nbr k n R x ((offs h).getD j (0, 0)) = if 0 ≤ ((x : Int) + ((offs h).getD j (0, 0)).1) % (n : Int) ∧ ((x : Int) + ((offs h).getD j (0, 0)).1) % (n : Int) < (n : Int) then (R (((offs h).getD j (0, 0)).2 + 1).toNat).getD (((x : Int) + ((offs h).getD j (0, 0)).1) % (n : Int)).toNat 0 else 0) := fun hk1 => by
            unfold nbr nbrU; rw [if_pos hk1]
          generalize nbr k n R x ((offs h).getD j (0, 0)) = nb at *
          generalize ((offs h).getD j (0, 0)).1 = X at *
          generalize ((offs h).getD j (0, 0)).2 = Y at *
          have e1 : 0 ≤ Y + 1 := by omega
          have e2 : Y + 1 < 3 := by omega
          have hne : w2.heap.size ≠ w2.heap.size + 1 := by omega
          have z1 : w.heap.size + 1 + 1 < wr.heap.size := by omega
          have z2 : w.heap.size + 1 < wr.heap.size := by omega
          have z3 : w.heap.size < wr.heap.size := by omega
          rcases hk with rfl | rfl
          · by_cases hin : 0 ≤ (x : Int) + X ∧ (x : Int) + X < (n : Int)
            · have hnb2 : nb = (R (Y + 1).toNat).getD ((x : Int) + X).toNat 0 := by rw [hnbP.out rfl, if_pos hin]
              obtain ⟨g, o, _, r1, r2, r3⟩ := hrow.out _ hin.1 hin.2
              rw [← hnb2] at r2
              obtain ⟨i1, i2⟩ := hin
              have hg1 : g ≠ w2.heap.size + 1 := by omega
              have hg2 : g ≠ wr.heap.size := by omega
              have hg3 : g < wr.heap.size := by omega
              clear hnb2
              go_wp2
              refine ⟨⟨j + 1, by rw [hal'.out]; omega, by go_num, ?_, ?_, ?_⟩, by simp [intOf]; omega⟩
              · exact ((hB5.out.setCell (by simp) _).setCell (by simp) _).alloc (by simp; omega) _
              · exact ((hO5.out.setOther hne _).setOther hne _).kept (below_new _)
              · rw [hms.out, ← set_same _ j 0]
                exact ((hA5.out.set (j := j) 0).set (j := j) nb).kept (below_new _)
            · have hnb2 : nb = 0 := by rw [hnbP.out rfl, if_neg hin]
              subst hnb2
              by_cases hlo : 0 ≤ (x : Int) + X
              · have hhi : ¬ ((x : Int) + X < (n : Int)) := fun e => hin ⟨hlo, e⟩
                clear hin
                go_wp2
                refine ⟨⟨j + 1, by rw [hal'.out]; omega, by go_num, ?_, ?_, ?_⟩, by simp [intOf]; omega⟩
                · exact (hB5.out.setCell (by simp) _).alloc (by simp; omega) _
                · exact (hO5.out.setOther hne _).kept (below_new _)
                · rw [hms.out]
                  exact (hA5.out.set (j := j) 0).kept (below_new _)
              · clear hin
                go_wp2
                refine ⟨⟨j + 1, by rw [hal'.out]; omega, by go_num, ?_, ?_, ?_⟩, by simp [intOf]; omega⟩
                · exact (hB5.out.setCell (by simp) _).alloc (by simp; omega) _
                · exact (hO5.out.setOther hne _).kept (below_new _)
                · rw [hms.out]
                  exact (hA5.out.set (j := j) 0).kept (below_new _)
          · have hm0 : 0 ≤ ((x : Int) + X) % (n : Int) := Int.emod_nonneg _ (by omega)
            have hm1 : ((x : Int) + X) % (n : Int) < (n : Int) := Int.emod_lt_of_pos _ (by omega)
            have hnb2 : nb = (R (Y + 1).toNat).getD (((x : Int) + X) % (n : Int)).toNat 0 := by rw [hnbT.out rfl, if_pos ⟨hm0, hm1⟩]
            obtain ⟨g, o, _, r1, r2, r3⟩ := hrow.out _ hm0 hm1
            rw [← hnb2] at r2
            have hg1 : g ≠ w2.heap.size + 1 := by omega
            have hg2 : g ≠ wr.heap.size := by omega
            have hg3 : g < wr.heap.size := by omega
            have KM1 := Lib.hid (KM.out ((x : Int) + X) (by omega))
            clear hnb2
            generalize ((x : Int) + X) % (n : Int) = u at *
            go_wp2_with fail
            refine (KM1.out _).mono ?_
            rintro e w5 ⟨rfl, rfl⟩
            go_wp2
            refine ⟨⟨j + 1, by rw [hal'.out]; omega, by go_num, ?_, ?_, ?_⟩, by simp [intOf]; omega⟩
            · exact ((hB5.out.setCell (by simp) _).setCell (by simp) _).alloc (by simp; omega) _
            · exact ((hO5.out.setOther hne _).setOther hne _).kept (below_new _)
            · rw [hms.out, ← set_same _ j 0]
              exact ((hA5.out.set (j := j) 0).set (j := j) nb).kept (below_new _)
        · obtain rfl : L = j := by omega
          clear hltj
          have hbr : Hid (Below W0.heap.size W0 wr.drew) := (below_then H0.out (below_then hB2.out hB5.out hB2.out.size) H0.out.size).drew
          have KN1 : Hid (∀ W' v, Below W0.heap.size W0 W' → HasY W' v (arnd h k n R x) → Calls Try.prog 79 #[ruleV r, .int .u8 (((R 1).getD x 0 : Nat) : Int), v] W' fun e w' => e = .returned (.tuple #[.int .u8 ((bitG nx h k n R x : Nat) : Int), .int .i64 0]) ∧ Below W'.heap.size W' w') := fun W' v hb hv => KN.out x W' v hb hv
          have hAr : Hid (HasY wr.drew (.slice (some ⟨w2.heap.size + 1, 0, none⟩) L L) (arnd h k n R x)) := by
            have h1 := (hA5.out.has (cap := L)).drew
            have h2 : markY (fun j => nbr k n R x ((offs h).getD j (0, 0))) al L = arnd h k n R x := by
              rw [← arnd_of h k n R x (al := al) (by rw [hal'.out, hL'.out]), hal'.out]
            rw [h2, arnd_len, hL'.out] at h1
            exact h1
          have hms : Hid (markY (bitG nx h k n R) (List.replicate n 0) (x + 1) = (markY (bitG nx h k n R) (List.replicate n 0) x).set x (bitG nx h k n R x)) := markY_succ _ _ (k := x) (by simpa using hlt)
          have hrow1 : ∃ g o, af 1 = some ⟨g, o, none⟩ ∧ wr.cell? ⟨g, o + x, none⟩ = some (.int .u8 (((R 1).getD x 0 : Nat) : Int)) := by
            obtain ⟨ad, cap, e, hc⟩ := hR'.out 1 (by omega)
            injection e with e1 e2 e3
            obtain ⟨g, o, hg, c1⟩ := hc x (by rw [hn'.out 1 (by omega)]; exact hlt)
            rw [hg] at e1
            exact ⟨g, o, e1, cellB (below_then hB2.out hB hB2.out.size) c1 (World.block_lt_of_cell? w _ c1)⟩
          obtain ⟨g1, o1, haf, c1⟩ := hrow1
          have r0 : wr.cell? ⟨w.heap.size, 0, none⟩ = some (.int .u8 r.kind) := E5.out.cell (cs := ruleC r) (T := 46) (by simp) rfl
          have r1 : wr.cell? ⟨w.heap.size, 1, none⟩ = some (.int .u8 r.hood) := E5.out.cell (cs := ruleC r) (T := 46) (by simp) rfl
          have r2 : wr.cell? ⟨w.heap.size, 2, none⟩ = some (.int .u16 r.born) := E5.out.cell (cs := ruleC r) (T := 46) (by simp) rfl
          have r3 : wr.cell? ⟨w.heap.size, 3, none⟩ = some (.int .u16 r.stay) := E5.out.cell (cs := ruleC r) (T := 46) (by simp) rfl
          have r4 : wr.cell? ⟨w.heap.size, 4, none⟩ = some (.int .i64 r.states) := E5.out.cell (cs := ruleC r) (T := 46) (by simp) rfl
          have r5 : wr.cell? ⟨w.heap.size, 5, none⟩ = some (.string r.name) := E5.out.cell (cs := ruleC r) (T := 46) (by simp) rfl
          have r6 : wr.cell? ⟨w.heap.size, 6, none⟩ = some (.int .i64 r.tst) := E5.out.cell (cs := ruleC r) (T := 46) (by simp) rfl
          have r7 : wr.cell? ⟨w.heap.size, 7, none⟩ = some (.int .u8 r.tho) := E5.out.cell (cs := ruleC r) (T := 46) (by simp) rfl
          have r8 : wr.cell? ⟨w.heap.size, 8, none⟩ = some (.int .u8 r.tsy) := E5.out.cell (cs := ruleC r) (T := 46) (by simp) rfl
          have r9 : wr.cell? ⟨w.heap.size, 9, none⟩ = some (.slice r.va r.vn r.vc) := E5.out.cell (cs := ruleC r) (T := 46) (by simp) rfl
          have r10 : wr.cell? ⟨w.heap.size, 10, none⟩ = some (.slice r.ra r.rn r.rc) := E5.out.cell (cs := ruleC r) (T := 46) (by simp) rfl
          have rr : wr.cell? ⟨w.heap.size + 1 + 1, 1, none⟩ = some (.slice (af 1) n (cf 1)) := E5.out.cell (cs := #[.slice (af 0) n (cf 0), .slice (af 1) n (cf 1), .slice (af 2) n (cf 2)]) (T := 106) (by simp) rfl
          rw [haf] at rr
          have hO6 : Hid (YBlk wr.drew w2.heap.size (markY (bitG nx h k n R) (List.replicate n 0) x)) := hO5.out.kept (Below.refl _ _).drew
          have hxI : (x : Int) < (n : Int) := by omega
          clear hB haf
          generalize bitG nx h k n R x = wb at *
          generalize (R 1).getD x 0 = cx at *
          go_wp2
          go_region_with (go_at_call 79; refine (KN1.out _ _ hbr.out hAr.out).mono ?_; rintro e w6 ⟨rfl, hb⟩; have hO7 := hO6.out.kept hb; have o1' := hO7.cell (j := x) (by rw [markY_len]; simpa using hlt); have o2' := hO7.frozen x; have O7 := Lib.hid hO7; have hb7 := Lib.hid hb; clear hb hO7)
          all_goals
            go_wp2
            have hB8 : Below w2.heap.size w2 w6 := below_then hB5.out.drew hb7.out (by have := hB5.out.size; simpa using this)
            have hA8 := ((hA5.out.kept (Below.refl _ _).drew).kept hb7.out)
            refine ⟨⟨x + 1, by omega, by go_num, hB8.setCell (by simp) _, by rw [hms.out]; exact O7.out.set wb, _, ?_, hA8.setOther (by omega) _⟩, by simp [intOf]; omega⟩
            rw [markY_len, hal'.out]
    · obtain rfl : n = x := by omega
      clear hlt
      go_wp2
      go_ret
      refine ⟨_, rfl, ?_, hO'.out, below_then hB2.out hB'.out hB2.out.size⟩
      have := hB2.out.size
      omega
set_option maxRecDepth 20000 in
set_option maxHeartbeats 4000000 in
theorem line27G {W0 : World} {r : RV} {ns : Nat} {h : Int} {nx : Nat → List Nat → Nat} {k : Int} {n : Nat} {w : World} {R : Nat → List Nat} (af : Nat → Option Addr) (cf : Nat → Nat) (S : StripG W0 r ns h nx k (n : Int)) (hw0 : Below W0.heap.size W0 w) (hR : ∀ i, i < 3 → HasY w (.slice (af i) n (cf i)) (R i)) (hn : ∀ i, i < 3 → (R i).length = n) (h2 : ∀ i j, i < 3 → (R i).getD j 0 < ns) :
    Calls Try.prog 27 #[ruleV r, topoV k (n : Int) 0, .slice (af 0) n (cf 0), .slice (af 1) n (cf 1), .slice (af 2) n (cf 2)] w fun e w' =>
      ∃ g, e = .returned (.tuple #[.slice (some ⟨g, 0, none⟩) n n, .int .i64 0]) ∧ w.heap.size ≤ g ∧ YBlk w' g (winG nx h k n R) ∧ Below w.heap.size w w' := by
  have K1 := Lib.hid (fun W' (hb : Below W0.heap.size W0 W') => check28G S W' hb)
  have K2 := Lib.hid (fun i (hi : i < 3) W' (hb : Below W0.heap.size W0 W') (hv : HasY W' (.slice (af i) n (cf i)) (R i)) => knows53G S (w := W') hb (by rw [hn i hi]; have := S.hW; omega) hv (fun j _ => h2 i j hi))
  have K3 := Lib.hid (fun W' (hb : Below W0.heap.size W0 W') (hv : ∀ i, i < 3 → HasY W' (.slice (af i) n (cf i)) (R i)) => line54G (w := W') af cf S hb hv hn h2)
  have H0 := Lib.hid hw0
  have hR' := Lib.hid hR
  have hn2 : n ≤ 65536 := by have := S.hW; omega
  have hix := Lib.hid (fun y (hy : y < 3) W => idx106 af n cf hy W)
  generalize winG nx h k n R = wl at *
  clear hR hn h2 S hw0
  go_enter Try.func27, Try.ntmps27
  go_wp2_with fail
  refine (K1.out _ (below_then H0.out ((below_new _).alloc (by simp) _) H0.out.size)).mono ?_
  rintro e w1 ⟨rfl, hb⟩
  have E1 := (((Blks.nil w).alloc rfl (ruleC r) 46).alloc (n := w.heap.size + 1) (by simp) #[.int .u8 k, .int .i64 (n : Int), .int .i64 0, .int .u8 0, .int .i64 0] 49).kept hb
  have hz1 : w.heap.size + 1 < w1.heap.size := by have := hb.size; simp at this; omega
  have hB1 := Lib.hid (below_then (B := w.heap.size) ((below_new _).alloc (by simp) _) hb (by simp; omega))
  clear hb
  go_upto_region 5 with fail
  obtain ⟨W2, hW2⟩ : ∃ W2, W2 = w1.alloc (.cells #[.slice (af 0) n (cf 0), .slice (af 1) n (cf 1), .slice (af 2) n (cf 2)] 106) := ⟨_, rfl⟩
  have E20 := E1.alloc rfl #[.slice (af 0) n (cf 0), .slice (af 1) n (cf 1), .slice (af 2) n (cf 2)] 106
  rw [← hW2] at E20 ⊢
  have E2 := Lib.hid E20
  have hB2 : Hid (Below w.heap.size w W2) := by rw [hW2]; exact hB1.out.alloc hB1.out.size _
  have hz2 : W2.heap.size = w1.heap.size + 1 := by rw [hW2]; simp
  clear E1 E20 hW2
  have m0 : W2.cell? ⟨w1.heap.size, 0, none⟩ = some (.slice (af 0) n (cf 0)) := E2.out.cell (cs := #[.slice (af 0) n (cf 0), .slice (af 1) n (cf 1), .slice (af 2) n (cf 2)]) (T := 106) (by simp) rfl
  have m1 : W2.cell? ⟨w1.heap.size, 1, none⟩ = some (.slice (af 1) n (cf 1)) := E2.out.cell (cs := #[.slice (af 0) n (cf 0), .slice (af 1) n (cf 1), .slice (af 2) n (cf 2)]) (T := 106) (by simp) rfl
  have m2 : W2.cell? ⟨w1.heap.size, 2, none⟩ = some (.slice (af 2) n (cf 2)) := E2.out.cell (cs := #[.slice (af 0) n (cf 0), .slice (af 1) n (cf 1), .slice (af 2) n (cf 2)]) (T := 106) (by simp) rfl
  have mw : W2.cell? ⟨w.heap.size + 1, 1, none⟩ = some (.int .i64 (n : Int)) := E2.out.cell (cs := #[.int .u8 k, .int .i64 (n : Int), .int .i64 0, .int .u8 0, .int .i64 0]) (T := 49) (by simp) rfl
  go_wp2
  go_loop [29] (fun i => ∃ y : Nat, y ≤ 3 ∧ i = .int .i64 (y : Int)) (fun i => 3 - (intOf i).toNat)
  case atStart => exact ⟨0, by omega, by go_num⟩
  case round =>
    obtain ⟨y, hy, rfl⟩ := hrel
    by_cases hlt : y < 3
    · have hi := hix.out y hlt W2
      go_wp2
      go_round
      case rel => exact ⟨y + 1, by omega, by go_num⟩
      case measure => simp [intOf]; omega
    · obtain rfl : y = 3 := by omega
      clear hlt
      go_wp2
      go_loopw [39] (fun i wx => LRel W2 3 i wx) (fun i _ => 3 - (intOf i).toNat)
      case atStart => exact ⟨0, by omega, by go_num, Below.refl _ _⟩
      case round =>
        obtain ⟨y, hy, rfl, hB⟩ := hrel
        have hB' := Lib.hid hB
        have E3 := Lib.hid (E2.out.kept hB)
        clear hB
        have r0 : wr.cell? ⟨w.heap.size, 0, none⟩ = some (.int .u8 r.kind) := E3.out.cell (cs := ruleC r) (T := 46) (by simp) rfl
        have r1 : wr.cell? ⟨w.heap.size, 1, none⟩ = some (.int .u8 r.hood) := E3.out.cell (cs := ruleC r) (T := 46) (by simp) rfl
        have r2 : wr.cell? ⟨w.heap.size, 2, none⟩ = some (.int .u16 r.born) := E3.out.cell (cs := ruleC r) (T := 46) (by simp) rfl
        have r3 : wr.cell? ⟨w.heap.size, 3, none⟩ = some (.int .u16 r.stay) := E3.out.cell (cs := ruleC r) (T := 46) (by simp) rfl
        have r4 : wr.cell? ⟨w.heap.size, 4, none⟩ = some (.int .i64 r.states) := E3.out.cell (cs := ruleC r) (T := 46) (by simp) rfl
        have r5 : wr.cell? ⟨w.heap.size, 5, none⟩ = some (.string r.name) := E3.out.cell (cs := ruleC r) (T := 46) (by simp) rfl
        have r6 : wr.cell? ⟨w.heap.size, 6, none⟩ = some (.int .i64 r.tst) := E3.out.cell (cs := ruleC r) (T := 46) (by simp) rfl
        have r7 : wr.cell? ⟨w.heap.size, 7, none⟩ = some (.int .u8 r.tho) := E3.out.cell (cs := ruleC r) (T := 46) (by simp) rfl
        have r8 : wr.cell? ⟨w.heap.size, 8, none⟩ = some (.int .u8 r.tsy) := E3.out.cell (cs := ruleC r) (T := 46) (by simp) rfl
        have r9 : wr.cell? ⟨w.heap.size, 9, none⟩ = some (.slice r.va r.vn r.vc) := E3.out.cell (cs := ruleC r) (T := 46) (by simp) rfl
        have r10 : wr.cell? ⟨w.heap.size, 10, none⟩ = some (.slice r.ra r.rn r.rc) := E3.out.cell (cs := ruleC r) (T := 46) (by simp) rfl
        by_cases hlt : y < 3
        · have hi := hix.out y hlt wr
          have hv := Lib.hid ((hR'.out y hlt).keptB (below_then hB2.out hB'.out hB2.out.size) (Nat.le_refl _))
          go_wp2_with fail
          refine (K2.out y hlt _ (below_then H0.out (below_then hB2.out hB'.out hB2.out.size) H0.out.size) hv.out).mono ?_
          rintro e w5 ⟨rfl, hb⟩
          have hB5 := Lib.hid (below_then hB'.out hb hB'.out.size)
          clear hb
          go_wp2
          exact ⟨⟨y + 1, by omega, by go_num, hB5.out⟩, by simp [intOf]; omega⟩
        · obtain rfl : y = 3 := by omega
          clear hlt
          have t0 : wr.cell? ⟨w.heap.size + 1, 0, none⟩ = some (.int .u8 k) := E3.out.cell (cs := #[.int .u8 k, .int .i64 (n : Int), .int .i64 0, .int .u8 0, .int .i64 0]) (T := 49) (by simp) rfl
          have t1 : wr.cell? ⟨w.heap.size + 1, 1, none⟩ = some (.int .i64 (n : Int)) := E3.out.cell (cs := #[.int .u8 k, .int .i64 (n : Int), .int .i64 0, .int .u8 0, .int .i64 0]) (T := 49) (by simp) rfl
          have t2 : wr.cell? ⟨w.heap.size + 1, 2, none⟩ = some (.int .i64 0) := E3.out.cell (cs := #[.int .u8 k, .int .i64 (n : Int), .int .i64 0, .int .u8 0, .int .i64 0]) (T := 49) (by simp) rfl
          have t3 : wr.cell? ⟨w.heap.size + 1, 3, none⟩ = some (.int .u8 0) := E3.out.cell (cs := #[.int .u8 k, .int .i64 (n : Int), .int .i64 0, .int .u8 0, .int .i64 0]) (T := 49) (by simp) rfl
          have t4 : wr.cell? ⟨w.heap.size + 1, 4, none⟩ = some (.int .i64 0) := E3.out.cell (cs := #[.int .u8 k, .int .i64 (n : Int), .int .i64 0, .int .u8 0, .int .i64 0]) (T := 49) (by simp) rfl
          have s0 : wr.cell? ⟨w1.heap.size, 0, none⟩ = some (.slice (af 0) n (cf 0)) := E3.out.cell (cs := #[.slice (af 0) n (cf 0), .slice (af 1) n (cf 1), .slice (af 2) n (cf 2)]) (T := 106) (by simp) rfl
          have s1 : wr.cell? ⟨w1.heap.size, 1, none⟩ = some (.slice (af 1) n (cf 1)) := E3.out.cell (cs := #[.slice (af 0) n (cf 0), .slice (af 1) n (cf 1), .slice (af 2) n (cf 2)]) (T := 106) (by simp) rfl
          have s2 : wr.cell? ⟨w1.heap.size, 2, none⟩ = some (.slice (af 2) n (cf 2)) := E3.out.cell (cs := #[.slice (af 0) n (cf 0), .slice (af 1) n (cf 1), .slice (af 2) n (cf 2)]) (T := 106) (by simp) rfl
          have hv := Lib.hid (fun i (hi : i < 3) => (hR'.out i hi).keptB (below_then hB2.out hB'.out hB2.out.size) (Nat.le_refl _))
          go_wp2_with fail
          refine (K3.out _ (below_then H0.out (below_then hB2.out hB'.out hB2.out.size) H0.out.size) hv.out).mono ?_
          rintro e w5 ⟨g, rfl, hg, hY, hb⟩
          have hB5 := Lib.hid (below_then (below_then hB2.out hB'.out hB2.out.size) hb (by have := hB2.out.size; have := hB'.out.size; omega))
          have hg' : w.heap.size ≤ g := by have := hB2.out.size; have := hB'.out.size; omega
          have hY' := Lib.hid hY
          clear hb hY
          go_wp2
          go_ret2
          exact ⟨g, rfl, hg', hY'.out, hB5.out⟩
end Go.Proofs.Ytigghbehnnghnaa
