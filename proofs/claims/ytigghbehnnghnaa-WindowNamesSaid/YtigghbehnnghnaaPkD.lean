import Derived.Test.YtigghbehnnghnaaPkA
namespace Go.Proofs.Ytigghbehnnghnaa
open Go.RowKit
set_option linter.unusedSimpArgs false
set_option linter.unusedVariables false


/-- The neighbours of Moore's neighbourhood, in their order. -/
def moore : List (Int × Int) := [(0, -1), (1, -1), (1, 0), (1, 1), (0, 1), (-1, 1), (-1, 0), (-1, -1)]
/-- Which of them a neighbourhood has. -/
def mask (h : Int) : List Bool :=
  if h = 1 then [true, true, true, true, true, true, true, true]
  else if h = 2 then [true, false, true, false, true, false, true, false]
  else if h = 3 then [true, false, true, true, true, false, true, true]
  else [false, false, false, false, false, false, false, false]
def hoodErr (h : Int) : Int := if h = 1 ∨ h = 2 ∨ h = 3 then 0 else 70
def hbits (l : List Bool) : Array Value := (l.map Value.bool).toArray

set_option maxHeartbeats 400000 in
theorem within_any (h : Int) (w : World) :
    Calls Try.prog 90 #[.int .u8 h] w fun e w' => e = .returned (.tuple #[.agg (hbits (mask h)), .int .i64 (hoodErr h)]) ∧ Below w.heap.size w w' := by
  by_cases h1 : h = 1
  · subst h1
    go_enter Try.func90, Try.ntmps90
    go_wp2
    exact bodyPost_ret (v := .tuple #[.agg (hbits (mask 1)), .int .i64 (hoodErr 1)]) (by simp [results, Try.results90, go_sem, hbits, mask, hoodErr]) rfl ⟨rfl, below_new _⟩
  by_cases h2 : h = 2
  · subst h2
    go_enter Try.func90, Try.ntmps90
    go_wp2
    exact bodyPost_ret (v := .tuple #[.agg (hbits (mask 2)), .int .i64 (hoodErr 2)]) (by simp [results, Try.results90, go_sem, hbits, mask, hoodErr]) rfl ⟨rfl, below_new _⟩
  by_cases h3 : h = 3
  · subst h3
    go_enter Try.func90, Try.ntmps90
    go_wp2
    exact bodyPost_ret (v := .tuple #[.agg (hbits (mask 3)), .int .i64 (hoodErr 3)]) (by simp [results, Try.results90, go_sem, hbits, mask, hoodErr]) rfl ⟨rfl, below_new _⟩
  go_enter Try.func90, Try.ntmps90
  go_wp2
  exact bodyPost_ret (v := .tuple #[.agg (hbits (mask h)), .int .i64 (hoodErr h)]) (by simp [results, Try.results90, go_sem, hbits, mask, hoodErr, h1, h2, h3]) rfl ⟨rfl, below_new _⟩

def ptCells (l : List (Int × Int)) : List Value := l.flatMap fun p => [.int .i64 p.1, .int .i64 p.2]

set_option maxHeartbeats 1000000 in
theorem all_any (w : World) :
    Calls Try.prog 91 #[] w fun e w' => e = .returned (.agg (ptCells moore).toArray) ∧ Below w.heap.size w w' := by
  go_enter Try.func91, Try.ntmps91
  go_wp2
  exact bodyPost_ret (v := .agg (ptCells moore).toArray) (by simp [results, Try.results91, go_sem, ptCells, moore]) rfl ⟨rfl, by repeat (first | exact Below.refl _ _ | refine Below.alloc ?_ (by first | omega | (simp; done) | (simp; omega)) _ | refine Below.setCell ?_ (by first | omega | (simp; done) | (simp; omega)) _ | refine Below.drew ?_)⟩

/-! ### The offsets -/
def mk (h : Int) (j : Nat) : Bool := (mask h).getD j false
def mpt (j : Nat) : Int × Int := moore.getD j (0, 0)
def offK (h : Int) (k : Nat) : List (Int × Int) := ((List.range k).filter (mk h)).map mpt
def offs (h : Int) : List (Int × Int) := offK h 8
theorem offK_yes {h : Int} {k : Nat} (hm : mk h k = true) : offK h (k + 1) = offK h k ++ [mpt k] := by
  unfold offK; rw [List.range_succ, List.filter_append, List.map_append]; simp [hm]
theorem offK_no {h : Int} {k : Nat} (hm : mk h k = false) : offK h (k + 1) = offK h k := by
  unfold offK; rw [List.range_succ, List.filter_append, List.map_append]; simp [hm]
theorem offK_len (h : Int) (k : Nat) : (offK h k).length ≤ k := by
  unfold offK; rw [List.length_map]; exact Nat.le_trans (List.length_filter_le _ _) (by simp)
theorem ptCells_append (l m : List (Int × Int)) : ptCells (l ++ m) = ptCells l ++ ptCells m := by unfold ptCells; exact List.flatMap_append
theorem ptCells_len (l : List (Int × Int)) : (ptCells l).length = l.length * 2 := by
  induction l with
  | nil => rfl
  | cons p l ih => unfold ptCells at *; rw [List.flatMap_cons, List.length_append, ih]; simp; omega

theorem info94 : (Try.prog.info? 94).map (fun i => (i.zero, i.size, i.bytes)) = some (some (.agg #[.int .i64 0, .int .i64 0]), 2, 16) := by kernel_rfl



theorem mask8 (h : Int) : ∃ b0 b1 b2 b3 b4 b5 b6 b7, mask h = [b0, b1, b2, b3, b4, b5, b6, b7] := by
  unfold mask
  split
  · exact ⟨_, _, _, _, _, _, _, _, rfl⟩
  · split
    · exact ⟨_, _, _, _, _, _, _, _, rfl⟩
    · split <;> exact ⟨_, _, _, _, _, _, _, _, rfl⟩

/-- The loop's head in Offsets. -/
def OffRel (w : World) (Bm Ba : Nat) (h : Int) (l i : Value) (wr : World) : Prop :=
  ∃ k : Nat, k ≤ 8 ∧ i = .int .i64 (k : Int) ∧ wr.ownsRow (Ba + 1) 94 2 l (offK h k).length (ptCells (offK h k)) ∧
    (∀ j, j < 8 → wr.cell? ⟨Bm, j, none⟩ = some (.bool (mk h j))) ∧
    (∀ j, j < 8 → wr.cell? ⟨Ba, j * 2, none⟩ = some (.int .i64 (mpt j).1) ∧ wr.cell? ⟨Ba, j * 2 + 1, none⟩ = some (.int .i64 (mpt j).2)) ∧
    Below w.heap.size w wr

theorem off_no {w wr : World} {Bm Ba : Nat} {h : Int} {l : Value} {k : Nat} (o : Obj) (hk : k < 8) (hm : mk h k = false) (h1 : wr.ownsRow (Ba + 1) 94 2 l (offK h k).length (ptCells (offK h k)))
    (h2 : ∀ j, j < 8 → wr.cell? ⟨Bm, j, none⟩ = some (.bool (mk h j)))
    (h3 : ∀ j, j < 8 → wr.cell? ⟨Ba, j * 2, none⟩ = some (.int .i64 (mpt j).1) ∧ wr.cell? ⟨Ba, j * 2 + 1, none⟩ = some (.int .i64 (mpt j).2))
    (h4 : Below w.heap.size w wr) : OffRel w Bm Ba h l (.int .i64 ((k : Int) + 1)) (wr.alloc o).drew := by
  have hb : Below wr.heap.size wr (wr.alloc o).drew := Below.drew (below_new o)
  refine ⟨k + 1, by omega, by go_num, ?_, fun j hj => cell_kept hb (h2 j hj), fun j hj => ⟨cell_kept hb (h3 j hj).1, cell_kept hb (h3 j hj).2⟩, below_then h4 hb h4.size⟩
  rw [offK_no hm]
  exact (h1.alloc o).drew

theorem off_yes {w wr w' : World} {Bm Ba : Nat} {h : Int} {l l' : Value} {k : Nat} (o o' : Obj) (hk : k < 8) (hm : mk h k = true) (hBm : Bm ≤ Ba) (hw : w.heap.size ≤ Bm) (h1 : wr.ownsRow (Ba + 1) 94 2 l (offK h k).length (ptCells (offK h k)))
    (h2 : ∀ j, j < 8 → wr.cell? ⟨Bm, j, none⟩ = some (.bool (mk h j)))
    (h3 : ∀ j, j < 8 → wr.cell? ⟨Ba, j * 2, none⟩ = some (.int .i64 (mpt j).1) ∧ wr.cell? ⟨Ba, j * 2 + 1, none⟩ = some (.int .i64 (mpt j).2))
    (h4 : Below w.heap.size w wr)
    (g1 : w'.ownsRow (Ba + 1) 94 2 l' ((offK h k).length + 1) (ptCells (offK h k) ++ [.int .i64 (mpt k).1, .int .i64 (mpt k).2])) (g2 : ((wr.alloc o).drew.alloc o').grownBy w' l.ownBlock) :
    OffRel w Bm Ba h l' (.int .i64 ((k : Int) + 1)) w' := by
  have hb : Below wr.heap.size wr ((wr.alloc o).drew.alloc o') := Below.alloc (Below.drew (below_new o)) (by simp) _
  have hne : ∀ b, b ≤ Ba → some b ≠ l.ownBlock := fun b hb' e => by have := h1.lt b e.symm; omega
  refine ⟨k + 1, by omega, by go_num, ?_, fun j hj => g2.cell (cell_kept hb (h2 j hj)) (hne _ hBm), fun j hj => ⟨g2.cell (cell_kept hb (h3 j hj).1) (hne _ (Nat.le_refl _)), g2.cell (cell_kept hb (h3 j hj).2) (hne _ (Nat.le_refl _))⟩, ?_⟩
  · rw [offK_yes hm, List.length_append, ptCells_append]
    exact g1
  · exact Below.grown (below_then h4 hb h4.size) g2 (by have := h4.size; simp; omega) (fun b e => by have := h1.lt b e; omega)

set_option maxHeartbeats 4000000 in
set_option maxRecDepth 20000 in
theorem offsets_good {h : Int} (hh : h = 1 ∨ h = 2 ∨ h = 3) (w : World) :
    Calls Try.prog 70 #[.int .u8 h] w fun e w' => ∃ v, e = .returned (.tuple #[v, .int .i64 0]) ∧ w'.ownsRow w.heap.size 94 2 v (offs h).length (ptCells (offs h)) ∧ Below w.heap.size w w' := by
  obtain ⟨b0, b1, b2, b3, b4, b5, b6, b7, hmask⟩ := mask8 h
  have K10 := fun W => within_any h W
  have K20 := fun W => all_any W
  have he : hoodErr h = 0 := by unfold hoodErr; rw [if_pos hh]
  rw [hmask, he] at K10
  simp only [hbits, ptCells, moore, List.map_cons, List.map_nil, List.flatMap_cons, List.flatMap_nil, List.cons_append, List.nil_append] at K10 K20
  have hmk : (mk h 0 = b0 ∧ mk h 1 = b1 ∧ mk h 2 = b2 ∧ mk h 3 = b3) ∧ (mk h 4 = b4 ∧ mk h 5 = b5 ∧ mk h 6 = b6 ∧ mk h 7 = b7) := by simp [mk, hmask]
  have HM := Lib.hid hmk
  have K1 := Lib.hid K10
  have K2 := Lib.hid K20
  clear hmask hmk K10 K20 he
  obtain ⟨i0, hi, hz0, hz1, hz2⟩ := info_parts info94
  have hi' := Lib.hid hi
  clear hi
  go_enter Try.func70, Try.ntmps70
  go_wp2_with fail
  refine (K1.out _).mono ?_
  rintro e w1 ⟨rfl, hb⟩
  have hB1 := Lib.hid hb
  have hs1 : w.heap.size ≤ w1.heap.size := hb.size
  clear hb
  go_wp2_with fail
  refine (K2.out _).mono ?_
  rintro e w2 ⟨rfl, hb⟩
  obtain ⟨hc2, hf2⟩ := bcell hb
  have hs2 : w1.heap.size < w2.heap.size := by have := hb.size; (try simp at this); omega
  have hB2 := Lib.hid (below_then (B := w.heap.size) (w := w) (Below.alloc hB1.out hs1 _) hb (by simp; omega))
  clear hb
  go_wp2
  go_loopw [7, 20] (fun l i wr => OffRel w w1.heap.size w2.heap.size h l i wr) (fun _ i _ => 8 - (intOf i).toNat)
  case atStart =>
    refine ⟨0, by omega, by go_num, World.ownsRow_nil _ _ _ _, ?_, ?_, ?_⟩
    · obtain ⟨⟨m0, m1, m2, m3⟩, m4, m5, m6, m7⟩ := HM.out
      intro j hj
      match j, hj with
      | 0, _ => rw [m0]; go_simp
      | 1, _ => rw [m1]; go_simp
      | 2, _ => rw [m2]; go_simp
      | 3, _ => rw [m3]; go_simp
      | 4, _ => rw [m4]; go_simp
      | 5, _ => rw [m5]; go_simp
      | 6, _ => rw [m6]; go_simp
      | 7, _ => rw [m7]; go_simp
    · intro j hj
      match j, hj with
      | 0, _ => exact ⟨by go_simp; rfl, by go_simp; rfl⟩
      | 1, _ => exact ⟨by go_simp; rfl, by go_simp; rfl⟩
      | 2, _ => exact ⟨by go_simp; rfl, by go_simp; rfl⟩
      | 3, _ => exact ⟨by go_simp; rfl, by go_simp; rfl⟩
      | 4, _ => exact ⟨by go_simp; rfl, by go_simp; rfl⟩
      | 5, _ => exact ⟨by go_simp; rfl, by go_simp; rfl⟩
      | 6, _ => exact ⟨by go_simp; rfl, by go_simp; rfl⟩
      | 7, _ => exact ⟨by go_simp; rfl, by go_simp; rfl⟩
    · exact Below.alloc hB2.out (by have := hB2.out.size; omega) _
  case round =>
    obtain ⟨k, hk, rfl, hown, hm, hp, hBel⟩ := hrel
    clear hc2 hf2
    have hB0 := Lib.hid hBel
    have hO := Lib.hid hown
    have hM := Lib.hid hm
    have hP := Lib.hid hp
    clear hBel hown hm hp
    by_cases hlt : k < 8
    · have mk' := hM.out k hlt
      obtain ⟨p1, p2⟩ := hP.out k hlt
      have hml := World.block_lt_of_cell? wr _ mk'
      have hpl := World.block_lt_of_cell? wr _ p1
      have hne : w1.heap.size ≠ w2.heap.size := by omega
      generalize hX : (mpt k).1 = X at *
      generalize hY : (mpt k).2 = Y at *
      have hX' := Lib.hid hX
      have hY' := Lib.hid hY
      clear hX hY
      cases hb : mk h k with
      | false =>
        rw [hb] at mk'
        go_wp2
        go_region
        go_wp2
        refine ⟨?_, by simp [intOf]; omega⟩
        exact off_no _ hlt hb hO.out hM.out hP.out hB0.out
      | true =>
        rw [hb] at mk'
        go_wp2
        go_region
        have hlen := offK_len h k
        go_wp2_with (first
          | (at_builtin; refine wpList_append_own _ rfl _ _ 88 rfl (w2.heap.size + 1) 94 i0 _ 2 16 Try.underlying88 hi'.out hz0 hz1 hz2 rfl (by decide) _ _ _ rfl ((hO.out.alloc _).drew.alloc _) ⟨wr.heap.size + 1, 0, none⟩ 1 1 [.int .i64 X, .int .i64 Y] rfl rfl ?c1 ?c2 ?c3 ?c4 ?c5 ?_)
          | go_in)
        case c1 =>
          intro j u hj
          match j, hj with
          | 0, hj => simp at hj; subst hj; simp [Addr.add]
          | 1, hj => simp at hj; subst hj; simp [Addr.add]
        case c2 => intro u hu; simp at hu; rcases hu with rfl | rfl <;> rfl
        case c3 => unfold maxLen; omega
        case c4 => omega
        case c5 => have := hs2; simp; omega
        intro v' w3 hown' hgrow _
        have R := off_yes (w := w) (Bm := w1.heap.size) (l' := v') _ _ hlt hb (by omega) hs1 hO.out hM.out hP.out hB0.out (by rw [hX'.out, hY'.out]; exact hown') hgrow
        have R' := Lib.hid R
        clear hown' hgrow R
        go_wp2
        exact ⟨R'.out, by simp [intOf]; omega⟩
    · obtain rfl : k = 8 := by omega
      go_wp2
      go_ret2
      exact ⟨_, rfl, ownsRow_base (by have := hB2.out.size; omega) hO.out, hB0.out⟩
/-- The slice v reads as the places l. -/
def HasPts (w : World) (v : Value) (l : List (Int × Int)) : Prop :=
  ∃ (ad : Option Addr) (cap : Nat), v = .slice ad l.length cap ∧ ∀ j, j < l.length → ∃ g, ad = some ⟨g, 0, none⟩ ∧
    w.cell? ⟨g, j * 2, none⟩ = some (.int .i64 (l.getD j (0, 0)).1) ∧ w.cell? ⟨g, j * 2 + 1, none⟩ = some (.int .i64 (l.getD j (0, 0)).2)
theorem HasPts.nil (w : World) : HasPts w (.slice none 0 0) [] := ⟨none, 0, rfl, fun j hj => by simp at hj⟩
theorem HasPts.kept {w w' : World} {v : Value} {l : List (Int × Int)} (h : HasPts w v l) (hb : Below w.heap.size w w') : HasPts w' v l := by
  obtain ⟨ad, cap, hv, hc⟩ := h
  refine ⟨ad, cap, hv, fun j hj => ?_⟩
  obtain ⟨g, hg, c1, c2⟩ := hc j hj
  exact ⟨g, hg, cell_kept hb c1, cell_kept hb c2⟩
theorem ptCells_get (l : List (Int × Int)) : ∀ j, j < l.length → (ptCells l)[j * 2]? = some (.int .i64 (l.getD j (0, 0)).1) ∧ (ptCells l)[j * 2 + 1]? = some (.int .i64 (l.getD j (0, 0)).2) := by
  induction l with
  | nil => intro j hj; simp at hj
  | cons p l ih =>
    intro j hj
    have e : ptCells (p :: l) = .int .i64 p.1 :: .int .i64 p.2 :: ptCells l := rfl
    cases j with
    | zero => rw [e]; exact ⟨rfl, rfl⟩
    | succ j =>
      have := ih j (by simpa using hj)
      rw [e, show (j + 1) * 2 = j * 2 + 1 + 1 from by omega]
      simpa using this

theorem HasPts.own {w : World} {base : Nat} {v : Value} {l : List (Int × Int)} (h : w.ownsRow base 94 2 v l.length (ptCells l)) : HasPts w v l := by
  rcases h.2 with ⟨hv, hn⟩ | ⟨g, cap, cur, hv, hr⟩
  · exact ⟨none, 0, by rw [hv, hn], fun j hj => by omega⟩
  · subst hv
    refine ⟨_, cap, rfl, fun j hj => ⟨g, rfl, ?_, ?_⟩⟩
    · rw [h.cellAt (j * 2) (by omega)]; exact (ptCells_get l j hj).1
    · rw [h.cellAt (j * 2 + 1) (by omega)]; exact (ptCells_get l j hj).2


theorem offs_bad {h : Int} (hh : ¬ (h = 1 ∨ h = 2 ∨ h = 3)) : offs h = [] := by
  have : ∀ j, mk h j = false := by
    intro j
    unfold mk mask
    rw [if_neg (by omega), if_neg (by omega), if_neg (by omega)]
    match j with
    | 0 | 1 | 2 | 3 | 4 | 5 | 6 | 7 => rfl
    | j + 8 => simp
  unfold offs offK
  rw [List.map_eq_nil_iff, List.filter_eq_nil_iff]
  intro j _
  simp [this j]
theorem offs_1 : offs 1 = moore := by decide
theorem offs_2 : offs 2 = [(0, -1), (1, 0), (0, 1), (-1, 0)] := by decide
theorem offs_3 : offs 3 = [(0, -1), (1, 0), (1, 1), (0, 1), (-1, 0), (-1, -1)] := by decide
theorem offs_len (h : Int) : (offs h).length ≤ 8 := offK_len h 8
theorem hoodErr_good {h : Int} (hh : h = 1 ∨ h = 2 ∨ h = 3) : hoodErr h = 0 := by unfold hoodErr; rw [if_pos hh]
theorem hoodErr_bad {h : Int} (hh : ¬ (h = 1 ∨ h = 2 ∨ h = 3)) : hoodErr h = 70 := by unfold hoodErr; rw [if_neg hh]

set_option maxHeartbeats 1000000 in
theorem offsets_any (h : Int) (w : World) :
    Calls Try.prog 70 #[.int .u8 h] w fun e w' => ∃ v, e = .returned (.tuple #[v, .int .i64 (hoodErr h)]) ∧ w'.ownsRow w.heap.size 94 2 v (offs h).length (ptCells (offs h)) ∧ Below w.heap.size w w' := by
  by_cases hh : h = 1 ∨ h = 2 ∨ h = 3
  · rw [hoodErr_good hh]
    exact offsets_good hh w
  · obtain ⟨b0, b1, b2, b3, b4, b5, b6, b7, hmask⟩ := mask8 h
    have K10 := fun W => within_any h W
    rw [hmask, hoodErr_bad hh] at K10
    rw [hoodErr_bad hh, offs_bad hh]
    simp only [hbits, List.map_cons, List.map_nil] at K10
    have K1 := Lib.hid K10
    clear K10 hmask hh
    go_enter Try.func70, Try.ntmps70
    go_wp2_with fail
    refine (K1.out _).mono ?_
    rintro e w1 ⟨rfl, hb⟩
    have hB1 := Lib.hid hb
    have hs1 : w.heap.size ≤ w1.heap.size := hb.size
    clear hb
    go_wp2
    go_ret2
    exact ⟨_, rfl, World.ownsRow_nil _ _ _ _, Below.alloc hB1.out hs1 _⟩

set_option maxHeartbeats 1000000 in
theorem size_any (h : Int) (w : World) :
    Calls Try.prog 87 #[.int .u8 h] w fun e w' => e = .returned (.tuple #[.int .i64 (offs h).length, .int .i64 (hoodErr h)]) ∧ Below w.heap.size w w' := by
  have K1 := Lib.hid (fun W => offsets_any h W)
  generalize (offs h).length = n at *
  generalize hoodErr h = er at *
  generalize ptCells (offs h) = cs at *
  go_enter Try.func87, Try.ntmps87
  go_wp2_with fail
  refine (K1.out _).mono ?_
  rintro e w1 ⟨v, rfl, ho, hb⟩
  obtain ⟨ad, cap, rfl⟩ := own_shape ho
  have hB1 := Lib.hid hb
  clear hb ho
  go_wp2
  go_ret2
  exact ⟨rfl, hB1.out⟩

theorem pts_lit {w : World} {l : List (Int × Int)} {cs : Array Value} {n : Nat} (h : cs = (ptCells l).toArray) (hn : n = l.length) (hl : l.length ≤ 8) :
    (w.alloc (.cells cs 94)).ownsRow w.heap.size 94 2 (.slice (some ⟨w.heap.size, 0, none⟩) n n) l.length (ptCells l) := by
  subst h hn
  have := World.ownsRow_lit (base := w.heap.size) (e := 94) (size := 2) w (ptCells l).toArray l.length (Nat.le_refl _) (by unfold maxLen; omega) (by simp [ptCells_len])
  simpa using this

set_option maxHeartbeats 1000000 in
theorem roffsets_any (h : Int) (w : World) :
    Calls Try.prog 41 #[.int .u8 h] w fun e w' => ∃ v, e = .returned (.tuple #[v, .int .i64 (hoodErr h)]) ∧ w'.ownsRow w.heap.size 94 2 v (offs h).length (ptCells (offs h)) ∧ Below w.heap.size w w' := by
  by_cases h1 : h = 1
  · subst h1
    go_enter Try.func41, Try.ntmps41
    go_wp2
    go_ret2
    exact ⟨_, rfl, pts_lit (by first | (rw [offs_1]; rfl) | (rw [offs_2]; rfl) | (rw [offs_3]; rfl)) (by decide) (by decide), below_new _⟩
  by_cases h2 : h = 2
  · subst h2
    go_enter Try.func41, Try.ntmps41
    go_wp2
    go_ret2
    exact ⟨_, rfl, pts_lit (by first | (rw [offs_1]; rfl) | (rw [offs_2]; rfl) | (rw [offs_3]; rfl)) (by decide) (by decide), below_new _⟩
  by_cases h3 : h = 3
  · subst h3
    go_enter Try.func41, Try.ntmps41
    go_wp2
    go_ret2
    exact ⟨_, rfl, pts_lit (by first | (rw [offs_1]; rfl) | (rw [offs_2]; rfl) | (rw [offs_3]; rfl)) (by decide) (by decide), below_new _⟩
  rw [offs_bad (by omega), hoodErr_bad (by omega)]
  go_enter Try.func41, Try.ntmps41
  go_wp2
  go_ret2
  exact ⟨_, rfl, World.ownsRow_nil _ _ _ _, Below.refl _ _⟩

end Go.Proofs.Ytigghbehnnghnaa
