import Derived.Test.YtjomgjlicfoehaaHoodA
import Derived.Test.YtjomgjlicfoehaaIsoF
import Derived.Laws.OwnMore
import Derived.OwnWalk
namespace Go.Proofs.Ytjomgjlicfoehaa
open Go.RowKit
set_option linter.unusedSimpArgs false
set_option linter.unusedVariables false

theorem mask8 (h : Int) : ∃ b0 b1 b2 b3 b4 b5 b6 b7, mask h = [b0, b1, b2, b3, b4, b5, b6, b7] := by
  unfold mask
  split
  · exact ⟨_, _, _, _, _, _, _, _, rfl⟩
  · split
    · exact ⟨_, _, _, _, _, _, _, _, rfl⟩
    · split <;> exact ⟨_, _, _, _, _, _, _, _, rfl⟩

theorem ownsRow_base {w : World} {base base' : Nat} {e : TypeId} {size : Nat} {v : Value} {n : Nat} {xs : List Value} (hb : base' ≤ base) (h : w.ownsRow base e size v n xs) : w.ownsRow base' e size v n xs := by
  refine ⟨h.1, ?_⟩
  rcases h.2 with hn | ⟨g, cap, cur, rfl, hg, rest⟩
  · exact .inl hn
  · exact .inr ⟨g, cap, cur, rfl, Nat.le_trans hb hg, rest⟩

/-- The loop's head in Offsets. -/
def OffRel (w : World) (Bm Ba : Nat) (h : Int) (l i : Value) (wr : World) : Prop :=
  ∃ k : Nat, k ≤ 8 ∧ i = .int .i64 (k : Int) ∧ wr.ownsRow (Ba + 1) 30 2 l (offK h k).length (ptCells (offK h k)) ∧
    (∀ j, j < 8 → wr.cell? ⟨Bm, j, none⟩ = some (.bool (mk h j))) ∧
    (∀ j, j < 8 → wr.cell? ⟨Ba, j * 2, none⟩ = some (.int .i64 (mpt j).1) ∧ wr.cell? ⟨Ba, j * 2 + 1, none⟩ = some (.int .i64 (mpt j).2)) ∧
    Below w.heap.size w wr

theorem off_no {w wr : World} {Bm Ba : Nat} {h : Int} {l : Value} {k : Nat} (o : Obj) (hk : k < 8) (hm : mk h k = false) (h1 : wr.ownsRow (Ba + 1) 30 2 l (offK h k).length (ptCells (offK h k)))
    (h2 : ∀ j, j < 8 → wr.cell? ⟨Bm, j, none⟩ = some (.bool (mk h j)))
    (h3 : ∀ j, j < 8 → wr.cell? ⟨Ba, j * 2, none⟩ = some (.int .i64 (mpt j).1) ∧ wr.cell? ⟨Ba, j * 2 + 1, none⟩ = some (.int .i64 (mpt j).2))
    (h4 : Below w.heap.size w wr) : OffRel w Bm Ba h l (.int .i64 ((k : Int) + 1)) (wr.alloc o).drew := by
  have hb : Below wr.heap.size wr (wr.alloc o).drew := Below.drew (below_new o)
  refine ⟨k + 1, by omega, by go_num, ?_, fun j hj => cell_kept hb (h2 j hj), fun j hj => ⟨cell_kept hb (h3 j hj).1, cell_kept hb (h3 j hj).2⟩, below_then h4 hb h4.size⟩
  rw [offK_no hm]
  exact (h1.alloc o).drew

theorem off_yes {w wr w' : World} {Bm Ba : Nat} {h : Int} {l l' : Value} {k : Nat} (o o' : Obj) (hk : k < 8) (hm : mk h k = true) (hBm : Bm ≤ Ba) (hw : w.heap.size ≤ Bm) (h1 : wr.ownsRow (Ba + 1) 30 2 l (offK h k).length (ptCells (offK h k)))
    (h2 : ∀ j, j < 8 → wr.cell? ⟨Bm, j, none⟩ = some (.bool (mk h j)))
    (h3 : ∀ j, j < 8 → wr.cell? ⟨Ba, j * 2, none⟩ = some (.int .i64 (mpt j).1) ∧ wr.cell? ⟨Ba, j * 2 + 1, none⟩ = some (.int .i64 (mpt j).2))
    (h4 : Below w.heap.size w wr)
    (g1 : w'.ownsRow (Ba + 1) 30 2 l' ((offK h k).length + 1) (ptCells (offK h k) ++ [.int .i64 (mpt k).1, .int .i64 (mpt k).2])) (g2 : ((wr.alloc o).drew.alloc o').grownBy w' l.ownBlock) :
    OffRel w Bm Ba h l' (.int .i64 ((k : Int) + 1)) w' := by
  have hb : Below wr.heap.size wr ((wr.alloc o).drew.alloc o') := Below.alloc (Below.drew (below_new o)) (by simp) _
  have hne : ∀ b, b ≤ Ba → some b ≠ l.ownBlock := fun b hb' e => by have := h1.lt b e.symm; omega
  refine ⟨k + 1, by omega, by go_num, ?_, fun j hj => g2.cell (cell_kept hb (h2 j hj)) (hne _ hBm), fun j hj => ⟨g2.cell (cell_kept hb (h3 j hj).1) (hne _ (Nat.le_refl _)), g2.cell (cell_kept hb (h3 j hj).2) (hne _ (Nat.le_refl _))⟩, ?_⟩
  · rw [offK_yes hm, List.length_append, ptCells_append]
    exact g1
  · exact Below.grown (below_then h4 hb h4.size) g2 (by have := h4.size; simp; omega) (fun b e => by have := h1.lt b e; omega)

set_option maxHeartbeats 4000000 in
set_option maxRecDepth 20000 in
theorem offsets_good {h : Int} (hh : h = 1 ∨ h = 2 ∨ h = 3) (w : World) :
    Calls Try.prog 22 #[.int .u8 h] w fun e w' => ∃ v, e = .returned (.tuple #[v, .int .i64 0]) ∧ w'.ownsRow w.heap.size 30 2 v (offs h).length (ptCells (offs h)) ∧ Below w.heap.size w w' := by
  obtain ⟨b0, b1, b2, b3, b4, b5, b6, b7, hmask⟩ := mask8 h
  have K10 := fun W => within_any h W
  have K20 := fun W => all_any W
  have he : hoodErr h = 0 := by unfold hoodErr; rw [if_pos hh]
  rw [hmask, he] at K10
  simp only [bits, ptCells, moore, List.map_cons, List.map_nil, List.flatMap_cons, List.flatMap_nil, List.cons_append, List.nil_append] at K10 K20
  have hmk : (mk h 0 = b0 ∧ mk h 1 = b1 ∧ mk h 2 = b2 ∧ mk h 3 = b3) ∧ (mk h 4 = b4 ∧ mk h 5 = b5 ∧ mk h 6 = b6 ∧ mk h 7 = b7) := by simp [mk, hmask]
  have HM := Lib.hid hmk
  have K1 := Lib.hid K10
  have K2 := Lib.hid K20
  clear hmask hmk K10 K20 he
  obtain ⟨i0, hi, hz0, hz1, hz2⟩ := info_parts info30
  have hi' := Lib.hid hi
  clear hi
  go_enter Try.func22, Try.ntmps22
  go_wp2_with fail
  refine (K1.out _).mono ?_
  rintro e w1 ⟨rfl, hb⟩
  have hB1 := Lib.hid hb
  have hs1 : w.heap.size ≤ w1.heap.size := hb.size
  clear hb
  go_wp2_with fail
  refine (K2.out _).mono ?_
  rintro e w2 ⟨rfl, hb⟩
  obtain ⟨hc2, hf2⟩ := bcell hb
  have hs2 : w1.heap.size < w2.heap.size := by have := hb.size; (try simp at this); omega
  have hB2 := Lib.hid (below_then (B := w.heap.size) (w := w) (Below.alloc hB1.out hs1 _) hb (by simp; omega))
  clear hb
  go_wp2
  go_loopw [7, 20] (fun l i wr => OffRel w w1.heap.size w2.heap.size h l i wr) (fun _ i _ => 8 - (intOf i).toNat)
  case atStart =>
    refine ⟨0, by omega, by go_num, World.ownsRow_nil _ _ _ _, ?_, ?_, ?_⟩
    · obtain ⟨⟨m0, m1, m2, m3⟩, m4, m5, m6, m7⟩ := HM.out
      intro j hj
      match j, hj with
      | 0, _ => rw [m0]; go_simp
      | 1, _ => rw [m1]; go_simp
      | 2, _ => rw [m2]; go_simp
      | 3, _ => rw [m3]; go_simp
      | 4, _ => rw [m4]; go_simp
      | 5, _ => rw [m5]; go_simp
      | 6, _ => rw [m6]; go_simp
      | 7, _ => rw [m7]; go_simp
    · intro j hj
      match j, hj with
      | 0, _ => exact ⟨by go_simp; rfl, by go_simp; rfl⟩
      | 1, _ => exact ⟨by go_simp; rfl, by go_simp; rfl⟩
      | 2, _ => exact ⟨by go_simp; rfl, by go_simp; rfl⟩
      | 3, _ => exact ⟨by go_simp; rfl, by go_simp; rfl⟩
      | 4, _ => exact ⟨by go_simp; rfl, by go_simp; rfl⟩
      | 5, _ => exact ⟨by go_simp; rfl, by go_simp; rfl⟩
      | 6, _ => exact ⟨by go_simp; rfl, by go_simp; rfl⟩
      | 7, _ => exact ⟨by go_simp; rfl, by go_simp; rfl⟩
    · exact Below.alloc hB2.out (by have := hB2.out.size; omega) _
  case round =>
    obtain ⟨k, hk, rfl, hown, hm, hp, hBel⟩ := hrel
    clear hc2 hf2
    have hB0 := Lib.hid hBel
    have hO := Lib.hid hown
    have hM := Lib.hid hm
    have hP := Lib.hid hp
    clear hBel hown hm hp
    by_cases hlt : k < 8
    · have mk' := hM.out k hlt
      obtain ⟨p1, p2⟩ := hP.out k hlt
      have hml := World.block_lt_of_cell? wr _ mk'
      have hpl := World.block_lt_of_cell? wr _ p1
      have hne : w1.heap.size ≠ w2.heap.size := by omega
      generalize hX : (mpt k).1 = X at *
      generalize hY : (mpt k).2 = Y at *
      have hX' := Lib.hid hX
      have hY' := Lib.hid hY
      clear hX hY
      cases hb : mk h k with
      | false =>
        rw [hb] at mk'
        go_wp2
        go_region
        go_wp2
        refine ⟨?_, by simp [intOf]; omega⟩
        exact off_no _ hlt hb hO.out hM.out hP.out hB0.out
      | true =>
        rw [hb] at mk'
        go_wp2
        go_region
        have hlen := offK_len h k
        go_wp2_with (first
          | (at_builtin; refine wpList_append_own _ rfl _ _ 22 rfl (w2.heap.size + 1) 30 i0 _ 2 16 Try.underlying22 hi'.out hz0 hz1 hz2 rfl (by decide) _ _ _ rfl ((hO.out.alloc _).drew.alloc _) ⟨wr.heap.size + 1, 0, none⟩ 1 1 [.int .i64 X, .int .i64 Y] rfl rfl ?c1 ?c2 ?c3 ?c4 ?c5 ?_)
          | go_in)
        case c1 =>
          intro j u hj
          match j, hj with
          | 0, hj => simp at hj; subst hj; simp [Addr.add]
          | 1, hj => simp at hj; subst hj; simp [Addr.add]
        case c2 => intro u hu; simp at hu; rcases hu with rfl | rfl <;> rfl
        case c3 => unfold maxLen; omega
        case c4 => omega
        case c5 => have := hs2; simp; omega
        intro v' w3 hown' hgrow _
        have R := off_yes (w := w) (Bm := w1.heap.size) (l' := v') _ _ hlt hb (by omega) hs1 hO.out hM.out hP.out hB0.out (by rw [hX'.out, hY'.out]; exact hown') hgrow
        have R' := Lib.hid R
        clear hown' hgrow R
        go_wp2
        exact ⟨R'.out, by simp [intOf]; omega⟩
    · obtain rfl : k = 8 := by omega
      go_wp2
      go_ret2
      exact ⟨_, rfl, ownsRow_base (by have := hB2.out.size; omega) hO.out, hB0.out⟩
end Go.Proofs.Ytjomgjlicfoehaa
