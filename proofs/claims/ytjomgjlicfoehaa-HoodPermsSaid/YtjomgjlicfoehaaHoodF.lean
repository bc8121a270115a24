import Derived.Test.YtjomgjlicfoehaaHoodE
namespace Go.Proofs.Ytjomgjlicfoehaa
open Go.RowKit
set_option linter.unusedSimpArgs false
set_option linter.unusedVariables false

theorem own_drewN {w : World} {base : Nat} {e : TypeId} {size : Nat} {v : Value} {n : Nat} {xs : List Value} (h : w.ownsRow base e size v n xs) (m : Nat) : (w.drewN m).ownsRow base e size v n xs := by
  have e1 : (w.drewN m).heap = w.heap := by simp
  unfold World.ownsRow at *
  rw [e1]
  exact h
theorem own_below {w w' : World} {base : Nat} {e : TypeId} {size : Nat} {v : Value} {n : Nat} {xs : List Value} (h : w.ownsRow base e size v n xs) (hb : Below w.heap.size w w') : w'.ownsRow base e size v n xs := by
  refine ⟨h.1, ?_⟩
  rcases h.2 with hn | ⟨g, cap, cur, rfl, hbg, hg, rest⟩
  · exact .inl hn
  · exact .inr ⟨g, cap, cur, rfl, hbg, (hb.block g (Array.getElem?_eq_some_iff.1 hg).1).trans hg, rest⟩

/-- Block g is none of v's. -/
def Off (v : Value) (row : Option Nat) : Prop := ∀ g, v.ownBlock = some g → some g ≠ row

/-- The storing loops: a's first ka places and b's first kb are filled. -/
structure R12 (w : World) (ba bb : Nat) (vw va vb : Value) (L : List (Int × Int)) (ka kb : Nat) (wr : World) : Prop where
  oa : wr.ownsRow ba 30 2 va L.length (ptCells (fillK 50 1 L ka))
  ob : wr.ownsRow bb 30 2 vb L.length (ptCells (fillK 70 2 L kb))
  hw : HasPts wr vw L
  hB : Below w.heap.size w wr
  hz : bb ≤ wr.heap.size

theorem off_none {v : Value} {row : Option Nat} (h : Off v row) : v.ownBlock = none ∨ v.ownBlock ≠ row := by
  cases e : v.ownBlock with
  | none => exact .inl rfl
  | some g => exact .inr (fun e' => h g e e')

theorem R12.stepa {w wr : World} {ba bb : Nat} {vw vb : Value} {L : List (Int × Int)} {k kb g cap : Nat} (h : R12 w ba bb vw (.slice (some ⟨g, 0, none⟩) L.length cap) vb L k kb wr) (hk : k < L.length)
    (hba : w.heap.size ≤ ba) (h1 : Off vw (some g)) (h2 : Off vb (some g)) :
    R12 w ba bb vw (.slice (some ⟨g, 0, none⟩) L.length cap) vb L (k + 1) kb ((wr.setCell ⟨g, k * 2, none⟩ (.int .i64 (50 + (k : Int)))).setCell ⟨g, k * 2 + 1, none⟩ (.int .i64 1)) := by
  obtain ⟨a1, a2⟩ := fill_step (c := 50) (y := 1) hk h.oa
  have hg := h.oa.lt g rfl
  exact ⟨a1, h.ob.kept a2 (off_none h2), h.hw.step a2 h1, h.hB.grown a2 (by omega) (fun k e => by cases e; omega), Nat.le_trans h.hz a2.size⟩
theorem R12.stepb {w wr : World} {ba bb : Nat} {vw va : Value} {L : List (Int × Int)} {k ka g cap : Nat} (h : R12 w ba bb vw va (.slice (some ⟨g, 0, none⟩) L.length cap) L ka k wr) (hk : k < L.length)
    (hba : w.heap.size ≤ bb) (h1 : Off vw (some g)) (h2 : Off va (some g)) :
    R12 w ba bb vw va (.slice (some ⟨g, 0, none⟩) L.length cap) L ka (k + 1) ((wr.setCell ⟨g, k * 2, none⟩ (.int .i64 (70 + (k : Int)))).setCell ⟨g, k * 2 + 1, none⟩ (.int .i64 2)) := by
  obtain ⟨a1, a2⟩ := fill_step (c := 70) (y := 2) hk h.ob
  have hg := h.ob.lt g rfl
  exact ⟨h.oa.kept a2 (off_none h2), a1, h.hw.step a2 h1, h.hB.grown a2 (by omega) (fun k e => by cases e; omega), Nat.le_trans h.hz a2.size⟩

/-- What the next append needs and leaves: the growing row c (over a), the other rows. -/
structure RC (w : World) (S bc : Nat) (vw va vb vc : Value) (L A B C : List (Int × Int)) (wr : World) : Prop where
  oc : wr.ownsRow bc 30 2 vc C.length (ptCells C)
  ha : HasPts wr va A
  hb : HasPts wr vb B
  hw : HasPts wr vw L
  hcb : vc.ownBlock = va.ownBlock ∨ ∀ g, vc.ownBlock = some g → S ≤ g
  hS : S ≤ wr.heap.size
  hB : Below w.heap.size w wr

theorem RC.step {w wr : World} {S bc : Nat} {vw va vb vc : Value} {L A B : List (Int × Int)} {c : Int} {k : Nat} (h : RC w S bc vw va vb vc L A B (A ++ extK c k) wr) (hl : (A ++ extK c k).length ≤ 1000) (o : Obj)
    (hk : (wr.alloc o).cell? ⟨wr.heap.size, 0, none⟩ = some (.int .i64 (c + (k : Int)))) (hk' : (wr.alloc o).cell? ⟨wr.heap.size, 1, none⟩ = some (.int .i64 0))
    (hbc : w.heap.size ≤ bc) (hbS : bc ≤ S) (s1 : ∀ g, va.ownBlock = some g → g < S) (s2 : ∀ g, vb.ownBlock = some g → g < S) (s3 : ∀ g, vw.ownBlock = some g → g < S) (hab : Off vb va.ownBlock) (haw : Off vw va.ownBlock) :
    ∃ v' w', (Builtin.append_ #[22, 22] 22 #[vc, .slice (some ⟨wr.heap.size, 0, none⟩) 1 1]).run Try.prog (wr.alloc o) = .ok v' w' ∧ RC w S bc vw va vb v' L A B (A ++ extK c (k + 1)) w' ∧
      ∀ v n xs b, wr.ownsRow b 30 2 v n xs → (∀ g, v.ownBlock = some g → g < S) → Off v va.ownBlock → w'.ownsRow b 30 2 v n xs := by
  have hS := h.hS
  obtain ⟨v', w', r1, r2, r3⟩ := append_pt (c + (k : Int)) 0 wr.heap.size 22 1 (h.oc.alloc o) hk hk' (by simp; omega) hl
  have e : A ++ extK c (k + 1) = (A ++ extK c k) ++ [(c + (k : Int), 0)] := by rw [extK_succ, List.append_assoc]
  have r2' : w'.ownsRow bc 30 2 v' (A ++ extK c (k + 1)).length (ptCells (A ++ extK c (k + 1))) := by
    rw [e, ptCells_append, List.length_append]
    exact r2
  have hb0 : Below wr.heap.size wr (wr.alloc o) := below_new o
  have ha := h.ha.kept hb0
  have hb := h.hb.kept hb0
  have hw := h.hw.kept hb0
  -- another row's block is not the growing one's
  have off : ∀ u : Value, (∀ g, u.ownBlock = some g → g < S) → Off u va.ownBlock → Off u vc.ownBlock := by
    intro u h1 h2 g hg e'
    rcases h.hcb with h3 | h3
    · exact h2 g hg (e'.trans h3)
    · have := h3 g e'.symm; have := h1 g hg; omega
  have hBn : Below w.heap.size w w' := by
    rcases r3 with ⟨q1, q2⟩ | ⟨q1, q2⟩
    · exact (below_then h.hB hb0 h.hB.size).grown q2 (by have := h.hB.size; simp; omega) (fun g e' => by have := h.oc.lt g e'; omega)
    · exact (below_then h.hB hb0 h.hB.size).grown q2 (by have := h.hB.size; simp; omega) (fun g e' => by cases e')
  have hother : ∀ u l, HasPts (wr.alloc o) u l → (∀ g, u.ownBlock = some g → g < S) → Off u va.ownBlock → HasPts w' u l := by
    intro u l hu h1 h2
    rcases r3 with ⟨q1, q2⟩ | ⟨q1, q2⟩
    · exact hu.step q2 (off u h1 h2)
    · exact hu.step q2 (fun g _ e' => by cases e')
  refine ⟨v', w', r1, ⟨r2', ?_, hother _ _ hb s2 hab, hother _ _ hw s3 haw, ?_, ?_, hBn⟩, ?_⟩
  · rcases r3 with ⟨q1, q2⟩ | ⟨q1, q2⟩
    · rcases h.hcb with h3 | h3
      · exact HasPts.pre r2' ha (q1.trans h3)
      · exact ha.step q2 (fun g hg e' => by have := h3 g e'.symm; have := s1 g hg; omega)
    · exact ha.step q2 (fun g _ e' => by cases e')
  · rcases r3 with ⟨q1, q2⟩ | ⟨q1, q2⟩
    · rw [q1]; exact h.hcb
    · exact .inr (fun g hg => by have := (q1.lt g hg).1; simp at this; omega)
  · rcases r3 with ⟨q1, q2⟩ | ⟨q1, q2⟩
    · have := q2.size; simp at this; omega
    · have := q2.size; simp at this; omega
  · intro v n xs b hv h1 h2
    rcases r3 with ⟨q1, q2⟩ | ⟨q1, q2⟩
    · exact (hv.alloc o).kept q2 (off_none (off v h1 h2))
    · exact (hv.alloc o).kept q2 (off_none (fun g _ e' => by cases e'))

theorem HasPts.x {w : World} {ad : Option Addr} {n cap : Nat} {l : List (Int × Int)} (h : HasPts w (.slice ad n cap) l) (j : Nat) (hj : j < l.length) {x y : Int} (hl : l.getD j (0, 0) = (x, y)) :
    ∃ g, ad = some ⟨g, 0, none⟩ ∧ w.cell? ⟨g, j * 2, none⟩ = some (.int .i64 x) := by
  obtain ⟨ad', cap', hv, hc⟩ := h
  cases hv
  obtain ⟨g, hg, c1, _⟩ := hc j hj
  rw [hl] at c1
  exact ⟨g, hg, c1⟩
end Go.Proofs.Ytjomgjlicfoehaa
