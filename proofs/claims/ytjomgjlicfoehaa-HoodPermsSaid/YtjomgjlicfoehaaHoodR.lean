import Derived.Test.YtjomgjlicfoehaaHoodQ
import Derived.Test.YtjomgjlicfoehaaHoodF
namespace Go.Proofs.Ytjomgjlicfoehaa
open Go.RowKit Flt
set_option linter.unusedSimpArgs false
set_option linter.unusedVariables false

theorem info78' : (Try.prog.info? 78).map (fun i => (i.zero, i.size, i.bytes)) = some (some (.slice none 0 0), 1, 24) := by kernel_rfl

/-- Appending one slice to a row of slices. -/
theorem append_sl {W : World} {base : Nat} {v : Value} {n : Nat} {xs : List Value} (u : Value) (hu : u.oneCell' = true) (b ty c : Nat) (hown : W.ownsRow base 78 1 v n xs) (h1 : W.cell? ⟨b, 0, none⟩ = some u)
    (hbase : base ≤ W.heap.size) (hn : n ≤ 1000) :
    ∃ v' w', (Builtin.append_ #[87, 87] ty #[v, .slice (some ⟨b, 0, none⟩) 1 c]).run Try.prog W = .ok v' w' ∧ w'.ownsRow base 78 1 v' (n + 1) (xs ++ [u]) ∧
      ((v'.ownBlock = v.ownBlock ∧ W.grownBy w' v.ownBlock) ∨ (w'.ownsRow W.heap.size 78 1 v' (n + 1) (xs ++ [u]) ∧ W.grownBy w' none)) := by
  obtain ⟨i0, hi, hz0, hz1, hz2⟩ := info_parts info78'
  have hnews : ∀ j x, ([u] : List Value)[j]? = some x → W.cell? ((⟨b, 0, none⟩ : Addr).add j) = some x := by
    intro j x hj
    match j, hj with
    | 0, hj => simp at hj; subst hj; simpa [Addr.add] using h1
  have hcell : ∀ x ∈ ([u] : List Value), x.oneCell' = true := by intro x hx; simp at hx; subst hx; exact hu
  rcases hown.2 with ⟨rfl, rfl⟩ | ⟨g, cap, cur, rfl, hg, hb, hnc, hcm, hcs, htake⟩
  · have hxs : xs = [] := by have := hown.1; simpa using this
    subst hxs
    obtain ⟨v', w', r1, r2, r3, _⟩ := run_append_own (P := Try.prog) W W.heap.size 87 ty 78 i0 _ 1 24 Try.underlying87 hi hz0 hz1 hz2 rfl (by decide) (.slice none 0 0) 0 [] (World.ownsRow_nil _ _ _ _) ⟨b, 0, none⟩ 1 c _ rfl hnews hcell (by unfold maxLen; omega) (by omega) (Nat.le_refl _)
    exact ⟨v', w', r1, ownsRow_base hbase r2, .inr ⟨r2, r3⟩⟩
  · by_cases hroom : n + 1 ≤ cap
    · obtain ⟨w', r1, r2, r3⟩ := run_append_fits (P := Try.prog) W base 87 ty 78 i0 1 Try.underlying87 hi hz1 g n cap xs hown ⟨b, 0, none⟩ 1 c _ rfl hnews hcell hroom
      exact ⟨_, w', r1, r2, .inl ⟨rfl, r3⟩⟩
    · obtain ⟨v', w', r1, r2, r3⟩ := run_append_arg_grows (P := Try.prog) W 87 ty 78 i0 _ 1 24 Try.underlying87 hi hz0 hz1 hz2 rfl (by decide) ⟨g, 0, none⟩ n cap xs hown.1 (by
          intro j x hj
          have hj' : j < n * 1 := by
            have := List.getElem?_eq_some_iff.1 hj
            obtain ⟨h', _⟩ := this
            rw [hown.1] at h'
            exact h'
          have := hown.cellAt j hj'
          rw [hj] at this
          cases j <;> simpa [Addr.add] using this) ⟨b, 0, none⟩ 1 c _ rfl hnews (by omega) (by unfold maxLen; omega) (by omega)
      exact ⟨v', w', r1, ownsRow_base hbase r2, .inr ⟨r2, r3⟩⟩

theorem HasInts.stepg {W w' : World} {v : Value} {l : List Int} {row : Option Nat} (h : HasInts W v l) (hg : W.grownBy w' row) (hne : Off v row) : HasInts w' v l := by
  obtain ⟨ad, cap, rfl, hc⟩ := h
  refine ⟨ad, cap, rfl, fun j hj => ?_⟩
  obtain ⟨g, rfl, c1⟩ := hc j hj
  exact ⟨g, rfl, hg.cell c1 (hne g rfl)⟩
theorem HasInts.drawn {W : World} {v : Value} {l : List Int} (h : HasInts W v l) (m : Nat) : HasInts (W.drewN m) v l := by
  obtain ⟨ad, cap, rfl, hc⟩ := h
  refine ⟨ad, cap, rfl, fun j hj => ?_⟩
  obtain ⟨g, rfl, c1⟩ := hc j hj
  exact ⟨g, rfl, by go_simp⟩
/-- The first numbers of a longer row in the same block. -/
theorem HasInts.pre {w : World} {base : Nat} {v v' : Value} {l m : List Int} {w0 : World} (h : w.ownsRow base 3 1 v' (l ++ m).length ((l ++ m).map (Value.int .i64))) (hv : HasInts w0 v l) (hb : v'.ownBlock = v.ownBlock) : HasInts w v l := by
  obtain ⟨ad, cap, rfl, hc⟩ := hv
  obtain ⟨ad', cap', rfl, hc'⟩ := HasInts.own h
  refine ⟨ad, cap, rfl, fun j hj => ?_⟩
  obtain ⟨g, rfl, _⟩ := hc j hj
  obtain ⟨g', hg', c1⟩ := hc' j (by rw [List.length_append]; omega)
  subst hg'
  have : g' = g := by simpa [Value.ownBlock] using hb
  subst this
  have e : (l ++ m).getD j 0 = l.getD j 0 := by
    rw [List.getD_eq_getElem?_getD, List.getD_eq_getElem?_getD, List.getElem?_append_left hj]
  rw [e] at c1
  exact ⟨g', rfl, c1⟩

/-! ### Filled and grown rows of numbers -/
def fillI (c : Int) (L : List Int) (k : Nat) : List Int := (List.range L.length).map fun j => if j < k then c + (j : Int) else L.getD j 0
theorem fillI_len (c : Int) (L : List Int) (k : Nat) : (fillI c L k).length = L.length := by simp [fillI]
theorem fillI_zero (c : Int) (L : List Int) : fillI c L 0 = L := by
  apply List.ext_getElem
  · simp [fillI]
  · intro j h1 h2
    simp [fillI, h2]
theorem fillI_succ (c : Int) (L : List Int) {k : Nat} (hk : k < L.length) : fillI c L (k + 1) = (fillI c L k).set k (c + (k : Int)) := by
  apply List.ext_getElem
  · simp [fillI]
  · intro j h1 h2
    simp only [fillI, List.getElem_map, List.getElem_range, List.getElem_set]
    by_cases e : k = j
    · subst e; simp
    · rw [if_neg e]
      by_cases h : j < k
      · rw [if_pos h, if_pos (by omega)]
      · rw [if_neg h, if_neg (by omega)]
theorem fillI_get (c : Int) (L : List Int) {j : Nat} (hj : j < L.length) : (fillI c L L.length).getD j 0 = c + (j : Int) := by
  simp [fillI, hj]
def extI (c : Int) (k : Nat) : List Int := (List.range k).map fun j : Nat => c + (j : Int)
theorem extI_len (c : Int) (k : Nat) : (extI c k).length = k := by simp [extI]
theorem extI_succ (c : Int) (k : Nat) : extI c (k + 1) = extI c k ++ [c + (k : Int)] := by simp [extI, List.range_succ]
theorem extI_get (l : List Int) (c : Int) (k : Nat) {j : Nat} (hj : j < k) : (l ++ extI c k).getD (l.length + j) 0 = c + (j : Int) := by
  rw [List.getD_eq_getElem?_getD, List.getElem?_append_right (by omega)]
  simp [extI, hj]
theorem preI_get (l : List Int) (c : Int) (k : Nat) {j : Nat} (hj : j < l.length) : (l ++ extI c k).getD j 0 = l.getD j 0 := by
  rw [List.getD_eq_getElem?_getD, List.getD_eq_getElem?_getD, List.getElem?_append_left hj]

/-! ### Four rows of memory of their own -/
structure Rows4 (w : World) (Z A : Nat) (row : Nat → Value) (L : Nat → List Int) (S : Nat → Nat) (u v : Value) : Prop where
  len : ∀ j, j < 4 → (L j).length ≤ 8
  base : ∀ j, j < 4 → w.heap.size ≤ S j
  hS : ∀ j, j < 4 → S j ≤ Z
  blk : ∀ j, j < 4 → ∀ g, (row j).ownBlock = some g → g < Z ∧ g ≠ A
  off : ∀ j r, j < 4 → r < 4 → j ≠ r → Off (row j) (row r).ownBlock
  offu : ∀ r, r < 4 → Off u (row r).ownBlock
  offv : ∀ r, r < 4 → Off v (row r).ownBlock
  bu : ∀ g, u.ownBlock = some g → g < Z
  bv : ∀ g, v.ownBlock = some g → g < Z
  hA : A < Z

def fillTo (i k : Nat) (L : Nat → List Int) (j : Nat) : List Int := fillI (100 * (j : Int) + 50) (L j) (if j < i then (L j).length else if j = i then k else 0)
structure FR (w : World) (A : Nat) (row : Nat → Value) (L : Nat → List Int) (S : Nat → Nat) (u v : Value) (U V : List Int) (Z i k : Nat) (wr : World) : Prop where
  own : ∀ j, j < 4 → wr.ownsRow (S j) 3 1 (row j) (L j).length ((fillTo i k L j).map (Value.int .i64))
  hu : HasInts wr u U
  hv : HasInts wr v V
  al : ∀ j, j < 4 → wr.cell? ⟨A, j, none⟩ = some (row j)
  hB : Below w.heap.size w wr
  hZ : Z ≤ wr.heap.size

theorem FR.next {w wr : World} {A : Nat} {row : Nat → Value} {L : Nat → List Int} {S : Nat → Nat} {u v : Value} {U V : List Int} {Z i : Nat} (h : FR w A row L S u v U V Z i (L i).length wr) : FR w A row L S u v U V Z (i + 1) 0 wr := by
  refine ⟨fun j hj => ?_, h.hu, h.hv, h.al, h.hB, h.hZ⟩
  have h1 := h.own j hj
  have : fillTo i (L i).length L j = fillTo (i + 1) 0 L j := by
    unfold fillTo
    congr 1
    by_cases e : j < i
    · rw [if_pos e, if_pos (by omega)]
    · by_cases e' : j = i
      · subst e'; rw [if_neg e, if_pos rfl, if_pos (by omega)]
      · rw [if_neg e, if_neg e', if_neg (by omega)]
        by_cases e2 : j = i + 1
        · rw [if_pos e2]
        · rw [if_neg e2]
  rw [← this]
  exact h1
theorem FR.shape {w wr : World} {A : Nat} {row : Nat → Value} {L : Nat → List Int} {S : Nat → Nat} {u v : Value} {U V : List Int} {Z i k : Nat} (h : FR w A row L S u v U V Z i k wr) (hi : i < 4) (hk : k < (L i).length) {ad : Option Addr} {cap : Nat} (hrow : row i = .slice ad (L i).length cap) :
    ∃ g, ad = some ⟨g, 0, none⟩ ∧ wr.cell? ⟨g, k, none⟩ = some (.int .i64 ((fillTo i k L i).getD k 0)) ∧ wr.frozen? ⟨g, k, none⟩ = false := by
  have h1 := h.own i hi
  rcases h1.2 with ⟨_, hn⟩ | ⟨g, c, cur, hv, _⟩
  · omega
  · rw [hrow] at hv
    cases hv
    rw [hrow] at h1
    refine ⟨g, rfl, ?_, h1.frozenAt k⟩
    rw [h1.cellAt k (by omega)]
    have hlen : k < (fillTo i k L i).length := by unfold fillTo; rw [fillI_len]; exact hk
    simp [hlen]
theorem FR.store {w wr : World} {A : Nat} {row : Nat → Value} {L : Nat → List Int} {S : Nat → Nat} {u v : Value} {U V : List Int} {Z i k : Nat} (h : FR w A row L S u v U V Z i k wr) (R : Rows4 w Z A row L S u v) (hi : i < 4) (hk : k < (L i).length)
    {g cap : Nat} (hrow : row i = .slice (some ⟨g, 0, none⟩) (L i).length cap) : FR w A row L S u v U V Z i (k + 1) (wr.setCell ⟨g, k, none⟩ (.int .i64 (100 * (i : Int) + 50 + (k : Int)))) := by
  have h1 := h.own i hi
  rw [hrow] at h1
  obtain ⟨a1, a2⟩ := h1.stored k (.int .i64 (100 * (i : Int) + 50 + (k : Int)))
  have hgr : (row i).ownBlock = some g := by rw [hrow]; rfl
  have hgb := h1.lt g rfl
  refine ⟨fun j hj => ?_, h.hu.stepg a2 (by rw [← hgr]; exact R.offu i hi), h.hv.stepg a2 (by rw [← hgr]; exact R.offv i hi), fun j hj => ?_, h.hB.grown a2 (by have := R.base i hi; omega) (fun q e => by cases e; have := R.base i hi; omega), Nat.le_trans h.hZ a2.size⟩
  · by_cases e : j = i
    · subst e
      have e1 : fillTo j (k + 1) L j = (fillTo j k L j).set k (100 * (j : Int) + 50 + (k : Int)) := by
        unfold fillTo
        simp only [Nat.lt_irrefl, if_false, if_true]
        exact fillI_succ _ _ hk
      rw [e1, List.map_set, hrow]
      exact a1
    · have e1 : fillTo i (k + 1) L j = fillTo i k L j := by unfold fillTo; rw [if_neg e, if_neg e]
      rw [e1]
      exact (h.own j hj).kept a2 (off_none (by rw [← hgr]; exact R.off j i hj hi e))
  · exact a2.cell (h.al j hj) (fun e => (R.blk i hi g hgr).2 (Option.some.inj e).symm)

/-! ### Growing -/
def grI (i : Nat) (F : List Int) (k : Nat) : List Int := F ++ extI (1000 * (i : Int) + 500) k
structure IG (wi : World) (Sb : Nat) (va : Value) (F : List Int) (i k : Nat) (vc : Value) (wr : World) : Prop where
  oc : wr.ownsRow Sb 3 1 vc (grI i F k).length ((grI i F k).map (Value.int .i64))
  ha : HasInts wr va F
  hcb : vc.ownBlock = va.ownBlock ∨ ∀ g, vc.ownBlock = some g → wi.heap.size ≤ g
  hg : wi.grownBy wr va.ownBlock
theorem grownBy_trans_new {w a b : World} {row row' : Option Nat} (h : w.grownBy a row) (k : a.grownBy b row') (hr : row' = row ∨ row' = none ∨ ∀ g, row' = some g → w.heap.size ≤ g) : w.grownBy b row := by
  refine ⟨k.os.trans h.os, k.tape.trans h.tape, k.output.trans h.output, Nat.le_trans h.size k.size, fun i hi hne => ?_⟩
  refine (k.block i (Nat.lt_of_lt_of_le hi h.size) ?_).trans (h.block i hi hne)
  intro e
  rcases hr with rfl | rfl | hr
  · exact hne e
  · cases e
  · have := hr i e.symm; omega
theorem grownBy_refl (w : World) (row : Option Nat) : w.grownBy w row := ⟨rfl, rfl, rfl, Nat.le_refl _, fun _ _ _ => rfl⟩
theorem grownBy_alloc (w : World) (o : Obj) (row : Option Nat) : w.grownBy (w.alloc o) row :=
  ⟨rfl, rfl, rfl, by simp, fun k hk _ => Below.heap_alloc _ _ _ (by omega)⟩

theorem IG.step {w wi wr : World} {Sb : Nat} {va vc : Value} {F : List Int} {i k : Nat} (h : IG wi Sb va F i k vc wr) (hl : (grI i F k).length ≤ 1000) (o : Obj) (hk : (wr.alloc o).cell? ⟨wr.heap.size, 0, none⟩ = some (.int .i64 (1000 * (i : Int) + 500 + (k : Int))))
    (hSb : Sb ≤ wi.heap.size) (hva : ∀ g, va.ownBlock = some g → g < wi.heap.size) :
    ∃ v' w', (Builtin.append_ #[78, 78] 78 #[vc, .slice (some ⟨wr.heap.size, 0, none⟩) 1 1]).run Try.prog (wr.alloc o) = .ok v' w' ∧ IG wi Sb va F i (k + 1) v' w' := by
  have hsz := h.hg.size
  obtain ⟨v', w', r1, r2, r3⟩ := append_int (1000 * (i : Int) + 500 + (k : Int)) wr.heap.size 78 1 (h.oc.alloc o) hk (by simp; omega) hl
  have e : grI i F (k + 1) = grI i F k ++ [1000 * (i : Int) + 500 + (k : Int)] := by unfold grI; rw [extI_succ, List.append_assoc]
  have r2' : w'.ownsRow Sb 3 1 v' (grI i F (k + 1)).length ((grI i F (k + 1)).map (Value.int .i64)) := by
    rw [e, List.map_append, List.length_append]
    exact r2
  have h0 : wi.grownBy (wr.alloc o) va.ownBlock := grownBy_trans_new h.hg (grownBy_alloc wr o va.ownBlock) (.inl rfl)
  have ha0 : HasInts (wr.alloc o) va F := h.ha.kept (below_new o)
  rcases r3 with ⟨q1, q2⟩ | ⟨q1, q2⟩
  · refine ⟨v', w', r1, r2', ?_, ?_, ?_⟩
    · rcases h.hcb with h3 | h3
      · exact HasInts.pre (l := F) (m := extI (1000 * (i : Int) + 500) (k + 1)) r2' ha0 (q1.trans h3)
      · exact ha0.stepg q2 (fun g hg e' => by have := h3 g e'.symm; have := hva g hg; omega)
    · rw [q1]; exact h.hcb
    · refine grownBy_trans_new h0 q2 ?_
      rcases h.hcb with h3 | h3
      · exact .inl h3
      · exact .inr (.inr h3)
  · refine ⟨v', w', r1, r2', ha0.stepg q2 (fun g _ e' => by cases e'), .inr (fun g hg => ?_), grownBy_trans_new h0 q2 (.inr (.inl rfl))⟩
    have := (q1.lt g hg).1
    simp at this
    omega

structure GR (w : World) (Z A : Nat) (row : Nat → Value) (F : Nat → List Int) (S : Nat → Nat) (u v : Value) (U V : List Int) (i : Nat) (G : Nat → Value) (vg : Value) (wr : World) : Prop where
  own : ∀ j, i ≤ j → j < 4 → wr.ownsRow (S j) 3 1 (row j) (F j).length ((F j).map (Value.int .i64))
  rd : ∀ j, j < 4 → HasInts wr (row j) (F j)
  gr : ∀ j, j < i → HasInts wr (G j) (grI j (F j) 12)
  og : wr.ownsRow Z 78 1 vg i ((List.range i).map G)
  offr : ∀ j, j < i → ∀ r, i ≤ r → r < 4 → Off (G j) (row r).ownBlock
  offg : ∀ j, j < i → Off (G j) vg.ownBlock
  hu : HasInts wr u U
  hv : HasInts wr v V
  al : ∀ j, j < 4 → wr.cell? ⟨A, j, none⟩ = some (row j)
  hB : Below w.heap.size w wr
  hZ : Z ≤ wr.heap.size

theorem GR.start {w wr : World} {Z A i : Nat} {row : Nat → Value} {F : Nat → List Int} {S : Nat → Nat} {u v : Value} {U V : List Int} {G : Nat → Value} {vg : Value} (h : GR w Z A row F S u v U V i G vg wr) (hi : i < 4) : IG wr (S i) (row i) (F i) i 0 (row i) wr :=
  ⟨by rw [show grI i (F i) 0 = F i from by simp [grI, extI]]; exact h.own i (Nat.le_refl _) hi, h.rd i hi, .inl rfl, grownBy_refl _ _⟩
theorem hasInts_lt {w : World} {v : Value} {l : List Int} (h : HasInts w v l) (hl : l ≠ []) : ∀ g, v.ownBlock = some g → g < w.heap.size := by
  obtain ⟨ad, cap, rfl, hc⟩ := h
  have : 0 < l.length := List.length_pos_iff.2 hl
  obtain ⟨g, rfl, c1⟩ := hc 0 this
  intro g' hg'
  have : g = g' := by simpa [Value.ownBlock] using hg'
  subst this
  exact World.block_lt_of_cell? w _ c1
theorem grI_ne (i : Nat) (F : List Int) : grI i F 12 ≠ [] := by
  intro e
  have := congrArg List.length e
  simp [grI, extI] at this

theorem GR.next {w wi wr : World} {Z A i : Nat} {row : Nat → Value} {L F : Nat → List Int} {S : Nat → Nat} {u v : Value} {U V : List Int} {G : Nat → Value} {vg vc : Value} (h : GR w Z A row F S u v U V i G vg wi) (R : Rows4 w Z A row L S u v) (hw : w.heap.size ≤ Z) (hi : i < 4) (k : IG wi (S i) (row i) (F i) i 12 vc wr) (o : Obj)
    (ho : (wr.alloc o).cell? ⟨wr.heap.size, 0, none⟩ = some vc) :
    ∃ v' w' G', (Builtin.append_ #[87, 87] 87 #[vg, .slice (some ⟨wr.heap.size, 0, none⟩) 1 1]).run Try.prog (wr.alloc o) = .ok v' w' ∧ GR w Z A row F S u v U V (i + 1) G' v' w' := by
  have hg0 : wi.grownBy (wr.alloc o) (row i).ownBlock := grownBy_trans_new k.hg (grownBy_alloc wr o (row i).ownBlock) (.inl rfl)
  have hsz := k.hg.size
  have hZ := h.hZ
  -- vg's block is not row i's
  have hvg : Off vg (row i).ownBlock := fun g hg e => by have := (h.og.lt g hg).1; have := (R.blk i hi g e.symm).1; omega
  have og1 := h.og.kept hg0 (off_none hvg)
  have hone : vc.oneCell' = true := by obtain ⟨ad, cap, rfl⟩ := own_shape k.oc; rfl
  obtain ⟨v', w', r1, r2, r3⟩ := append_sl vc hone wr.heap.size 87 1 og1 ho (by simp; omega) (by omega)
  -- what lies outside row i and vg
  have keep : ∀ (q : Value) (l : List Int), HasInts wi q l → Off q (row i).ownBlock → Off q vg.ownBlock → HasInts w' q l := by
    intro q l hq h1 h2
    have hq1 := hq.stepg hg0 h1
    rcases r3 with ⟨_, q2⟩ | ⟨_, q2⟩
    · exact hq1.stepg q2 h2
    · exact hq1.stepg q2 (fun g _ e => by cases e)
  have lowg : ∀ q : Value, (∀ g, q.ownBlock = some g → g < Z) → Off q vg.ownBlock := fun q hq g hg e => by have := hq g hg; have := (h.og.lt g e.symm).1; omega
  have hcg : Off vc vg.ownBlock := by
    intro g hg e
    rcases k.hcb with h3 | h3
    · exact hvg g e.symm (hg.symm.trans h3)
    · have := h3 g hg; have := (h.og.lt g e.symm).2; omega
  have hvc : HasInts w' vc (grI i (F i) 12) := by
    have hq1 := (HasInts.own k.oc).kept (below_new o)
    rcases r3 with ⟨_, q2⟩ | ⟨_, q2⟩
    · exact hq1.stepg q2 hcg
    · exact hq1.stepg q2 (fun g _ e => by cases e)
  have hva : HasInts w' (row i) (F i) := by
    have hq1 := k.ha.kept (below_new o)
    have := lowg (row i) (fun g hg => (R.blk i hi g hg).1)
    rcases r3 with ⟨_, q2⟩ | ⟨_, q2⟩
    · exact hq1.stepg q2 this
    · exact hq1.stepg q2 (fun g _ e => by cases e)
  have hvl : ∀ g, vc.ownBlock = some g → g < wr.heap.size := hasInts_lt (HasInts.own k.oc) (grI_ne _ _)
  have hsz2 : wr.heap.size ≤ w'.heap.size := by rcases r3 with ⟨_, q2⟩ | ⟨_, q2⟩ <;> (have := q2.size; simp at this; omega)
  refine ⟨v', w', fun j => if j = i then vc else G j, r1, ?_, ?_, ?_, ?_, ?_, ?_, ?_, ?_, ?_, ?_, ?_⟩
  · intro j hj hj4
    have h1 : Off (row j) (row i).ownBlock := R.off j i hj4 hi (by omega)
    have o1 := (h.own j (by omega) hj4).kept hg0 (off_none h1)
    have h2 := lowg (row j) (fun g hg => (R.blk j hj4 g hg).1)
    rcases r3 with ⟨_, q2⟩ | ⟨_, q2⟩
    · exact o1.kept q2 (off_none h2)
    · exact o1.kept q2 (off_none (fun g _ e => by cases e))
  · intro j hj
    by_cases e : j = i
    · subst e; exact hva
    · exact keep _ _ (h.rd j hj) (R.off j i hj hi e) (lowg _ (fun g hg => (R.blk j hj g hg).1))
  · intro j hj
    by_cases e : j = i
    · subst e; simp only [if_true]; exact hvc
    · simp only [if_neg e]
      exact keep _ _ (h.gr j (by omega)) (h.offr j (by omega) i (Nat.le_refl _) hi) (h.offg j (by omega))
  · have e1 : (List.range (i + 1)).map (fun j => if j = i then vc else G j) = (List.range i).map G ++ [vc] := by
      have e2 : (List.range i).map (fun j => if j = i then vc else G j) = (List.range i).map G := List.map_congr_left (fun j hj => by
        rw [if_neg (by have := List.mem_range.1 hj; omega)])
      have e3 : [i].map (fun j => if j = i then vc else G j) = [vc] := by
        show [if i = i then vc else G i] = [vc]
        rw [if_pos rfl]
      rw [List.range_succ, List.map_append, e2, e3]
    rw [e1]
    exact r2
  · intro j hj r hr hr4
    by_cases e : j = i
    · subst e
      simp only [if_true]
      intro g hg e'
      rcases k.hcb with h3 | h3
      · exact R.off j r hi hr4 (by omega) g (h3.symm.trans hg) e'
      · have := h3 g hg; have := (R.blk r hr4 g e'.symm).1; omega
    · simp only [if_neg e]
      exact h.offr j (by omega) r (by omega) hr4
  · intro j hj
    have hlt : ∀ g, (if j = i then vc else G j).ownBlock = some g → g < wr.heap.size := by
      by_cases e : j = i
      · simp only [if_pos e]; exact hvl
      · simp only [if_neg e]
        intro g hg
        have := hasInts_lt (h.gr j (by omega)) (grI_ne _ _) g hg
        omega
    have hoff : Off (if j = i then vc else G j) vg.ownBlock := by
      by_cases e : j = i
      · simp only [if_pos e]; exact hcg
      · simp only [if_neg e]; exact h.offg j (by omega)
    intro g hg e
    rcases r3 with ⟨q1, _⟩ | ⟨q1, _⟩
    · exact hoff g hg (e.trans q1)
    · have h5 := (q1.lt g e.symm).1
      have h6 := hlt g hg
      simp at h5
      omega
  · exact keep _ _ h.hu (R.offu i hi) (lowg _ R.bu)
  · exact keep _ _ h.hv (R.offv i hi) (lowg _ R.bv)
  · intro j hj
    have c1 := hg0.cell (h.al j hj) (fun e => (R.blk i hi A e.symm).2 rfl)
    rcases r3 with ⟨_, q2⟩ | ⟨_, q2⟩
    · exact q2.cell c1 (fun e => by have := (h.og.lt A e.symm).1; have := R.hA; omega)
    · exact q2.cell c1 (fun e => by cases e)
  · have b1 : Below w.heap.size w (wr.alloc o) := h.hB.grown hg0 (by omega) (fun g e => by have := (h.own i (Nat.le_refl _) hi).lt g e; have := R.base i hi; omega)
    rcases r3 with ⟨_, q2⟩ | ⟨_, q2⟩
    · exact b1.grown q2 (by simp; omega) (fun g e => by have := (h.og.lt g e).1; omega)
    · exact b1.grown q2 (by simp; omega) (fun g e => by cases e)
  · omega
end Go.Proofs.Ytjomgjlicfoehaa
