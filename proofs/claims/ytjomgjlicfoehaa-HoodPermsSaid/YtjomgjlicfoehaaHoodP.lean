import Derived.Test.YtjomgjlicfoehaaHoodK
import Derived.Test.YtjomgjlicfoehaaHoodE
namespace Go.Proofs.Ytjomgjlicfoehaa
open Go.RowKit Flt
set_option linter.unusedSimpArgs false
set_option linter.unusedVariables false

/-! ### Appending one number, with what becomes of the old row -/
theorem append_int {W : World} {base : Nat} {v : Value} {n : Nat} {xs : List Value} (X : Int) (b ty c : Nat) (hown : W.ownsRow base 3 1 v n xs) (h1 : W.cell? ⟨b, 0, none⟩ = some (.int .i64 X))
    (hbase : base ≤ W.heap.size) (hn : n ≤ 1000) :
    ∃ v' w', (Builtin.append_ #[78, 78] ty #[v, .slice (some ⟨b, 0, none⟩) 1 c]).run Try.prog W = .ok v' w' ∧ w'.ownsRow base 3 1 v' (n + 1) (xs ++ [.int .i64 X]) ∧
      ((v'.ownBlock = v.ownBlock ∧ W.grownBy w' v.ownBlock) ∨ (w'.ownsRow W.heap.size 3 1 v' (n + 1) (xs ++ [.int .i64 X]) ∧ W.grownBy w' none)) := by
  obtain ⟨i0, hi, hz0, hz1, hz2⟩ := info_parts info3'
  have hnews : ∀ j u, ([.int .i64 X] : List Value)[j]? = some u → W.cell? ((⟨b, 0, none⟩ : Addr).add j) = some u := by
    intro j u hj
    match j, hj with
    | 0, hj => simp at hj; subst hj; simpa [Addr.add] using h1
  have hcell : ∀ u ∈ ([.int .i64 X] : List Value), u.oneCell' = true := by intro u hu; simp at hu; subst hu; rfl
  rcases hown.2 with ⟨rfl, rfl⟩ | ⟨g, cap, cur, rfl, hg, hb, hnc, hcm, hcs, htake⟩
  · have hxs : xs = [] := by have := hown.1; simpa using this
    subst hxs
    obtain ⟨v', w', r1, r2, r3, _⟩ := run_append_own (P := Try.prog) W W.heap.size 78 ty 3 i0 _ 1 8 Try.underlying78 hi hz0 hz1 hz2 rfl (by decide) (.slice none 0 0) 0 [] (World.ownsRow_nil _ _ _ _) ⟨b, 0, none⟩ 1 c _ rfl hnews hcell (by unfold maxLen; omega) (by omega) (Nat.le_refl _)
    exact ⟨v', w', r1, ownsRow_base hbase r2, .inr ⟨r2, r3⟩⟩
  · by_cases hroom : n + 1 ≤ cap
    · obtain ⟨w', r1, r2, r3⟩ := run_append_fits (P := Try.prog) W base 78 ty 3 i0 1 Try.underlying78 hi hz1 g n cap xs hown ⟨b, 0, none⟩ 1 c _ rfl hnews hcell hroom
      exact ⟨_, w', r1, r2, .inl ⟨rfl, r3⟩⟩
    · obtain ⟨v', w', r1, r2, r3⟩ := run_append_arg_grows (P := Try.prog) W 78 ty 3 i0 _ 1 8 Try.underlying78 hi hz0 hz1 hz2 rfl (by decide) ⟨g, 0, none⟩ n cap xs hown.1 (by
          intro j u hj
          have hj' : j < n * 1 := by
            have := List.getElem?_eq_some_iff.1 hj
            obtain ⟨h', _⟩ := this
            rw [hown.1] at h'
            exact h'
          have := hown.cellAt j hj'
          rw [hj] at this
          cases j <;> simpa [Addr.add] using this) ⟨b, 0, none⟩ 1 c _ rfl hnews (by omega) (by unfold maxLen; omega) (by omega)
      exact ⟨v', w', r1, ownsRow_base hbase r2, .inr ⟨r2, r3⟩⟩

theorem new_cell0 (w : World) (u : Value) (t : TypeId) : (w.alloc (.cells #[u] t)).cell? ⟨w.heap.size, 0, none⟩ = some u := by go_simp
theorem new_cell (w : World) (nq : Nat) (u : Value) (t : TypeId) : ((w.drewN nq).alloc (.cells #[u] t)).cell? ⟨w.heap.size, 0, none⟩ = some u := by
  have h := new_cell0 (w.drewN nq) u t
  have e : (w.drewN nq).heap.size = w.heap.size := by simp
  rw [e] at h
  exact h
theorem old_cell (w : World) (nq : Nat) (o : Obj) {b k : Nat} {u : Value} (h : w.cell? ⟨b, k, none⟩ = some u) : ((w.drewN nq).alloc o).cell? ⟨b, k, none⟩ = some u := by
  have hl := World.block_lt_of_cell? w _ h
  have e : (w.drewN nq).heap.size = w.heap.size := by simp
  exact ((below_new (w := w.drewN nq) o).cell (p := ⟨b, k, none⟩) (by rw [e]; exact hl)).trans h

/-! ### The document's Perm -/
/-- The numbers below K at which t stands. -/
def hits (L : List (Int × Int)) (t : Int × Int) (K : Nat) : List Int := ((List.range K).filter fun j => L.getD j (0, 0) == t).map fun j : Nat => (j : Int)
theorem hits_yes {L : List (Int × Int)} {t : Int × Int} {K : Nat} (h : L.getD K (0, 0) = t) : hits L t (K + 1) = hits L t K ++ [(K : Int)] := by
  unfold hits; rw [List.range_succ, List.filter_append, List.map_append]
  simp only [List.filter_cons, List.filter_nil, h, beq_self_eq_true, if_true, List.map_cons, List.map_nil]
theorem hits_no {L : List (Int × Int)} {t : Int × Int} {K : Nat} (h : ¬ L.getD K (0, 0) = t) : hits L t (K + 1) = hits L t K := by
  unfold hits; rw [List.range_succ, List.filter_append, List.map_append]
  simp only [List.filter_cons, List.filter_nil, beq_eq_false_iff_ne.2 h, Bool.false_eq_true, if_false, List.map_nil, List.append_nil]
theorem hits_len (L : List (Int × Int)) (t : Int × Int) (K : Nat) : (hits L t K).length ≤ K := by
  unfold hits; rw [List.length_map]; exact Nat.le_trans (List.length_filter_le _ _) (by simp)
def preL (L : List (Int × Int)) (p k : Nat) : List Int := (List.range k).map fun j => (L.idxOf (turn p (L.getD j (0, 0))) : Int)
theorem preL_succ (L : List (Int × Int)) (p k : Nat) : preL L p (k + 1) = preL L p k ++ [(L.idxOf (turn p (L.getD k (0, 0))) : Int)] := by
  unfold preL; rw [List.range_succ, List.map_append]; rfl
theorem preL_len (L : List (Int × Int)) (p k : Nat) : (preL L p k).length = k := by unfold preL; simp
theorem preL_all (L : List (Int × Int)) (p : Nat) : preL L p L.length = L.map (fun q => (L.idxOf (turn p q) : Int)) := by
  unfold preL
  apply List.ext_getElem
  · simp
  · intro j h1 h2
    have hj : j < L.length := by simpa using h2
    simp [List.getElem?_eq_getElem hj]
structure RefFacts (L : List (Int × Int)) (p : Nat) : Prop where
  len : L.length ≤ 8
  near : ∀ k, k < L.length → near1 (L.getD k (0, 0))
  hit : ∀ k, k < L.length → L.contains (turn p (L.getD k (0, 0))) = true → hits L (turn p (L.getD k (0, 0))) L.length = [(L.idxOf (turn p (L.getD k (0, 0))) : Int)]
  no : ∀ k, k < L.length → L.contains (turn p (L.getD k (0, 0))) = false → hits L (turn p (L.getD k (0, 0))) L.length = []
theorem pfacts_of {L : List (Int × Int)} (h1 : L.length ≤ 8) (h2 : ∀ k : Fin 8, k.val < L.length → near1 (L.getD k.val (0, 0)))
    (h3 : ∀ (p : Fin 8) (k : Fin 8), k.val < L.length → L.contains (turn p.val (L.getD k.val (0, 0))) = true → hits L (turn p.val (L.getD k.val (0, 0))) L.length = [(L.idxOf (turn p.val (L.getD k.val (0, 0))) : Int)])
    (h4 : ∀ (p : Fin 8) (k : Fin 8), k.val < L.length → L.contains (turn p.val (L.getD k.val (0, 0))) = false → hits L (turn p.val (L.getD k.val (0, 0))) L.length = []) {p : Nat} (hp : p < 8) : RefFacts L p :=
  ⟨h1, fun k hk => h2 ⟨k, by omega⟩ hk, fun k hk => h3 ⟨p, hp⟩ ⟨k, by omega⟩ hk, fun k hk => h4 ⟨p, hp⟩ ⟨k, by omega⟩ hk⟩
theorem refFacts {h : Int} (hh : h = 1 ∨ h = 2 ∨ h = 3) {p : Nat} (hp : p < 8) : RefFacts (offs h) p := by
  rcases hh with rfl | rfl | rfl
  · rw [offs_1]; exact pfacts_of (by decide) (by decide +kernel) (by decide +kernel) (by decide +kernel) hp
  · rw [offs_2]; exact pfacts_of (by decide) (by decide +kernel) (by decide +kernel) (by decide +kernel) hp
  · rw [offs_3]; exact pfacts_of (by decide) (by decide +kernel) (by decide +kernel) (by decide +kernel) hp

theorem results_cell1 {fn : Func} {p : Tmp} {ty : TypeId} (h : fn.results = #[.cell p ty]) (tmps : Array Value) (P : Program) (w : World) :
    (results fn tmps).run P w = ((asAddr (tmps.getD p undef)).run P w).andThen fun a w₁ => (loadVar ty a).run P w₁ := by
  simp only [results, h]
  simp [Sem.run_bind, Result.andThen]

set_option maxHeartbeats 2000000 in
theorem turned70 {p : Nat} (hp : p < 8) {x y : Int} (hq : near1 (x, y)) (w : World) :
    Calls Try.prog 70 #[.int .i64 (p : Int), .agg #[.int .i64 x, .int .i64 y]] w fun e w' => e = .returned (.agg #[.int .i64 (turn p (x, y)).1, .int .i64 (turn p (x, y)).2]) ∧ Below w.heap.size w w' := by
  obtain ⟨h1, h2, h3, h4⟩ := hq
  have hB : ∀ m : Nat, Below w.heap.size w (w.drewN m) := fun m => below_drewN (Below.refl _ _) m
  have e0 : turn 0 (x, y) = (x, y) := by simp [turn, dox, doy, tvx, tvy, fl]
  have e1 : turn 1 (x, y) = (-y, x) := by simp [turn, dox, doy, tvx, tvy, fl]
  have e2 : turn 2 (x, y) = (-x, -y) := by simp [turn, dox, doy, tvx, tvy, fl]
  have e3 : turn 3 (x, y) = (y, -x) := by simp [turn, dox, doy, tvx, tvy, fl]
  have e4 : turn 4 (x, y) = (x, -y) := by simp [turn, dox, doy, tvx, tvy, fl]
  have e5 : turn 5 (x, y) = (y, x) := by simp [turn, dox, doy, tvx, tvy, fl]
  have e6 : turn 6 (x, y) = (-x, y) := by simp [turn, dox, doy, tvx, tvy, fl]
  have e7 : turn 7 (x, y) = (-y, -x) := by simp [turn, dox, doy, tvx, tvy, fl]
  obtain rfl | rfl | rfl | rfl | rfl | rfl | rfl | rfl : p = 0 ∨ p = 1 ∨ p = 2 ∨ p = 3 ∨ p = 4 ∨ p = 5 ∨ p = 6 ∨ p = 7 := by omega
  all_goals (first | rw [e0] | rw [e1] | rw [e2] | rw [e3] | rw [e4] | rw [e5] | rw [e6] | rw [e7])
  all_goals
    clear e0 e1 e2 e3 e4 e5 e6 e7 hB hp
    go_enter Try.func70, Try.ntmps70
    go_wp2
    go_quiet (fail)
    go_wp2
    try simp only [Exit.inBlock, Exit.then]
    refine bodyPost_ret (v := .agg #[_, _]) ?_ rfl ⟨rfl, ?_⟩
    · rw [results_cell1 rfl]
      go_simp
    · exact ((below_drewN ((Below.alloc (Below.refl _ _) (Nat.le_refl _) _).alloc (by simp) _) nq).setCell (by simp) _).setCell (by simp) _

def IRel (L : List (Int × Int)) (t : Int × Int) (T : Nat) (w1 : World) (pre : List Int) (l f i : Value) (wr : World) : Prop :=
  ∃ K : Nat, K ≤ L.length ∧ i = .int .i64 (K : Int) ∧ f = .bool (!(hits L t K).isEmpty) ∧ wr.ownsRow w1.heap.size 3 1 l (pre ++ hits L t K).length ((pre ++ hits L t K).map (Value.int .i64)) ∧
    (∀ g, l.ownBlock = some g → g ≠ T) ∧ wr.cell? ⟨T, 0, none⟩ = some (.int .i64 t.1) ∧ wr.cell? ⟨T, 1, none⟩ = some (.int .i64 t.2) ∧ Below w1.heap.size w1 wr
def ORel (L : List (Int × Int)) (p : Nat) (w1 : World) (l i : Value) (wr : World) : Prop :=
  ∃ k : Nat, k ≤ L.length ∧ i = .int .i64 (k : Int) ∧ (∀ j, j < k → L.contains (turn p (L.getD j (0, 0))) = true) ∧ wr.ownsRow w1.heap.size 3 1 l k ((preL L p k).map (Value.int .i64)) ∧ Below w1.heap.size w1 wr
end Go.Proofs.Ytjomgjlicfoehaa
