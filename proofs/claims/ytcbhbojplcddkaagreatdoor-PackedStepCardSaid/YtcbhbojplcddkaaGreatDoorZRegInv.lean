import Derived.StillTail
import Derived.RegionTactic
import Derived.Below
namespace Go.RegInv
open Go
set_option linter.unusedSimpArgs false
set_option linter.unusedVariables false

/-! ### A region that draws its order, by an invariant: one step for each operation, however many orders there are -/
section
variable {P : Program} {ops : Array Oper} {Q : Exit → Act → World → Prop}

def deps (ops : Array Oper) (i : Nat) : List Nat :=
  match ops[i]? with
  | some o => (o.after.toList.filter fun e => Region.binds .any e).map (·.on)
  | none => []
/-- Every edge goes down. -/
def downB (ops : Array Oper) : Bool := (List.range ops.size).all fun i => (deps ops i).all fun j => decide (j < i)
def fullTo (n m : Nat) : Array Bool := ((List.range m).map fun i => decide (i < n)).toArray

theorem deps_ready {i : Nat} {listed : Array Bool} (h : i ∈ Region.ready .any ops listed) : (deps ops i).all (fun j => listed.getD j false) = true := by
  obtain ⟨_, o, ho, hall⟩ := mem_ready.1 h
  unfold deps
  rw [ho]
  simp only [List.all_map, List.all_filter, List.all_eq_true]
  intro e he
  cases hb : Region.binds .any e with
  | false => simp
  | true => simpa using hall e (by simpa using he) hb
theorem ready_of {i : Nat} {listed : Array Bool} (hi : i < ops.size) (hl : listed.getD i true = false) (h : (deps ops i).all (fun j => listed.getD j false) = true) : i ∈ Region.ready .any ops listed := by
  have ho : ops[i]? = some ops[i] := by simp [hi]
  refine mem_ready.2 ⟨hl, ops[i], ho, fun e he hb => ?_⟩
  unfold deps at h
  rw [ho] at h
  simp only [List.all_map, List.all_filter, List.all_eq_true] at h
  have := h e (by simpa using he)
  simpa [hb] using this
/-- Something is ready as long as something is left. -/
theorem some_ready (hd : downB ops = true) {listed : Array Bool} (hs : listed.size = ops.size) : ∀ i, i < ops.size → listed.getD i true = false → Region.ready .any ops listed ≠ [] := by
  intro i
  induction i using Nat.strongRecOn with
  | _ i ih =>
    intro hi hl
    by_cases h : (deps ops i).all (fun j => listed.getD j false) = true
    · intro e
      have := ready_of hi hl h
      rw [e] at this
      cases this
    · have h' : ∃ j ∈ deps ops i, listed.getD j false = false := by
        rw [List.all_eq_true] at h
        simpa using h
      obtain ⟨j, hj, hjl⟩ := h'
      have h1 := List.all_eq_true.1 hd i (List.mem_range.2 hi)
      have h2 : j < i := by simpa using List.all_eq_true.1 h1 j hj
      exact ih j h2 (by omega) (getD_in (by omega) hjl)

theorem fullTo_size (n m : Nat) : (fullTo n m).size = m := by simp [fullTo]
theorem fullTo_getD (n m j : Nat) (d : Bool) : (fullTo n m).getD j d = if j < m then decide (j < n) else d := by
  unfold fullTo
  by_cases h : j < m <;> simp [h]

/-- What the kernel looks at. -/
def invB (ops : Array Oper) (n : Nat) : Bool :=
  decide (n < ops.size) && Region.sinkB .any ops n && Region.chainB .any ops n && downB ops && Region.seqB .any ops (ops.size - n) n (fullTo n ops.size)

theorem wpAny_inv {n : Nat} (hn : n < ops.size) (hsk : Region.sinkB .any ops n = true) (hch : Region.chainB .any ops n = true) (hd : downB ops = true) (Inv : (Nat → Bool) → Act → World → Prop)
    (hs : ∀ i, i < n → ∀ (L : Nat → Bool) (a : Act) (w : World), L i = false → (deps ops i).all L = true → Inv L a w → wpOp P ops Q i (Inv fun j => decide (j = i) || L j) a w)
    (ht : ∀ a w, Inv (fun j => decide (j < n)) a w → wpAny P .any ops Q (ops.size - n) (fullTo n ops.size) a w) :
    ∀ (rem : List Nat) (listed : Array Bool) (a : Act) (w : World), rem.Nodup → (∀ j, j ∈ rem ↔ j < n ∧ listed.getD j true = false) → HeadInv .any ops n listed →
      Inv (fun j => listed.getD j false) a w → wpAny P .any ops Q (rem.length + (ops.size - n)) listed a w := by
  intro rem
  induction hr : rem.length generalizing rem with
  | zero =>
    intro listed a w hnd hm inv h
    have hrem : rem = [] := List.eq_nil_of_length_eq_zero hr
    subst hrem
    have hall : ∀ j, j < n → listed.getD j true = true := fun j hj => by
      cases e : listed.getD j true with
      | true => rfl
      | false => exact absurd ((hm j).2 ⟨hj, e⟩) (by simp)
    have hfull : listed = fullTo n ops.size := by
      apply Array.ext
      · rw [fullTo_size, inv.size]
      · intro j h1 h2
        have e1 : listed.getD j true = listed[j] := by simp [h1]
        have e2 : (fullTo n ops.size).getD j true = (fullTo n ops.size)[j] := by simp [h2]
        rw [← e1, ← e2, fullTo_getD, if_pos (by rw [fullTo_size] at h2; exact h2)]
        by_cases hj : j < n
        · rw [hall j hj]; simp [hj]
        · rw [inv.tail j (by omega) (by rw [fullTo_size] at h2; exact h2)]; simp [hj]
    rw [Nat.zero_add, hfull]
    refine ht a w ?_
    have e : (fun j => listed.getD j false) = fun j => decide (j < n) := by
      funext j
      rw [hfull, fullTo_getD]
      by_cases hj : j < ops.size
      · rw [if_pos hj]
      · rw [if_neg hj]; simp; omega
    rw [← e]
    exact h
  | succ f ih =>
    intro listed a w hnd hm inv h
    obtain ⟨x, hx⟩ : ∃ x, x ∈ rem := by
      cases rem with
      | nil => simp at hr
      | cons x l => exact ⟨x, by simp⟩
    have hx2 := (hm x).1 hx
    have hne := some_ready hd inv.size x (by omega) hx2.2
    rw [show f + 1 + (ops.size - n) = (f + (ops.size - n)) + 1 by omega]
    refine ⟨fun h0 => absurd h0 hne, fun i hi => ?_⟩
    have hin : i < n := by
      rcases Nat.lt_or_ge i n with h | h
      · exact h
      · exact absurd hi (tail_waits hsk hch hn inv _ x rfl hx2.1 hx2.2 i h)
    have hil := (mem_ready.1 hi).1
    refine wpOp_mono (fun a' w' h' => ?_) (hs i hin (fun j => listed.getD j false) a w (getD_both hil) (deps_ready hi) h)
    refine ih (rem.erase i) (by rw [List.length_erase_of_mem ((hm i).2 ⟨hin, hil⟩), hr]; rfl) (listed.setIfInBounds i true) a' w' (hnd.erase _) (fun j => ?_) (inv.set hi hin) ?_
    · rw [hnd.mem_erase_iff, hm j]
      constructor
      · rintro ⟨h1, h2, h3⟩
        exact ⟨h2, by rw [getD_set_ne true (Ne.symm h1)]; exact h3⟩
      · rintro ⟨h2, h3⟩
        have hji : j ≠ i := fun e => by
          subst e
          have : (listed.setIfInBounds j true).getD j true = true := by
            have : j < listed.size := by rw [inv.size]; omega
            simp [this]
          rw [this] at h3
          cases h3
        rw [getD_set_ne true (Ne.symm hji)] at h3
        exact ⟨hji, h2, h3⟩
    · have e : (fun j => (listed.setIfInBounds i true).getD j false) = fun j => decide (j = i) || listed.getD j false := by
        funext j
        by_cases hji : j = i
        · subst hji
          have : j < listed.size := by rw [inv.size]; omega
          simp [this]
        · rw [getD_set_ne false (Ne.symm hji)]
          simp [hji]
      rw [e]
      exact h'
end

/-- The frame with some slots written anew. -/
def putAll (a : Act) : List Nat → List Value → Act
  | s :: ss, v :: vs => putAll (a.put (some s) v) ss vs
  | _, _ => a

theorem put_self (a : Act) (s : Nat) : a.put (some s) (a.tmps.getD s undef) = a := by
  unfold Act.put
  cases a with
  | mk t d =>
    simp only [Act.mk.injEq, and_true]
    apply Array.ext
    · simp
    · intro i h1 h2
      by_cases h : s = i
      · subst h; simp [h2]
      · exact Array.getElem_setIfInBounds_ne (by simpa using h1) h
theorem putAll_self (a : Act) : ∀ slots : List Nat, putAll a slots (slots.map fun s => a.tmps.getD s undef) = a
  | [] => rfl
  | s :: ss => by
    show putAll (a.put (some s) (a.tmps.getD s undef)) ss _ = a
    rw [put_self]
    exact putAll_self a ss

/-- A region that draws its order, by an invariant over the slots that its first n operations write; the rest, which waits for them, is walked in its order. -/
theorem wp_region_inv {P : Program} {id : Nat} {Q : Exit → Act → World → Prop} {a : Act} {w : World} {l : List Oper} (n : Nat) (slots : List Nat)
    (Inv : (Nat → Bool) → List Value → World → Prop) (hm : P.follows .mixedOrders = true) (hB : invB l.toArray n = true)
    (h0 : Inv (fun _ => false) (slots.map fun s => a.tmps.getD s undef) w.drew)
    (hs : ∀ i, i < n → ∀ (L : Nat → Bool) (vs : List Value) (w' : World), L i = false → (deps l.toArray i).all L = true → Inv L vs w' →
      ∀ K : Act → World → Prop, (∀ vs' w'', Inv (fun j => decide (j = i) || L j) vs' w'' → K (putAll a slots vs') w'') → wpOp P l.toArray Q i K (putAll a slots vs) w')
    (ht : ∀ vs w', Inv (fun j => decide (j < n)) vs w' → wpList P l.toArray Q (l.drop n) (putAll a slots vs) w') : (Code.region id l.toArray true).wp P Q a w := by
  simp only [invB, Bool.and_eq_true, decide_eq_true_eq] at hB
  obtain ⟨⟨⟨⟨hn, hsk⟩, hch⟩, hd⟩, hsq⟩ := hB
  have hn' : n < l.length := by simpa using hn
  have hdl : (l.drop n).length = l.toArray.size - n := by simp
  have inv0 : HeadInv .any l.toArray n (Array.replicate l.toArray.size false) :=
    ⟨by simp, fun j oj _ hl => (by rw [getD_replicate_false] at hl; cases hl), fun t _ ht => getD_in (by simpa using ht) (getD_replicate_false _ _)⟩
  refine wp_region_any hm ?_
  have H := wpAny_inv (P := P) (Q := Q) hn hsk hch hd (fun L a' w' => ∃ vs, a' = putAll a slots vs ∧ Inv L vs w')
    (fun i hi L a' w' hL hdp hI => by
      obtain ⟨vs, rfl, hI⟩ := hI
      exact hs i hi L vs w' hL hdp hI _ (fun vs' w'' h => ⟨vs', rfl, h⟩))
    (fun a' w' hI => by
      obtain ⟨vs, rfl, hI⟩ := hI
      have := wpAny_of_seq (md := .any) (Q' := Q) (l.drop n) n (fullTo n l.toArray.size) (putAll a slots vs) w' (fun j => by simp [List.getElem?_drop]) (by rw [hdl]; exact hsq) (ht vs w' hI)
      rwa [hdl] at this)
    (List.range n) (Array.replicate l.toArray.size false) a w.drew List.nodup_range (fun j => by
      rw [List.mem_range]
      constructor
      · intro h
        exact ⟨h, getD_in (by simp; omega) (getD_replicate_false _ _)⟩
      · exact fun h => h.1) inv0 ⟨_, (putAll_self a slots).symm, by
        have e : (fun j => (Array.replicate l.toArray.size false).getD j false) = fun _ => false := by funext j; exact getD_replicate_false _ _
        rw [e]; exact h0⟩
  rw [List.length_range, show n + (l.toArray.size - n) = l.toArray.size by omega] at H
  exact H
end Go.RegInv
/- A drawn region's invariant, a property for each slot that its first operations write. Plain theory, no program. -/
namespace Go.RegInv
open Go Go.RowKit
def ILv (Pr : Nat → Value → World → Prop) (n : Nat) (W : World) (L : Nat → Bool) (vs : List Value) (w' : World) : Prop :=
  vs.length = n ∧ Below W.heap.size W w' ∧ ∀ i, i < n → L i = true → Pr i (vs.getD i undef) w'
theorem ILv.start (Pr : Nat → Value → World → Prop) (n : Nat) {W w' : World} {vs : List Value} (hv : vs.length = n) (hB : Below W.heap.size W w') : ILv Pr n W (fun _ => false) vs w' :=
  ⟨hv, hB, fun _ _ h => by cases h⟩
theorem ILv.step {Pr : Nat → Value → World → Prop} (mono : ∀ i v w1 w2, Pr i v w1 → Below w1.heap.size w1 w2 → Pr i v w2) {n : Nat} {W w' w'' : World} {L : Nat → Bool} {vs : List Value} (hv : vs.length = n) (hB : Below W.heap.size W w')
    (hP : ∀ i, i < n → L i = true → Pr i (vs.getD i undef) w') (i : Nat) (v : Value) (hb : Below w'.heap.size w' w'') (hi : Pr i v w'') :
    ILv Pr n W (fun j => decide (j = i) || L j) (vs.set i v) w'' := by
  refine ⟨by simpa using hv, ⟨hb.os.trans hB.os, hb.tape.trans hB.tape, hb.output.trans hB.output, Nat.le_trans hB.size hb.size, fun k hk => (hb.block k (Nat.lt_of_lt_of_le hk hB.size)).trans (hB.block k hk)⟩, fun j hj hl => ?_⟩
  by_cases e : j = i
  · subst e
    have : (vs.set j v).getD j undef = v := by simp [hv, hj]
    rw [this]
    exact hi
  · have e2 : (vs.set i v).getD j undef = vs.getD j undef := by
      have : i ≠ j := fun h => e h.symm
      simp [List.getD, this]
    rw [e2]
    have : L j = true := by simpa [e] using hl
    exact mono j _ _ _ (hP j hj this) hb
theorem list_fn {n : Nat} {vs : List Value} (h : vs.length = n) : ∃ us : Nat → Value, vs = (List.range n).map us := by
  refine ⟨fun j => vs.getD j undef, ?_⟩
  apply List.ext_getElem (by simpa using h)
  intro j h1 h2
  simp [h1]
end Go.RegInv
