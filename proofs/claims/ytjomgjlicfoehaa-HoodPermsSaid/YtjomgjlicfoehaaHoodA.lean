import Derived.Test.YtjomgjlicfoehaaProg
import Derived.WalkKit
import Derived.WalkSpells
import Derived.WalkLawsBesides
import Derived.Lib.Hide
import Derived.KernelRfl
namespace Go.Proofs.Ytjomgjlicfoehaa
open Go.RowKit
set_option linter.unusedSimpArgs false
set_option linter.unusedVariables false

/-- The neighbours of Moore's neighbourhood, in their order. -/
def moore : List (Int × Int) := [(0, -1), (1, -1), (1, 0), (1, 1), (0, 1), (-1, 1), (-1, 0), (-1, -1)]
/-- Which of them a neighbourhood has. -/
def mask (h : Int) : List Bool :=
  if h = 1 then [true, true, true, true, true, true, true, true]
  else if h = 2 then [true, false, true, false, true, false, true, false]
  else if h = 3 then [true, false, true, true, true, false, true, true]
  else [false, false, false, false, false, false, false, false]
def hoodErr (h : Int) : Int := if h = 1 ∨ h = 2 ∨ h = 3 then 0 else 70
def bits (l : List Bool) : Array Value := (l.map Value.bool).toArray

theorem below_new {w : World} (o : Obj) : Below w.heap.size w (w.alloc o) := (Below.refl _ _).alloc (Nat.le_refl _) _

set_option maxHeartbeats 400000 in
theorem within_any (h : Int) (w : World) :
    Calls Try.prog 55 #[.int .u8 h] w fun e w' => e = .returned (.tuple #[.agg (bits (mask h)), .int .i64 (hoodErr h)]) ∧ Below w.heap.size w w' := by
  by_cases h1 : h = 1
  · subst h1
    go_enter Try.func55, Try.ntmps55
    go_wp2
    exact bodyPost_ret (v := .tuple #[.agg (bits (mask 1)), .int .i64 (hoodErr 1)]) (by simp [results, Try.results55, go_sem, bits, mask, hoodErr]) rfl ⟨rfl, below_new _⟩
  by_cases h2 : h = 2
  · subst h2
    go_enter Try.func55, Try.ntmps55
    go_wp2
    exact bodyPost_ret (v := .tuple #[.agg (bits (mask 2)), .int .i64 (hoodErr 2)]) (by simp [results, Try.results55, go_sem, bits, mask, hoodErr]) rfl ⟨rfl, below_new _⟩
  by_cases h3 : h = 3
  · subst h3
    go_enter Try.func55, Try.ntmps55
    go_wp2
    exact bodyPost_ret (v := .tuple #[.agg (bits (mask 3)), .int .i64 (hoodErr 3)]) (by simp [results, Try.results55, go_sem, bits, mask, hoodErr]) rfl ⟨rfl, below_new _⟩
  go_enter Try.func55, Try.ntmps55
  go_wp2
  exact bodyPost_ret (v := .tuple #[.agg (bits (mask h)), .int .i64 (hoodErr h)]) (by simp [results, Try.results55, go_sem, bits, mask, hoodErr, h1, h2, h3]) rfl ⟨rfl, below_new _⟩

def ptCells (l : List (Int × Int)) : List Value := l.flatMap fun p => [.int .i64 p.1, .int .i64 p.2]

set_option maxHeartbeats 1000000 in
theorem all_any (w : World) :
    Calls Try.prog 56 #[] w fun e w' => e = .returned (.agg (ptCells moore).toArray) ∧ Below w.heap.size w w' := by
  go_enter Try.func56, Try.ntmps56
  go_wp2
  exact bodyPost_ret (v := .agg (ptCells moore).toArray) (by simp [results, Try.results56, go_sem, ptCells, moore]) rfl ⟨rfl, by repeat (first | exact Below.refl _ _ | refine Below.alloc ?_ (by first | omega | (simp; done) | (simp; omega)) _ | refine Below.setCell ?_ (by first | omega | (simp; done) | (simp; omega)) _ | refine Below.drew ?_)⟩

/-! ### The offsets -/
def mk (h : Int) (j : Nat) : Bool := (mask h).getD j false
def mpt (j : Nat) : Int × Int := moore.getD j (0, 0)
def offK (h : Int) (k : Nat) : List (Int × Int) := ((List.range k).filter (mk h)).map mpt
def offs (h : Int) : List (Int × Int) := offK h 8
theorem offK_yes {h : Int} {k : Nat} (hm : mk h k = true) : offK h (k + 1) = offK h k ++ [mpt k] := by
  unfold offK; rw [List.range_succ, List.filter_append, List.map_append]; simp [hm]
theorem offK_no {h : Int} {k : Nat} (hm : mk h k = false) : offK h (k + 1) = offK h k := by
  unfold offK; rw [List.range_succ, List.filter_append, List.map_append]; simp [hm]
theorem offK_len (h : Int) (k : Nat) : (offK h k).length ≤ k := by
  unfold offK; rw [List.length_map]; exact Nat.le_trans (List.length_filter_le _ _) (by simp)
theorem ptCells_append (l m : List (Int × Int)) : ptCells (l ++ m) = ptCells l ++ ptCells m := by unfold ptCells; exact List.flatMap_append
theorem ptCells_len (l : List (Int × Int)) : (ptCells l).length = l.length * 2 := by
  induction l with
  | nil => rfl
  | cons p l ih => unfold ptCells at *; rw [List.flatMap_cons, List.length_append, ih]; simp; omega

theorem info30 : (Try.prog.info? 30).map (fun i => (i.zero, i.size, i.bytes)) = some (some (.agg #[.int .i64 0, .int .i64 0]), 2, 16) := by kernel_rfl

end Go.Proofs.Ytjomgjlicfoehaa
