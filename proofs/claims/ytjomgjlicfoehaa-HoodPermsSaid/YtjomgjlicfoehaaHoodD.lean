import Derived.Test.YtjomgjlicfoehaaHoodC
import Derived.ArgAppend
namespace Go.Proofs.Ytjomgjlicfoehaa
open Go.RowKit
set_option linter.unusedSimpArgs false
set_option linter.unusedVariables false

theorem offs_bad {h : Int} (hh : ¬ (h = 1 ∨ h = 2 ∨ h = 3)) : offs h = [] := by
  have : ∀ j, mk h j = false := by
    intro j
    unfold mk mask
    rw [if_neg (by omega), if_neg (by omega), if_neg (by omega)]
    match j with
    | 0 | 1 | 2 | 3 | 4 | 5 | 6 | 7 => rfl
    | j + 8 => simp
  unfold offs offK
  rw [List.map_eq_nil_iff, List.filter_eq_nil_iff]
  intro j _
  simp [this j]
theorem offs_1 : offs 1 = moore := by decide
theorem offs_2 : offs 2 = [(0, -1), (1, 0), (0, 1), (-1, 0)] := by decide
theorem offs_3 : offs 3 = [(0, -1), (1, 0), (1, 1), (0, 1), (-1, 0), (-1, -1)] := by decide
theorem offs_len (h : Int) : (offs h).length ≤ 8 := offK_len h 8
theorem hoodErr_good {h : Int} (hh : h = 1 ∨ h = 2 ∨ h = 3) : hoodErr h = 0 := by unfold hoodErr; rw [if_pos hh]
theorem hoodErr_bad {h : Int} (hh : ¬ (h = 1 ∨ h = 2 ∨ h = 3)) : hoodErr h = 70 := by unfold hoodErr; rw [if_neg hh]

set_option maxHeartbeats 1000000 in
theorem offsets_any (h : Int) (w : World) :
    Calls Try.prog 22 #[.int .u8 h] w fun e w' => ∃ v, e = .returned (.tuple #[v, .int .i64 (hoodErr h)]) ∧ w'.ownsRow w.heap.size 30 2 v (offs h).length (ptCells (offs h)) ∧ Below w.heap.size w w' := by
  by_cases hh : h = 1 ∨ h = 2 ∨ h = 3
  · rw [hoodErr_good hh]
    exact offsets_good hh w
  · obtain ⟨b0, b1, b2, b3, b4, b5, b6, b7, hmask⟩ := mask8 h
    have K10 := fun W => within_any h W
    rw [hmask, hoodErr_bad hh] at K10
    rw [hoodErr_bad hh, offs_bad hh]
    simp only [bits, List.map_cons, List.map_nil] at K10
    have K1 := Lib.hid K10
    clear K10 hmask hh
    go_enter Try.func22, Try.ntmps22
    go_wp2_with fail
    refine (K1.out _).mono ?_
    rintro e w1 ⟨rfl, hb⟩
    have hB1 := Lib.hid hb
    have hs1 : w.heap.size ≤ w1.heap.size := hb.size
    clear hb
    go_wp2
    go_ret2
    exact ⟨_, rfl, World.ownsRow_nil _ _ _ _, Below.alloc hB1.out hs1 _⟩

theorem own_shape {w : World} {base : Nat} {e : TypeId} {size : Nat} {v : Value} {n : Nat} {xs : List Value} (h : w.ownsRow base e size v n xs) : ∃ ad cap, v = .slice ad n cap := by
  rcases h.2 with ⟨hv, hn⟩ | ⟨g, cap, cur, hv, hr⟩
  · exact ⟨none, 0, by rw [hv, hn]⟩
  · exact ⟨_, cap, hv⟩

set_option maxHeartbeats 1000000 in
theorem size_any (h : Int) (w : World) :
    Calls Try.prog 21 #[.int .u8 h] w fun e w' => e = .returned (.tuple #[.int .i64 (offs h).length, .int .i64 (hoodErr h)]) ∧ Below w.heap.size w w' := by
  have K1 := Lib.hid (fun W => offsets_any h W)
  generalize (offs h).length = n at *
  generalize hoodErr h = er at *
  generalize ptCells (offs h) = cs at *
  go_enter Try.func21, Try.ntmps21
  go_wp2_with fail
  refine (K1.out _).mono ?_
  rintro e w1 ⟨v, rfl, ho, hb⟩
  obtain ⟨ad, cap, rfl⟩ := own_shape ho
  have hB1 := Lib.hid hb
  clear hb ho
  go_wp2
  go_ret2
  exact ⟨rfl, hB1.out⟩

/-- A slice that a literal lays. -/
theorem pts_lit {w : World} {l : List (Int × Int)} {cs : Array Value} {n : Nat} (h : cs = (ptCells l).toArray) (hn : n = l.length) (hl : l.length ≤ 8) :
    (w.alloc (.cells cs 30)).ownsRow w.heap.size 30 2 (.slice (some ⟨w.heap.size, 0, none⟩) n n) l.length (ptCells l) := by
  subst h hn
  have := World.ownsRow_lit (base := w.heap.size) (e := 30) (size := 2) w (ptCells l).toArray l.length (Nat.le_refl _) (by unfold maxLen; omega) (by simp [ptCells_len])
  simpa using this

set_option maxHeartbeats 1000000 in
theorem roffsets_any (h : Int) (w : World) :
    Calls Try.prog 19 #[.int .u8 h] w fun e w' => ∃ v, e = .returned (.tuple #[v, .int .i64 (hoodErr h)]) ∧ w'.ownsRow w.heap.size 30 2 v (offs h).length (ptCells (offs h)) ∧ Below w.heap.size w w' := by
  by_cases h1 : h = 1
  · subst h1
    go_enter Try.func19, Try.ntmps19
    go_wp2
    go_ret2
    exact ⟨_, rfl, pts_lit (by first | (rw [offs_1]; rfl) | (rw [offs_2]; rfl) | (rw [offs_3]; rfl)) (by decide) (by decide), below_new _⟩
  by_cases h2 : h = 2
  · subst h2
    go_enter Try.func19, Try.ntmps19
    go_wp2
    go_ret2
    exact ⟨_, rfl, pts_lit (by first | (rw [offs_1]; rfl) | (rw [offs_2]; rfl) | (rw [offs_3]; rfl)) (by decide) (by decide), below_new _⟩
  by_cases h3 : h = 3
  · subst h3
    go_enter Try.func19, Try.ntmps19
    go_wp2
    go_ret2
    exact ⟨_, rfl, pts_lit (by first | (rw [offs_1]; rfl) | (rw [offs_2]; rfl) | (rw [offs_3]; rfl)) (by decide) (by decide), below_new _⟩
  rw [offs_bad (by omega), hoodErr_bad (by omega)]
  go_enter Try.func19, Try.ntmps19
  go_wp2
  go_ret2
  exact ⟨_, rfl, World.ownsRow_nil _ _ _ _, Below.refl _ _⟩

set_option maxHeartbeats 1000000 in
theorem rsize_any (h : Int) (w : World) :
    Calls Try.prog 20 #[.int .u8 h] w fun e w' => e = .returned (.tuple #[.int .i64 (offs h).length, .int .i64 (hoodErr h)]) ∧ Below w.heap.size w w' := by
  have K1 := Lib.hid (fun W => roffsets_any h W)
  generalize (offs h).length = n at *
  generalize hoodErr h = er at *
  generalize ptCells (offs h) = cs at *
  go_enter Try.func20, Try.ntmps20
  go_wp2_with fail
  refine (K1.out _).mono ?_
  rintro e w1 ⟨v, rfl, ho, hb⟩
  obtain ⟨ad, cap, rfl⟩ := own_shape ho
  have hB1 := Lib.hid hb
  clear hb ho
  go_wp2
  go_ret2
  exact ⟨rfl, hB1.out⟩
end Go.Proofs.Ytjomgjlicfoehaa
