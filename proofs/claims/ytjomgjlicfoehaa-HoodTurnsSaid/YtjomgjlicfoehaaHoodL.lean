import Derived.Test.YtjomgjlicfoehaaHoodK
namespace Go.Proofs.Ytjomgjlicfoehaa
open Go.RowKit Flt
attribute [local go_sem] run_store_float run_store_complex unary_neg_float unary_neg_complex
set_option linter.unusedSimpArgs false
set_option linter.unusedVariables false

theorem part_any (part : Int) : ∃ (m : M5) (f : Int), ∀ W, Calls Try.prog 40 #[.int .i64 part] W fun e w' => e = .returned (.tuple #[isoV m.a m.b m.f m.c m.d, .int .i64 f]) ∧ Below W.heap.size W w' := by
  by_cases hp : 0 ≤ part ∧ part ≤ 7
  · obtain ⟨p, rfl⟩ : ∃ p : Nat, part = (p : Int) := ⟨part.toNat, by omega⟩
    exact ⟨⟨_, _, _, _, _⟩, 0, fun W => part_yes (by omega) W⟩
  · exact ⟨⟨0, 0, false, 0, 0⟩, 2, fun W => part_no (by omega) W⟩

set_option maxRecDepth 100000 in
set_option maxHeartbeats 4000000 in
theorem turns_bad (h part er f g : Int) (m : M5) (hc : (er = 70 ∧ g = 70) ∨ (er = 0 ∧ f = 2 ∧ g = 71))
    (k1 : ∀ W, Calls Try.prog 22 #[.int .u8 h] W fun e w' => ∃ v, e = .returned (.tuple #[v, .int .i64 er]) ∧ w'.ownsRow W.heap.size 30 2 v (offs h).length (ptCells (offs h)) ∧ Below W.heap.size W w')
    (k2 : ∀ W, Calls Try.prog 40 #[.int .i64 part] W fun e w' => e = .returned (.tuple #[isoV m.a m.b m.f m.c m.d, .int .i64 f]) ∧ Below W.heap.size W w')
    (k3 : ∀ W, Calls Try.prog 49 #[.int .u8 h, .int .i64 part] W fun e w' => ∃ v, e = .returned (.tuple #[v, .bool false, .int .i64 g]) ∧ w'.ownsRow W.heap.size 3 1 v 0 [] ∧ Below W.heap.size W w')
    (w : World) : Calls Try.prog 14 #[.int .u8 h, .int .i64 part] w fun e w' => e = .returned (.bool true) ∧ Below w.heap.size w w' := by
  have K1 := Lib.hid k1
  have K2 := Lib.hid k2
  have K3 := Lib.hid k3
  clear k1 k2 k3
  generalize (offs h).length = n at *
  generalize ptCells (offs h) = cs at *
  rcases hc with ⟨rfl, rfl⟩ | ⟨rfl, rfl, rfl⟩
  all_goals
    go_enter Try.func14, Try.ntmps14
    go_wp2_with fail
    refine (alive07 _).mono ?_
    rintro e w1 ⟨rfl, hb⟩
    have B1 := hb
    clear hb
    go_wp2_with fail
    refine (K1.out _).mono ?_
    rintro e w2 ⟨vl, rfl, ol, hb⟩
    have B2 := below_then B1 hb B1.size
    clear hb B1 ol
    go_wp2_with fail
    refine (K2.out _).mono ?_
    rintro e w3 ⟨rfl, hb⟩
    have B3 := below_then B2 hb B2.size
    have z3 := B3.size
    clear hb B2
    go_wp2_with fail
    refine (K3.out _).mono ?_
    rintro e w4 ⟨vp, rfl, op, hb⟩
    obtain ⟨adp, capp, rfl⟩ := own_shape op
    have B4 := Lib.hid (below_then (B3.alloc z3 _) hb (by simp; omega))
    clear hb B3 op
    go_wp2
    go_ret
    exact ⟨rfl, B4.out⟩

def keptK (L : List (Int × Int)) (p : Nat) : Nat → Bool
  | 0 => true
  | k + 1 => keptK L p k && decide (0 ≤ whereI L (turn p (L.getD k (0, 0))))
def seenL (L : List (Int × Int)) (p : Nat) : Nat → List Bool
  | 0 => List.replicate 9 false
  | k + 1 => if keptB L p then (seenL L p k).set (whereI L (turn p (L.getD k (0, 0)))).toNat true else seenL L p k

structure TurnFacts (L : List (Int × Int)) (p : Nat) : Prop where
  near : ∀ k, k < L.length → near1 (L.getD k (0, 0))
  kept : keptK L p L.length = keptB L p
  perm : keptB L p = true → ∀ k, k < L.length → (permL L p).getD k 0 = whereI L (turn p (L.getD k (0, 0))) ∧ 0 ≤ whereI L (turn p (L.getD k (0, 0))) ∧ whereI L (turn p (L.getD k (0, 0))) ≤ 8 ∧
    (seenL L p k).getD (whereI L (turn p (L.getD k (0, 0)))).toNat false = false
  len : (permL L p).length = if keptB L p then L.length else 0
theorem tfacts_of {L : List (Int × Int)} (h0 : L.length ≤ 8) (h1 : ∀ k : Fin 8, k.val < L.length → near1 (L.getD k.val (0, 0))) (h2 : ∀ p : Fin 8, keptK L p.val L.length = keptB L p.val)
    (h3 : ∀ p : Fin 8, keptB L p.val = true → ∀ k : Fin 8, k.val < L.length → (permL L p.val).getD k.val 0 = whereI L (turn p.val (L.getD k.val (0, 0))) ∧ 0 ≤ whereI L (turn p.val (L.getD k.val (0, 0))) ∧ whereI L (turn p.val (L.getD k.val (0, 0))) ≤ 8 ∧
      (seenL L p.val k.val).getD (whereI L (turn p.val (L.getD k.val (0, 0)))).toNat false = false)
    (h4 : ∀ p : Fin 8, (permL L p.val).length = if keptB L p.val then L.length else 0) {p : Nat} (hp : p < 8) : TurnFacts L p :=
  ⟨fun k hk => h1 ⟨k, by omega⟩ hk, h2 ⟨p, hp⟩, fun hk k hl => h3 ⟨p, hp⟩ hk ⟨k, by omega⟩ hl, h4 ⟨p, hp⟩⟩
theorem turnFacts {h : Int} (hh : h = 1 ∨ h = 2 ∨ h = 3) {p : Nat} (hp : p < 8) : TurnFacts (offs h) p := by
  rcases hh with rfl | rfl | rfl
  · rw [offs_1]; exact tfacts_of (by decide) (by decide +kernel) (by decide +kernel) (by decide +kernel) (by decide +kernel) hp
  · rw [offs_2]; exact tfacts_of (by decide) (by decide +kernel) (by decide +kernel) (by decide +kernel) (by decide +kernel) hp
  · rw [offs_3]; exact tfacts_of (by decide) (by decide +kernel) (by decide +kernel) (by decide +kernel) (by decide +kernel) hp
end Go.Proofs.Ytjomgjlicfoehaa
