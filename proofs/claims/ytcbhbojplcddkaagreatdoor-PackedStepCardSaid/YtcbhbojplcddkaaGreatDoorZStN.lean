import Derived.Test.YtcbhbojplcddkaaGreatDoorZMapRaw
import Derived.Test.YtcbhbojplcddkaaGreatDoorZStA
import Derived.Test.YtcbhbojplcddkaaGreatDoorZPkO
import Derived.Laws.CopyOwn
namespace Go.Proofs.YtcbhbojplcddkaaGreatDoor
open Go.RowKit Go.RowBits Go.MapRaw Go.Maps
set_option linter.unusedSimpArgs false
set_option linter.unusedVariables false

/-! ### The asker: a rule's next state, remembered -/
/-- What a rule of births and stays makes of a state and its neighbours. -/
def nextN (born stay c : Nat) (l : List Nat) : Nat := if lineBit born stay (ones l) (c == 1) then 1 else 0
theorem nextN_lt (born stay c : Nat) (l : List Nat) : nextN born stay c l < 2 := by
  unfold nextN
  split <;> omega
abbrev lifeRuleC (h : Int) (born stay : Nat) : Array Value := #[.int .u8 1, .int .u8 h, .int .u16 (born : Int), .int .u16 (stay : Int), .int .i64 2, .string ⟨#[]⟩, .int .i64 0, .int .u8 0, .int .u8 0, .slice none 0 0, .slice none 0 0]
/-- What is remembered is so. -/
def Known (hd : Int) (born stay : Nat) (ents : List (Value × Value)) : Prop := ∀ p ∈ ents, ∃ c l, c < 2 ∧ l.length = (offs hd).length ∧ (∀ j, l.getD j 0 < 2) ∧ p = (askKey c l, .int .u8 ((nextN born stay c l : Nat) : Int))
/-- The asker in memory: its map's variable, its map, the rule's box. -/
structure AskAt (W : World) (hd : Int) (born stay : Nat) (mv mb rb : Nat) : Prop where
  var : W.heap[mv]? = some (.cells #[.map (some mb)] 137 (0, 0))
  rule : W.heap[rb]? = some (.cells (lifeRuleC hd born stay) 46 (0, 0))
  map : ∃ ents, MapIs Tryz.prog 140 W mb ents ∧ Known hd born stay ents
  ne : mv ≠ mb ∧ rb ≠ mb
theorem AskAt.lt {W : World} {hd : Int} {born stay mv mb rb : Nat} (h : AskAt W hd born stay mv mb rb) : mv < W.heap.size ∧ mb < W.heap.size ∧ rb < W.heap.size := by
  obtain ⟨h1, h2, ⟨e, h3, _⟩, _⟩ := h
  exact ⟨(Array.getElem?_eq_some_iff.1 h1).1, h3.lt, (Array.getElem?_eq_some_iff.1 h2).1⟩
theorem AskAt.same {W W' : World} {hd : Int} {born stay mv mb rb : Nat} (h : AskAt W hd born stay mv mb rb) (h1 : W'.heap[mv]? = W.heap[mv]?) (h2 : W'.heap[mb]? = W.heap[mb]?) (h3 : W'.heap[rb]? = W.heap[rb]?) : AskAt W' hd born stay mv mb rb := by
  obtain ⟨a1, a2, ⟨e, a3, a4⟩, a5⟩ := h
  exact ⟨h1.trans a1, h3.trans a2, ⟨e, a3.of_block h2, a4⟩, a5⟩
theorem AskAt.kept {W W' : World} {hd : Int} {born stay mv mb rb : Nat} (h : AskAt W hd born stay mv mb rb) (hb : Below W.heap.size W W') : AskAt W' hd born stay mv mb rb := by
  obtain ⟨l1, l2, l3⟩ := h.lt
  exact h.same (hb.block _ l1) (hb.block _ l2) (hb.block _ l3)
theorem key_row (c : Nat) (l : List Nat) (hl : l.length ≤ 8) :
    ((#[.int .u8 (c : Int), .int .i64 (l.length : Int), .int .u8 0, .int .u8 0, .int .u8 0, .int .u8 0, .int .u8 0, .int .u8 0, .int .u8 0, .int .u8 0] : Array Value).toList.take 2 ++ (l.map yv ++ (#[.int .u8 (c : Int), .int .i64 (l.length : Int), .int .u8 0, .int .u8 0, .int .u8 0, .int .u8 0, .int .u8 0, .int .u8 0, .int .u8 0, .int .u8 0] : Array Value).toList.drop (2 + (l.map yv).length))).toArray =
      #[.int .u8 (c : Int), .int .i64 (l.length : Int), yv (l.getD 0 0), yv (l.getD 1 0), yv (l.getD 2 0), yv (l.getD 3 0), yv (l.getD 4 0), yv (l.getD 5 0), yv (l.getD 6 0), yv (l.getD 7 0)] := by
  match l, hl with
  | [], _ => rfl
  | [_], _ => rfl
  | [_, _], _ => rfl
  | [_, _, _], _ => rfl
  | [_, _, _, _], _ => rfl
  | [_, _, _, _, _], _ => rfl
  | [_, _, _, _, _, _], _ => rfl
  | [_, _, _, _, _, _, _], _ => rfl
  | [_, _, _, _, _, _, _, _], _ => rfl
  | _ :: _ :: _ :: _ :: _ :: _ :: _ :: _ :: _ :: _, h => simp at h
theorem size5q : (Tryz.prog.info? 5).map (·.size) = some 1 := by kernel_rfl
theorem zero5 (w : World) : (zeroValue 5).run Tryz.prog w = .ok (.int .u8 0) w := by kernel_rfl
set_option maxRecDepth 20000 in
set_option maxHeartbeats 8000000 in
theorem ask58 {W : World} {hd : Int} {born stay c mv mb rb : Nat} {v : Value} {l : List Nat} (A : AskAt W hd born stay mv mb rb) (hc : c < 2) (hb1 : born < 65536) (hs1 : stay < 65536) (hE : lifeE hd born stay = 0) (hl : l.length = (offs hd).length) (hv : HasY W v l) (h2 : ∀ j, l.getD j 0 < 2) :
    Calls Tryz.prog 58 #[.int .u8 (c : Int), v, .pointer (some ⟨mv, 0, none⟩), .pointer (some ⟨rb, 0, none⟩)] W fun e w' => e = .returned (.tuple #[.int .u8 ((nextN born stay c l : Nat) : Int), .int .i64 0]) ∧ AskAt w' hd born stay mv mb rb ∧ W.grownBy w' (some mb) := by
  have h8 : l.length ≤ 8 := by rw [hl]; exact offs_len hd
  have hv' := Lib.hid hv
  have hh := (lifeE_good hE).1
  have hpos : 0 < l.length := by
    rw [hl]
    rcases hh with rfl | rfl | rfl
    · rw [offs_1]; decide
    · rw [offs_2]; decide
    · rw [offs_3]; decide
  obtain ⟨ad, cap, rfl, hcs⟩ := hv
  obtain ⟨g, o, rfl, _⟩ := hcs 0 hpos
  have hsrc : Hid (∀ j, j < l.length → W.cell? ⟨g, o + j, none⟩ = some (.int .u8 ((l.getD j 0 : Nat) : Int))) := fun j hj => by
    obtain ⟨g', o', e, c1⟩ := hcs j hj
    cases e
    exact c1
  have KN := Lib.hid (fun W' (h : HasY W' (.slice (some ⟨g, o, none⟩) l.length cap) l) => next79 (c := c) hc hb1 hs1 hE hh (lifeE_good hE).2 hl h (fun j _ => h2 j))
  have hkey := Lib.hid (keyOfQ (c := c) (l := l) (by omega) h8 (fun j => by have := h2 j; omega))
  have hkr := Lib.hid (key_row c l h8)
  have hlo := Lib.hid hl
  have h2' := Lib.hid h2
  have h8' := Lib.hid h8
  have hc' := Lib.hid hc
  clear hcs hb1 hs1 hE hh hl h2
  have A' := Lib.hid A
  obtain ⟨n, hn⟩ : ∃ n, Hid (n = l.length) := ⟨_, rfl⟩
  rw [← hn.out] at hkr ⊢
  rw [← hn.out] at h8 hpos
  obtain ⟨w1, hw1⟩ : ∃ w1, Hid (w1 = W.alloc (.cells #[.int .u8 (c : Int), .int .i64 (n : Int), .int .u8 0, .int .u8 0, .int .u8 0, .int .u8 0, .int .u8 0, .int .u8 0, .int .u8 0, .int .u8 0] 140)) := ⟨_, rfl⟩
  have hb : Hid (Below W.heap.size W w1) := by rw [hw1.out]; exact below_new _
  have E1 : Hid (w1.heap[W.heap.size]? = some (.cells #[.int .u8 (c : Int), .int .i64 (n : Int), .int .u8 0, .int .u8 0, .int .u8 0, .int .u8 0, .int .u8 0, .int .u8 0, .int .u8 0, .int .u8 0] 140 (0, 0))) := by rw [hw1.out]; exact heap_alloc_new W _
  obtain ⟨w5, hw5⟩ : ∃ w5, Hid (w5 = w1.setRow W.heap.size ((#[.int .u8 (c : Int), .int .i64 (n : Int), .int .u8 0, .int .u8 0, .int .u8 0, .int .u8 0, .int .u8 0, .int .u8 0, .int .u8 0, .int .u8 0] : Array Value).toList.take 2 ++ (l.map yv ++ (#[.int .u8 (c : Int), .int .i64 (n : Int), .int .u8 0, .int .u8 0, .int .u8 0, .int .u8 0, .int .u8 0, .int .u8 0, .int .u8 0, .int .u8 0] : Array Value).toList.drop (2 + (l.map yv).length))).toArray) := ⟨_, rfl⟩
  have hb5 : Hid (Below W.heap.size W w5) := by rw [hw5.out]; exact below_setRow hb.out (Nat.le_refl _) _
  have E5 : Hid (w5.heap[W.heap.size]? = some (.cells #[.int .u8 (c : Int), .int .i64 (n : Int), yv (l.getD 0 0), yv (l.getD 1 0), yv (l.getD 2 0), yv (l.getD 3 0), yv (l.getD 4 0), yv (l.getD 5 0), yv (l.getD 6 0), yv (l.getD 7 0)] 140 (0, 0))) := by
    have := setRow_heap w1 W.heap.size _ ((#[.int .u8 (c : Int), .int .i64 (n : Int), .int .u8 0, .int .u8 0, .int .u8 0, .int .u8 0, .int .u8 0, .int .u8 0, .int .u8 0, .int .u8 0] : Array Value).toList.take 2 ++ (l.map yv ++ (#[.int .u8 (c : Int), .int .i64 (n : Int), .int .u8 0, .int .u8 0, .int .u8 0, .int .u8 0, .int .u8 0, .int .u8 0, .int .u8 0, .int .u8 0] : Array Value).toList.drop (2 + (l.map yv).length))).toArray 140 _ E1.out
    rw [← hw5.out, hkr.out] at this
    exact this
  clear A
  go_enter Tryz.func58, Tryz.ntmps58
  go_upto_region 3 with (refine wpList_copy_own rfl _ _ 51 51 rfl 5 Tryz.underlying51 size5q W.heap.size 2 8 8 ⟨g, o, none⟩ n cap rfl rfl #[.int .u8 (c : Int), .int .i64 (n : Int), .int .u8 0, .int .u8 0, .int .u8 0, .int .u8 0, .int .u8 0, .int .u8 0, .int .u8 0, .int .u8 0] 140 (heap_alloc_new W _) (l.map yv) (by rw [List.length_map, ← hn.out]; simp [Nat.min_def]; omega) ?q1 (by rw [List.length_map, ← hn.out]; simp; omega) ?q2 ?_)
  case q1 =>
    intro i v hi
    have hi2 : i < l.length := (List.getElem?_eq_some_iff.1 hi).1
    rw [cell_kept (below_new _) (hsrc.out i hi2)]
    simp [List.getD, hi, yv]
  case q2 =>
    intro v hv
    rfl
  rw [← hw1.out, ← hw5.out]
  have A5 := Lib.hid (A'.out.kept hb5.out)
  have hz5 : W.heap.size < w5.heap.size := (Array.getElem?_eq_some_iff.1 E5.out).1
  clear hw1 hw5
  obtain ⟨ents, hM, hkn⟩ := A5.out.map
  have hM' := Lib.hid hM
  have hkn' := Lib.hid hkn
  obtain ⟨lk, hlk⟩ := hkey.out
  have hlk' := Lib.hid hlk
  have qv : w5.cell? ⟨mv, 0, none⟩ = some (.map (some mb)) := by rw [cell_of_row w5 _ 0 _ 137 (0, 0) A5.out.var]; rfl
  have hz0 : (zeroValue 5).run Tryz.prog w5 = .ok (.int .u8 0) w5 := zero5 w5
  obtain ⟨N, hN⟩ : ∃ N, Hid (N = nextN born stay c l) := ⟨_, rfl⟩
  by_cases hin : ∃ p ∈ ents, p.1 = askKey c l
  · obtain ⟨p, hp, hpk⟩ := hin
    have hval : ∀ q ∈ ents, q.1 = askKey c l → q.2 = .int .u8 ((nextN born stay c l : Nat) : Int) := fun q hq e => by
      obtain ⟨c', l', g1, g2, g3, rfl⟩ := hkn q hq
      obtain ⟨rfl, rfl⟩ := askKey_inj (by rw [g2]; exact offs_len hd) e
      rfl
    have hp2 : (askKey c l, Value.int .u8 ((nextN born stay c l : Nat) : Int)) ∈ ents := by
      have := hval p hp hpk
      rw [← hpk, ← this]
      exact hp
    have hlook0 := hM.hit key140 Tryz.underlying137 hz0 hlk hp2 hval true
    have hlook : (Instr.lookup 137 (.map (some mb)) (.agg #[.int .u8 (c : Int), .int .i64 (n : Int), yv (l.getD 0 0), yv (l.getD 1 0), yv (l.getD 2 0), yv (l.getD 3 0), yv (l.getD 4 0), yv (l.getD 5 0), yv (l.getD 6 0), yv (l.getD 7 0)]) true).run Tryz.prog w5 = .ok (.tuple #[.int .u8 (N : Int), .bool true]) w5 := by
      rw [hN.out, hn.out]; exact hlook0
    have E5' := E5.out
    clear hlook0 hval hp2 hp hpk hM hkn hlk hkr E5
    generalize hk0 : yv (l.getD 0 0) = k0 at *
    generalize hk1 : yv (l.getD 1 0) = k1 at *
    generalize hk2 : yv (l.getD 2 0) = k2 at *
    generalize hk3 : yv (l.getD 3 0) = k3 at *
    generalize hk4 : yv (l.getD 4 0) = k4 at *
    generalize hk5 : yv (l.getD 5 0) = k5 at *
    generalize hk6 : yv (l.getD 6 0) = k6 at *
    generalize hk7 : yv (l.getD 7 0) = k7 at *
    have q0 : w5.cell? ⟨W.heap.size, 0, none⟩ = some (.int .u8 (c : Int)) := by rw [cell_of_row w5 _ 0 _ 140 (0, 0) E5']; rfl
    have q1 : w5.cell? ⟨W.heap.size, 1, none⟩ = some (.int .i64 (n : Int)) := by rw [cell_of_row w5 _ 1 _ 140 (0, 0) E5']; rfl
    have q2 : w5.cell? ⟨W.heap.size, 2, none⟩ = some (k0) := by rw [cell_of_row w5 _ 2 _ 140 (0, 0) E5']; rfl
    have q3 : w5.cell? ⟨W.heap.size, 3, none⟩ = some (k1) := by rw [cell_of_row w5 _ 3 _ 140 (0, 0) E5']; rfl
    have q4 : w5.cell? ⟨W.heap.size, 4, none⟩ = some (k2) := by rw [cell_of_row w5 _ 4 _ 140 (0, 0) E5']; rfl
    have q5 : w5.cell? ⟨W.heap.size, 5, none⟩ = some (k3) := by rw [cell_of_row w5 _ 5 _ 140 (0, 0) E5']; rfl
    have q6 : w5.cell? ⟨W.heap.size, 6, none⟩ = some (k4) := by rw [cell_of_row w5 _ 6 _ 140 (0, 0) E5']; rfl
    have q7 : w5.cell? ⟨W.heap.size, 7, none⟩ = some (k5) := by rw [cell_of_row w5 _ 7 _ 140 (0, 0) E5']; rfl
    have q8 : w5.cell? ⟨W.heap.size, 8, none⟩ = some (k6) := by rw [cell_of_row w5 _ 8 _ 140 (0, 0) E5']; rfl
    have q9 : w5.cell? ⟨W.heap.size, 9, none⟩ = some (k7) := by rw [cell_of_row w5 _ 9 _ 140 (0, 0) E5']; rfl
    clear E5'
    go_wp2_with fail
    refine bodyPost_ret (v := .tuple #[.int .u8 (N : Int), .int .i64 0]) ?_ rfl ⟨by rw [hN.out], A5.out, hb5.out.os, hb5.out.tape, hb5.out.output, hb5.out.size, fun k hk _ => hb5.out.block k hk⟩
    simp only [results, Tryz.f58, Array.toList]
    go_simp
  · have hno : ∀ q ∈ ents, q.1 ≠ askKey c l := fun q hq e => hin ⟨q, hq, e⟩
    have hno' := Lib.hid hno
    have hlook0 := hM.miss key140 Tryz.underlying137 hz0 hlk hno true
    have hlook : (Instr.lookup 137 (.map (some mb)) (.agg #[.int .u8 (c : Int), .int .i64 (n : Int), yv (l.getD 0 0), yv (l.getD 1 0), yv (l.getD 2 0), yv (l.getD 3 0), yv (l.getD 4 0), yv (l.getD 5 0), yv (l.getD 6 0), yv (l.getD 7 0)]) true).run Tryz.prog w5 = .ok (.tuple #[.int .u8 0, .bool false]) w5 := by
      rw [hn.out]; exact hlook0
    have hKey : Hid (askKey c l = .agg #[.int .u8 (c : Int), .int .i64 (n : Int), yv (l.getD 0 0), yv (l.getD 1 0), yv (l.getD 2 0), yv (l.getD 3 0), yv (l.getD 4 0), yv (l.getD 5 0), yv (l.getD 6 0), yv (l.getD 7 0)]) := by show _ = _; rw [hn.out]
    have E5' := Lib.hid E5.out
    have hv5 := Lib.hid (hv'.out.kept hb5.out)
    clear hlook0 hno hM hkn hlk hkr E5
    generalize hk0 : yv (l.getD 0 0) = k0 at *
    generalize hk1 : yv (l.getD 1 0) = k1 at *
    generalize hk2 : yv (l.getD 2 0) = k2 at *
    generalize hk3 : yv (l.getD 3 0) = k3 at *
    generalize hk4 : yv (l.getD 4 0) = k4 at *
    generalize hk5 : yv (l.getD 5 0) = k5 at *
    generalize hk6 : yv (l.getD 6 0) = k6 at *
    generalize hk7 : yv (l.getD 7 0) = k7 at *
    have q0 : w5.cell? ⟨W.heap.size, 0, none⟩ = some (.int .u8 (c : Int)) := by rw [cell_of_row w5 _ 0 _ 140 (0, 0) E5'.out]; rfl
    have q1 : w5.cell? ⟨W.heap.size, 1, none⟩ = some (.int .i64 (n : Int)) := by rw [cell_of_row w5 _ 1 _ 140 (0, 0) E5'.out]; rfl
    have q2 : w5.cell? ⟨W.heap.size, 2, none⟩ = some (k0) := by rw [cell_of_row w5 _ 2 _ 140 (0, 0) E5'.out]; rfl
    have q3 : w5.cell? ⟨W.heap.size, 3, none⟩ = some (k1) := by rw [cell_of_row w5 _ 3 _ 140 (0, 0) E5'.out]; rfl
    have q4 : w5.cell? ⟨W.heap.size, 4, none⟩ = some (k2) := by rw [cell_of_row w5 _ 4 _ 140 (0, 0) E5'.out]; rfl
    have q5 : w5.cell? ⟨W.heap.size, 5, none⟩ = some (k3) := by rw [cell_of_row w5 _ 5 _ 140 (0, 0) E5'.out]; rfl
    have q6 : w5.cell? ⟨W.heap.size, 6, none⟩ = some (k4) := by rw [cell_of_row w5 _ 6 _ 140 (0, 0) E5'.out]; rfl
    have q7 : w5.cell? ⟨W.heap.size, 7, none⟩ = some (k5) := by rw [cell_of_row w5 _ 7 _ 140 (0, 0) E5'.out]; rfl
    have q8 : w5.cell? ⟨W.heap.size, 8, none⟩ = some (k6) := by rw [cell_of_row w5 _ 8 _ 140 (0, 0) E5'.out]; rfl
    have q9 : w5.cell? ⟨W.heap.size, 9, none⟩ = some (k7) := by rw [cell_of_row w5 _ 9 _ 140 (0, 0) E5'.out]; rfl
    have r0 : w5.cell? ⟨rb, 0, none⟩ = some (.int .u8 1) := by rw [cell_of_row w5 _ 0 _ 46 (0, 0) A5.out.rule]; rfl
    have r1 : w5.cell? ⟨rb, 1, none⟩ = some (.int .u8 hd) := by rw [cell_of_row w5 _ 1 _ 46 (0, 0) A5.out.rule]; rfl
    have r2 : w5.cell? ⟨rb, 2, none⟩ = some (.int .u16 (born : Int)) := by rw [cell_of_row w5 _ 2 _ 46 (0, 0) A5.out.rule]; rfl
    have r3 : w5.cell? ⟨rb, 3, none⟩ = some (.int .u16 (stay : Int)) := by rw [cell_of_row w5 _ 3 _ 46 (0, 0) A5.out.rule]; rfl
    have r4 : w5.cell? ⟨rb, 4, none⟩ = some (.int .i64 2) := by rw [cell_of_row w5 _ 4 _ 46 (0, 0) A5.out.rule]; rfl
    have r5 : w5.cell? ⟨rb, 5, none⟩ = some (.string ⟨#[]⟩) := by rw [cell_of_row w5 _ 5 _ 46 (0, 0) A5.out.rule]; rfl
    have r6 : w5.cell? ⟨rb, 6, none⟩ = some (.int .i64 0) := by rw [cell_of_row w5 _ 6 _ 46 (0, 0) A5.out.rule]; rfl
    have r7 : w5.cell? ⟨rb, 7, none⟩ = some (.int .u8 0) := by rw [cell_of_row w5 _ 7 _ 46 (0, 0) A5.out.rule]; rfl
    have r8 : w5.cell? ⟨rb, 8, none⟩ = some (.int .u8 0) := by rw [cell_of_row w5 _ 8 _ 46 (0, 0) A5.out.rule]; rfl
    have r9 : w5.cell? ⟨rb, 9, none⟩ = some (.slice none 0 0) := by rw [cell_of_row w5 _ 9 _ 46 (0, 0) A5.out.rule]; rfl
    have r10 : w5.cell? ⟨rb, 10, none⟩ = some (.slice none 0 0) := by rw [cell_of_row w5 _ 10 _ 46 (0, 0) A5.out.rule]; rfl
    have hL5 : Hid (Value.slice (some ⟨g, o, none⟩) n cap = .slice (some ⟨g, o, none⟩) l.length cap) := by show _ = _; rw [hn.out]
    have KN5 : Hid (Calls Tryz.prog 59 #[lifeRule hd born stay, .int .u8 (c : Int), .slice (some ⟨g, o, none⟩) n cap] w5 fun e w' => e = .returned (.tuple #[.int .u8 (N : Int), .int .i64 0]) ∧ Below w5.heap.size w5 w') := by
      rw [hL5.out, hN.out]
      refine (KN.out w5 hv5.out).mono ?_
      rintro e w' ⟨rfl, hb⟩
      refine ⟨?_, hb⟩
      unfold nextN
      split <;> rfl
    go_wp2_with fail
    refine (KN5.out).mono ?_
    rintro e w6 ⟨rfl, hb6⟩
    have A6 := Lib.hid (A5.out.kept hb6)
    have hM6 : Hid (MapIs Tryz.prog 140 w6 mb ents) := hM'.out.of_block (hb6.block mb A5.out.lt.2.1)
    have E6 : Hid (w6.heap[W.heap.size]? = some (.cells #[.int .u8 (c : Int), .int .i64 (n : Int), k0, k1, k2, k3, k4, k5, k6, k7] 140 (0, 0))) := (hb6.block _ hz5).trans E5'.out
    have hb56 := Lib.hid (below_then hb5.out hb6 hb5.out.size)
    obtain ⟨w7, hrun0, hM7, hG7⟩ := hM6.out.put key140 Tryz.underlying137 hlk'.out (.int .u8 (N : Int)) hno'.out
    rw [hKey.out] at hrun0
    have hM7' := Lib.hid hM7
    have hG7' := Lib.hid hG7
    clear hM7 hG7 hb6 qv hz0 hlook q0 q1 q2 q3 q4 q5 q6 q7 q8 q9 r0 r1 r2 r3 r4 r5 r6 r7 r8 r9 r10
    have qv : w6.cell? ⟨mv, 0, none⟩ = some (.map (some mb)) := by rw [cell_of_row w6 _ 0 _ 137 (0, 0) A6.out.var]; rfl
    have q0 : w6.cell? ⟨W.heap.size, 0, none⟩ = some (.int .u8 (c : Int)) := by rw [cell_of_row w6 _ 0 _ 140 (0, 0) E6.out]; rfl
    have q1 : w6.cell? ⟨W.heap.size, 1, none⟩ = some (.int .i64 (n : Int)) := by rw [cell_of_row w6 _ 1 _ 140 (0, 0) E6.out]; rfl
    have q2 : w6.cell? ⟨W.heap.size, 2, none⟩ = some (k0) := by rw [cell_of_row w6 _ 2 _ 140 (0, 0) E6.out]; rfl
    have q3 : w6.cell? ⟨W.heap.size, 3, none⟩ = some (k1) := by rw [cell_of_row w6 _ 3 _ 140 (0, 0) E6.out]; rfl
    have q4 : w6.cell? ⟨W.heap.size, 4, none⟩ = some (k2) := by rw [cell_of_row w6 _ 4 _ 140 (0, 0) E6.out]; rfl
    have q5 : w6.cell? ⟨W.heap.size, 5, none⟩ = some (k3) := by rw [cell_of_row w6 _ 5 _ 140 (0, 0) E6.out]; rfl
    have q6 : w6.cell? ⟨W.heap.size, 6, none⟩ = some (k4) := by rw [cell_of_row w6 _ 6 _ 140 (0, 0) E6.out]; rfl
    have q7 : w6.cell? ⟨W.heap.size, 7, none⟩ = some (k5) := by rw [cell_of_row w6 _ 7 _ 140 (0, 0) E6.out]; rfl
    have q8 : w6.cell? ⟨W.heap.size, 8, none⟩ = some (k6) := by rw [cell_of_row w6 _ 8 _ 140 (0, 0) E6.out]; rfl
    have q9 : w6.cell? ⟨W.heap.size, 9, none⟩ = some (k7) := by rw [cell_of_row w6 _ 9 _ 140 (0, 0) E6.out]; rfl
    go_wp2_with fail
    have hfin : Hid (AskAt w7 hd born stay mv mb rb) := by
      refine ⟨(hG7'.out.block _ A6.out.lt.1 (fun e => A6.out.ne.1 (by injection e))).trans A6.out.var, (hG7'.out.block _ A6.out.lt.2.2 (fun e => A6.out.ne.2 (by injection e))).trans A6.out.rule, ⟨_, hM7'.out, fun p hp => ?_⟩, A6.out.ne⟩
      rcases List.mem_append.1 hp with hp | hp
      · exact hkn'.out p hp
      · rw [List.mem_singleton] at hp
        subst hp
        exact ⟨c, l, hc'.out, hlo.out, h2'.out, by rw [hN.out]⟩
    have hgr : Hid (W.grownBy w7 (some mb)) := ⟨hG7'.out.os.trans hb56.out.os, hG7'.out.tape.trans hb56.out.tape, hG7'.out.output.trans hb56.out.output, Nat.le_trans hb56.out.size hG7'.out.size, fun k hk hne => (hG7'.out.block k (Nat.lt_of_lt_of_le hk hb56.out.size) hne).trans (hb56.out.block k hk)⟩
    refine bodyPost_ret (v := .tuple #[.int .u8 (N : Int), .int .i64 0]) ?_ rfl ⟨by rw [hN.out], hfin.out, hgr.out⟩
    simp only [results, Tryz.f58, Array.toList]
    go_simp
end Go.Proofs.YtcbhbojplcddkaaGreatDoor
namespace Go.Proofs.YtcbhbojplcddkaaGreatDoor
open Go.RowKit Go.RowBits Go.Shelf
set_option linter.unusedSimpArgs false
set_option linter.unusedVariables false

/-! ### step.refused -/
set_option maxHeartbeats 2000000 in
theorem ofBad {h : Int} {born stay : Nat} (hb1 : born < 65536) (hs1 : stay < 65536) (hE : lifeE h born stay ≠ 0) (w : World) : Calls Tryz.prog 72 #[lifeRule h born stay] w fun e w' => e = .returned (.tuple #[.nilIface, .int .i64 (lifeE h born stay)]) ∧ Below w.heap.size w w' := by
  have K1 := Lib.hid (fun W => bare94 W)
  have K20 := fun W => b113 (h := h) hb1 hs1 W
  have K2 := Lib.hid K20
  clear K20
  generalize lifeE h born stay = le at *
  have hE1 : (le == 0) = false := by rw [beq_eq_false_iff_ne]; exact hE
  go_enter Tryz.func72, Tryz.ntmps72
  go_wp2_with fail
  refine (K1.out _).mono ?_
  rintro e w1 ⟨rfl, hb⟩
  obtain ⟨hc1, hf1⟩ := bcell hb
  have hz1 : w.heap.size < w1.heap.size := by have := hb.size; simp at this; omega
  have hB1 := Lib.hid (below_then (B := w.heap.size) (below_new _) hb (by simp))
  clear hb
  go_wp2_with fail
  refine (K2.out _).mono ?_
  rintro e w2 ⟨rfl, hb⟩
  obtain ⟨hc2, hf2⟩ := bcell hb
  have hz2 : w.heap.size < w2.heap.size := by have := hb.size; omega
  have hB2 := Lib.hid (below_then hB1.out hb hB1.out.size)
  clear hb
  go_wp2
  go_ret2
  exact ⟨rfl, hB2.out⟩
set_option maxHeartbeats 2000000 in
theorem mayBad {h : Int} {born stay : Nat} (hb1 : born < 65536) (hs1 : stay < 65536) (hE : lifeE h born stay ≠ 0) (w : World) : Calls Tryz.prog 57 #[lifeRule h born stay] w fun e w' => e = .returned (.tuple #[.nilIface, .int .i64 8]) ∧ Below w.heap.size w w' := by
  have K1 := Lib.hid (fun W => ofBad hb1 hs1 hE W)
  generalize lifeE h born stay = le at *
  have hE1 : (le == 0) = false := by rw [beq_eq_false_iff_ne]; exact hE
  go_enter Tryz.func57, Tryz.ntmps57
  go_wp2_with fail
  refine (K1.out _).mono ?_
  rintro e w1 ⟨rfl, hb⟩
  have hB1 := Lib.hid (below_then (B := w.heap.size) (below_new _) hb (by simp))
  clear hb
  go_wp2
  go_ret2
  exact ⟨rfl, hB1.out⟩
set_option maxHeartbeats 2000000 in
theorem statesBad {h : Int} {born stay : Nat} (hb1 : born < 65536) (hs1 : stay < 65536) (hE : lifeE h born stay ≠ 0) (w : World) : Calls Tryz.prog 56 #[lifeRule h born stay] w fun e w' => e = .returned (.tuple #[.int .i64 0, .int .i64 8]) ∧ Below w.heap.size w w' := by
  have K1 := Lib.hid (fun W => mayBad hb1 hs1 hE W)
  have K2 := Lib.hid (fun W => b117 (h := h) (born := born) (stay := stay) W)
  clear hE
  go_enter Tryz.func56, Tryz.ntmps56
  go_wp2_with fail
  refine (K1.out _).mono ?_
  rintro e w1 ⟨rfl, hb⟩
  have hB1 := Lib.hid (below_then (B := w.heap.size) (below_new _) hb (by simp))
  clear hb
  go_wp2
  go_ret2
  exact ⟨rfl, hB1.out⟩
section
variable {B E : Nat} {W0 : World} {fb w h s : Nat} {pk : Bool} {c : Nat → Nat → Nat} {hd : Int} {born stay : Nat} {k W H tn sh n : Int}
set_option maxRecDepth 100000 in
set_option maxHeartbeats 8000000 in
theorem refusedR (f : Fld B E W0 fb w h s pk c) (hb1 : born < 65536) (hs1 : stay < 65536) (hk : 0 ≤ k ∧ k < 256) (ht : 0 ≤ tn) :
    Calls Tryz.prog 26 #[lifeRule hd born stay, topoV k W H tn sh, .pointer (some ⟨fb, 0, none⟩), .int .i64 n] W0 fun e w' => e = .returned (.int .i64 (mayE hd born stay k W H tn sh w h s n 7)) ∧ Below W0.heap.size W0 w' := by
  obtain ⟨⟨w1, w2⟩, ⟨h1, h2⟩, ⟨s1, s2⟩, hwh⟩ := f.side
  have F1 := Lib.hid (fun (W' : World) (hb : Below W0.heap.size W0 W') => (f.kept hb).wide)
  have F2 := Lib.hid (fun (W' : World) (hb : Below W0.heap.size W0 W') => (f.kept hb).high)
  have F3 := Lib.hid (fun (W' : World) (hb : Below W0.heap.size W0 W') => (f.kept hb).count)
  have KLg : Hid (lifeE hd born stay = 0 → ∀ w, _) := Lib.hid fun hE w => states48 (h := hd) hb1 hs1 hE w
  have KLb : Hid (lifeE hd born stay ≠ 0 → ∀ w, _) := Lib.hid fun hE w => statesBad (h := hd) hb1 hs1 hE w
  have KT := Lib.hid (fun w => topo38 (W := W) (H := H) (sh := sh) hk ht w)
  obtain ⟨W2, hW2⟩ : ∃ W2, Hid (W2 = (W0.alloc (.cells (lifeRuleC hd born stay) 46)).alloc (.cells #[.int .u8 k, .int .i64 W, .int .i64 H, .int .u8 tn, .int .i64 sh] 26)) := ⟨_, rfl⟩
  have hB2 : Hid (Below W0.heap.size W0 W2) := by rw [hW2.out]; exact (below_new _).alloc (by simp) _
  have E2 : Blks W2 [(W0.heap.size + 1, #[.int .u8 k, .int .i64 W, .int .i64 H, .int .u8 tn, .int .i64 sh], 26), (W0.heap.size, (lifeRuleC hd born stay), 46)] := by
    rw [hW2.out]
    exact ((Blks.nil _).alloc (n := W0.heap.size) rfl (lifeRuleC hd born stay) 46).alloc (n := W0.heap.size + 1) (by simp) #[.int .u8 k, .int .i64 W, .int .i64 H, .int .u8 tn, .int .i64 sh] 26
  have E2' := Lib.hid E2
  have hcl : Hid (∀ W' : World, Below W2.heap.size W2 W' → W'.cell? ⟨W0.heap.size + 1, 0, none⟩ = some (.int .u8 k) ∧ W'.cell? ⟨W0.heap.size + 1, 1, none⟩ = some (.int .i64 W) ∧ W'.cell? ⟨W0.heap.size + 1, 2, none⟩ = some (.int .i64 H) ∧ W'.cell? ⟨W0.heap.size + 1, 3, none⟩ = some (.int .u8 tn) ∧ W'.cell? ⟨W0.heap.size + 1, 4, none⟩ = some (.int .i64 sh)) := fun W' hb => by
    have h3 := (E2'.out.kept hb) (W0.heap.size + 1, #[.int .u8 k, .int .i64 W, .int .i64 H, .int .u8 tn, .int .i64 sh], 26) (by simp)
    exact ⟨by rw [cell_of_row W' _ 0 _ 26 (0, 0) h3]; rfl, by rw [cell_of_row W' _ 1 _ 26 (0, 0) h3]; rfl, by rw [cell_of_row W' _ 2 _ 26 (0, 0) h3]; rfl, by rw [cell_of_row W' _ 3 _ 26 (0, 0) h3]; rfl, by rw [cell_of_row W' _ 4 _ 26 (0, 0) h3]; rfl⟩
  have l0 : W2.cell? ⟨W0.heap.size, 0, none⟩ = some (.int .u8 1) := E2.cell (cs := (lifeRuleC hd born stay)) (T := 46) (by simp) rfl
  have l1 : W2.cell? ⟨W0.heap.size, 1, none⟩ = some (.int .u8 hd) := E2.cell (cs := (lifeRuleC hd born stay)) (T := 46) (by simp) rfl
  have l2 : W2.cell? ⟨W0.heap.size, 2, none⟩ = some (.int .u16 (born : Int)) := E2.cell (cs := (lifeRuleC hd born stay)) (T := 46) (by simp) rfl
  have l3 : W2.cell? ⟨W0.heap.size, 3, none⟩ = some (.int .u16 (stay : Int)) := E2.cell (cs := (lifeRuleC hd born stay)) (T := 46) (by simp) rfl
  have l4 : W2.cell? ⟨W0.heap.size, 4, none⟩ = some (.int .i64 2) := E2.cell (cs := (lifeRuleC hd born stay)) (T := 46) (by simp) rfl
  have l5 : W2.cell? ⟨W0.heap.size, 5, none⟩ = some (.string ⟨#[]⟩) := E2.cell (cs := (lifeRuleC hd born stay)) (T := 46) (by simp) rfl
  have l6 : W2.cell? ⟨W0.heap.size, 6, none⟩ = some (.int .i64 0) := E2.cell (cs := (lifeRuleC hd born stay)) (T := 46) (by simp) rfl
  have l7 : W2.cell? ⟨W0.heap.size, 7, none⟩ = some (.int .u8 0) := E2.cell (cs := (lifeRuleC hd born stay)) (T := 46) (by simp) rfl
  have l8 : W2.cell? ⟨W0.heap.size, 8, none⟩ = some (.int .u8 0) := E2.cell (cs := (lifeRuleC hd born stay)) (T := 46) (by simp) rfl
  have l9 : W2.cell? ⟨W0.heap.size, 9, none⟩ = some (.slice none 0 0) := E2.cell (cs := (lifeRuleC hd born stay)) (T := 46) (by simp) rfl
  have l10 : W2.cell? ⟨W0.heap.size, 10, none⟩ = some (.slice none 0 0) := E2.cell (cs := (lifeRuleC hd born stay)) (T := 46) (by simp) rfl
  have hwh' := Lib.hid hwh
  clear f E2 hwh
  have zw : ((w : Int) == 0) = false := by rw [beq_eq_false_iff_ne]; omega
  go_enter Tryz.func26, Tryz.ntmps26
  go_wp2_with fail
  rw [← hW2.out]
  refine (F1.out _ hB2.out).mono ?_
  rintro e wq ⟨rfl, hwq⟩
  subst wq
  go_wp2_with fail
  by_cases hl0 : lifeE hd born stay = 0
  · refine (KLg.out hl0 _).mono ?_
    rintro e w3 ⟨rfl, hb3⟩
    have hle : Hid ((0 : Int) = lifeE hd born stay) := hl0.symm
    have hb3' := Lib.hid hb3
    have hB3 := Lib.hid (below_then hB2.out hb3 hB2.out.size)
    obtain ⟨p0, p1, p2, p3, p4⟩ := hcl.out w3 hb3
    clear hb3 hl0 KLg KLb l0 l1 l2 l3 l4 l5 l6 l7 l8 l9 l10
    go_wp2_with fail
    refine (KT.out _).mono ?_
    rintro e w4 ⟨r, rfl, hr, hb4⟩
    have hr' := Lib.hid hr
    have hb4' := Lib.hid (below_then hb3'.out hb4 hb3'.out.size)
    have hB4 := Lib.hid (below_then hB3.out hb4 hB3.out.size)
    obtain ⟨q0, q1, q2, q3, q4⟩ := hcl.out w4 hb4'.out
    clear hb4 hr p0 p1 p2 p3 p4 KT
    by_cases hr0 : r = 0
    · subst hr0
      by_cases hn0 : n < 0
      · go_wp2
        go_ret
        exact ⟨congrArg (fun z => Ending.returned (Value.int .i64 z)) (mayE_2 hle.out.symm (by have := hr'.out; simpa using this) hn0).symm, hB4.out⟩
      by_cases hn1 : 1125899906842624 < n
      · go_wp2
        go_ret
        exact ⟨congrArg (fun z => Ending.returned (Value.int .i64 z)) (mayE_5 hle.out.symm (by have := hr'.out; simpa using this) (by omega) hn1).symm, hB4.out⟩
      by_cases hW0 : W = 0
      · have e1 : (W == 0) = true := by simp [hW0]
        go_wp2
        go_ret
        exact ⟨congrArg (fun z => Ending.returned (Value.int .i64 z)) (mayE_42 hle.out.symm (by have := hr'.out; simpa using this)  (by omega) (by omega) (.inl hW0)).symm, hB4.out⟩
      have eW : (W == 0) = false := by simp [hW0]
      by_cases hH0 : H = 0
      · have e1 : (H == 0) = true := by simp [hH0]
        go_wp2
        go_ret
        exact ⟨congrArg (fun z => Ending.returned (Value.int .i64 z)) (mayE_42 hle.out.symm (by have := hr'.out; simpa using this)  (by omega) (by omega) (.inr hH0)).symm, hB4.out⟩
      have eH : (H == 0) = false := by simp [hH0]
      have QT : Hid (∀ m, Calls Tryz.prog 40 #[.pointer (some ⟨fb, 0, none⟩)] (w4.drewN m) fun e w' => e = .returned (.int .i64 (w : Int)) ∧ w' = w4.drewN m) := fun m => F1.out _ (below_drewN hB4.out _)
      have QH : Hid (∀ m, Calls Tryz.prog 42 #[.pointer (some ⟨fb, 0, none⟩)] (w4.drewN m) fun e w' => e = .returned (.int .i64 (h : Int)) ∧ w' = w4.drewN m) := fun m => F2.out _ (below_drewN hB4.out _)
      by_cases hWw : W = (w : Int)
      · have eWw : (W != (w : Int)) = false := by simp [hWw]
        have eWe : (W == (w : Int)) = true := by simp [hWw]
        by_cases hHh : H = (h : Int)
        · subst hWw hHh
          go_wp2_with fail
          go_quiet ((first | (go_at_call 40; exact Calls.quiet_of_same (QT.out _)) | (go_at_call 42; exact Calls.quiet_of_same (QH.out _))))
          rename Nat => mm
          have KS := Lib.hid (F3.out _ (below_drewN hB4.out mm))
          obtain ⟨v0, v1, v2, v3, v4⟩ := hcl.out _ (below_drewN hb4'.out mm)
          have hB5 := Lib.hid (below_drewN hB4.out mm)
          clear q0 q1 q2 q3 q4
          go_wp2_with fail
          refine (KS.out).mono ?_
          rintro e w6 ⟨rfl, hw6⟩
          subst w6
          by_cases hs2 : s = 2
          · subst hs2
            obtain ⟨p, hp⟩ : ∃ p : Nat, Hid (p = w * h) := ⟨_, rfl⟩
            have hp1 : 1 ≤ p := by rw [hp.out]; exact Nat.mul_pos (by omega) (by omega)
            have hp2 : p ≤ 1048576 := by rw [hp.out]; exact hwh'.out
            have hpe : (w : Int) * (h : Int) = (p : Int) := by rw [hp.out]; simp
            have hwr : IntKind.i64.wrap ((w : Int) * (h : Int)) = (p : Int) := by rw [hpe]; exact IntWalk.i64_in _ (by omega)
            have hpz : ((p : Int) == 0) = false := by rw [beq_eq_false_iff_ne]; omega
            have hpz2 : ¬ (p : Int) = 0 := by omega
            have hqe : Hid (67108864 / (p : Int) = 67108864 / ((w : Int) * (h : Int))) := by show _ = _; rw [hpe]
            have hq0 : 0 ≤ 67108864 / (p : Int) := Int.ediv_nonneg (by omega) (by omega)
            have hq1 : 67108864 / (p : Int) ≤ 67108864 := Int.ediv_le_self _ (by omega)
            obtain ⟨d, hd2⟩ : ∃ d : Int, d = 67108864 / (p : Int) := ⟨_, rfl⟩
            have hdq : IntKind.i64.wrap ((67108864 : Int).tdiv (p : Int)) = d := by rw [Int.tdiv_eq_ediv_of_nonneg (by omega), ← hd2]; exact IntWalk.i64_in _ (by omega)
            have hqd : Hid (67108864 / (p : Int) = d) := hd2.symm
            have hd3 : (67108864 : Int) / (p : Int) = d := hd2.symm
            clear hpe hq0 hq1 hd2 v0 v3 v4
            by_cases hnd : n ≤ d
            · go_wp2
              go_ret
              exact ⟨congrArg (fun z => Ending.returned (Value.int .i64 z)) (mayE_0 hle.out.symm (by have := hr'.out; simpa using this)  (by omega) (by omega) (fun a => a.elim hW0 hH0) ⟨rfl, rfl⟩ rfl (by rw [← hqe.out, hqd.out]; omega)).symm, hB5.out⟩
            · go_wp2
              go_ret
              exact ⟨congrArg (fun z => Ending.returned (Value.int .i64 z)) (mayE_4 hle.out.symm (by have := hr'.out; simpa using this)  (by omega) (by omega) (fun a => a.elim hW0 hH0) ⟨rfl, rfl⟩ rfl (by rw [← hqe.out, hqd.out]; omega)).symm, hB5.out⟩
          · have e1 : ((s : Int) == 2) = false := by rw [beq_eq_false_iff_ne]; omega
            have e2 : ((s : Int) != 2) = true := by simp [bne, e1]
            go_wp2
            go_ret
            exact ⟨congrArg (fun z => Ending.returned (Value.int .i64 z)) (mayE_st hle.out.symm (by have := hr'.out; simpa using this)  (by omega) (by omega) (fun a => a.elim hW0 hH0) ⟨rfl, rfl⟩ hs2).symm, hB5.out⟩
        · have eHh : (H != (h : Int)) = true := by simp [hHh]
          have eHe : (H == (h : Int)) = false := by simp [hHh]
          subst hWw
          go_wp2_with fail
          go_quiet ((first | (go_at_call 40; exact Calls.quiet_of_same (QT.out _)) | (go_at_call 42; exact Calls.quiet_of_same (QH.out _))))
          go_wp2
          go_ret
          exact ⟨congrArg (fun z => Ending.returned (Value.int .i64 z)) (mayE_21 hle.out.symm (by have := hr'.out; simpa using this)  (by omega) (by omega) (fun a => a.elim hW0 hH0) (fun a => hHh a.2)).symm, below_drewN hB4.out _⟩
      · have eWw : (W != (w : Int)) = true := by simp [hWw]
        have eWe : (W == (w : Int)) = false := by simp [hWw]
        go_wp2_with fail
        go_quiet ((first | (go_at_call 40; exact Calls.quiet_of_same (QT.out _)) | (go_at_call 42; exact Calls.quiet_of_same (QH.out _))))
        go_wp2
        go_ret
        exact ⟨congrArg (fun z => Ending.returned (Value.int .i64 z)) (mayE_21 hle.out.symm (by have := hr'.out; simpa using this)  (by omega) (by omega) (fun a => a.elim hW0 hH0) (fun a => hWw a.1)).symm, below_drewN hB4.out _⟩
    · have e1 : (r == 0) = false := by simp [hr0]
      have e2 : (r != 0) = true := by simp [hr0]
      go_wp2
      go_ret
      exact ⟨congrArg (fun z => Ending.returned (Value.int .i64 z)) (mayE_9 hle.out.symm (fun a => hr0 (hr'.out.2 a))).symm, hB4.out⟩
  · refine (KLb.out hl0 _).mono ?_
    rintro e w3 ⟨rfl, hb3⟩
    have hB3 := Lib.hid (below_then hB2.out hb3 hB2.out.size)
    clear hb3 KLg KLb
    go_wp2
    go_ret
    exact ⟨congrArg (fun z => Ending.returned (Value.int .i64 z)) (mayE_8 hl0).symm, hB3.out⟩
end
end Go.Proofs.YtcbhbojplcddkaaGreatDoor
