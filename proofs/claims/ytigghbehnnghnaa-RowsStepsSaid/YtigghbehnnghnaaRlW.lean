import Derived.Test.YtigghbehnnghnaaRlV
namespace Go.Proofs.Ytigghbehnnghnaa
open Go.RowKit Go.RowBits Go.MapRaw Go.Maps
set_option linter.unusedSimpArgs false
set_option linter.unusedVariables false

/-! ### Errors of New and Row -/
set_option maxRecDepth 20000 in
set_option maxHeartbeats 4000000 in
theorem new18_most {h : Int} {born stay : Nat} {k : Int} {n : Nat} {most : Int} {W : World} (S : Strip h born stay k (n : Int)) (hm : most < 1 ∨ 65536 < most) : Calls Try.prog 18 #[lifeRule h born stay, topoV k (n : Int) 0, .int .i64 most] W fun e w' =>
    e = .returned (.tuple #[.pointer none, .int .i64 2]) ∧ Below W.heap.size W w' := by
  have K1 := Lib.hid (fun W' => winCheck28 S W')
  clear S
  rcases hm with hm | hm
  · go_enter Try.func18, Try.ntmps18
    go_wp2_with fail
    refine (K1.out _).mono ?_
    rintro e w1 ⟨rfl, hb⟩
    have hB1 := Lib.hid (below_then (B := W.heap.size) ((below_new _).alloc (by simp) _) hb (by simp; omega))
    clear hb
    go_wp2
    go_ret2
    exact ⟨rfl, hB1.out⟩
  · have hm' : ¬ most < 1 := by omega
    go_enter Try.func18, Try.ntmps18
    go_wp2_with fail
    refine (K1.out _).mono ?_
    rintro e w1 ⟨rfl, hb⟩
    have hB1 := Lib.hid (below_then (B := W.heap.size) ((below_new _).alloc (by simp) _) hb (by simp; omega))
    clear hb
    go_wp2
    go_ret2
    exact ⟨rfl, hB1.out⟩

section
variable {p : BP} {B : Nat} {W W' : World} {bk bn bw : Nat} {rows : List (List Nat)} {wk : List ((Nat × Nat × Nat) × Nat)}
/-- A row that begins with a state that is none. -/
theorem row21_state (h : Book p B W bk bn bw rows wk) {g x : Nat} {l : List Nat} (hr : l.length + 1 = p.n) (hn : p.n ≤ 65536) (hY : YBlk W g (x :: l)) (hx : 2 ≤ x) (hx2 : x < 256) {cap : Nat} : Calls Try.prog 21 #[.pointer (some ⟨bk, 0, none⟩), .slice (some ⟨g, 0, none⟩) p.n cap] W fun e w' =>
    e = .returned (.tuple #[.int .i64 0, .int .i64 7]) ∧ w' = W := by
  obtain ⟨kv, ks, h⟩ := h
  have K1 := Lib.hid (none51 h)
  have c12 : W.cell? ⟨bk, 12, none⟩ = some (.int .i64 (p.n : Int)) := h.cell rfl
  have c16 : W.cell? ⟨bk, 16, none⟩ = some (.int .i64 2) := h.cell rfl
  have c0 : W.cell? ⟨g, 0, none⟩ = some (.int .u8 (x : Int)) := hY.cell (j := 0) (by simp)
  have hp : 0 < p.n := by omega
  generalize p.n = n at *
  clear h hY hr
  go_enter Try.func21, Try.ntmps21
  go_wp2_with fail
  refine (K1.out).mono ?_
  rintro e w' ⟨rfl, rfl⟩
  go_wp2
  go_loop [20] (fun i => i = .int .i64 0) (fun i => 0)
  case atStart => exact by go_num
  case round =>
    subst hrel
    go_wp2
    go_ret2
    exact ⟨rfl, rfl⟩
end
end Go.Proofs.Ytigghbehnnghnaa
