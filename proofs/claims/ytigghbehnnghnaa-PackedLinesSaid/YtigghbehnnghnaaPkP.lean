import Derived.Test.YtigghbehnnghnaaPkN
import Derived.Test.YtigghbehnnghnaaPkM
namespace Go.Proofs.Ytigghbehnnghnaa
open Go.RowKit Go.RowBits
set_option linter.unusedSimpArgs false
set_option linter.unusedVariables false

set_option maxRecDepth 20000 in
set_option maxHeartbeats 4000000 in
theorem kept16 {w : World} {base : Nat} {v v' : Value} {ws : List Nat} (N : Int) (hl : ws.length * 8 + 16 ≤ 140737488355328) (h : HasW w v ws) (hL : Lent w base v' ws) :
    Calls Try.prog 16 #[.agg #[.int .i64 N, v'], .agg #[.int .i64 N, v]] w fun e w' => e = .returned (.bool true) ∧ Below w.heap.size w w' := by
  obtain ⟨g, cap, rfl, ho⟩ := hL
  obtain ⟨ad, cap', rfl, hc⟩ := h
  have hcap : ws.length + 2 ≤ cap := by
    rcases ho.2 with ⟨h0, _⟩ | ⟨g', c', cur, hv, q1, q2, q3, _⟩
    · cases h0
    · cases hv; exact q3
  have hgl : g < w.heap.size := (ho.lt g rfl).2
  have hcell : ∀ j, j < ws.length + 2 → w.cell? ⟨g, j, none⟩ = ((ws ++ [77, 78]).map wv)[j]? := fun j hj => ho.cellAt j (by omega)
  have m1 : w.cell? ⟨g, ws.length, none⟩ = some (.int .u64 77) := by rw [hcell _ (by omega)]; simp [wv]
  have m2 : w.cell? ⟨g, ws.length + 1, none⟩ = some (.int .u64 78) := by rw [hcell _ (by omega)]; simp [wv]
  have hw0 : ∀ j, j < ws.length → w.cell? ⟨g, j, none⟩ = some (.int .u64 ((ws.getD j 0 : Nat) : Int)) := fun j hj => by
    rw [hcell _ (by omega), List.map_append, List.getElem?_append_left (by rw [List.length_map]; exact hj), List.getElem?_map, List.getElem?_eq_getElem hj]
    simp [wv, hj]
  have C := Lib.hid hw0
  have C' := Lib.hid hc
  clear hw0 hc hcell ho
  generalize ws.length = n at *
  have hB : Hid (∀ m, Below w.heap.size w (((w.alloc (.cells #[.int .i64 N, .slice (some ⟨g, 0, none⟩) n cap] 27)).alloc (.cells #[.int .i64 N, .slice ad n cap'] 27)).drewN m)) := fun m => below_drewN ((below_new _).alloc (by simp) _) m
  have hcI : (n : Int) + 2 ≤ (cap : Int) := by omega
  go_enter Try.func16, Try.ntmps16
  go_wp2
  go_loopw [6] (fun i wr => SRel ((w.alloc (.cells #[.int .i64 N, .slice (some ⟨g, 0, none⟩) n cap] 27)).alloc (.cells #[.int .i64 N, .slice ad n cap'] 27)) n i wr) (fun i _ => n - (intOf i).toNat)
  case atStart => exact ⟨0, 0, by omega, by go_num, rfl⟩
  case round =>
    obtain ⟨k, m, hk, rfl, rfl⟩ := hrel
    by_cases hlt : k < n
    · have c1 := C.out k hlt
      obtain ⟨g', o', rfl, c3⟩ := C'.out k hlt
      have hg' : g' < w.heap.size := World.block_lt_of_cell? w _ c3
      generalize ws.getD k 0 = X at *
      go_wp2
      go_quiet (fail)
      go_wp2
      exact ⟨⟨k + 1, m + nq, by omega, by go_num, rfl⟩, by simp [intOf]; omega⟩
    · obtain rfl : k = n := by omega
      go_wp2
      go_ret
      exact ⟨rfl, hB.out m⟩
end Go.Proofs.Ytigghbehnnghnaa
