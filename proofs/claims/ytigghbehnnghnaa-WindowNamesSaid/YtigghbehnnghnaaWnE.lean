import Derived.Test.YtigghbehnnghnaaWnD
namespace Go.Proofs.Ytigghbehnnghnaa
open Go.RowKit Go.RowBits
set_option linter.unusedSimpArgs false
set_option linter.unusedVariables false

/-! ### may: a band that may be -/
structure BandOk (ns n : Nat) (at' : Int) (rows : List (List Nat)) : Prop where
  len : ∀ i, i < rows.length → (rows.getD i []).length = n
  lt : ∀ i j, i < rows.length → (rows.getD i []).getD j 0 < ns
  far : 0 < rows.length → farB at' = false ∧ farB (at' + (rows.length : Int) - 1) = false
theorem farB_iff {a : Int} : farB a = false ↔ -1099511627776 ≤ a ∧ a ≤ 1099511627776 := by
  unfold farB
  rw [Bool.or_eq_false_iff, decide_eq_false_iff_not, decide_eq_false_iff_not]
  omega
set_option maxRecDepth 20000 in
set_option maxHeartbeats 4000000 in
theorem may58G {W0 : World} {r : RV} {ns : Nat} {h : Int} {nx : Nat → List Nat → Nat} {k : Int} {n : Nat} {w : World} {at' : Int} {v : Value} {rows : List (List Nat)} (S : StripG W0 r ns h nx k (n : Int)) (hw0 : Below W0.heap.size W0 w) (hr : rows.length ≤ 1000000000000) (hv : HasL w v rows) (hok : BandOk ns n at' rows) :
    Calls Try.prog 58 #[ruleV r, topoV k (n : Int) 0, bandV (n : Int) at' v] w fun e w' => e = .returned (.int .i64 0) ∧ Below w.heap.size w w' := by
  have H0 := Lib.hid hw0
  have n1 : 1 ≤ n := by have := S.hW; omega
  have n2 : n ≤ 65536 := by have := S.hW; omega
  have K1 := Lib.hid (fun W' (hb : Below W0.heap.size W0 W') => check28G S W' hb)
  have K2 := Lib.hid (fun W' (i : Nat) (u : Value) (hi : i < rows.length) (hb : Below W0.heap.size W0 W') (hu : HasY W' u (rows.getD i [])) => knows53G S (w := W') hb (by rw [hok.len i hi]; omega) hu (fun j _ => hok.lt i j hi))
  have hl' := Lib.hid hok.len
  have hfar := Lib.hid hok.far
  have hv' := Lib.hid hv
  have hshape : ∃ ad cap, v = .slice ad rows.length cap := by obtain ⟨ad, cap, e, _⟩ := hv; exact ⟨ad, cap, e⟩
  obtain ⟨ad, cap, rfl⟩ := hshape
  clear hv hok S hw0
  go_enter Try.func58, Try.ntmps58
  go_wp2_with fail
  refine (K1.out _ (below_then H0.out (((below_new _).alloc (by simp) _).alloc (by simp; omega) _) H0.out.size)).mono ?_
  rintro e w1 ⟨rfl, hb⟩
  have E1 := Lib.hid (((((Blks.nil w).alloc rfl (ruleC r) 46).alloc (n := w.heap.size + 1) (by simp) #[.int .u8 k, .int .i64 (n : Int), .int .i64 0, .int .u8 0, .int .i64 0] 49).alloc (n := w.heap.size + 1 + 1) (by simp) #[.int .i64 (n : Int), .int .i64 at', .slice ad rows.length cap] 73).kept hb)
  have hz1 : w.heap.size + 1 + 1 < w1.heap.size := by have := hb.size; simp at this; omega
  have hB1 := Lib.hid (below_then (B := w.heap.size) (((below_new _).alloc (by simp) _).alloc (by simp; omega) _) hb (by simp; omega))
  clear hb
  have t1 : w1.cell? ⟨w.heap.size + 1, 1, none⟩ = some (.int .i64 (n : Int)) := E1.out.cell (cs := #[.int .u8 k, .int .i64 (n : Int), .int .i64 0, .int .u8 0, .int .i64 0]) (T := 49) (by simp) rfl
  have b0 : w1.cell? ⟨w.heap.size + 1 + 1, 0, none⟩ = some (.int .i64 (n : Int)) := E1.out.cell (cs := #[.int .i64 (n : Int), .int .i64 at', .slice ad rows.length cap]) (T := 73) (by simp) rfl
  have b1 : w1.cell? ⟨w.heap.size + 1 + 1, 1, none⟩ = some (.int .i64 at') := E1.out.cell (cs := #[.int .i64 (n : Int), .int .i64 at', .slice ad rows.length cap]) (T := 73) (by simp) rfl
  have b2 : w1.cell? ⟨w.heap.size + 1 + 1, 2, none⟩ = some (.slice ad rows.length cap) := E1.out.cell (cs := #[.int .i64 (n : Int), .int .i64 at', .slice ad rows.length cap]) (T := 73) (by simp) rfl
  go_wp2
  go_loop [27] (fun i => ∃ j : Nat, j ≤ rows.length ∧ i = .int .i64 (j : Int)) (fun i => rows.length - (intOf i).toNat)
  case atStart => exact ⟨0, by omega, by go_num⟩
  case round =>
    obtain ⟨j, hj, rfl⟩ := hrel
    by_cases hlt : j < rows.length
    · obtain ⟨ad', cap', e, hcap, hg⟩ := hv'.out
      injection e with e1 e2 e3
      obtain ⟨g, o, u, had, c1, hy⟩ := hg j hlt
      rw [← e1] at had
      subst had
      have c1 := cell_kept hB1.out c1
      have hln := hl'.out j hlt
      obtain ⟨au, cu, rfl, _⟩ := hy
      rw [hln] at c1
      clear e1 e2 e3 hg hcap hln
      go_wp2
      go_round
      case rel => exact ⟨j + 1, by omega, by go_num⟩
      case measure => simp [intOf]; omega
    · obtain rfl : j = rows.length := by omega
      clear hlt
      go_wp2
      go_loopw [40] (fun i wx => LRel w1 rows.length i wx) (fun i _ => rows.length - (intOf i).toNat)
      case atStart => exact ⟨0, by omega, by go_num, Below.refl _ _⟩
      case round =>
        obtain ⟨j, hj, rfl, hB⟩ := hrel
        have hB' := Lib.hid hB
        have E2 := Lib.hid (E1.out.kept hB)
        have hBw := Lib.hid (below_then hB1.out hB hB1.out.size)
        clear hB b0 b1 b2 t1
        by_cases hlt : j < rows.length
        · obtain ⟨ad', cap', e, hcap, hg⟩ := hv'.out
          injection e with e1 e2 e3
          obtain ⟨g, o, u, had, c1, hy⟩ := hg j hlt
          rw [← e1] at had
          subst had
          have c1 := cell_kept hBw.out c1
          have hy := hy.kept hBw.out
          have KK := Lib.hid (K2.out wr j u hlt (below_then H0.out hBw.out H0.out.size) hy)
          have r0 : wr.cell? ⟨w.heap.size, 0, none⟩ = some (.int .u8 r.kind) := E2.out.cell (cs := ruleC r) (T := 46) (by simp) rfl
          have r1 : wr.cell? ⟨w.heap.size, 1, none⟩ = some (.int .u8 r.hood) := E2.out.cell (cs := ruleC r) (T := 46) (by simp) rfl
          have r2 : wr.cell? ⟨w.heap.size, 2, none⟩ = some (.int .u16 r.born) := E2.out.cell (cs := ruleC r) (T := 46) (by simp) rfl
          have r3 : wr.cell? ⟨w.heap.size, 3, none⟩ = some (.int .u16 r.stay) := E2.out.cell (cs := ruleC r) (T := 46) (by simp) rfl
          have r4 : wr.cell? ⟨w.heap.size, 4, none⟩ = some (.int .i64 r.states) := E2.out.cell (cs := ruleC r) (T := 46) (by simp) rfl
          have r5 : wr.cell? ⟨w.heap.size, 5, none⟩ = some (.string r.name) := E2.out.cell (cs := ruleC r) (T := 46) (by simp) rfl
          have r6 : wr.cell? ⟨w.heap.size, 6, none⟩ = some (.int .i64 r.tst) := E2.out.cell (cs := ruleC r) (T := 46) (by simp) rfl
          have r7 : wr.cell? ⟨w.heap.size, 7, none⟩ = some (.int .u8 r.tho) := E2.out.cell (cs := ruleC r) (T := 46) (by simp) rfl
          have r8 : wr.cell? ⟨w.heap.size, 8, none⟩ = some (.int .u8 r.tsy) := E2.out.cell (cs := ruleC r) (T := 46) (by simp) rfl
          have r9 : wr.cell? ⟨w.heap.size, 9, none⟩ = some (.slice r.va r.vn r.vc) := E2.out.cell (cs := ruleC r) (T := 46) (by simp) rfl
          have r10 : wr.cell? ⟨w.heap.size, 10, none⟩ = some (.slice r.ra r.rn r.rc) := E2.out.cell (cs := ruleC r) (T := 46) (by simp) rfl
          clear e1 e2 e3 hg hcap hy
          go_wp2_with fail
          refine (KK.out).mono ?_
          rintro e w5 ⟨rfl, hb⟩
          have hB5 := Lib.hid (below_then hB'.out hb hB'.out.size)
          clear hb
          go_wp2
          exact ⟨⟨j + 1, by omega, by go_num, hB5.out⟩, by simp [intOf]; omega⟩
        · obtain rfl : j = rows.length := by omega
          clear hlt
          have b0 : wr.cell? ⟨w.heap.size + 1 + 1, 0, none⟩ = some (.int .i64 (n : Int)) := E2.out.cell (cs := #[.int .i64 (n : Int), .int .i64 at', .slice ad rows.length cap]) (T := 73) (by simp) rfl
          have b1 : wr.cell? ⟨w.heap.size + 1 + 1, 1, none⟩ = some (.int .i64 at') := E2.out.cell (cs := #[.int .i64 (n : Int), .int .i64 at', .slice ad rows.length cap]) (T := 73) (by simp) rfl
          have b2 : wr.cell? ⟨w.heap.size + 1 + 1, 2, none⟩ = some (.slice ad rows.length cap) := E2.out.cell (cs := #[.int .i64 (n : Int), .int .i64 at', .slice ad rows.length cap]) (T := 73) (by simp) rfl
          rcases Nat.eq_zero_or_pos rows.length with hz | hz
          · have hz0 : ¬ 0 < rows.length := by omega
            clear hz
            go_wp2
            go_ret
            exact ⟨rfl, hBw.out⟩
          · obtain ⟨f1, f2⟩ := hfar.out hz
            have f1' := farB_iff.1 f1
            have F1 := Lib.hid (fun W => far61 at' W)
            have F2 := Lib.hid (fun W => far61 (at' + (rows.length : Int) - 1) W)
            rw [f1] at F1
            rw [f2] at F2
            clear f1 f2
            go_wp2_with fail
            refine (F1.out _).mono ?_
            rintro e w' ⟨rfl, rfl⟩
            go_wp2_with fail
            refine (F2.out _).mono ?_
            rintro e w' ⟨rfl, rfl⟩
            go_wp2
            go_ret
            exact ⟨rfl, hBw.out⟩
end Go.Proofs.Ytigghbehnnghnaa
