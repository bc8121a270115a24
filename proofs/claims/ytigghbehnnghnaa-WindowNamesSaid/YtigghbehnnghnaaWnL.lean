import Derived.Test.YtigghbehnnghnaaWnK
namespace Go.Proofs.Ytigghbehnnghnaa
open Go.RowKit Go.RowBits
set_option linter.unusedSimpArgs false
set_option linter.unusedVariables false

/-! ### Next -/
set_option maxRecDepth 20000 in
set_option maxHeartbeats 4000000 in
theorem next34G {W0 : World} {r : RV} {ns : Nat} {h : Int} {nx : Nat → List Nat → Nat} {k : Int} {n : Nat} {w : World} {at' : Int} {v : Value} {rows : List (List Nat)} {k0 m0 : Nat} {a0 : Int} (ha0 : a0 = if m0 = 0 then 0 else at' + (k0 : Int)) (S : StripG W0 r ns h nx k (n : Int)) (hw0 : Below W0.heap.size W0 w) (hr : rows.length * n ≤ 1000000000000) (hv : HasL w v rows) (hok : BandOk ns n at' rows)
    (hT : Tr rows k0 m0) (hch : cheapB n m0 1 = true) (hfar : 0 < m0 → farB (at' + (k0 : Int) - ((1 : Nat) : Int)) = false ∧ farB (at' + (k0 : Int) + (m0 : Int) - 1 + ((1 : Nat) : Int)) = false) :
    Calls Try.prog 34 #[ruleV r, topoV k (n : Int) 0, bandV (n : Int) at' v] w (RunPost nx h k n 1 a0 (cut rows k0 m0) w) := by
  have K30 := Lib.hid (fun W (hb : Below W0.heap.size W0 W) (hv : HasL W v rows) => run30G (w := W) (N := 1) ha0 S hb hr hv hok hT (by omega) hch hfar)
  have H0 := Lib.hid hw0
  have hv' := Lib.hid hv
  have hshape : ∃ ad cap, v = .slice ad rows.length cap := by obtain ⟨ad, cap, e, _⟩ := hv; exact ⟨ad, cap, e⟩
  obtain ⟨ad, cap, rfl⟩ := hshape
  clear hv hok S hw0 hT hr hch hfar ha0
  go_enter Try.func34, Try.ntmps34
  obtain ⟨W4, hW4⟩ : ∃ W4, W4 = (((w.alloc (.cells (ruleC r) 46)).alloc (.cells #[.int .u8 k, .int .i64 (n : Int), .int .i64 0, .int .u8 0, .int .i64 0] 49)).alloc (.cells #[.int .i64 (n : Int), .int .i64 at', .slice ad rows.length cap] 73)).alloc (.cells #[.int .i64 0, .int .i64 0, .slice none 0 0] 73) := ⟨_, rfl⟩
  have E4 : Blks W4 [(w.heap.size + 1 + 1 + 1, #[.int .i64 0, .int .i64 0, .slice none 0 0], 73), (w.heap.size + 1 + 1, #[.int .i64 (n : Int), .int .i64 at', .slice ad rows.length cap], 73), (w.heap.size + 1, #[.int .u8 k, .int .i64 (n : Int), .int .i64 0, .int .u8 0, .int .i64 0], 49), (w.heap.size, ruleC r, 46)] := by
    rw [hW4]
    exact (((((Blks.nil w).alloc rfl (ruleC r) 46).alloc (n := w.heap.size + 1) (by simp) #[.int .u8 k, .int .i64 (n : Int), .int .i64 0, .int .u8 0, .int .i64 0] 49).alloc (n := w.heap.size + 1 + 1) (by simp) #[.int .i64 (n : Int), .int .i64 at', .slice ad rows.length cap] 73).alloc (n := w.heap.size + 1 + 1 + 1) (by simp) #[.int .i64 0, .int .i64 0, .slice none 0 0] 73)
  have hB4 : Below w.heap.size w W4 := by rw [hW4]; exact (((below_new _).alloc (by simp) _).alloc (by simp; omega) _).alloc (by simp; omega) _
  have E4' := Lib.hid E4
  have hB4' := Lib.hid hB4
  have hz4 : w.heap.size + 1 + 1 + 1 < W4.heap.size := by rw [hW4]; simp
  have hW4' := Lib.hid hW4
  clear E4 hB4 hW4
  go_wp2_with fail
  rw [← hW4'.out]
  refine (K30.out W4 (below_then H0.out hB4'.out H0.out.size) (hv'.out.kept hB4'.out)).mono ?_
  rintro e w5 hp
  obtain ⟨a, R, v5, hst, rfl, hO, hb⟩ := hp
  obtain ⟨ad5, cap5, rfl⟩ : ∃ x y, v5 = .slice x R.length y := by obtain ⟨x, y, e, _⟩ := hO.has; exact ⟨x, y, e⟩
  have hst' := Lib.hid hst
  have hB5 := Lib.hid (below_then hB4'.out hb hB4'.out.size)
  have E5 := Lib.hid (E4'.out.kept hb)
  have hz5 : W4.heap.size ≤ w5.heap.size := hb.size
  have hm3 : (w.heap.size + 1 + 1 + 1, (#[.int .i64 0, .int .i64 0, .slice none 0 0] : Array Value), 73) ∈ [(w.heap.size + 1 + 1 + 1, (#[.int .i64 0, .int .i64 0, .slice none 0 0] : Array Value), 73), (w.heap.size + 1 + 1, #[.int .i64 (n : Int), .int .i64 at', .slice ad rows.length cap], 73), (w.heap.size + 1, #[.int .u8 k, .int .i64 (n : Int), .int .i64 0, .int .u8 0, .int .i64 0], 49), (w.heap.size, ruleC r, 46)] := by simp
  have f0 : w5.frozen? ⟨w.heap.size + 1 + 1 + 1, 0, none⟩ = false := frozen_of_row w5 _ 0 _ 73 (E5.out _ hm3)
  have f1 : w5.frozen? ⟨w.heap.size + 1 + 1 + 1, 1, none⟩ = false := frozen_of_row w5 _ 1 _ 73 (E5.out _ hm3)
  have f2 : w5.frozen? ⟨w.heap.size + 1 + 1 + 1, 2, none⟩ = false := frozen_of_row w5 _ 2 _ 73 (E5.out _ hm3)
  have d0 : w5.cell? ⟨w.heap.size + 1 + 1 + 1, 0, none⟩ = some (.int .i64 0) := E5.out.cell hm3 rfl
  have d1 : w5.cell? ⟨w.heap.size + 1 + 1 + 1, 1, none⟩ = some (.int .i64 0) := E5.out.cell hm3 rfl
  have d2 : w5.cell? ⟨w.heap.size + 1 + 1 + 1, 2, none⟩ = some (.slice none 0 0) := E5.out.cell hm3 rfl
  have FIN : Hid (∀ x y z : Value, HasO w.heap.size (((w5.setCell ⟨w.heap.size + 1 + 1 + 1, 0, none⟩ x).setCell ⟨w.heap.size + 1 + 1 + 1, 1, none⟩ y).setCell ⟨w.heap.size + 1 + 1 + 1, 2, none⟩ z) (.slice ad5 R.length cap5) R ∧ Below w.heap.size w (((w5.setCell ⟨w.heap.size + 1 + 1 + 1, 0, none⟩ x).setCell ⟨w.heap.size + 1 + 1 + 1, 1, none⟩ y).setCell ⟨w.heap.size + 1 + 1 + 1, 2, none⟩ z)) := fun x y z =>
    ⟨(((hO.set (by omega) _).set (by omega) _).set (by omega) _).le (by omega), ((hB5.out.setCell (by simp; omega) _).setCell (by simp; omega) _).setCell (by simp; omega) _⟩
  clear hm3 hb hst hO
  go_wp2
  refine bodyPost_ret (v := .tuple #[bandV (n : Int) a (.slice ad5 R.length cap5), .int .i64 0]) ?_ rfl ⟨a, R, _, hst'.out, rfl, (FIN.out _ _ _).1, (FIN.out _ _ _).2⟩
  rw [results_cell2 rfl]
  go_simp

/-! ### The reference's Same, of two bands that are alike -/
set_option maxRecDepth 20000 in
set_option maxHeartbeats 4000000 in
theorem same32 {n at' : Int} {w : World} {v u : Value} {R : List (List Nat)} (hr : R.length ≤ 1000000000000) (hv : HasL w v R) (hu : HasL w u R) (hpos : ∀ i, i < R.length → 0 < (R.getD i []).length) (h256 : ∀ i, i < R.length → ∀ x ∈ R.getD i [], x < 256) :
    Calls Try.prog 32 #[bandV n at' v, bandV n at' u] w fun e w' => e = .returned (.bool true) ∧ Below w.heap.size w w' := by
  have hv' := Lib.hid hv
  have hu' := Lib.hid hu
  have hpos' := Lib.hid hpos
  have h256' := Lib.hid h256
  obtain ⟨ad, cap, rfl⟩ : ∃ ad cap, v = .slice ad R.length cap := by obtain ⟨ad, cap, e, _⟩ := hv; exact ⟨ad, cap, e⟩
  obtain ⟨bd, bcap, rfl⟩ : ∃ ad cap, u = .slice ad R.length cap := by obtain ⟨ad, cap, e, _⟩ := hu; exact ⟨ad, cap, e⟩
  clear hv hu hpos h256
  go_enter Try.func32, Try.ntmps32
  obtain ⟨W2, hW2⟩ : ∃ W2, W2 = (w.alloc (.cells #[.int .i64 n, .int .i64 at', .slice ad R.length cap] 73)).alloc (.cells #[.int .i64 n, .int .i64 at', .slice bd R.length bcap] 73) := ⟨_, rfl⟩
  have E2 : Hid (Blks W2 [(w.heap.size + 1, #[.int .i64 n, .int .i64 at', .slice bd R.length bcap], 73), (w.heap.size, #[.int .i64 n, .int .i64 at', .slice ad R.length cap], 73)]) := by
    rw [hW2]
    exact (((Blks.nil w).alloc rfl _ 73).alloc (n := w.heap.size + 1) (by simp) _ 73)
  have hB2 : Hid (Below w.heap.size w W2) := by rw [hW2]; exact (below_new _).alloc (by simp) _
  have hW2' := Lib.hid hW2
  clear hW2
  go_wp2_with fail
  rw [← hW2'.out]
  go_loopw [5] (fun i wx => LRel W2 R.length i wx) (fun i _ => R.length - (intOf i).toNat)
  case atStart => exact ⟨0, by omega, by go_num, Below.refl _ _⟩
  case round =>
    obtain ⟨j, hj, rfl, hB⟩ := hrel
    have hB' := Lib.hid hB
    have hBw : Hid (Below w.heap.size w wr) := below_then hB2.out hB hB2.out.size
    have E3 := Lib.hid (E2.out.kept hB)
    clear hB
    have a2 : wr.cell? ⟨w.heap.size, 2, none⟩ = some (.slice ad R.length cap) := E3.out.cell (cs := #[.int .i64 n, .int .i64 at', .slice ad R.length cap]) (T := 73) (by simp) rfl
    by_cases hlt : j < R.length
    · have HV := hv'.out.kept (hBw.out.drew)
      have HU := hu'.out.kept (hBw.out.drew)
      obtain ⟨ad', cap', e, hcap, hg⟩ := HV
      injection e with e1 e2 e3
      obtain ⟨g, o, x, had, c1, hy⟩ := hg j hlt
      rw [← e1] at had
      subst had
      obtain ⟨bd', bcap', e', hcap', hg'⟩ := HU
      injection e' with e1' e2' e3'
      obtain ⟨g', o', x', had', c1', hy'⟩ := hg' j hlt
      rw [← e1'] at had'
      subst had'
      have k1 : (convert 53 9 x).run Try.prog wr.drew = .ok (strv (R.getD j [])) wr.drew := conv_str hy (h256'.out j hlt) (hpos'.out j hlt)
      have k2 : (convert 53 9 x').run Try.prog wr.drew = .ok (strv (R.getD j [])) wr.drew := conv_str hy' (h256'.out j hlt) (hpos'.out j hlt)
      have E4 := E3.out.kept (Below.refl _ _).drew
      have p2 : wr.drew.cell? ⟨w.heap.size, 2, none⟩ = some (.slice (some ⟨g, o, none⟩) R.length cap) := E4.cell (cs := #[.int .i64 n, .int .i64 at', .slice (some ⟨g, o, none⟩) R.length cap]) (T := 73) (by simp) rfl
      have p3 : wr.drew.cell? ⟨w.heap.size + 1, 2, none⟩ = some (.slice (some ⟨g', o', none⟩) R.length bcap) := E4.cell (cs := #[.int .i64 n, .int .i64 at', .slice (some ⟨g', o', none⟩) R.length bcap]) (T := 73) (by simp) rfl
      clear hg hg' hcap hcap' e1 e2 e3 e1' e2' e3' hy hy' E4
      generalize R.getD j [] = Rj at *
      obtain ⟨ss, hss⟩ : ∃ ss, strv Rj = .string ss := ⟨_, rfl⟩
      rw [hss] at k1 k2
      clear hss
      go_wp2_with fail
      go_still (by kernel_rfl)
      change Exit.then _ _ Exit.normal _ wr.drew
      have hBd := Lib.hid hB'.out.drew
      clear k1 k2 p2 p3
      generalize wr.drew = wd at *
      go_wp2
      exact ⟨⟨j + 1, by omega, by go_num, hBd.out⟩, by simp [intOf]; omega⟩
    · obtain rfl : j = R.length := by omega
      clear hlt
      go_wp2
      go_ret
      exact ⟨rfl, hBw.out⟩
end Go.Proofs.Ytigghbehnnghnaa
