import Derived.Test.YtigghbehnnghnaaWnA
import Derived.Deep.QuietTactic
import Derived.BigQuiet
import Derived.StillTactics
namespace Go.Proofs.Ytigghbehnnghnaa
open Go.RowKit Go.RowBits
set_option linter.unusedSimpArgs false
set_option linter.unusedVariables false

/-! ### trimmed -/
def lenOf (v : Value) : Nat := match v with | .slice _ n _ => n | _ => 0
structure Tr (rows : List (List Nat)) (k m : Nat) : Prop where
  le : k + m ≤ rows.length
  lo : ∀ j, j < k → emptyB (rows.getD j []) = true
  hi : ∀ j, k + m ≤ j → j < rows.length → emptyB (rows.getD j []) = true
  ends : (m = 0 ∧ k = rows.length) ∨ (0 < m ∧ emptyB (rows.getD k []) = false ∧ emptyB (rows.getD (k + m - 1) []) = false)
theorem Tr.uniq {rows : List (List Nat)} {k m k' m' : Nat} (h : Tr rows k m) (g : Tr rows k' m') : k = k' ∧ m = m' := by
  have h1 := h.le
  have g1 := g.le
  rcases h.ends with ⟨hm, hk⟩ | ⟨hm, hk, he⟩
  · rcases g.ends with ⟨gm, gk⟩ | ⟨gm, gk, ge⟩
    · omega
    · have := h.lo k' (by omega)
      rw [gk] at this
      cases this
  · rcases g.ends with ⟨gm, gk⟩ | ⟨gm, gk, ge⟩
    · have := g.lo k (by omega)
      rw [hk] at this
      cases this
    · have e1 : k = k' := by
        rcases Nat.lt_trichotomy k k' with h2 | h2 | h2
        · have := g.lo k h2
          rw [hk] at this
          cases this
        · exact h2
        · have := h.lo k' h2
          rw [gk] at this
          cases this
      subst e1
      refine ⟨rfl, ?_⟩
      rcases Nat.lt_trichotomy m m' with h2 | h2 | h2
      · have := h.hi (k + m' - 1) (by omega) (by omega)
        rw [ge] at this
        cases this
      · exact h2
      · have := g.hi (k + m - 1) (by omega) (by omega)
        rw [he] at this
        cases this
/-- The rows that are left. -/
def cut (rows : List (List Nat)) (k m : Nat) : List (List Nat) := (rows.drop k).take m
theorem cut_len {rows : List (List Nat)} {k m : Nat} (h : k + m ≤ rows.length) : (cut rows k m).length = m := by unfold cut; simp; omega
theorem cut_get {rows : List (List Nat)} {k m j : Nat} (h : k + m ≤ rows.length) (hj : j < m) : (cut rows k m).getD j [] = rows.getD (k + j) [] := by
  unfold cut
  have h1 : j < ((rows.drop k).take m).length := by simp; omega
  have h2 : k + j < rows.length := by omega
  simp [List.getD, List.getElem?_take, hj, List.getElem?_drop]
/-- One's rows from k on. -/
def HasAt (w : World) (rows : List (List Nat)) (k m : Nat) (v : Value) : Prop :=
  ∃ ad cap, v = .slice ad m cap ∧ m ≤ cap ∧ ∀ i, i < m → ∃ g o u, ad = some ⟨g, o, none⟩ ∧ w.cell? ⟨g, o + i, none⟩ = some u ∧ HasY w u (rows.getD (k + i) [])
theorem HasAt.has {w : World} {rows : List (List Nat)} {k m : Nat} {v : Value} (h : HasAt w rows k m v) (hl : k + m ≤ rows.length) : HasL w v (cut rows k m) := by
  obtain ⟨ad, cap, rfl, h1, h2⟩ := h
  refine ⟨ad, cap, by rw [cut_len hl], by rw [cut_len hl]; exact h1, fun i hi => ?_⟩
  rw [cut_len hl] at hi
  rw [cut_get hl hi]
  exact h2 i hi
theorem HasL.at {w : World} {rows : List (List Nat)} {v : Value} (h : HasL w v rows) : HasAt w rows 0 rows.length v := by
  obtain ⟨ad, cap, rfl, h1, h2⟩ := h
  exact ⟨ad, cap, rfl, h1, fun i hi => by rw [Nat.zero_add]; exact h2 i hi⟩
theorem HasAt.kept {w w' : World} {rows : List (List Nat)} {k m : Nat} {v : Value} (h : HasAt w rows k m v) (hb : Below w.heap.size w w') : HasAt w' rows k m v := by
  obtain ⟨ad, cap, rfl, h1, h2⟩ := h
  refine ⟨ad, cap, rfl, h1, fun i hi => ?_⟩
  obtain ⟨g, o, u, a1, a2, a3⟩ := h2 i hi
  exact ⟨g, o, u, a1, cell_kept hb a2, a3.kept hb⟩
def TrimPost (n at' : Int) (rows : List (List Nat)) (w : World) (e : Ending) (w' : World) : Prop := ∃ k m v', Tr rows k m ∧ e = .returned (bandV n (if m = 0 then 0 else at' + (k : Int)) v') ∧ HasL w' v' (cut rows k m) ∧ Below w.heap.size w w'
set_option maxRecDepth 20000 in
set_option maxHeartbeats 4000000 in
theorem trimmed60 {n at' : Int} {w : World} {v : Value} {rows : List (List Nat)} (hr : rows.length ≤ 1000000000000) (hat : 0 < rows.length → -10000000000000 ≤ at' ∧ at' ≤ 10000000000000) (hv : HasL w v rows) (hl : ∀ i, i < rows.length → (rows.getD i []).length ≤ 1000000) :
    Calls Try.prog 60 #[bandV n at' v] w (TrimPost n at' rows w) := by
  have hl' := Lib.hid hl
  have hv' := Lib.hid hv
  have hshape : ∃ ad cap, v = .slice ad rows.length cap := by obtain ⟨ad, cap, e, _⟩ := hv; exact ⟨ad, cap, e⟩
  obtain ⟨ad, cap, rfl⟩ := hshape
  have hat' := Lib.hid hat
  clear hv hl hat
  go_enter Try.func60, Try.ntmps60
  go_wp2
  obtain ⟨W2, hW2⟩ : ∃ W2, W2 = (w.alloc (.cells #[.int .i64 n, .int .i64 at', .slice ad rows.length cap] 73)).alloc (.cells #[.int .i64 0, .int .i64 0, .slice none 0 0] 73) := ⟨_, rfl⟩
  have E2 : Blks W2 [(w.heap.size + 1, #[.int .i64 0, .int .i64 0, .slice none 0 0], 73), (w.heap.size, #[.int .i64 n, .int .i64 at', .slice ad rows.length cap], 73)] := by
    rw [hW2]
    exact (((Blks.nil w).alloc rfl #[.int .i64 n, .int .i64 at', .slice ad rows.length cap] 73).alloc (n := w.heap.size + 1) (by simp) #[.int .i64 0, .int .i64 0, .slice none 0 0] 73)
  have hB2 : Below w.heap.size w W2 := by rw [hW2]; exact (below_new _).alloc (by simp) _
  rw [← hW2]
  have E3 := Lib.hid (E2.kept (Below.refl _ _).drew)
  have hB3 := Lib.hid hB2.drew
  have hA := Lib.hid hv'.out.at
  have b0 : W2.drew.cell? ⟨w.heap.size, 0, none⟩ = some (.int .i64 n) := E3.out.cell (cs := #[.int .i64 n, .int .i64 at', .slice ad rows.length cap]) (T := 73) (by simp) rfl
  have b1 : W2.drew.cell? ⟨w.heap.size, 1, none⟩ = some (.int .i64 at') := E3.out.cell (cs := #[.int .i64 n, .int .i64 at', .slice ad rows.length cap]) (T := 73) (by simp) rfl
  have b2 : W2.drew.cell? ⟨w.heap.size, 2, none⟩ = some (.slice ad rows.length cap) := E3.out.cell (cs := #[.int .i64 n, .int .i64 at', .slice ad rows.length cap]) (T := 73) (by simp) rfl
  clear hW2 E2 hB2
  go_still (by kernel_rfl)
  change Exit.then _ _ Exit.normal _ W2.drew
  generalize W2.drew = W3 at *
  go_wp2
  go_loop [3, 4] (fun s a => ∃ k m : Nat, k + m = rows.length ∧ (∀ j, j < k → emptyB (rows.getD j []) = true) ∧ HasAt w rows k m s ∧ a = .int .i64 (at' + (k : Int))) (fun s _ => lenOf s)
  case atStart => exact ⟨0, rows.length, by omega, fun j hj => by omega, hA.out, by go_num⟩
  case round =>
    obtain ⟨k, m, hkm, hlo, hH, rfl⟩ := hrel
    have hlo' := Lib.hid hlo
    have hH' := Lib.hid hH
    obtain ⟨ad1, cap1, rfl, hc1, hg1⟩ := hH
    have hg1' := Lib.hid hg1
    clear hlo hg1
    by_cases hm : 0 < m
    · obtain ⟨g, o, u, rfl, c1, hy⟩ := hg1'.out 0 hm
      have c1 := cell_kept hB3.out c1
      have hy := hy.kept hB3.out
      have hat2 := hat'.out (by omega)
      have K := Lib.hid (empty83 (by have := hl'.out (k + 0) (by omega); exact this) hy)
      rw [Nat.add_zero] at K c1
      generalize hE : emptyB (rows.getD k []) = E at *
      have hE' := Lib.hid hE
      clear hE hy
      cases E
      · have hend : Hid (m = 0 ∨ emptyB (rows.getD k []) = false) := .inr hE'.out
        go_wp2_with fail
        refine (K.out).mono ?_
        rintro e w' ⟨rfl, rfl⟩
        clear K c1 hm
        go_wp2_with fail
        go_loop [3] (fun s => ∃ m' : Nat, m' ≤ m ∧ (∀ j, k + m' ≤ j → j < rows.length → emptyB (rows.getD j []) = true) ∧ HasAt w rows k m' s) (fun s => lenOf s)
        case atStart => exact ⟨_, Nat.le_refl _, fun j hj hj2 => by omega, hH'.out⟩
        case round =>
          obtain ⟨m', hm', hhi, hH2⟩ := hrel
          have hhi' := Lib.hid hhi
          have hH2' := Lib.hid hH2
          obtain ⟨ad2, cap2, rfl, hc2, hg2⟩ := hH2
          have hg2' := Lib.hid hg2
          clear hhi hg2 hH'
          by_cases hm2 : 0 < m'
          · obtain ⟨m2, rfl⟩ : ∃ m2, m' = m2 + 1 := ⟨m' - 1, by omega⟩
            obtain ⟨g2, o2, u2, rfl, c2, hy2⟩ := hg2'.out m2 (by omega)
            have c2 := cell_kept hB3.out c2
            have hy2 := hy2.kept hB3.out
            have hat2 := hat'.out (by omega)
            have K2 := Lib.hid (empty83 (by have := hl'.out (k + m2) (by omega); exact this) hy2)
            generalize hE2 : emptyB (rows.getD (k + m2) []) = E2 at *
            have hE2' := Lib.hid hE2
            clear hE2 hy2
            cases E2
            · have hT : Hid (Tr rows k (m2 + 1)) := ⟨by omega, hlo'.out, hhi'.out, .inr ⟨by omega, by
                rcases hend.out with h | h
                · omega
                · exact h, hE2'.out⟩⟩
              have f0 : w'.frozen? ⟨w.heap.size + 1, 0, none⟩ = false := frozen_of_row w' _ 0 _ 73 (E3.out (w.heap.size + 1, #[.int .i64 0, .int .i64 0, .slice none 0 0], 73) (by simp))
              have f1 : w'.frozen? ⟨w.heap.size + 1, 1, none⟩ = false := frozen_of_row w' _ 1 _ 73 (E3.out (w.heap.size + 1, #[.int .i64 0, .int .i64 0, .slice none 0 0], 73) (by simp))
              have f2 : w'.frozen? ⟨w.heap.size + 1, 2, none⟩ = false := frozen_of_row w' _ 2 _ 73 (E3.out (w.heap.size + 1, #[.int .i64 0, .int .i64 0, .slice none 0 0], 73) (by simp))
              have d0 : w'.cell? ⟨w.heap.size + 1, 0, none⟩ = some (.int .i64 0) := E3.out.cell (cs := #[.int .i64 0, .int .i64 0, .slice none 0 0]) (T := 73) (by simp) rfl
              have d1 : w'.cell? ⟨w.heap.size + 1, 1, none⟩ = some (.int .i64 0) := E3.out.cell (cs := #[.int .i64 0, .int .i64 0, .slice none 0 0]) (T := 73) (by simp) rfl
              have d2 : w'.cell? ⟨w.heap.size + 1, 2, none⟩ = some (.slice none 0 0) := E3.out.cell (cs := #[.int .i64 0, .int .i64 0, .slice none 0 0]) (T := 73) (by simp) rfl
              go_wp2_with fail
              refine (K2.out).mono ?_
              rintro e w' ⟨rfl, rfl⟩
              clear K2 c2
              go_wp2_with fail
              have hBe : Hid (∀ x y z : Value, Below w.heap.size w (((w'.setCell ⟨w.heap.size + 1, 0, none⟩ x).setCell ⟨w.heap.size + 1, 1, none⟩ y).setCell ⟨w.heap.size + 1, 2, none⟩ z)) := fun x y z => ((hB3.out.setCell (by simp) _).setCell (by simp) _).setCell (by simp) _
              refine bodyPost_ret (v := bandV n (at' + (k : Int)) (.slice (some ⟨g2, o2, none⟩) (m2 + 1) cap2)) ?_ rfl ⟨k, m2 + 1, _, hT.out, by rw [if_neg (by omega)], (hH2'.out.has hT.out.le).kept (hBe.out _ _ _), hBe.out _ _ _⟩
              rw [results_cell1 rfl]
              go_simp
            · go_wp2_with fail
              refine (K2.out).mono ?_
              rintro e w' ⟨rfl, rfl⟩
              clear K2 c2
              go_wp2_with fail
              go_round
              case rel => exact ⟨m2, by omega, fun j hj hj2 => by
                by_cases e : j = k + m2
                · rw [e]; exact hE2'.out
                · exact hhi'.out j (by omega) hj2, ⟨_, _, rfl, by omega, fun i hi => hg2'.out i (by omega)⟩⟩
              case measure => simp [lenOf]
          · obtain rfl : m' = 0 := by omega
            have hT : Hid (Tr rows k 0) := ⟨by omega, hlo'.out, hhi'.out, .inl ⟨rfl, by
              rcases hend.out with h | h
              · omega
              · by_cases hk : k < rows.length
                · have := hhi'.out k (by omega) hk
                  rw [h] at this
                  cases this
                · omega⟩⟩
            have f0 : w'.frozen? ⟨w.heap.size + 1, 0, none⟩ = false := frozen_of_row w' _ 0 _ 73 (E3.out (w.heap.size + 1, #[.int .i64 0, .int .i64 0, .slice none 0 0], 73) (by simp))
            have f1 : w'.frozen? ⟨w.heap.size + 1, 1, none⟩ = false := frozen_of_row w' _ 1 _ 73 (E3.out (w.heap.size + 1, #[.int .i64 0, .int .i64 0, .slice none 0 0], 73) (by simp))
            have f2 : w'.frozen? ⟨w.heap.size + 1, 2, none⟩ = false := frozen_of_row w' _ 2 _ 73 (E3.out (w.heap.size + 1, #[.int .i64 0, .int .i64 0, .slice none 0 0], 73) (by simp))
            have d0 : w'.cell? ⟨w.heap.size + 1, 0, none⟩ = some (.int .i64 0) := E3.out.cell (cs := #[.int .i64 0, .int .i64 0, .slice none 0 0]) (T := 73) (by simp) rfl
            have d1 : w'.cell? ⟨w.heap.size + 1, 1, none⟩ = some (.int .i64 0) := E3.out.cell (cs := #[.int .i64 0, .int .i64 0, .slice none 0 0]) (T := 73) (by simp) rfl
            have d2 : w'.cell? ⟨w.heap.size + 1, 2, none⟩ = some (.slice none 0 0) := E3.out.cell (cs := #[.int .i64 0, .int .i64 0, .slice none 0 0]) (T := 73) (by simp) rfl
            have hBe : Hid (∀ x y z : Value, Below w.heap.size w (((w'.setCell ⟨w.heap.size + 1, 0, none⟩ x).setCell ⟨w.heap.size + 1, 1, none⟩ y).setCell ⟨w.heap.size + 1, 2, none⟩ z)) := fun x y z => ((hB3.out.setCell (by simp) _).setCell (by simp) _).setCell (by simp) _
            go_wp2_with fail
            refine bodyPost_ret (v := bandV n 0 (.slice none 0 0)) ?_ rfl ⟨k, 0, _, hT.out, by rw [if_pos rfl], (show HasL w (.slice none 0 0) (cut rows k 0) from by unfold cut; simp; exact HasL.nil w).kept (hBe.out _ _ _), hBe.out _ _ _⟩
            rw [results_cell1 rfl]
            go_simp
      · go_wp2_with fail
        refine (K.out).mono ?_
        rintro e w' ⟨rfl, rfl⟩
        clear K c1
        by_cases hcap : cap1 = 1
        · obtain rfl : m = 1 := by omega
          subst hcap
          go_wp2_with fail
          go_round
          case rel => exact ⟨k + 1, 0, by omega, fun j hj => by
            by_cases e : j = k
            · rw [e]; exact hE'.out
            · exact hlo'.out j (by omega), ⟨_, _, rfl, by omega, fun i hi => by omega⟩, by go_num⟩
          case measure => simp [lenOf]
        · obtain ⟨m1, rfl⟩ : ∃ m1, m = m1 + 1 := ⟨m - 1, by omega⟩
          obtain ⟨c1, rfl⟩ : ∃ c1, cap1 = c1 + 1 := ⟨cap1 - 1, by omega⟩
          have hc0 : ¬ c1 = 0 := by omega
          go_wp2_with fail
          go_round
          case rel => exact ⟨k + 1, m1, by omega, fun j hj => by
            by_cases e : j = k
            · rw [e]; exact hE'.out
            · exact hlo'.out j (by omega), ⟨_, _, rfl, by omega, fun i hi => by
            obtain ⟨g', o', u', e1, e2, e3⟩ := hg1'.out (i + 1) (by omega)
            injection e1 with e1
            injection e1 with e1 e4
            subst e1 e4
            exact ⟨_, _, u', rfl, by rw [show o + 1 + i = o + (i + 1) by omega]; exact e2, by rw [show k + 1 + i = k + (i + 1) by omega]; exact e3⟩⟩, by go_num⟩
          case measure => simp [lenOf]
    · obtain rfl : m = 0 := by omega
      have hend : Hid (0 = 0 ∨ emptyB (rows.getD k []) = false) := .inl rfl
      clear hm
      go_wp2
      go_loop [3] (fun s => ∃ m' : Nat, m' ≤ 0 ∧ (∀ j, k + m' ≤ j → j < rows.length → emptyB (rows.getD j []) = true) ∧ HasAt w rows k m' s) (fun s => lenOf s)
      case atStart => exact ⟨_, Nat.le_refl _, fun j hj hj2 => by omega, hH'.out⟩
      case round =>
        obtain ⟨m', hm', hhi, hH2⟩ := hrel
        have hhi' := Lib.hid hhi
        have hH2' := Lib.hid hH2
        obtain ⟨ad2, cap2, rfl, hc2, hg2⟩ := hH2
        have hg2' := Lib.hid hg2
        clear hhi hg2 hH'
        by_cases hm2 : 0 < m'
        · omega
        · obtain rfl : m' = 0 := by omega
          have hT : Hid (Tr rows k 0) := ⟨by omega, hlo'.out, hhi'.out, .inl ⟨rfl, by
            rcases hend.out with h | h
            · omega
            · by_cases hk : k < rows.length
              · have := hhi'.out k (by omega) hk
                rw [h] at this
                cases this
              · omega⟩⟩
          have f0 : W3.frozen? ⟨w.heap.size + 1, 0, none⟩ = false := frozen_of_row W3 _ 0 _ 73 (E3.out (w.heap.size + 1, #[.int .i64 0, .int .i64 0, .slice none 0 0], 73) (by simp))
          have f1 : W3.frozen? ⟨w.heap.size + 1, 1, none⟩ = false := frozen_of_row W3 _ 1 _ 73 (E3.out (w.heap.size + 1, #[.int .i64 0, .int .i64 0, .slice none 0 0], 73) (by simp))
          have f2 : W3.frozen? ⟨w.heap.size + 1, 2, none⟩ = false := frozen_of_row W3 _ 2 _ 73 (E3.out (w.heap.size + 1, #[.int .i64 0, .int .i64 0, .slice none 0 0], 73) (by simp))
          have d0 : W3.cell? ⟨w.heap.size + 1, 0, none⟩ = some (.int .i64 0) := E3.out.cell (cs := #[.int .i64 0, .int .i64 0, .slice none 0 0]) (T := 73) (by simp) rfl
          have d1 : W3.cell? ⟨w.heap.size + 1, 1, none⟩ = some (.int .i64 0) := E3.out.cell (cs := #[.int .i64 0, .int .i64 0, .slice none 0 0]) (T := 73) (by simp) rfl
          have d2 : W3.cell? ⟨w.heap.size + 1, 2, none⟩ = some (.slice none 0 0) := E3.out.cell (cs := #[.int .i64 0, .int .i64 0, .slice none 0 0]) (T := 73) (by simp) rfl
          have hBe : Hid (∀ x y z : Value, Below w.heap.size w (((W3.setCell ⟨w.heap.size + 1, 0, none⟩ x).setCell ⟨w.heap.size + 1, 1, none⟩ y).setCell ⟨w.heap.size + 1, 2, none⟩ z)) := fun x y z => ((hB3.out.setCell (by simp) _).setCell (by simp) _).setCell (by simp) _
          go_wp2_with fail
          refine bodyPost_ret (v := bandV n 0 (.slice none 0 0)) ?_ rfl ⟨k, 0, _, hT.out, by rw [if_pos rfl], (show HasL w (.slice none 0 0) (cut rows k 0) from by unfold cut; simp; exact HasL.nil w).kept (hBe.out _ _ _), hBe.out _ _ _⟩
          rw [results_cell1 rfl]
          go_simp
end Go.Proofs.Ytigghbehnnghnaa
