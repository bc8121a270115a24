import Derived.Test.YtigghbehnnghnaaRlJ
import Derived.StillTailTactics
import Derived.Laws.IdiomStrings
namespace Go.Proofs.Ytigghbehnnghnaa
open Go.RowKit Go.RowBits Go.MapRaw Go.Maps
set_option linter.unusedSimpArgs false
set_option linter.unusedVariables false

/-- string(b) of a slice of bytes that is read. -/
theorem conv_str {W : World} {v : Value} {r : List Nat} (h : HasY W v r) (h2 : ∀ x ∈ r, x < 256) (hpos : 0 < r.length) : (convert 53 9 v).run Try.prog W = .ok (strv r) W := by
  obtain ⟨ad, cap, rfl, hc⟩ := h
  obtain ⟨g, o, rfl, _⟩ := hc 0 hpos
  have := run_convert_bytes_back (P := Try.prog) W 53 9 5 ⟨g, o, none⟩ cap (r.map UInt8.ofNat) Try.underlying53 Try.underlying5 Try.underlying9 (fun j hj => by
    have hj' : j < r.length := by simpa using hj
    obtain ⟨g', o', e, c⟩ := hc j hj'
    cases e
    rw [Addr.add_lit, c]
    have hx := h2 (r[j]) (List.getElem_mem hj')
    simp [hj', Nat.mod_eq_of_lt hx])
  rw [List.length_map] at this
  exact this
theorem mem_lt {r : List Nat} (h : ∀ j, r.getD j 0 < 2) : ∀ x ∈ r, x < 256 := fun x hx => by
  obtain ⟨j, hj, rfl⟩ := List.mem_iff_getElem.1 hx
  have := h j
  simp [hj] at this
  omega
theorem zero3 (w : World) : (zeroValue 3).run Try.prog w = .ok (.int .i64 0) w := by kernel_rfl
section
variable {p : BP} {B : Nat} {W W' : World} {bk bn bw : Nat} {kv : Value} {ks : List Value} {rows : List (List Nat)} {wk : List ((Nat × Nat × Nat) × Nat)}
theorem numL_mem {rows : List (List Nat)} {i : Nat} (hi : i < rows.length) : (strv (rows.getD i []), Value.int .i64 (i : Int)) ∈ numL rows := List.mem_map.2 ⟨i, List.mem_range.2 hi, rfl⟩
theorem BookAt.lt256 (h : BookAt p B W bk bn bw kv ks rows wk) {i : Nat} (hi : i < rows.length) : ∀ x ∈ rows.getD i [], x < 256 := mem_lt (fun j => h.two i j hi)

set_option maxRecDepth 20000 in
set_option maxHeartbeats 2000000 in
theorem number50_hit (h : BookAt p B W bk bn bw kv ks rows wk) (hn : 1 ≤ p.n ∧ p.n ≤ 65536) {id : Nat} (hid : id < rows.length) {v : Value} (hv : HasY W v (rows.getD id [])) : Calls Try.prog 50 #[.pointer (some ⟨bk, 0, none⟩), v] W fun e w' =>
    e = .returned (.tuple #[.int .i64 (id : Int), .int .i64 0]) ∧ Below W.heap.size W w' := by
  have hl := h.len id hid
  obtain ⟨lk, hlk⟩ := keyOfS (rows.getD id []) (by omega)
  have hlook : (Instr.lookup 56 (.map (some bn)) (strv (rows.getD id [])) true).run Try.prog W.drew = .ok (.tuple #[.int .i64 (id : Int), .bool true]) W.drew :=
    (h.num.of_block (w' := W.drew) rfl).hit keyS Try.underlying56 (zero3 _) hlk (numL_mem hid) (fun q hq e => by
      obtain ⟨i, hi, rfl⟩ := List.mem_map.1 hq
      have hi' := List.mem_range.1 hi
      have hr := strv_inj (h.lt256 hi') (h.lt256 hid) e
      have : i = id := by
        have e1 : rows[i] = rows[id] := by simpa [hi', hid] using hr
        exact (List.getElem_inj h.nodup).1 e1
      rw [this]) true
  have hconv : (convert 53 9 v).run Try.prog W.drew = .ok (strv (rows.getD id [])) W.drew :=
    conv_str (hv.kept (Below.refl _ _).drew) (h.lt256 hid) (by omega)
  have c18 : W.cell? ⟨bk, 18, none⟩ = some (.map (some bn)) := h.cell rfl
  obtain ⟨ad, cap, rfl, _⟩ := hv
  have hB : Hid (Below W.heap.size W W.drew) := (Below.refl _ _).drew
  clear h hl hlk
  generalize strv (rows.getD id []) = s at *
  generalize (rows.getD id []).length = n at *
  go_enter Try.func50, Try.ntmps50
  go_upto_region 1 with fail
  go_still (by kernel_rfl)
  go_wp2
  go_ret2
  exact ⟨rfl, hB.out⟩
set_option maxRecDepth 20000 in
set_option maxHeartbeats 2000000 in
theorem number50_full (h : BookAt p B W bk bn bw kv ks rows wk) (hn : 1 ≤ p.n ∧ p.n ≤ 65536) {r : List Nat} (hr : r.length = p.n) (hr2 : ∀ j, r.getD j 0 < 2) (hno : r ∉ rows) (hfull : p.most ≤ rows.length) {v : Value} (hv : HasY W v r) : Calls Try.prog 50 #[.pointer (some ⟨bk, 0, none⟩), v] W fun e w' =>
    e = .returned (.tuple #[.int .i64 0, .int .i64 4]) ∧ Below W.heap.size W w' := by
  obtain ⟨lk, hlk⟩ := keyOfS r (by omega)
  have hlook : (Instr.lookup 56 (.map (some bn)) (strv r) true).run Try.prog W.drew = .ok (.tuple #[.int .i64 0, .bool false]) W.drew :=
    (h.num.of_block (w' := W.drew) rfl).miss keyS Try.underlying56 (zero3 _) hlk (fun q hq e => by
      obtain ⟨i, hi, rfl⟩ := List.mem_map.1 hq
      have hi' := List.mem_range.1 hi
      have hr := strv_inj (h.lt256 hi') (mem_lt hr2) e
      refine hno ?_
      rw [← hr]
      simp [hi']) true
  have hconv : (convert 53 9 v).run Try.prog W.drew = .ok (strv r) W.drew := conv_str (hv.kept (Below.refl _ _).drew) (mem_lt hr2) (by omega)
  have c18 : W.cell? ⟨bk, 18, none⟩ = some (.map (some bn)) := h.cell rfl
  obtain ⟨ad', cap', rfl⟩ := h.shape
  have c19 : W.cell? ⟨bk, 19, none⟩ = some (.slice ad' rows.length cap') := h.cell rfl
  have c17 : W.cell? ⟨bk, 17, none⟩ = some (.int .i64 (p.most : Int)) := h.cell rfl
  have hfI : (p.most : Int) ≤ (rows.length : Int) := by omega
  obtain ⟨ad, cap, rfl, _⟩ := hv
  have hB : Hid (Below W.heap.size W W.drew.drew) := (Below.refl _ _).drew.drew
  clear h hlk hr hno hr2
  generalize strv r = s at *
  generalize r.length = n at *
  generalize p.most = M at *
  generalize rows.length = R at *
  have d19 : W.drew.cell? ⟨bk, 19, none⟩ = some (.slice ad' R cap') := c19
  have d17 : W.drew.cell? ⟨bk, 17, none⟩ = some (.int .i64 (M : Int)) := c17
  go_enter Try.func50, Try.ntmps50
  go_upto_region 1 with fail
  go_still (by kernel_rfl)
  change Exit.then _ _ Exit.normal _ W.drew
  clear hlook hconv c18 c19 c17
  generalize W.drew = W1 at *
  go_upto_region 4 with fail
  go_still (by kernel_rfl)
  go_wp2
  go_ret2
  exact ⟨rfl, hB.out⟩
end
end Go.Proofs.Ytigghbehnnghnaa
