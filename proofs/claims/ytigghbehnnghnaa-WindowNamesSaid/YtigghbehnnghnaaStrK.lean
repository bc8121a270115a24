import Derived.Test.YtigghbehnnghnaaRlG
import Derived.Laws.IdiomStrings
import Derived.Lib.SlicesS
/- What the window's laws take of the books' texts, for a claim without the books (RlH, RlK, RlL, RmA, RmB have the same). -/
namespace Go.Proofs.Ytigghbehnnghnaa
open Go.RowKit Go.RowBits
set_option linter.unusedSimpArgs false
set_option linter.unusedVariables false

def strv (r : List Nat) : Value := .string ⟨(r.map UInt8.ofNat).toArray⟩
theorem strv_inj {a b : List Nat} (ha : ∀ x ∈ a, x < 256) (hb : ∀ x ∈ b, x < 256) (h : strv a = strv b) : a = b := by
  unfold strv at h
  injection h with h
  injection h with h
  have h' : a.map UInt8.ofNat = b.map UInt8.ofNat := by simpa using h
  have e : ∀ l : List Nat, (∀ x ∈ l, x < 256) → (l.map UInt8.ofNat).map UInt8.toNat = l := fun l hl => by
    rw [List.map_map]
    conv => rhs; rw [← List.map_id l]
    apply List.map_congr_left
    intro x hx
    simp [Nat.mod_eq_of_lt (hl x hx)]
  rw [← e a ha, ← e b hb, h']
theorem conv_str {W : World} {v : Value} {r : List Nat} (h : HasY W v r) (h2 : ∀ x ∈ r, x < 256) (hpos : 0 < r.length) : (convert 53 9 v).run Try.prog W = .ok (strv r) W := by
  obtain ⟨ad, cap, rfl, hc⟩ := h
  obtain ⟨g, o, rfl, _⟩ := hc 0 hpos
  have := run_convert_bytes_back (P := Try.prog) W 53 9 5 ⟨g, o, none⟩ cap (r.map UInt8.ofNat) Try.underlying53 Try.underlying5 Try.underlying9 (fun j hj => by
    have hj' : j < r.length := by simpa using hj
    obtain ⟨g', o', e, c⟩ := hc j hj'
    cases e
    rw [Addr.add_lit, c]
    have hx := h2 (r[j]) (List.getElem_mem hj')
    simp [hj', Nat.mod_eq_of_lt hx])
  rw [List.length_map] at this
  exact this
theorem info53' : (Try.prog.info? 53).map (fun i => (i.zero, i.size, i.bytes)) = some (some (.slice none 0 0), 1, 24) := by kernel_rfl
theorem mem256 {r : List Nat} (h : ∀ j, r.getD j 0 < 2) : ∀ x ∈ r, x < 256 := fun x hx => by
  obtain ⟨i, hi, rfl⟩ := List.mem_iff_getElem.1 hx
  have := h i
  simp [hi] at this
  omega
theorem strv_guard (a b : List Nat) (x y : Operand) (W : World) : Sem.run Try.prog (eqGuard BinOp.eql 9 x y (strv a) (strv b)) W = .ok () W := rfl
theorem strv_eq (a : List Nat) (W : World) : Sem.run Try.prog (binOp BinOp.eql 9 (strv a) (strv a)) W = .ok (.bool true) W := by
  unfold strv
  go_simp
theorem strv_ne {a b : List Nat} (ha : ∀ j, a.getD j 0 < 2) (hb : ∀ j, b.getD j 0 < 2) (h : a ≠ b) (W : World) : Sem.run Try.prog (binOp BinOp.eql 9 (strv a) (strv b)) W = .ok (.bool false) W := by
  have hn : strv a ≠ strv b := fun e => h (strv_inj (mem256 ha) (mem256 hb) e)
  unfold strv at *
  generalize (⟨(a.map UInt8.ofNat).toArray⟩ : ByteArray) = s at *
  generalize (⟨(b.map UInt8.ofNat).toArray⟩ : ByteArray) = t at *
  have hst : ¬ s = t := fun e => hn (by rw [e])
  have hb : (s.toList == t.toList) = false := (Lib.bytes_beq_false_iff s t).2 hst
  rw [binOp_string_eql, hb]
  rfl
theorem has_of {w : World} {g n cap : Nat} {l : List Nat} (h : YBlk w g l) (hl : l.length = n) : HasY w (.slice (some ⟨g, 0, none⟩) n cap) l := by
  subst hl
  exact h.has
end Go.Proofs.Ytigghbehnnghnaa
