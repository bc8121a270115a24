import Derived.Test.YtigghbehnnghnaaRlG
import Derived.Test.YtigghbehnnghnaaMapRaw
import Derived.Laws.IdiomStrings
import Derived.DeepKeys4
namespace Go.Proofs.Ytigghbehnnghnaa
open Go.RowKit Go.RowBits Go.MapRaw Go.Maps
set_option linter.unusedSimpArgs false
set_option linter.unusedVariables false

/-! ### The maps' keys -/
theorem laidOut : laidOutB Try.prog = true := by kernel_rfl
theorem keyS : Keyed Try.prog 9 := string_keyed Try.underlying9
theorem wide104 : (match Try.prog.underlying 104 with | some (.array _ _) | some (.struct _) => true | _ => false) = true := by rw [Try.underlying104]
theorem row104 : 104 < Try.prog.types.size := of_decide_eq_true (by kernel_rfl)
set_option maxRecDepth 100000 in
theorem keyA : Keyed Try.prog 104 := Keyed.of_law (deep_law_laid laidOut (m := 2) (by omega) row104 (by kernel_rfl) wide104)
abbrev idv (a b c : Nat) : Value := .agg #[.int .i64 (a : Int), .int .i64 (b : Int), .int .i64 (c : Int)]
def strv (r : List Nat) : Value := .string ⟨(r.map UInt8.ofNat).toArray⟩
theorem strv_inj {a b : List Nat} (ha : ∀ x ∈ a, x < 256) (hb : ∀ x ∈ b, x < 256) (h : strv a = strv b) : a = b := by
  unfold strv at h
  injection h with h
  injection h with h
  have h' : a.map UInt8.ofNat = b.map UInt8.ofNat := by simpa using h
  have e : ∀ l : List Nat, (∀ x ∈ l, x < 256) → (l.map UInt8.ofNat).map UInt8.toNat = l := fun l hl => by
    rw [List.map_map]
    conv => rhs; rw [← List.map_id l]
    apply List.map_congr_left
    intro x hx
    simp [Nat.mod_eq_of_lt (hl x hx)]
  rw [← e a ha, ← e b hb, h']
theorem keyOfS (r : List Nat) (hr : r.length ≤ 65536) : ∃ l, keyOf Try.prog 9 (strv r) = some l := by
  unfold keyOf mapKey strv
  rw [Try.underlying9]
  have : (⟨(r.map UInt8.ofNat).toArray⟩ : ByteArray).size ≤ maxLen := by
    show (r.map UInt8.ofNat).toArray.size ≤ maxLen
    unfold maxLen
    simp
    omega
  simp [this]
theorem cells104 : Try.prog.cellsOf 104 = 3 := by kernel_rfl
theorem cells3 : Try.prog.cellsOf 3 = 1 := by kernel_rfl
theorem keyType104 : Try.prog.keyType 104 = true := by kernel_rfl
theorem keyOfA (a b c : Nat) (ha : a < 4294967296) (hb : b < 4294967296) (hc : c < 4294967296) : ∃ l, keyOf Try.prog 104 (idv a b c) = some l := by
  obtain ⟨m, hm⟩ : ∃ m, Try.prog.types.size = m + 1 := ⟨Try.prog.types.size - 1, by have := row104; omega⟩
  have hf : (idv a b c).formed Try.prog 104 = true := by simp [Value.formed, Try.underlying104, cells104]
  have hw : ∀ x : Nat, x < 4294967296 → (Lit.int .i64 (x : Int)).wf = true := fun x hx => by simp [Lit.wf, IntKind.min, IntKind.max, IntKind.signed, IntKind.bits]; omega
  unfold keyOf
  rw [Try.underlying104]
  simp only [keyType104, hf, Bool.and_self, if_true]
  rw [hm]
  simp [Program.keyLits, Try.underlying104, Try.underlying3, cells104, cells3, hw a ha, hw b hb, hw c hc, List.range_succ, Value.cells]
end Go.Proofs.Ytigghbehnnghnaa
