/- Proved here: what functions on this claim's road compute, each as a contract over the seat's program. Conditions: each theorem's own premises. -/
import Derived.Sort.Walk0
import Derived.WalkKit
set_option linter.unusedVariables false
set_option linter.unusedSimpArgs false
namespace Go.Proofs.YtbcgailnhgknnaaGreatDoorU8
open Go
theorem less_swap (a b : List UInt8) : (Op.bytesLess a b || a == b) = !Op.bytesLess b a := by
  rw [bytesLess_eq, bytesLess_eq]
  by_cases h1 : a < b
  · have h2 : ¬ b < a := fun h => List.lt_irrefl a (List.lt_trans h1 h)
    simp [h1, h2]
  · by_cases h2 : b < a
    · have : a ≠ b := fun e => by rw [e] at h2; exact List.lt_irrefl _ h2
      simp [h1, h2, this]
    · have : a = b := List.le_antisymm (List.not_lt.1 h2) (List.not_lt.1 h1)
      simp [this, List.lt_irrefl]
@[go_sem] theorem binOp_string_leq_z (t : TypeId) (a b : ByteArray) : binOp .leq t (.string a) (.string b) = pure (.bool (!Op.bytesLess b.toList a.toList)) := by
  rw [← less_swap]
  simp [binOp, Op.stringOp]
@[go_sem] theorem binOp_string_gtr_z (t : TypeId) (a b : ByteArray) : binOp .gtr t (.string a) (.string b) = pure (.bool (Op.bytesLess b.toList a.toList)) := by
  have h := less_swap a.toList b.toList
  have h2 : Op.bytesLess b.toList a.toList = !(Op.bytesLess a.toList b.toList || a.toList == b.toList) := by rw [h]; simp
  rw [h2]
  simp [binOp, Op.stringOp]
@[go_sem] theorem binOp_string_geq_z (t : TypeId) (a b : ByteArray) : binOp .geq t (.string a) (.string b) = pure (.bool (!Op.bytesLess a.toList b.toList)) := by
  simp [binOp, Op.stringOp]
end Go.Proofs.YtbcgailnhgknnaaGreatDoorU8
