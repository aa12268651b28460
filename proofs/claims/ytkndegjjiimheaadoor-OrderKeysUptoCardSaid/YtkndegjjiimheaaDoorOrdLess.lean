/- The order of texts: of two that differ one is less. -/
import Derived.WalkLawsBesides
namespace Go.Proofs.OrdLess
open Go
theorem less_ne : ∀ x y : List UInt8, Op.bytesLess y x = true → (x == y) = false
  | [], [], h => by simp [Op.bytesLess] at h
  | [], _ :: _, h => rfl
  | _ :: _, [], h => rfl
  | a :: x, b :: y, h => by
    rw [Op.bytesLess] at h
    refine beq_false_of_ne (fun e => ?_)
    injection e with e1 e2
    subst e1
    have hh : Op.bytesLess y x = true := by simpa using h
    have := less_ne x y hh
    rw [e2] at this
    simp at this
theorem less_tri : ∀ x y : List UInt8, Op.bytesLess x y = false → Op.bytesLess y x = false → (x == y) = true
  | [], [], _, _ => rfl
  | [], _ :: _, h, _ => by simp [Op.bytesLess] at h
  | _ :: _, [], _, h => by simp [Op.bytesLess] at h
  | a :: x, b :: y, h, g => by
    rw [Op.bytesLess, Bool.or_eq_false_iff] at h g
    have h1 : ¬ a < b := by simpa using h.1
    have h2 : ¬ b < a := by simpa using g.1
    have e : a = b := UInt8.toNat_inj.1 (by rw [UInt8.lt_iff_toNat_lt] at h1 h2; omega)
    subst e
    have hx : Op.bytesLess x y = false := by simpa using h.2
    have hy : Op.bytesLess y x = false := by simpa using g.2
    have := less_tri x y hx hy
    rw [beq_iff_eq] at this ⊢
    rw [this]
end Go.Proofs.OrdLess
