/- Plain law of numbers written: what package order writes is what the document writes. -/
import Derived.Lib.ItoaNum
import Derived.Lib.Strings
set_option linter.unusedVariables false
set_option linter.unusedSimpArgs false
namespace Go.Proofs.OrdPlain
open Go.Lib

def dch (u : Nat) : UInt8 := UInt8.ofNat (48 + u % 10)
theorem dec_small (u : Nat) (h : u < 10) : decDigits u = [dch u] := by rw [decDigits, dif_pos h]; unfold dch; rw [Nat.mod_eq_of_lt h]
theorem dec_big (u : Nat) (h : ¬ u < 10) : decDigits u = decDigits (u / 10) ++ [dch u] := by rw [decDigits, dif_neg h]; rfl
theorem dec_pos (u : Nat) : 1 ≤ (decDigits u).length := by
  by_cases h : u < 10
  · rw [dec_small u h]; simp
  · rw [dec_big u h]; simp
/-- The m digits at the end. -/
def lowD : Nat → Nat → List UInt8
  | 0, _ => []
  | m + 1, u => lowD m (u / 10) ++ [dch u]
theorem lowD_len : ∀ m u, (lowD m u).length = m
  | 0, _ => rfl
  | m + 1, u => by rw [lowD, List.length_append, lowD_len m]; rfl
theorem pad_law : ∀ (scale u : Nat), List.replicate (scale + 1 - (decDigits u).length) 48 ++ decDigits u = decDigits (u / 10 ^ scale) ++ lowD scale u
  | 0, u => by
    have := dec_pos u
    rw [show 0 + 1 - (decDigits u).length = 0 by omega, Nat.pow_zero, Nat.div_one]; simp [lowD]
  | scale + 1, u => by
    have ih := pad_law scale (u / 10)
    rw [lowD, Nat.pow_succ, Nat.mul_comm, ← Nat.div_div_eq_div_mul, ← List.append_assoc, ← ih]
    by_cases h : u < 10
    · rw [show u / 10 = 0 by omega, dec_small u h, dec_small 0 (by omega)]
      simp only [List.length_cons, List.length_nil]
      rw [show scale + 1 + 1 - (0 + 1) = scale + 1 by omega, show scale + 1 - (0 + 1) = scale by omega, List.replicate_succ']
      rfl
    · rw [dec_big u h, List.length_append, ← List.append_assoc]
      congr 2
      congr 1
      simp only [List.length_cons, List.length_nil]; omega
/-- What the program writes of a number's size. -/
def progSize (u scale : Nat) : List UInt8 :=
  if 0 < scale then (List.replicate (scale + 1 - (decDigits u).length) 48 ++ decDigits u).take ((List.replicate (scale + 1 - (decDigits u).length) 48 ++ decDigits u).length - scale) ++ 46 :: (List.replicate (scale + 1 - (decDigits u).length) 48 ++ decDigits u).drop ((List.replicate (scale + 1 - (decDigits u).length) 48 ++ decDigits u).length - scale)
  else List.replicate (scale + 1 - (decDigits u).length) 48 ++ decDigits u
/-- What the document's loop will have written, from its k-th digit on. -/
def headD (scale : Nat) : Nat → Nat → List UInt8
  | 0, u => decDigits u ++ (if 0 < scale then [46] else [])
  | m + 1, u => headD scale m (u / 10) ++ [dch u]
def finD (scale k u : Nat) (s : List UInt8) : List UInt8 := (if k ≤ scale then headD scale (scale - k) u else if u = 0 then [] else decDigits u) ++ s
theorem headD_eq (scale : Nat) : ∀ (m u : Nat), headD scale m u = decDigits (u / 10 ^ m) ++ (if 0 < scale then [46] else []) ++ lowD m u
  | 0, u => by rw [headD, lowD, Nat.pow_zero, Nat.div_one, List.append_nil]
  | m + 1, u => by rw [headD, headD_eq scale m, lowD, Nat.pow_succ, Nat.mul_comm, ← Nat.div_div_eq_div_mul]; simp only [List.append_assoc]
theorem tail_dec (u : Nat) : (if u / 10 = 0 then [] else decDigits (u / 10)) ++ [dch u] = decDigits u := by
  by_cases h : u < 10
  · rw [if_pos (by omega), dec_small u h]; rfl
  · rw [if_neg (by omega), dec_big u h]
theorem fin_step (scale k u : Nat) (s : List UInt8) (h : k ≤ scale ∨ 0 < u) : finD scale k u s = finD scale (k + 1) (u / 10) (dch u :: (if k = scale ∧ 0 < scale then 46 :: s else s)) := by
  unfold finD
  by_cases hk : k ≤ scale
  · rw [if_pos hk]
    by_cases he : k = scale
    · subst he
      rw [if_neg (show ¬ k + 1 ≤ k by omega), Nat.sub_self, headD, ← tail_dec u]
      by_cases h0 : 0 < k
      · simp [h0]
      · simp [h0]
    · rw [if_pos (by omega), if_neg (fun h => he h.1), show scale - k = (scale - (k + 1)) + 1 by omega, headD]; simp
  · rw [if_neg hk, if_neg (show ¬ k + 1 ≤ scale by omega), if_neg (show ¬ u = 0 by omega), if_neg (show ¬ (k = scale ∧ 0 < scale) from fun h => hk (by omega)), ← tail_dec u]; simp
theorem fin_end (scale k u : Nat) (s : List UInt8) (h : ¬ (k ≤ scale ∨ 0 < u)) : finD scale k u s = s := by
  unfold finD
  rw [if_neg (by omega), if_pos (by omega)]; rfl
theorem text_law (scale u : Nat) : progSize u scale = finD scale 0 u [] := by
  unfold finD progSize
  rw [if_pos (Nat.zero_le _), Nat.sub_zero, headD_eq, List.append_nil, pad_law]
  by_cases h : 0 < scale
  · rw [if_pos h, if_pos h, List.length_append, lowD_len, Nat.add_sub_cancel, List.take_left, List.drop_left]; simp
  · rw [if_neg h, if_neg h, List.append_nil]
/-! ### the sign -/
theorem dch_ne (u : Nat) : dch u ≠ 45 := by
  intro h
  have h2 := congrArg UInt8.toNat h
  have h1 : u % 10 < 10 := Nat.mod_lt _ (by omega)
  unfold dch at h2
  simp at h2
  omega
theorem dec_head : ∀ (n u : Nat), u ≤ n → ∃ c r, decDigits u = c :: r ∧ c ≠ 45
  | 0, u, h => ⟨_, _, dec_small u (by omega), dch_ne u⟩
  | n + 1, u, h => by
    by_cases h10 : u < 10
    · exact ⟨_, _, dec_small u h10, dch_ne u⟩
    · obtain ⟨c, r, e, hc⟩ := dec_head n (u / 10) (by omega)
      exact ⟨c, r ++ [dch u], by rw [dec_big u h10, e]; rfl, hc⟩
theorem has_itoa (n : Int) : hasPrefix (itoa n) [45] = decide (n < 0) := by
  unfold itoa hasPrefix
  by_cases h : n < 0
  · rw [if_pos h, decide_eq_true h]; rfl
  · obtain ⟨c, r, e, hc⟩ := dec_head _ n.toNat (Nat.le_refl _)
    rw [if_neg h, decide_eq_false h, e]
    simp [List.isPrefixOf, Ne.symm hc]
theorem trim_itoa (n : Int) : trimPrefix (itoa n) [45] = decDigits n.natAbs := by
  unfold trimPrefix
  rw [has_itoa]
  by_cases h : n < 0
  · rw [if_pos (decide_eq_true h)]
    unfold itoa
    rw [if_pos h]; rfl
  · rw [if_neg (by simpa using h)]
    unfold itoa
    rw [if_neg h, show n.toNat = n.natAbs by omega]
end Go.Proofs.OrdPlain
