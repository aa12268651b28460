/- Plain law: a text has no rune that is no digit if and only if all its bytes are digits. -/
import Derived.Shelf.GgClosure.StringsIndexFunc
import Derived.Lib.TrimUEq
import Derived.Test.YtkndegjjiimheaaDoorOrdPlain
set_option linter.unusedVariables false
set_option linter.unusedSimpArgs false
namespace Go.Proofs.OrdPlain
open Go Go.Lib

def notDigR (r : Nat) : Bool := !(decide (48 ≤ r ∧ r ≤ 57))
set_option maxRecDepth 100000 in
theorem decodeN_high (n b0 b1 b2 b3 : Nat) (h : 128 ≤ b0) : 128 ≤ (decodeN n b0 b1 b2 b3).1 := by
  unfold decodeN
  repeat' split
  all_goals (dsimp only; omega)
theorem dec_byte (s : ByteArray) (pos : Nat) :
    (isDig (s.data.toList.getD pos 0) = true → Utf8.decode s pos = ((s.data.toList.getD pos 0).toNat, 1)) ∧ notDigR (Utf8.decode s pos).1 = !(isDig (s.data.toList.getD pos 0)) := by
  rw [decode_N]
  generalize s.data.toList.getD pos 0 = c
  by_cases hc : c.toNat < 128
  · rw [decodeN_ascii _ _ _ _ _ hc]
    exact ⟨fun _ => rfl, rfl⟩
  · have hh := decodeN_high (s.data.toList.length - pos) c.toNat (s.data.toList.getD (pos + 1) 0).toNat (s.data.toList.getD (pos + 2) 0).toNat (s.data.toList.getD (pos + 3) 0).toNat (by omega)
    have hd : isDig c = false := by unfold isDig; exact decide_eq_false (by omega)
    refine ⟨fun h => (by rw [hd] at h; cases h), ?_⟩
    rw [hd]
    unfold notDigR
    rw [decide_eq_false (by omega)]
theorem idx_law (s : ByteArray) : ∀ (f pos : Nat), s.size ≤ pos + f → (idxFuncFrom notDigR true s f pos < 0 ↔ ∀ i, pos ≤ i → i < s.size → isDig (s.data.toList.getD i 0) = true)
  | 0, pos, h => by
    rw [idxFuncFrom]
    exact ⟨fun _ i h1 h2 => by omega, fun _ => by omega⟩
  | f + 1, pos, h => by
    rw [idxFuncFrom]
    by_cases hp : pos < s.size
    · rw [if_pos hp]
      obtain ⟨hd, hn⟩ := dec_byte s pos
      by_cases hi : isDig (s.data.toList.getD pos 0) = true
      · rw [hn, hi, if_neg (fun h => by cases h), hd hi, idx_law s f (pos + 1) (by omega)]
        constructor
        · intro hh i h1 h2
          by_cases e : i = pos
          · subst e; exact hi
          · exact hh i (by omega) h2
        · intro hh i h1 h2
          exact hh i (by omega) h2
      · rw [hn, Bool.eq_false_iff.2 hi, if_pos Bool.not_false]
        exact ⟨fun h => by omega, fun h => absurd (h pos (Nat.le_refl _) hp) hi⟩
    · rw [if_neg hp]
      exact ⟨fun _ i h1 h2 => by omega, fun _ => by omega⟩
theorem idx_all (s : ByteArray) : decide (idxFunc notDigR true s < 0) = s.data.toList.all isDig := by
  rw [Bool.eq_iff_iff, decide_eq_true_iff, List.all_eq_true]
  unfold idxFunc
  rw [idx_law s s.size 0 (by omega)]
  have hs : s.size = s.data.toList.length := by rw [Array.length_toList]; rfl
  constructor
  · intro h x hx
    obtain ⟨i, hi, rfl⟩ := List.getElem_of_mem hx
    have := h i (by omega) (by omega)
    rwa [List.getD_eq_getElem?_getD, List.getElem?_eq_getElem hi] at this
  · intro h i _ hi
    rw [List.getD_eq_getElem?_getD, List.getElem?_eq_getElem (by omega)]
    exact h _ (List.getElem_mem _)
end Go.Proofs.OrdPlain
