/- What lowering does to a rune: it stays lowered, a letter stays a letter, its form keeps its length. -/
import Derived.Test.YtgbphkckiekehaaDoorFoldPlain
import Derived.Lib.RuneBytes
set_option linter.unusedSimpArgs false
namespace Go.Proofs.FoldPlain
open Go

theorem lowerD_cases (a : Int) :
    (lowerD a = a + 32 ∧ (65 ≤ a ∧ a ≤ 90 ∨ 192 ≤ a ∧ a ≤ 214 ∨ 216 ≤ a ∧ a ≤ 222 ∨ 913 ≤ a ∧ a ≤ 929 ∨ 931 ≤ a ∧ a ≤ 939 ∨ 1040 ≤ a ∧ a ≤ 1071)) ∨
    (lowerD a = a - a % 2 + 1 ∧ (256 ≤ a ∧ a ≤ 303 ∨ 306 ≤ a ∧ a ≤ 311 ∨ 330 ≤ a ∧ a ≤ 375 ∨ 1120 ≤ a ∧ a ≤ 1153 ∨ 1162 ≤ a ∧ a ≤ 1215 ∨ 1232 ≤ a ∧ a ≤ 1327)) ∨
    (lowerD a = a + a % 2 ∧ (313 ≤ a ∧ a ≤ 328 ∨ 377 ≤ a ∧ a ≤ 382 ∨ 1217 ≤ a ∧ a ≤ 1230)) ∨
    (lowerD a = a + 37 ∧ (904 ≤ a ∧ a ≤ 906)) ∨ (lowerD a = a + 63 ∧ (910 ≤ a ∧ a ≤ 911)) ∨ (lowerD a = a + 80 ∧ (1024 ≤ a ∧ a ≤ 1039)) ∨
    (lowerD a = 255 ∧ a = 376) ∨ (lowerD a = 1231 ∧ a = 1216) ∨ (lowerD a = 940 ∧ a = 902) ∨ (lowerD a = 972 ∧ a = 908) ∨ lowerD a = a := by
  unfold lowerD
  by_cases c1 : amongL [65, 90, 192, 214, 216, 222, 913, 929, 931, 939, 1040, 1071] a = true
  · rw [if_pos c1]; left; refine ⟨rfl, ?_⟩; simpa only [amongL, Bool.or_false, Bool.or_eq_true, inR_iff] using c1
  · rw [if_neg c1]; right
    by_cases c2 : amongL [256, 303, 306, 311, 330, 375, 1120, 1153, 1162, 1215, 1232, 1327] a = true
    · rw [if_pos c2]; left; refine ⟨rfl, ?_⟩; simpa only [amongL, Bool.or_false, Bool.or_eq_true, inR_iff] using c2
    · rw [if_neg c2]; right
      by_cases c3 : amongL [313, 328, 377, 382, 1217, 1230] a = true
      · rw [if_pos c3]; left; refine ⟨rfl, ?_⟩; simpa only [amongL, Bool.or_false, Bool.or_eq_true, inR_iff] using c3
      · rw [if_neg c3]; right
        by_cases c4 : amongL [904, 906] a = true
        · rw [if_pos c4]; left; refine ⟨rfl, ?_⟩; simpa only [amongL, Bool.or_false, Bool.or_eq_true, inR_iff] using c4
        · rw [if_neg c4]; right
          by_cases c5 : amongL [910, 911] a = true
          · rw [if_pos c5]; left; refine ⟨rfl, ?_⟩; simpa only [amongL, Bool.or_false, Bool.or_eq_true, inR_iff] using c5
          · rw [if_neg c5]; right
            by_cases c6 : amongL [1024, 1039] a = true
            · rw [if_pos c6]; left; refine ⟨rfl, ?_⟩; simpa only [amongL, Bool.or_false, Bool.or_eq_true, inR_iff] using c6
            · rw [if_neg c6]; right
              by_cases d1 : a = 376
              · rw [if_pos d1]; exact .inl ⟨rfl, d1⟩
              · rw [if_neg d1]; right
                by_cases d2 : a = 1216
                · rw [if_pos d2]; exact .inl ⟨rfl, d2⟩
                · rw [if_neg d2]; right
                  by_cases d3 : a = 902
                  · rw [if_pos d3]; exact .inl ⟨rfl, d3⟩
                  · rw [if_neg d3]; right
                    by_cases d4 : a = 908
                    · rw [if_pos d4]; exact .inl ⟨rfl, d4⟩
                    · rw [if_neg d4]; exact .inr rfl

theorem lowerD_range (a : Int) : lowerD a = a ∨ (0 ≤ a ∧ a ≤ 127 ∧ 0 ≤ lowerD a ∧ lowerD a ≤ 127) ∨ (128 ≤ a ∧ a ≤ 2047 ∧ 128 ≤ lowerD a ∧ lowerD a ≤ 2047) := by
  have := lowerD_cases a
  omega

theorem lowerD_len (a : Int) : (Lib.encodeRuneZ (lowerD a)).length = (Lib.encodeRuneZ a).length := by
  rcases lowerD_range a with h | ⟨h1, h2, h3, h4⟩ | ⟨h1, h2, h3, h4⟩
  · rw [h]
  · rw [Lib.encodeRuneZ_one h1 h2, Lib.encodeRuneZ_one h3 h4]; rfl
  · rw [Lib.encodeRuneZ_two h1 h2, Lib.encodeRuneZ_two h3 h4]; rfl

theorem lowerD_i32 (a : Int) (h0 : -2147483648 ≤ a) (h1 : a ≤ 2147483647) : -2147483648 ≤ lowerD a ∧ lowerD a ≤ 2147483647 := by
  have := lowerD_range a
  omega

set_option maxHeartbeats 4000000 in
theorem lowerD_lowerD (a : Int) : lowerD (lowerD a) = lowerD a := by
  rcases lowerD_cases a with ⟨e, h⟩ | ⟨e, h⟩ | ⟨e, h⟩ | ⟨e, h⟩ | ⟨e, h⟩ | ⟨e, h⟩ | ⟨e, h⟩ | ⟨e, h⟩ | ⟨e, h⟩ | ⟨e, h⟩ | e
  · rw [e]
    rcases h with h | h | h | h | h | h <;> (unfold lowerD; simp (disch := omega) only [inR_t, inR_f1, inR_f2, amongL, Bool.or_false, Bool.or_true, Bool.true_or, Bool.false_or, if_true, if_false, Bool.false_eq_true, reduceIte]) <;> (repeat' split) <;> omega
  · rw [e]
    rcases h with h | h | h | h | h | h <;> (unfold lowerD; simp (disch := omega) only [inR_t, inR_f1, inR_f2, amongL, Bool.or_false, Bool.or_true, Bool.true_or, Bool.false_or, if_true, if_false, Bool.false_eq_true, reduceIte]) <;> (repeat' split) <;> omega
  · rw [e]
    rcases h with h | h | h <;> (unfold lowerD; simp (disch := omega) only [inR_t, inR_f1, inR_f2, amongL, Bool.or_false, Bool.or_true, Bool.true_or, Bool.false_or, if_true, if_false, Bool.false_eq_true, reduceIte]) <;> (repeat' split) <;> omega
  · rw [e]
    (unfold lowerD; simp (disch := omega) only [inR_t, inR_f1, inR_f2, amongL, Bool.or_false, Bool.or_true, Bool.true_or, Bool.false_or, if_true, if_false, Bool.false_eq_true, reduceIte]) <;> (repeat' split) <;> omega
  · rw [e]
    (unfold lowerD; simp (disch := omega) only [inR_t, inR_f1, inR_f2, amongL, Bool.or_false, Bool.or_true, Bool.true_or, Bool.false_or, if_true, if_false, Bool.false_eq_true, reduceIte]) <;> (repeat' split) <;> omega
  · rw [e]
    (unfold lowerD; simp (disch := omega) only [inR_t, inR_f1, inR_f2, amongL, Bool.or_false, Bool.or_true, Bool.true_or, Bool.false_or, if_true, if_false, Bool.false_eq_true, reduceIte]) <;> (repeat' split) <;> omega
  · rw [e]; decide
  · rw [e]; decide
  · rw [e]; decide
  · rw [e]; decide
  · rw [e, e]

set_option maxHeartbeats 4000000 in
theorem lowerD_letter (a : Int) : lowerD a = a ∨ (letterD a = true ∧ letterD (lowerD a) = true ∧ digitD a = false ∧ digitD (lowerD a) = false ∧ markD a = false ∧ markD (lowerD a) = false) := by
  rcases lowerD_cases a with ⟨e, h⟩ | ⟨e, h⟩ | ⟨e, h⟩ | ⟨e, h⟩ | ⟨e, h⟩ | ⟨e, h⟩ | ⟨e, h⟩ | ⟨e, h⟩ | ⟨e, h⟩ | ⟨e, h⟩ | e
  · right; rw [e]
    rcases h with h | h | h | h | h | h <;> (unfold letterD digitD markD; simp (disch := omega) only [inR_t, inR_f1, inR_f2, amongL, Bool.or_false, Bool.or_true, Bool.true_or, Bool.false_or, and_self])
  · by_cases c : a % 2 = 1
    · left; omega
    right
    rcases h with h | h | h | h | h | h <;> (rw [show lowerD a = a + 1 by omega]; unfold letterD digitD markD; simp (disch := omega) only [inR_t, inR_f1, inR_f2, amongL, Bool.or_false, Bool.or_true, Bool.true_or, Bool.false_or, and_self])
  · by_cases c : a % 2 = 0
    · left; omega
    right
    rcases h with h | h | h <;> (rw [show lowerD a = a + 1 by omega]; unfold letterD digitD markD; simp (disch := omega) only [inR_t, inR_f1, inR_f2, amongL, Bool.or_false, Bool.or_true, Bool.true_or, Bool.false_or, and_self])
  · right; rw [e]
    (unfold letterD digitD markD; simp (disch := omega) only [inR_t, inR_f1, inR_f2, amongL, Bool.or_false, Bool.or_true, Bool.true_or, Bool.false_or, and_self])
  · right; rw [e]
    (unfold letterD digitD markD; simp (disch := omega) only [inR_t, inR_f1, inR_f2, amongL, Bool.or_false, Bool.or_true, Bool.true_or, Bool.false_or, and_self])
  · right; rw [e]
    (unfold letterD digitD markD; simp (disch := omega) only [inR_t, inR_f1, inR_f2, amongL, Bool.or_false, Bool.or_true, Bool.true_or, Bool.false_or, and_self])
  · right; rw [e, h]; decide
  · right; rw [e, h]; decide
  · right; rw [e, h]; decide
  · right; rw [e, h]; decide
  · left; exact e

end Go.Proofs.FoldPlain
