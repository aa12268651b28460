/- Plain facts on ranges of runes, on texts of bytes and on folding. -/
import Derived.Lib.RuneBytes
import Derived.Lib.TrimUEq
import Derived.Lib.MapLaws
import Derived.Lib.ValidU
/- Ranges of runes, the lower case and the classes of the document as plain functions on integers. -/
set_option linter.unusedSimpArgs false
namespace Go.Proofs.FoldPlain

def inR (a l h : Int) : Bool := decide (l ≤ a ∧ a ≤ h)
theorem inR_t {a l h : Int} (h0 : l ≤ a) (h1 : a ≤ h) : inR a l h = true := decide_eq_true ⟨h0, h1⟩
theorem inR_f1 {a l h : Int} (h0 : a < l) : inR a l h = false := decide_eq_false (by omega)
theorem inR_f2 {a l h : Int} (h0 : h < a) : inR a l h = false := decide_eq_false (by omega)
theorem inR_one (a c : Int) : (a == c) = inR a c c := by
  unfold inR
  by_cases h : a = c
  · subst h; simp
  · have : ¬ (c ≤ a ∧ a ≤ c) := by omega
    simp [h, this]
theorem inR_iff {a l h : Int} : inR a l h = true ↔ l ≤ a ∧ a ≤ h := by unfold inR; exact decide_eq_true_iff

def amongL : List Int → Int → Bool
  | l :: h :: t, a => inR a l h || amongL t a
  | [_], _ => false
  | [], _ => false

def letterD (a : Int) : Bool := amongL [65, 90, 97, 122, 170, 170, 181, 181, 186, 186, 192, 214, 216, 246, 248, 687, 880, 883, 886, 887, 891, 893, 895, 895, 902, 902, 904, 906, 908, 908, 910, 929, 931, 1013, 1015, 1153, 1162, 1327, 1488, 1514, 1568, 1610, 2308, 2361, 12353, 12438, 12449, 12538, 19968, 40959, 44032, 55203] a
def digitD (a : Int) : Bool := amongL [48, 57, 1632, 1641, 2406, 2415, 65296, 65305] a
def markD (a : Int) : Bool := amongL [768, 879, 1155, 1161, 1425, 1469, 1611, 1631, 2364, 2364, 8400, 8432, 65056, 65071] a
def lowerD (a : Int) : Int :=
  if amongL [65, 90, 192, 214, 216, 222, 913, 929, 931, 939, 1040, 1071] a = true then a + 32
  else if amongL [256, 303, 306, 311, 330, 375, 1120, 1153, 1162, 1215, 1232, 1327] a = true then a - a % 2 + 1
  else if amongL [313, 328, 377, 382, 1217, 1230] a = true then a + a % 2
  else if amongL [904, 906] a = true then a + 37
  else if amongL [910, 911] a = true then a + 63
  else if amongL [1024, 1039] a = true then a + 80
  else if a = 376 then 255
  else if a = 1216 then 1231
  else if a = 902 then 940
  else if a = 908 then 972
  else a

/-- The lower case as the program's own chain of tests has it. -/
def lowerP (a : Int) : Int :=
  if (inR a 65 90 || (inR a 192 222 && (a != 215)) || (inR a 913 939 && (a != 930)) || inR a 1040 1071) = true then a + 32
  else if ((a == 304) || (a == 305)) = true then a
  else if (inR a 256 311 || inR a 330 375 || inR a 1120 1153 || inR a 1162 1215 || inR a 1232 1327) = true then (if a % 2 = 0 then a + 1 else a)
  else if (inR a 313 328 || inR a 377 382 || inR a 1217 1230) = true then (if a % 2 = 1 then a + 1 else a)
  else if a = 376 then 255
  else if a = 1216 then 1231
  else if a = 902 then 940
  else if inR a 904 906 = true then a + 37
  else if a = 908 then 972
  else if inR a 910 911 = true then a + 63
  else if inR a 1024 1039 = true then a + 80
  else a
def letterP (a : Int) : Bool :=
  inR a 65 90 || inR a 97 122 || (a == 170) || (a == 181) || (a == 186) || inR a 192 214 || inR a 216 246 || inR a 248 687 || inR a 880 883 || inR a 886 887 || inR a 891 893 || (a == 895) || (a == 902) || inR a 904 906 || (a == 908) || inR a 910 929 || (inR a 931 1023 && (a != 1014)) || (inR a 1024 1327 && !(inR a 1154 1161)) || inR a 1488 1514 || inR a 1568 1610 || inR a 2308 2361 || inR a 12353 12438 || inR a 12449 12538 || inR a 19968 40959 || inR a 44032 55203

theorem letterP_eq (a : Int) : letterP a = letterD a := by
  have e : (inR a 931 1023 && (a != 1014) || (inR a 1024 1327 && !(inR a 1154 1161))) = (inR a 931 1013 || (inR a 1015 1153 || inR a 1162 1327)) := by
    rw [Bool.eq_iff_iff]
    simp only [Bool.or_eq_true, Bool.and_eq_true, Bool.not_eq_true', inR_iff, bne_iff_ne, Bool.eq_false_iff, ne_eq]
    omega
  unfold letterP letterD
  simp only [amongL, Bool.or_false, Bool.or_assoc, inR_one]
  rw [← Bool.or_assoc (inR a 931 1023 && (a != 1014)), e]
  simp only [Bool.or_assoc]

set_option maxHeartbeats 4000000 in
theorem lowerP_eq (a : Int) : lowerP a = lowerD a := by
  unfold lowerP lowerD
  by_cases c20 : a < 907
  · by_cases c10 : a < 312
    · by_cases c5 : a < 223
      · by_cases c2 : a < 192
        · by_cases c1 : a < 91
          · by_cases c0 : a < 65
            · simp (disch := omega) only [inR_t, inR_f1, inR_f2, amongL, Bool.or_false, Bool.or_true, Bool.true_or, Bool.false_or, Bool.and_true, Bool.false_and, Bool.true_and, inR_one, bne, Bool.not_true, Bool.not_false, if_true, if_false, Bool.false_eq_true, reduceIte] <;> (first | omega | ((repeat' split) <;> omega))
            · simp (disch := omega) only [inR_t, inR_f1, inR_f2, amongL, Bool.or_false, Bool.or_true, Bool.true_or, Bool.false_or, Bool.and_true, Bool.false_and, Bool.true_and, inR_one, bne, Bool.not_true, Bool.not_false, if_true, if_false, Bool.false_eq_true, reduceIte] <;> (first | omega | ((repeat' split) <;> omega))
          · simp (disch := omega) only [inR_t, inR_f1, inR_f2, amongL, Bool.or_false, Bool.or_true, Bool.true_or, Bool.false_or, Bool.and_true, Bool.false_and, Bool.true_and, inR_one, bne, Bool.not_true, Bool.not_false, if_true, if_false, Bool.false_eq_true, reduceIte] <;> (first | omega | ((repeat' split) <;> omega))
        · by_cases c4 : a < 216
          · by_cases c3 : a < 215
            · simp (disch := omega) only [inR_t, inR_f1, inR_f2, amongL, Bool.or_false, Bool.or_true, Bool.true_or, Bool.false_or, Bool.and_true, Bool.false_and, Bool.true_and, inR_one, bne, Bool.not_true, Bool.not_false, if_true, if_false, Bool.false_eq_true, reduceIte] <;> (first | omega | ((repeat' split) <;> omega))
            · simp (disch := omega) only [inR_t, inR_f1, inR_f2, amongL, Bool.or_false, Bool.or_true, Bool.true_or, Bool.false_or, Bool.and_true, Bool.false_and, Bool.true_and, inR_one, bne, Bool.not_true, Bool.not_false, if_true, if_false, Bool.false_eq_true, reduceIte] <;> (first | omega | ((repeat' split) <;> omega))
          · simp (disch := omega) only [inR_t, inR_f1, inR_f2, amongL, Bool.or_false, Bool.or_true, Bool.true_or, Bool.false_or, Bool.and_true, Bool.false_and, Bool.true_and, inR_one, bne, Bool.not_true, Bool.not_false, if_true, if_false, Bool.false_eq_true, reduceIte] <;> (first | omega | ((repeat' split) <;> omega))
      · by_cases c8 : a < 305
        · by_cases c7 : a < 304
          · by_cases c6 : a < 256
            · simp (disch := omega) only [inR_t, inR_f1, inR_f2, amongL, Bool.or_false, Bool.or_true, Bool.true_or, Bool.false_or, Bool.and_true, Bool.false_and, Bool.true_and, inR_one, bne, Bool.not_true, Bool.not_false, if_true, if_false, Bool.false_eq_true, reduceIte] <;> (first | omega | ((repeat' split) <;> omega))
            · simp (disch := omega) only [inR_t, inR_f1, inR_f2, amongL, Bool.or_false, Bool.or_true, Bool.true_or, Bool.false_or, Bool.and_true, Bool.false_and, Bool.true_and, inR_one, bne, Bool.not_true, Bool.not_false, if_true, if_false, Bool.false_eq_true, reduceIte] <;> (first | omega | ((repeat' split) <;> omega))
          · simp (disch := omega) only [inR_t, inR_f1, inR_f2, amongL, Bool.or_false, Bool.or_true, Bool.true_or, Bool.false_or, Bool.and_true, Bool.false_and, Bool.true_and, inR_one, bne, Bool.not_true, Bool.not_false, if_true, if_false, Bool.false_eq_true, reduceIte] <;> (first | omega | ((repeat' split) <;> omega))
        · by_cases c9 : a < 306
          · simp (disch := omega) only [inR_t, inR_f1, inR_f2, amongL, Bool.or_false, Bool.or_true, Bool.true_or, Bool.false_or, Bool.and_true, Bool.false_and, Bool.true_and, inR_one, bne, Bool.not_true, Bool.not_false, if_true, if_false, Bool.false_eq_true, reduceIte] <;> (first | omega | ((repeat' split) <;> omega))
          · simp (disch := omega) only [inR_t, inR_f1, inR_f2, amongL, Bool.or_false, Bool.or_true, Bool.true_or, Bool.false_or, Bool.and_true, Bool.false_and, Bool.true_and, inR_one, bne, Bool.not_true, Bool.not_false, if_true, if_false, Bool.false_eq_true, reduceIte] <;> (first | omega | ((repeat' split) <;> omega))
    · by_cases c15 : a < 377
      · by_cases c13 : a < 330
        · by_cases c12 : a < 329
          · by_cases c11 : a < 313
            · simp (disch := omega) only [inR_t, inR_f1, inR_f2, amongL, Bool.or_false, Bool.or_true, Bool.true_or, Bool.false_or, Bool.and_true, Bool.false_and, Bool.true_and, inR_one, bne, Bool.not_true, Bool.not_false, if_true, if_false, Bool.false_eq_true, reduceIte] <;> (first | omega | ((repeat' split) <;> omega))
            · simp (disch := omega) only [inR_t, inR_f1, inR_f2, amongL, Bool.or_false, Bool.or_true, Bool.true_or, Bool.false_or, Bool.and_true, Bool.false_and, Bool.true_and, inR_one, bne, Bool.not_true, Bool.not_false, if_true, if_false, Bool.false_eq_true, reduceIte] <;> (first | omega | ((repeat' split) <;> omega))
          · simp (disch := omega) only [inR_t, inR_f1, inR_f2, amongL, Bool.or_false, Bool.or_true, Bool.true_or, Bool.false_or, Bool.and_true, Bool.false_and, Bool.true_and, inR_one, bne, Bool.not_true, Bool.not_false, if_true, if_false, Bool.false_eq_true, reduceIte] <;> (first | omega | ((repeat' split) <;> omega))
        · by_cases c14 : a < 376
          · simp (disch := omega) only [inR_t, inR_f1, inR_f2, amongL, Bool.or_false, Bool.or_true, Bool.true_or, Bool.false_or, Bool.and_true, Bool.false_and, Bool.true_and, inR_one, bne, Bool.not_true, Bool.not_false, if_true, if_false, Bool.false_eq_true, reduceIte] <;> (first | omega | ((repeat' split) <;> omega))
          · simp (disch := omega) only [inR_t, inR_f1, inR_f2, amongL, Bool.or_false, Bool.or_true, Bool.true_or, Bool.false_or, Bool.and_true, Bool.false_and, Bool.true_and, inR_one, bne, Bool.not_true, Bool.not_false, if_true, if_false, Bool.false_eq_true, reduceIte] <;> (first | omega | ((repeat' split) <;> omega))
      · by_cases c18 : a < 903
        · by_cases c17 : a < 902
          · by_cases c16 : a < 383
            · simp (disch := omega) only [inR_t, inR_f1, inR_f2, amongL, Bool.or_false, Bool.or_true, Bool.true_or, Bool.false_or, Bool.and_true, Bool.false_and, Bool.true_and, inR_one, bne, Bool.not_true, Bool.not_false, if_true, if_false, Bool.false_eq_true, reduceIte] <;> (first | omega | ((repeat' split) <;> omega))
            · simp (disch := omega) only [inR_t, inR_f1, inR_f2, amongL, Bool.or_false, Bool.or_true, Bool.true_or, Bool.false_or, Bool.and_true, Bool.false_and, Bool.true_and, inR_one, bne, Bool.not_true, Bool.not_false, if_true, if_false, Bool.false_eq_true, reduceIte] <;> (first | omega | ((repeat' split) <;> omega))
          · simp (disch := omega) only [inR_t, inR_f1, inR_f2, amongL, Bool.or_false, Bool.or_true, Bool.true_or, Bool.false_or, Bool.and_true, Bool.false_and, Bool.true_and, inR_one, bne, Bool.not_true, Bool.not_false, if_true, if_false, Bool.false_eq_true, reduceIte] <;> (first | omega | ((repeat' split) <;> omega))
        · by_cases c19 : a < 904
          · simp (disch := omega) only [inR_t, inR_f1, inR_f2, amongL, Bool.or_false, Bool.or_true, Bool.true_or, Bool.false_or, Bool.and_true, Bool.false_and, Bool.true_and, inR_one, bne, Bool.not_true, Bool.not_false, if_true, if_false, Bool.false_eq_true, reduceIte] <;> (first | omega | ((repeat' split) <;> omega))
          · simp (disch := omega) only [inR_t, inR_f1, inR_f2, amongL, Bool.or_false, Bool.or_true, Bool.true_or, Bool.false_or, Bool.and_true, Bool.false_and, Bool.true_and, inR_one, bne, Bool.not_true, Bool.not_false, if_true, if_false, Bool.false_eq_true, reduceIte] <;> (first | omega | ((repeat' split) <;> omega))
  · by_cases c30 : a < 1040
    · by_cases c25 : a < 913
      · by_cases c23 : a < 910
        · by_cases c22 : a < 909
          · by_cases c21 : a < 908
            · simp (disch := omega) only [inR_t, inR_f1, inR_f2, amongL, Bool.or_false, Bool.or_true, Bool.true_or, Bool.false_or, Bool.and_true, Bool.false_and, Bool.true_and, inR_one, bne, Bool.not_true, Bool.not_false, if_true, if_false, Bool.false_eq_true, reduceIte] <;> (first | omega | ((repeat' split) <;> omega))
            · simp (disch := omega) only [inR_t, inR_f1, inR_f2, amongL, Bool.or_false, Bool.or_true, Bool.true_or, Bool.false_or, Bool.and_true, Bool.false_and, Bool.true_and, inR_one, bne, Bool.not_true, Bool.not_false, if_true, if_false, Bool.false_eq_true, reduceIte] <;> (first | omega | ((repeat' split) <;> omega))
          · simp (disch := omega) only [inR_t, inR_f1, inR_f2, amongL, Bool.or_false, Bool.or_true, Bool.true_or, Bool.false_or, Bool.and_true, Bool.false_and, Bool.true_and, inR_one, bne, Bool.not_true, Bool.not_false, if_true, if_false, Bool.false_eq_true, reduceIte] <;> (first | omega | ((repeat' split) <;> omega))
        · by_cases c24 : a < 912
          · simp (disch := omega) only [inR_t, inR_f1, inR_f2, amongL, Bool.or_false, Bool.or_true, Bool.true_or, Bool.false_or, Bool.and_true, Bool.false_and, Bool.true_and, inR_one, bne, Bool.not_true, Bool.not_false, if_true, if_false, Bool.false_eq_true, reduceIte] <;> (first | omega | ((repeat' split) <;> omega))
          · simp (disch := omega) only [inR_t, inR_f1, inR_f2, amongL, Bool.or_false, Bool.or_true, Bool.true_or, Bool.false_or, Bool.and_true, Bool.false_and, Bool.true_and, inR_one, bne, Bool.not_true, Bool.not_false, if_true, if_false, Bool.false_eq_true, reduceIte] <;> (first | omega | ((repeat' split) <;> omega))
      · by_cases c28 : a < 940
        · by_cases c27 : a < 931
          · by_cases c26 : a < 930
            · simp (disch := omega) only [inR_t, inR_f1, inR_f2, amongL, Bool.or_false, Bool.or_true, Bool.true_or, Bool.false_or, Bool.and_true, Bool.false_and, Bool.true_and, inR_one, bne, Bool.not_true, Bool.not_false, if_true, if_false, Bool.false_eq_true, reduceIte] <;> (first | omega | ((repeat' split) <;> omega))
            · simp (disch := omega) only [inR_t, inR_f1, inR_f2, amongL, Bool.or_false, Bool.or_true, Bool.true_or, Bool.false_or, Bool.and_true, Bool.false_and, Bool.true_and, inR_one, bne, Bool.not_true, Bool.not_false, if_true, if_false, Bool.false_eq_true, reduceIte] <;> (first | omega | ((repeat' split) <;> omega))
          · simp (disch := omega) only [inR_t, inR_f1, inR_f2, amongL, Bool.or_false, Bool.or_true, Bool.true_or, Bool.false_or, Bool.and_true, Bool.false_and, Bool.true_and, inR_one, bne, Bool.not_true, Bool.not_false, if_true, if_false, Bool.false_eq_true, reduceIte] <;> (first | omega | ((repeat' split) <;> omega))
        · by_cases c29 : a < 1024
          · simp (disch := omega) only [inR_t, inR_f1, inR_f2, amongL, Bool.or_false, Bool.or_true, Bool.true_or, Bool.false_or, Bool.and_true, Bool.false_and, Bool.true_and, inR_one, bne, Bool.not_true, Bool.not_false, if_true, if_false, Bool.false_eq_true, reduceIte] <;> (first | omega | ((repeat' split) <;> omega))
          · simp (disch := omega) only [inR_t, inR_f1, inR_f2, amongL, Bool.or_false, Bool.or_true, Bool.true_or, Bool.false_or, Bool.and_true, Bool.false_and, Bool.true_and, inR_one, bne, Bool.not_true, Bool.not_false, if_true, if_false, Bool.false_eq_true, reduceIte] <;> (first | omega | ((repeat' split) <;> omega))
    · by_cases c35 : a < 1216
      · by_cases c33 : a < 1154
        · by_cases c32 : a < 1120
          · by_cases c31 : a < 1072
            · simp (disch := omega) only [inR_t, inR_f1, inR_f2, amongL, Bool.or_false, Bool.or_true, Bool.true_or, Bool.false_or, Bool.and_true, Bool.false_and, Bool.true_and, inR_one, bne, Bool.not_true, Bool.not_false, if_true, if_false, Bool.false_eq_true, reduceIte] <;> (first | omega | ((repeat' split) <;> omega))
            · simp (disch := omega) only [inR_t, inR_f1, inR_f2, amongL, Bool.or_false, Bool.or_true, Bool.true_or, Bool.false_or, Bool.and_true, Bool.false_and, Bool.true_and, inR_one, bne, Bool.not_true, Bool.not_false, if_true, if_false, Bool.false_eq_true, reduceIte] <;> (first | omega | ((repeat' split) <;> omega))
          · simp (disch := omega) only [inR_t, inR_f1, inR_f2, amongL, Bool.or_false, Bool.or_true, Bool.true_or, Bool.false_or, Bool.and_true, Bool.false_and, Bool.true_and, inR_one, bne, Bool.not_true, Bool.not_false, if_true, if_false, Bool.false_eq_true, reduceIte] <;> (first | omega | ((repeat' split) <;> omega))
        · by_cases c34 : a < 1162
          · simp (disch := omega) only [inR_t, inR_f1, inR_f2, amongL, Bool.or_false, Bool.or_true, Bool.true_or, Bool.false_or, Bool.and_true, Bool.false_and, Bool.true_and, inR_one, bne, Bool.not_true, Bool.not_false, if_true, if_false, Bool.false_eq_true, reduceIte] <;> (first | omega | ((repeat' split) <;> omega))
          · simp (disch := omega) only [inR_t, inR_f1, inR_f2, amongL, Bool.or_false, Bool.or_true, Bool.true_or, Bool.false_or, Bool.and_true, Bool.false_and, Bool.true_and, inR_one, bne, Bool.not_true, Bool.not_false, if_true, if_false, Bool.false_eq_true, reduceIte] <;> (first | omega | ((repeat' split) <;> omega))
      · by_cases c38 : a < 1232
        · by_cases c37 : a < 1231
          · by_cases c36 : a < 1217
            · simp (disch := omega) only [inR_t, inR_f1, inR_f2, amongL, Bool.or_false, Bool.or_true, Bool.true_or, Bool.false_or, Bool.and_true, Bool.false_and, Bool.true_and, inR_one, bne, Bool.not_true, Bool.not_false, if_true, if_false, Bool.false_eq_true, reduceIte] <;> (first | omega | ((repeat' split) <;> omega))
            · simp (disch := omega) only [inR_t, inR_f1, inR_f2, amongL, Bool.or_false, Bool.or_true, Bool.true_or, Bool.false_or, Bool.and_true, Bool.false_and, Bool.true_and, inR_one, bne, Bool.not_true, Bool.not_false, if_true, if_false, Bool.false_eq_true, reduceIte] <;> (first | omega | ((repeat' split) <;> omega))
          · simp (disch := omega) only [inR_t, inR_f1, inR_f2, amongL, Bool.or_false, Bool.or_true, Bool.true_or, Bool.false_or, Bool.and_true, Bool.false_and, Bool.true_and, inR_one, bne, Bool.not_true, Bool.not_false, if_true, if_false, Bool.false_eq_true, reduceIte] <;> (first | omega | ((repeat' split) <;> omega))
        · by_cases c39 : a < 1328
          · simp (disch := omega) only [inR_t, inR_f1, inR_f2, amongL, Bool.or_false, Bool.or_true, Bool.true_or, Bool.false_or, Bool.and_true, Bool.false_and, Bool.true_and, inR_one, bne, Bool.not_true, Bool.not_false, if_true, if_false, Bool.false_eq_true, reduceIte] <;> (first | omega | ((repeat' split) <;> omega))
          · simp (disch := omega) only [inR_t, inR_f1, inR_f2, amongL, Bool.or_false, Bool.or_true, Bool.true_or, Bool.false_or, Bool.and_true, Bool.false_and, Bool.true_and, inR_one, bne, Bool.not_true, Bool.not_false, if_true, if_false, Bool.false_eq_true, reduceIte] <;> (first | omega | ((repeat' split) <;> omega))

end Go.Proofs.FoldPlain

set_option linter.unusedSimpArgs false
namespace Go.Proofs.FoldPlain
open Go

theorem lowerD_cases (a : Int) :
    (lowerD a = a + 32 ∧ (65 ≤ a ∧ a ≤ 90 ∨ 192 ≤ a ∧ a ≤ 214 ∨ 216 ≤ a ∧ a ≤ 222 ∨ 913 ≤ a ∧ a ≤ 929 ∨ 931 ≤ a ∧ a ≤ 939 ∨ 1040 ≤ a ∧ a ≤ 1071)) ∨
    (lowerD a = a - a % 2 + 1 ∧ (256 ≤ a ∧ a ≤ 303 ∨ 306 ≤ a ∧ a ≤ 311 ∨ 330 ≤ a ∧ a ≤ 375 ∨ 1120 ≤ a ∧ a ≤ 1153 ∨ 1162 ≤ a ∧ a ≤ 1215 ∨ 1232 ≤ a ∧ a ≤ 1327)) ∨
    (lowerD a = a + a % 2 ∧ (313 ≤ a ∧ a ≤ 328 ∨ 377 ≤ a ∧ a ≤ 382 ∨ 1217 ≤ a ∧ a ≤ 1230)) ∨
    (lowerD a = a + 37 ∧ (904 ≤ a ∧ a ≤ 906)) ∨ (lowerD a = a + 63 ∧ (910 ≤ a ∧ a ≤ 911)) ∨ (lowerD a = a + 80 ∧ (1024 ≤ a ∧ a ≤ 1039)) ∨
    (lowerD a = 255 ∧ a = 376) ∨ (lowerD a = 1231 ∧ a = 1216) ∨ (lowerD a = 940 ∧ a = 902) ∨ (lowerD a = 972 ∧ a = 908) ∨ lowerD a = a := by
  unfold lowerD
  by_cases c1 : amongL [65, 90, 192, 214, 216, 222, 913, 929, 931, 939, 1040, 1071] a = true
  · rw [if_pos c1]; left; refine ⟨rfl, ?_⟩; simpa only [amongL, Bool.or_false, Bool.or_eq_true, inR_iff] using c1
  · rw [if_neg c1]; right
    by_cases c2 : amongL [256, 303, 306, 311, 330, 375, 1120, 1153, 1162, 1215, 1232, 1327] a = true
    · rw [if_pos c2]; left; refine ⟨rfl, ?_⟩; simpa only [amongL, Bool.or_false, Bool.or_eq_true, inR_iff] using c2
    · rw [if_neg c2]; right
      by_cases c3 : amongL [313, 328, 377, 382, 1217, 1230] a = true
      · rw [if_pos c3]; left; refine ⟨rfl, ?_⟩; simpa only [amongL, Bool.or_false, Bool.or_eq_true, inR_iff] using c3
      · rw [if_neg c3]; right
        by_cases c4 : amongL [904, 906] a = true
        · rw [if_pos c4]; left; refine ⟨rfl, ?_⟩; simpa only [amongL, Bool.or_false, Bool.or_eq_true, inR_iff] using c4
        · rw [if_neg c4]; right
          by_cases c5 : amongL [910, 911] a = true
          · rw [if_pos c5]; left; refine ⟨rfl, ?_⟩; simpa only [amongL, Bool.or_false, Bool.or_eq_true, inR_iff] using c5
          · rw [if_neg c5]; right
            by_cases c6 : amongL [1024, 1039] a = true
            · rw [if_pos c6]; left; refine ⟨rfl, ?_⟩; simpa only [amongL, Bool.or_false, Bool.or_eq_true, inR_iff] using c6
            · rw [if_neg c6]; right
              by_cases d1 : a = 376
              · rw [if_pos d1]; exact .inl ⟨rfl, d1⟩
              · rw [if_neg d1]; right
                by_cases d2 : a = 1216
                · rw [if_pos d2]; exact .inl ⟨rfl, d2⟩
                · rw [if_neg d2]; right
                  by_cases d3 : a = 902
                  · rw [if_pos d3]; exact .inl ⟨rfl, d3⟩
                  · rw [if_neg d3]; right
                    by_cases d4 : a = 908
                    · rw [if_pos d4]; exact .inl ⟨rfl, d4⟩
                    · rw [if_neg d4]; exact .inr rfl

theorem lowerD_range (a : Int) : lowerD a = a ∨ (0 ≤ a ∧ a ≤ 127 ∧ 0 ≤ lowerD a ∧ lowerD a ≤ 127) ∨ (128 ≤ a ∧ a ≤ 2047 ∧ 128 ≤ lowerD a ∧ lowerD a ≤ 2047) := by
  have := lowerD_cases a
  omega

theorem lowerD_len (a : Int) : (Lib.encodeRuneZ (lowerD a)).length = (Lib.encodeRuneZ a).length := by
  rcases lowerD_range a with h | ⟨h1, h2, h3, h4⟩ | ⟨h1, h2, h3, h4⟩
  · rw [h]
  · rw [Lib.encodeRuneZ_one h1 h2, Lib.encodeRuneZ_one h3 h4]; rfl
  · rw [Lib.encodeRuneZ_two h1 h2, Lib.encodeRuneZ_two h3 h4]; rfl

theorem lowerD_i32 (a : Int) (h0 : -2147483648 ≤ a) (h1 : a ≤ 2147483647) : -2147483648 ≤ lowerD a ∧ lowerD a ≤ 2147483647 := by
  have := lowerD_range a
  omega

set_option maxHeartbeats 4000000 in
theorem lowerD_lowerD (a : Int) : lowerD (lowerD a) = lowerD a := by
  rcases lowerD_cases a with ⟨e, h⟩ | ⟨e, h⟩ | ⟨e, h⟩ | ⟨e, h⟩ | ⟨e, h⟩ | ⟨e, h⟩ | ⟨e, h⟩ | ⟨e, h⟩ | ⟨e, h⟩ | ⟨e, h⟩ | e
  · rw [e]
    rcases h with h | h | h | h | h | h <;> (unfold lowerD; simp (disch := omega) only [inR_t, inR_f1, inR_f2, amongL, Bool.or_false, Bool.or_true, Bool.true_or, Bool.false_or, if_true, if_false, Bool.false_eq_true, reduceIte]) <;> (repeat' split) <;> omega
  · rw [e]
    rcases h with h | h | h | h | h | h <;> (unfold lowerD; simp (disch := omega) only [inR_t, inR_f1, inR_f2, amongL, Bool.or_false, Bool.or_true, Bool.true_or, Bool.false_or, if_true, if_false, Bool.false_eq_true, reduceIte]) <;> (repeat' split) <;> omega
  · rw [e]
    rcases h with h | h | h <;> (unfold lowerD; simp (disch := omega) only [inR_t, inR_f1, inR_f2, amongL, Bool.or_false, Bool.or_true, Bool.true_or, Bool.false_or, if_true, if_false, Bool.false_eq_true, reduceIte]) <;> (repeat' split) <;> omega
  · rw [e]
    (unfold lowerD; simp (disch := omega) only [inR_t, inR_f1, inR_f2, amongL, Bool.or_false, Bool.or_true, Bool.true_or, Bool.false_or, if_true, if_false, Bool.false_eq_true, reduceIte]) <;> (repeat' split) <;> omega
  · rw [e]
    (unfold lowerD; simp (disch := omega) only [inR_t, inR_f1, inR_f2, amongL, Bool.or_false, Bool.or_true, Bool.true_or, Bool.false_or, if_true, if_false, Bool.false_eq_true, reduceIte]) <;> (repeat' split) <;> omega
  · rw [e]
    (unfold lowerD; simp (disch := omega) only [inR_t, inR_f1, inR_f2, amongL, Bool.or_false, Bool.or_true, Bool.true_or, Bool.false_or, if_true, if_false, Bool.false_eq_true, reduceIte]) <;> (repeat' split) <;> omega
  · rw [e]; decide
  · rw [e]; decide
  · rw [e]; decide
  · rw [e]; decide
  · rw [e, e]

set_option maxHeartbeats 4000000 in
theorem lowerD_letter (a : Int) : lowerD a = a ∨ (letterD a = true ∧ letterD (lowerD a) = true ∧ digitD a = false ∧ digitD (lowerD a) = false ∧ markD a = false ∧ markD (lowerD a) = false) := by
  rcases lowerD_cases a with ⟨e, h⟩ | ⟨e, h⟩ | ⟨e, h⟩ | ⟨e, h⟩ | ⟨e, h⟩ | ⟨e, h⟩ | ⟨e, h⟩ | ⟨e, h⟩ | ⟨e, h⟩ | ⟨e, h⟩ | e
  · right; rw [e]
    rcases h with h | h | h | h | h | h <;> (unfold letterD digitD markD; simp (disch := omega) only [inR_t, inR_f1, inR_f2, amongL, Bool.or_false, Bool.or_true, Bool.true_or, Bool.false_or, and_self])
  · by_cases c : a % 2 = 1
    · left; omega
    right
    rcases h with h | h | h | h | h | h <;> (rw [show lowerD a = a + 1 by omega]; unfold letterD digitD markD; simp (disch := omega) only [inR_t, inR_f1, inR_f2, amongL, Bool.or_false, Bool.or_true, Bool.true_or, Bool.false_or, and_self])
  · by_cases c : a % 2 = 0
    · left; omega
    right
    rcases h with h | h | h <;> (rw [show lowerD a = a + 1 by omega]; unfold letterD digitD markD; simp (disch := omega) only [inR_t, inR_f1, inR_f2, amongL, Bool.or_false, Bool.or_true, Bool.true_or, Bool.false_or, and_self])
  · right; rw [e]
    (unfold letterD digitD markD; simp (disch := omega) only [inR_t, inR_f1, inR_f2, amongL, Bool.or_false, Bool.or_true, Bool.true_or, Bool.false_or, and_self])
  · right; rw [e]
    (unfold letterD digitD markD; simp (disch := omega) only [inR_t, inR_f1, inR_f2, amongL, Bool.or_false, Bool.or_true, Bool.true_or, Bool.false_or, and_self])
  · right; rw [e]
    (unfold letterD digitD markD; simp (disch := omega) only [inR_t, inR_f1, inR_f2, amongL, Bool.or_false, Bool.or_true, Bool.true_or, Bool.false_or, and_self])
  · right; rw [e, h]; decide
  · right; rw [e, h]; decide
  · right; rw [e, h]; decide
  · right; rw [e, h]; decide
  · left; exact e

end Go.Proofs.FoldPlain

set_option linter.unusedSimpArgs false
set_option linter.unusedVariables false
namespace Go.Proofs.FoldText
open Go Go.Lib Go.Proofs.FoldPlain

/-- The rune at the head of a text, and its width. -/
abbrev dec (l : List UInt8) : Nat × Nat := decodeL l

set_option maxRecDepth 100000 in
theorem decodeN_shape' (n b0 b1 b2 b3 : Nat) :
    (b0 < 128 ∧ decodeN n b0 b1 b2 b3 = (b0, 1)) ∨
    (b0 / 32 = 6 ∧ 1 < n ∧ b1 / 64 = 2 ∧ 128 ≤ b0 % 32 * 64 + b1 % 64 ∧ decodeN n b0 b1 b2 b3 = (b0 % 32 * 64 + b1 % 64, 2)) ∨
    (b0 / 16 = 14 ∧ 2 < n ∧ b1 / 64 = 2 ∧ b2 / 64 = 2 ∧ 2048 ≤ b0 % 16 * 4096 + b1 % 64 * 64 + b2 % 64 ∧ (b0 % 16 * 4096 + b1 % 64 * 64 + b2 % 64 < 55296 ∨ 57344 ≤ b0 % 16 * 4096 + b1 % 64 * 64 + b2 % 64) ∧ decodeN n b0 b1 b2 b3 = (b0 % 16 * 4096 + b1 % 64 * 64 + b2 % 64, 3)) ∨
    (b0 / 8 = 30 ∧ 3 < n ∧ b1 / 64 = 2 ∧ b2 / 64 = 2 ∧ b3 / 64 = 2 ∧ 65536 ≤ b0 % 8 * 262144 + b1 % 64 * 4096 + b2 % 64 * 64 + b3 % 64 ∧ b0 % 8 * 262144 + b1 % 64 * 4096 + b2 % 64 * 64 + b3 % 64 ≤ 1114111 ∧ decodeN n b0 b1 b2 b3 = (b0 % 8 * 262144 + b1 % 64 * 4096 + b2 % 64 * 64 + b3 % 64, 4)) ∨
    decodeN n b0 b1 b2 b3 = (65533, 1) := by
  unfold decodeN
  repeat' split
  all_goals first
    | exact .inr (.inr (.inr (.inr rfl)))
    | exact .inl ⟨by omega, rfl⟩
    | exact .inr (.inl ⟨by omega, by omega, by omega, by omega, rfl⟩)
    | exact .inr (.inr (.inl ⟨by omega, by omega, by omega, by omega, by omega, by omega, rfl⟩))
    | exact .inr (.inr (.inr (.inl ⟨by omega, by omega, by omega, by omega, by omega, by omega, by omega, rfl⟩)))

theorem dec_ge1 (l : List UInt8) : 1 ≤ (dec l).2 := by
  unfold dec; rw [decodeL_N]; exact decodeN_ge1 _ _ _ _ _
theorem dec_le4 (l : List UInt8) : (dec l).2 ≤ 4 := by
  unfold dec; rw [decodeL_N]
  rcases decodeN_shape' l.length (l.getD 0 0).toNat (l.getD 1 0).toNat (l.getD 2 0).toNat (l.getD 3 0).toNat with ⟨_, e⟩ | ⟨_, _, _, _, e⟩ | ⟨_, _, _, _, _, _, e⟩ | ⟨_, _, _, _, _, _, _, e⟩ | e <;> rw [e] <;> simp
theorem dec_le (l : List UInt8) (h : l ≠ []) : (dec l).2 ≤ l.length := decodeL_le l h
theorem dec_rune (l : List UInt8) : (dec l).1 < 55296 ∨ (57343 < (dec l).1 ∧ (dec l).1 ≤ 1114111) := by
  unfold dec; rw [decodeL_N]
  have k0 := (l.getD 0 0).toNat_lt
  have k1 := (l.getD 1 0).toNat_lt
  rcases decodeN_shape' l.length (l.getD 0 0).toNat (l.getD 1 0).toNat (l.getD 2 0).toNat (l.getD 3 0).toNat with ⟨_, e⟩ | ⟨_, _, _, _, e⟩ | ⟨_, _, _, _, _, _, e⟩ | ⟨_, _, _, _, _, _, _, e⟩ | e <;> rw [e] <;> dsimp only <;> omega
theorem dec_form (l : List UInt8) (h : l ≠ []) (hv : ¬ ((dec l).1 = 65533 ∧ (dec l).2 = 1)) : encodeRune ((dec l).1 : Int) = l.take (dec l).2 := encode_decode l h hv

/-- The runes of a text from a place on: each with its place. -/
def cuts (l : List UInt8) : Nat → Nat → List (Nat × Nat)
  | 0, _ => []
  | f + 1, p => if p < l.length then (p, (dec (l.drop p)).1) :: cuts l f (p + (dec (l.drop p)).2) else []

theorem drop_ne {l : List UInt8} {p : Nat} (h : p < l.length) : l.drop p ≠ [] := by
  intro e; have := congrArg List.length e; simp at this; omega
theorem dec_in {l : List UInt8} {p : Nat} (h : p < l.length) : p + (dec (l.drop p)).2 ≤ l.length := by
  have := dec_le _ (drop_ne h); simp at this; omega

theorem cuts_more (l : List UInt8) : ∀ (f g p : Nat), l.length ≤ p + f → l.length ≤ p + g → cuts l f p = cuts l g p
  | 0, 0, p, _, _ => rfl
  | 0, g + 1, p, hf, _ => by rw [cuts, cuts, if_neg (by omega)]
  | f + 1, 0, p, _, hg => by rw [cuts, cuts, if_neg (by omega)]
  | f + 1, g + 1, p, hf, hg => by
    rw [cuts, cuts]
    split
    · have := dec_ge1 (l.drop p)
      rw [cuts_more l f g _ (by omega) (by omega)]
    · rfl

/-- The runes of a text from a place on. -/
def runesAt (l : List UInt8) (p : Nat) : List (Nat × Nat) := cuts l l.length p
abbrev runes (l : List UInt8) : List (Nat × Nat) := runesAt l 0
theorem runesAt_step (l : List UInt8) (p : Nat) (h : p < l.length) : runesAt l p = (p, (dec (l.drop p)).1) :: runesAt l (p + (dec (l.drop p)).2) := by
  have := dec_ge1 (l.drop p)
  have e : runesAt l p = cuts l (l.length + 1) p := cuts_more l _ _ p (by omega) (by omega)
  rw [e, cuts, if_pos h]; rfl
theorem runesAt_end (l : List UInt8) (p : Nat) (h : l.length ≤ p) : runesAt l p = [] := by
  have e : runesAt l p = cuts l 0 p := cuts_more l _ _ p (by omega) (by omega)
  rw [e]; rfl
theorem runesAt_length (l : List UInt8) : ∀ (d p : Nat), l.length ≤ p + d → (runesAt l p).length ≤ d
  | 0, p, h => by rw [runesAt_end l p (by omega)]; simp
  | d + 1, p, h => by
    by_cases hp : p < l.length
    · rw [runesAt_step l p hp]
      have := dec_ge1 (l.drop p)
      have := runesAt_length l d (p + (dec (l.drop p)).2) (by omega)
      simp; omega
    · rw [runesAt_end l p (by omega)]; simp
theorem runes_length (l : List UInt8) : (runes l).length ≤ l.length := runesAt_length l l.length 0 (by omega)

/-- What an iteration has handed over, and what it has still to: places. -/
theorem runes_split_at (l : List UInt8) : ∀ (pre : List (Nat × Nat)) (q p : Nat) (x : Nat × Nat) (rest : List (Nat × Nat)), runesAt l q = pre ++ x :: rest → q ≤ l.length →
    x.1 < l.length ∧ x.2 = (dec (l.drop x.1)).1 ∧ runesAt l x.1 = x :: rest ∧ rest = runesAt l (x.1 + (dec (l.drop x.1)).2) ∧ (pre = [] → x.1 = q)
  | [], q, p, x, rest, h, hq => by
    by_cases hp : q < l.length
    · have h' := h
      rw [runesAt_step l q hp] at h'
      simp only [List.nil_append, List.cons.injEq] at h'
      obtain ⟨rfl, rfl⟩ := h'
      exact ⟨hp, rfl, h, rfl, fun _ => rfl⟩
    · rw [runesAt_end l q (by omega)] at h; simp at h
  | y :: pre, q, p, x, rest, h, hq => by
    by_cases hp : q < l.length
    · rw [runesAt_step l q hp] at h
      simp only [List.cons_append, List.cons.injEq] at h
      obtain ⟨_, h⟩ := h
      obtain ⟨a, b, c, d, _⟩ := runes_split_at l pre _ 0 x rest h (dec_in hp)
      exact ⟨a, b, c, d, fun e => by simp at e⟩
    · rw [runesAt_end l q (by omega)] at h; simp at h
theorem runes_split {l : List UInt8} {pre : List (Nat × Nat)} {x : Nat × Nat} {rest : List (Nat × Nat)} (h : runes l = pre ++ x :: rest) :
    x.1 < l.length ∧ x.2 = (dec (l.drop x.1)).1 ∧ rest = runesAt l (x.1 + (dec (l.drop x.1)).2) := by
  obtain ⟨a, b, _, d, _⟩ := runes_split_at l pre 0 0 x rest h (Nat.zero_le _)
  exact ⟨a, b, d⟩

/-- The rune at a place of a text, and its width; beside the text: nothing. -/
def nextD (l : List UInt8) (p : Int) : Int × Int :=
  if p < 0 ∨ (l.length : Int) ≤ p then (0, 0) else (((dec (l.drop p.toNat)).1 : Int), ((dec (l.drop p.toNat)).2 : Int))
theorem nextD_in (l : List UInt8) (p : Nat) (h : p < l.length) : nextD l (p : Int) = (((dec (l.drop p)).1 : Int), ((dec (l.drop p)).2 : Int)) := by
  unfold nextD; rw [if_neg (by omega)]; simp
theorem nextD_out (l : List UInt8) (p : Int) (h : p < 0 ∨ (l.length : Int) ≤ p) : nextD l p = (0, 0) := by unfold nextD; rw [if_pos h]

/-- Is there no odd byte from a place on? -/
def odd (l : List UInt8) (p : Nat) : Prop := (dec (l.drop p)).1 = 65533 ∧ (dec (l.drop p)).2 = 1
instance (l : List UInt8) (p : Nat) : Decidable (odd l p) := inferInstanceAs (Decidable (_ ∧ _))
theorem validGoD_more : ∀ (f g : Nat) (l : List UInt8), l.length ≤ f → l.length ≤ g → validGoD f l = validGoD g l
  | 0, 0, l, _, _ => rfl
  | 0, g + 1, l, hf, _ => by have : l = [] := List.length_eq_zero_iff.1 (by omega); simp [validGoD, this]
  | f + 1, 0, l, _, hg => by have : l = [] := List.length_eq_zero_iff.1 (by omega); simp [validGoD, this]
  | f + 1, g + 1, l, hf, hg => by
    rw [validGoD, validGoD]
    split
    · rfl
    · rename_i h
      split
      · rfl
      · have := dec_ge1 l; have h1 : 0 < l.length := List.length_pos_iff.2 h
        unfold dec at this
        exact validGoD_more f g _ (by simp; omega) (by simp; omega)
def validAt (l : List UInt8) (p : Nat) : Bool := validD (l.drop p)
theorem validAt_end (l : List UInt8) (p : Nat) (h : l.length ≤ p) : validAt l p = true := by
  unfold validAt; rw [List.drop_eq_nil_of_le h]; rfl
theorem validAt_step (l : List UInt8) (p : Nat) (h : p < l.length) : validAt l p = if odd l p then false else validAt l (p + (dec (l.drop p)).2) := by
  have hne := drop_ne h
  have h1 := dec_ge1 (l.drop p)
  unfold validAt validD
  rw [validGoD_more (l.drop p).length ((l.drop p).length + 1) _ (Nat.le_refl _) (by omega), validGoD, if_neg hne]
  by_cases ho : odd l p
  · rw [if_pos ho, if_pos (show (decodeL (l.drop p)).1 = 65533 ∧ (decodeL (l.drop p)).2 = 1 from ho)]
  · rw [if_neg ho, if_neg (show ¬ ((decodeL (l.drop p)).1 = 65533 ∧ (decodeL (l.drop p)).2 = 1) from ho), List.drop_drop]
    exact validGoD_more _ _ _ (by simp; omega) (Nat.le_refl _)

/-- A rune's piece of the folded text. -/
def piece (l : List UInt8) (p : Nat) : List UInt8 :=
  if lowerD ((dec (l.drop p)).1 : Int) = ((dec (l.drop p)).1 : Int) then (l.drop p).take (dec (l.drop p)).2 else encodeRune (lowerD ((dec (l.drop p)).1 : Int))
def foldGo (l : List UInt8) : Nat → Nat → List UInt8
  | 0, _ => []
  | f + 1, p => if p < l.length then piece l p ++ foldGo l f (p + (dec (l.drop p)).2) else []
theorem foldGo_more (l : List UInt8) : ∀ (f g p : Nat), l.length ≤ p + f → l.length ≤ p + g → foldGo l f p = foldGo l g p
  | 0, 0, p, _, _ => rfl
  | 0, g + 1, p, hf, _ => by rw [foldGo, foldGo, if_neg (by omega)]
  | f + 1, 0, p, _, hg => by rw [foldGo, foldGo, if_neg (by omega)]
  | f + 1, g + 1, p, hf, hg => by
    rw [foldGo, foldGo]
    split
    · have := dec_ge1 (l.drop p)
      rw [foldGo_more l f g _ (by omega) (by omega)]
    · rfl
def foldAt (l : List UInt8) (p : Nat) : List UInt8 := foldGo l l.length p
/-- The folded text. -/
abbrev foldD (l : List UInt8) : List UInt8 := foldAt l 0
theorem foldAt_step (l : List UInt8) (p : Nat) (h : p < l.length) : foldAt l p = piece l p ++ foldAt l (p + (dec (l.drop p)).2) := by
  have := dec_ge1 (l.drop p)
  have e : foldAt l p = foldGo l (l.length + 1) p := foldGo_more l _ _ p (by omega) (by omega)
  rw [e, foldGo, if_pos h]; rfl
theorem foldAt_end (l : List UInt8) (p : Nat) (h : l.length ≤ p) : foldAt l p = [] := by
  have e : foldAt l p = foldGo l 0 p := foldGo_more l _ _ p (by omega) (by omega)
  rw [e]; rfl
theorem piece_length (l : List UInt8) (p : Nat) (h : p < l.length) : (piece l p).length = (dec (l.drop p)).2 := by
  unfold piece
  have hin := dec_le _ (drop_ne h)
  split
  · rw [List.length_take]; omega
  · rename_i hr
    have hv : ¬ ((dec (l.drop p)).1 = 65533 ∧ (dec (l.drop p)).2 = 1) := by
      rintro ⟨e, _⟩
      apply hr; rw [e]; decide
    have e := congrArg List.length (dec_form _ (drop_ne h) hv)
    rw [List.length_take, Nat.min_eq_left hin] at e
    rw [← e]
    simp only [encodeRune, List.length_map]
    exact lowerD_len _
theorem foldAt_length (l : List UInt8) : ∀ (d p : Nat), l.length - p = d → p ≤ l.length → (foldAt l p).length = d := by
  intro d
  induction d using Nat.strongRecOn with
  | _ d ih =>
    intro p hd hp
    by_cases h : p < l.length
    · have h1 := dec_ge1 (l.drop p)
      have h2 := dec_in h
      rw [foldAt_step l p h, List.length_append, piece_length l p h, ih (l.length - (p + (dec (l.drop p)).2)) (by omega) _ rfl h2]
      omega
    · rw [foldAt_end l p (by omega)]; simp; omega
theorem foldD_length (l : List UInt8) : (foldD l).length = l.length := foldAt_length l _ 0 (by omega) (by omega)

end Go.Proofs.FoldText

set_option linter.unusedSimpArgs false
set_option linter.unusedVariables false
namespace Go.Proofs.FoldText
open Go Go.Lib Go.Proofs.FoldPlain

def isCont (b : UInt8) : Bool := b.toNat / 64 == 2

/-- The decoder by the lead byte and the row of continuation bytes behind it. -/
def decT (b0 : Nat) (T : List UInt8) : Nat × Nat :=
  let b1 := (T.getD 0 0).toNat
  let b2 := (T.getD 1 0).toNat
  let b3 := (T.getD 2 0).toNat
  if b0 < 128 then (b0, 1)
  else if b0 / 32 = 6 ∧ 1 ≤ T.length then (if b0 % 32 * 64 + b1 % 64 ≥ 128 then (b0 % 32 * 64 + b1 % 64, 2) else (65533, 1))
  else if b0 / 16 = 14 ∧ 2 ≤ T.length then
    (if b0 % 16 * 4096 + b1 % 64 * 64 + b2 % 64 ≥ 2048 ∧ (b0 % 16 * 4096 + b1 % 64 * 64 + b2 % 64 < 55296 ∨ (57344 ≤ b0 % 16 * 4096 + b1 % 64 * 64 + b2 % 64 ∧ b0 % 16 * 4096 + b1 % 64 * 64 + b2 % 64 ≤ 1114111))
     then (b0 % 16 * 4096 + b1 % 64 * 64 + b2 % 64, 3) else (65533, 1))
  else if b0 / 8 = 30 ∧ 3 ≤ T.length then
    (if b0 % 8 * 262144 + b1 % 64 * 4096 + b2 % 64 * 64 + b3 % 64 ≥ 65536 ∧ (b0 % 8 * 262144 + b1 % 64 * 4096 + b2 % 64 * 64 + b3 % 64 < 55296 ∨ (57344 ≤ b0 % 8 * 262144 + b1 % 64 * 4096 + b2 % 64 * 64 + b3 % 64 ∧ b0 % 8 * 262144 + b1 % 64 * 4096 + b2 % 64 * 64 + b3 % 64 ≤ 1114111))
     then (b0 % 8 * 262144 + b1 % 64 * 4096 + b2 % 64 * 64 + b3 % 64, 4) else (65533, 1))
  else (65533, 1)

set_option maxRecDepth 100000 in
set_option maxHeartbeats 2000000 in
theorem dec_T (b : UInt8) (u : List UInt8) : dec (b :: u) = decT b.toNat (u.takeWhile isCont) := by
  unfold dec
  rw [decodeL_N]
  have e0 : (b :: u).getD 0 0 = b := rfl
  have e1 : (b :: u).getD 1 0 = u.getD 0 0 := rfl
  have e2 : (b :: u).getD 2 0 = u.getD 1 0 := rfl
  have e3 : (b :: u).getD 3 0 = u.getD 2 0 := rfl
  rw [e0, e1, e2, e3]
  unfold decodeN decT
  match u with
  | [] => simp
  | x :: u =>
    by_cases cx : isCont x = true
    · have hx : x.toNat / 64 = 2 := by simpa [isCont] using cx
      match u with
      | [] => simp [List.takeWhile_cons, cx, hx]
      | y :: u =>
        by_cases cy : isCont y = true
        · have hy : y.toNat / 64 = 2 := by simpa [isCont] using cy
          match u with
          | [] => simp [List.takeWhile_cons, cx, cy, hx, hy]
          | z :: u =>
            by_cases cz : isCont z = true
            · have hz : z.toNat / 64 = 2 := by simpa [isCont] using cz
              simp [List.takeWhile_cons, cx, cy, cz, hx, hy, hz]
            · have hz : ¬ z.toNat / 64 = 2 := by simpa [isCont] using cz
              simp [List.takeWhile_cons, cx, cy, cz, hx, hy, hz]
        · have hy : ¬ y.toNat / 64 = 2 := by simpa [isCont] using cy
          simp [List.takeWhile_cons, cx, cy, hx, hy]
    · have hx : ¬ x.toNat / 64 = 2 := by simpa [isCont] using cx
      simp [List.takeWhile_cons, cx, hx]

theorem dec_sim (b : UInt8) (u v : List UInt8) (h : u.takeWhile isCont = v.takeWhile isCont) : dec (b :: u) = dec (b :: v) := by rw [dec_T, dec_T, h]
theorem dec_cont (b : UInt8) (u : List UInt8) (h : isCont b = true) : dec (b :: u) = (65533, 1) := by
  have hb : b.toNat / 64 = 2 := by simpa [isCont] using h
  unfold dec; rw [decodeL_N]; exact decodeN_cont _ _ _ _ _ hb

/-- A valid rune. -/
def okRune (r : Nat) : Prop := r < 55296 ∨ (57343 < r ∧ r ≤ 1114111)
theorem toNat_u8 (n : Nat) (h : n < 256) : (n.toUInt8).toNat = n := by simp; omega

set_option maxRecDepth 100000 in
set_option maxHeartbeats 2000000 in
/-- A rune's form, whatever stands behind it, is read as that rune. -/
theorem dec_enc (r : Nat) (h : okRune r) (t : List UInt8) : dec (encodeRune (r : Int) ++ t) = (r, (encodeRune (r : Int)).length) := by
  unfold okRune at h
  unfold encodeRune dec
  by_cases c1 : r ≤ 127
  · rw [encodeRuneZ_one (by omega) (by omega)]
    simp only [List.map_cons, List.map_nil, List.cons_append, List.nil_append, List.length_cons, List.length_nil]
    rw [decodeL_N]
    simp only [List.getD_cons_zero, List.length_cons]
    rw [show ((r : Int)).toNat.toUInt8.toNat = r by simp; omega, decodeN_ascii _ _ _ _ _ (by omega)]
  · by_cases c2 : r ≤ 2047
    · rw [encodeRuneZ_two (by omega) (by omega)]
      simp only [List.map_cons, List.map_nil, List.cons_append, List.nil_append, List.length_cons, List.length_nil]
      rw [decodeL_N]
      simp only [List.getD_cons_zero, List.getD_cons_succ, List.length_cons]
      have e0 : (192 + (r : Int) / 64).toNat.toUInt8.toNat = 192 + r / 64 := by rw [show (192 + (r : Int) / 64).toNat = 192 + r / 64 by omega]; exact toNat_u8 _ (by omega)
      have e1 : (128 + (r : Int) % 64).toNat.toUInt8.toNat = 128 + r % 64 := by rw [show (128 + (r : Int) % 64).toNat = 128 + r % 64 by omega]; exact toNat_u8 _ (by omega)
      rw [e0, e1]
      unfold decodeN
      rw [if_neg (by omega), if_pos ⟨by omega, by omega, by omega⟩, if_pos (by omega)]
      congr 1; omega
    · by_cases c3 : r ≤ 65535
      · rw [encodeRuneZ_three (by omega)]
        simp only [List.map_cons, List.map_nil, List.cons_append, List.nil_append, List.length_cons, List.length_nil]
        rw [decodeL_N]
        simp only [List.getD_cons_zero, List.getD_cons_succ, List.length_cons]
        have e0 : (224 + (r : Int) / 4096).toNat.toUInt8.toNat = 224 + r / 4096 := by rw [show (224 + (r : Int) / 4096).toNat = 224 + r / 4096 by omega]; exact toNat_u8 _ (by omega)
        have e1 : (128 + (r : Int) / 64 % 64).toNat.toUInt8.toNat = 128 + r / 64 % 64 := by rw [show (128 + (r : Int) / 64 % 64).toNat = 128 + r / 64 % 64 by omega]; exact toNat_u8 _ (by omega)
        have e2 : (128 + (r : Int) % 64).toNat.toUInt8.toNat = 128 + r % 64 := by rw [show (128 + (r : Int) % 64).toNat = 128 + r % 64 by omega]; exact toNat_u8 _ (by omega)
        rw [e0, e1, e2]
        unfold decodeN
        rw [if_neg (by omega), if_neg (by omega), if_pos ⟨by omega, ⟨by omega, by omega⟩, by omega, by omega⟩, if_pos ⟨by omega, by omega⟩]
        congr 1; omega
      · rw [encodeRuneZ_four (by omega) (by omega)]
        simp only [List.map_cons, List.map_nil, List.cons_append, List.nil_append, List.length_cons, List.length_nil]
        rw [decodeL_N]
        simp only [List.getD_cons_zero, List.getD_cons_succ, List.length_cons]
        have e0 : (240 + (r : Int) / 262144).toNat.toUInt8.toNat = 240 + r / 262144 := by rw [show (240 + (r : Int) / 262144).toNat = 240 + r / 262144 by omega]; exact toNat_u8 _ (by omega)
        have e1 : (128 + (r : Int) / 4096 % 64).toNat.toUInt8.toNat = 128 + r / 4096 % 64 := by rw [show (128 + (r : Int) / 4096 % 64).toNat = 128 + r / 4096 % 64 by omega]; exact toNat_u8 _ (by omega)
        have e2 : (128 + (r : Int) / 64 % 64).toNat.toUInt8.toNat = 128 + r / 64 % 64 := by rw [show (128 + (r : Int) / 64 % 64).toNat = 128 + r / 64 % 64 by omega]; exact toNat_u8 _ (by omega)
        have e3 : (128 + (r : Int) % 64).toNat.toUInt8.toNat = 128 + r % 64 := by rw [show (128 + (r : Int) % 64).toNat = 128 + r % 64 by omega]; exact toNat_u8 _ (by omega)
        rw [e0, e1, e2, e3]
        unfold decodeN
        rw [if_neg (by omega), if_neg (by omega), if_neg (by omega), if_pos ⟨by omega, ⟨by omega, by omega⟩, ⟨by omega, by omega⟩, by omega, by omega⟩, if_pos ⟨by omega, by omega⟩]
        congr 1; omega

theorem dec_ok (l : List UInt8) : okRune (dec l).1 := dec_rune l
theorem enc_pos (r : Int) : 1 ≤ (encodeRune r).length := by unfold encodeRune; rw [List.length_map]; exact (encodeRuneZ_length r).1
theorem enc_three : (encodeRune 65533).length = 3 := by decide

/-- Is the head of a text odd? -/
def oddH (l : List UInt8) : Prop := (dec l).1 = 65533 ∧ (dec l).2 = 1
instance (l : List UInt8) : Decidable (oddH l) := inferInstanceAs (Decidable (_ ∧ _))
theorem enc_not_odd (r : Nat) (h : okRune r) (t : List UInt8) : ¬ oddH (encodeRune (r : Int) ++ t) := by
  unfold oddH; rw [dec_enc r h t]
  rintro ⟨a, b⟩
  dsimp only at a b
  subst a
  rw [show ((65533 : Nat) : Int) = 65533 from rfl, enc_three] at b
  omega

/-! folding by what is left of the text -/
theorem piece_drop (l : List UInt8) (p : Nat) : piece (l.drop p) 0 = piece l p := by unfold piece; rw [List.drop_zero]
theorem foldAt_drop : ∀ (d : Nat) (l : List UInt8) (p : Nat), l.length - p ≤ d → foldAt l p = foldAt (l.drop p) 0 := by
  intro d
  induction d with
  | zero => intro l p h; rw [foldAt_end l p (by omega), foldAt_end (l.drop p) 0 (by simp; omega)]
  | succ d ih =>
    intro l p h
    by_cases hp : p < l.length
    · have g1 := dec_ge1 (l.drop p)
      have g2 := dec_in hp
      have e := ih (l.drop p) (dec (l.drop p)).2 (by rw [List.length_drop]; omega)
      rw [List.drop_drop] at e
      rw [foldAt_step l p hp, foldAt_step (l.drop p) 0 (by rw [List.length_drop]; omega), piece_drop, List.drop_zero, Nat.zero_add, ih l _ (by omega), e]
    · rw [foldAt_end l p (by omega), foldAt_end (l.drop p) 0 (by rw [List.length_drop]; omega)]
theorem foldD_step (l : List UInt8) (h : l ≠ []) : foldD l = piece l 0 ++ foldD (l.drop (dec l).2) := by
  have hl : 0 < l.length := List.length_pos_iff.2 h
  show foldAt l 0 = _
  rw [foldAt_step l 0 hl, List.drop_zero, Nat.zero_add, foldAt_drop _ l _ (Nat.le_refl _)]
theorem foldD_nil : foldD [] = [] := rfl
theorem validD_step (l : List UInt8) (h : l ≠ []) : Lib.validD l = if oddH l then false else Lib.validD (l.drop (dec l).2) := by
  have hl : 0 < l.length := List.length_pos_iff.2 h
  have hs := validAt_step l 0 hl
  by_cases ho : oddH l
  · have ho' : odd l 0 := ho
    rw [if_pos ho'] at hs
    rw [if_pos ho]; exact hs
  · have ho' : ¬ odd l 0 := ho
    rw [if_neg ho', Nat.zero_add] at hs
    rw [if_neg ho]; exact hs
/-- The piece of an odd byte, and of a rune. -/
theorem piece_odd (b : UInt8) (t : List UInt8) (h : oddH (b :: t)) : piece (b :: t) 0 = [b] := by
  unfold piece
  rw [List.drop_zero, h.1, h.2]
  rw [if_pos (by decide)]
  rfl
theorem piece_ok (l : List UInt8) (h : l ≠ []) (ho : ¬ oddH l) : piece l 0 = encodeRune (lowerD ((dec l).1 : Int)) := by
  unfold piece
  rw [List.drop_zero]
  by_cases hl : lowerD ((dec l).1 : Int) = ((dec l).1 : Int)
  · rw [if_pos hl, hl, dec_form l h ho]
  · rw [if_neg hl]
/-- The lowered rune, as a number. -/
theorem lower_nat (r : Nat) (h : okRune r) : ∃ r' : Nat, (r' : Int) = lowerD (r : Int) ∧ okRune r' ∧ lowerD (r' : Int) = (r' : Int) := by
  have hr := lowerD_range (r : Int)
  refine ⟨(lowerD (r : Int)).toNat, by omega, ?_, ?_⟩
  · unfold okRune at h ⊢; omega
  · rw [show (((lowerD (r : Int)).toNat : Nat) : Int) = lowerD (r : Int) by omega]; exact lowerD_lowerD _
theorem enc_head_not_cont (r : Nat) (h : okRune r) : ∃ b u, encodeRune (r : Int) = b :: u ∧ isCont b = false := by
  unfold okRune at h
  unfold encodeRune
  by_cases c1 : r ≤ 127
  · rw [encodeRuneZ_one (by omega) (by omega)]
    refine ⟨_, _, rfl, ?_⟩
    have : ((r : Int)).toNat.toUInt8.toNat = r := by simp; omega
    unfold isCont; rw [this]; simp; omega
  · by_cases c2 : r ≤ 2047
    · rw [encodeRuneZ_two (by omega) (by omega)]
      refine ⟨_, _, rfl, ?_⟩
      have e0 : (192 + (r : Int) / 64).toNat.toUInt8.toNat = 192 + r / 64 := by rw [show (192 + (r : Int) / 64).toNat = 192 + r / 64 by omega]; exact toNat_u8 _ (by omega)
      unfold isCont; rw [e0]; simp; omega
    · by_cases c3 : r ≤ 65535
      · rw [encodeRuneZ_three (by omega)]
        refine ⟨_, _, rfl, ?_⟩
        have e0 : (224 + (r : Int) / 4096).toNat.toUInt8.toNat = 224 + r / 4096 := by rw [show (224 + (r : Int) / 4096).toNat = 224 + r / 4096 by omega]; exact toNat_u8 _ (by omega)
        unfold isCont; rw [e0]; simp; omega
      · rw [encodeRuneZ_four (by omega) (by omega)]
        refine ⟨_, _, rfl, ?_⟩
        have e0 : (240 + (r : Int) / 262144).toNat.toUInt8.toNat = 240 + r / 262144 := by rw [show (240 + (r : Int) / 262144).toNat = 240 + r / 262144 by omega]; exact toNat_u8 _ (by omega)
        unfold isCont; rw [e0]; simp; omega

theorem odd_cont (b : UInt8) (u : List UInt8) (h : isCont b = true) : oddH (b :: u) := by unfold oddH; rw [dec_cont b u h]; exact ⟨rfl, rfl⟩
theorem odd_drop (l : List UInt8) (h : oddH l) : l.drop (dec l).2 = l.tail := by rw [h.2]; cases l <;> rfl

/-- Folding keeps the row of continuation bytes at a text's head. -/
theorem fold_conts : ∀ (l : List UInt8), (foldD l).takeWhile isCont = l.takeWhile isCont
  | [] => rfl
  | b :: u => by
    by_cases hb : isCont b = true
    · have ho := odd_cont b u hb
      rw [foldD_step _ (by simp), piece_odd b u ho, odd_drop _ ho, List.tail_cons, List.cons_append, List.nil_append, List.takeWhile_cons, List.takeWhile_cons, if_pos hb, if_pos hb, fold_conts u]
    · have hb' : isCont b = false := by simpa using hb
      rw [List.takeWhile_cons, if_neg hb, foldD_step _ (by simp)]
      by_cases ho : oddH (b :: u)
      · rw [piece_odd b u ho, List.cons_append, List.takeWhile_cons, if_neg hb]
      · rw [piece_ok _ (by simp) ho]
        obtain ⟨r', e, hok, _⟩ := lower_nat _ (dec_ok (b :: u))
        rw [← e]
        obtain ⟨c, v, hv, hc⟩ := enc_head_not_cont r' hok
        rw [hv, List.cons_append, List.takeWhile_cons, if_neg (by simp [hc])]

theorem fold_odd (b : UInt8) (u : List UInt8) (h : oddH (b :: u)) : oddH (b :: foldD u) := by
  unfold oddH at h ⊢
  rw [dec_sim b (foldD u) u (fold_conts u)]
  exact h

/-- What is folded stays folded. -/
theorem fold_fold_at : ∀ (n : Nat) (l : List UInt8), l.length ≤ n → foldD (foldD l) = foldD l := by
  intro n
  induction n with
  | zero => intro l h; rw [List.length_eq_zero_iff.1 (by omega : l.length = 0)]; rfl
  | succ n ih =>
    intro l h
    match l with
    | [] => rfl
    | b :: u =>
      by_cases ho : oddH (b :: u)
      · have e : foldD (b :: u) = b :: foldD u := by rw [foldD_step _ (by simp), piece_odd b u ho, odd_drop _ ho]; rfl
        have ho2 := fold_odd b u ho
        rw [e, foldD_step _ (by simp), piece_odd b _ ho2, odd_drop _ ho2, List.tail_cons, ih u (by simp at h; omega)]
        rfl
      · obtain ⟨r', er, hok, hlow⟩ := lower_nat _ (dec_ok (b :: u))
        have g1 := dec_ge1 (b :: u)
        have e : foldD (b :: u) = encodeRune (r' : Int) ++ foldD ((b :: u).drop (dec (b :: u)).2) := by rw [foldD_step _ (by simp), piece_ok _ (by simp) ho, ← er]
        have hih := ih ((b :: u).drop (dec (b :: u)).2) (by rw [List.length_drop]; omega)
        have hne : encodeRune (r' : Int) ++ foldD ((b :: u).drop (dec (b :: u)).2) ≠ [] := by
          intro he; have h1 := enc_pos (r' : Int); have h2 := congrArg List.length he; rw [List.length_append, List.length_nil] at h2; omega
        rw [e, foldD_step _ hne, piece_ok _ hne (enc_not_odd r' hok _), dec_enc r' hok, hlow]
        rw [List.drop_append_of_le_length (Nat.le_refl _), List.drop_length, List.nil_append, hih]
theorem fold_fold (l : List UInt8) : foldD (foldD l) = foldD l := fold_fold_at _ l (Nat.le_refl _)

/-- Folding keeps validity. -/
theorem fold_valid_at : ∀ (n : Nat) (l : List UInt8), l.length ≤ n → Lib.validD (foldD l) = Lib.validD l := by
  intro n
  induction n with
  | zero => intro l h; rw [List.length_eq_zero_iff.1 (by omega : l.length = 0)]; rfl
  | succ n ih =>
    intro l h
    match l with
    | [] => rfl
    | b :: u =>
      by_cases ho : oddH (b :: u)
      · have e : foldD (b :: u) = b :: foldD u := by rw [foldD_step _ (by simp), piece_odd b u ho, odd_drop _ ho]; rfl
        have ho2 := fold_odd b u ho
        rw [e, validD_step _ (by simp), if_pos ho2, validD_step (b :: u) (by simp), if_pos ho]
      · obtain ⟨r', er, hok, hlow⟩ := lower_nat _ (dec_ok (b :: u))
        have g1 := dec_ge1 (b :: u)
        have e : foldD (b :: u) = encodeRune (r' : Int) ++ foldD ((b :: u).drop (dec (b :: u)).2) := by rw [foldD_step _ (by simp), piece_ok _ (by simp) ho, ← er]
        have hih := ih ((b :: u).drop (dec (b :: u)).2) (by rw [List.length_drop]; omega)
        have hne : encodeRune (r' : Int) ++ foldD ((b :: u).drop (dec (b :: u)).2) ≠ [] := by
          intro he; have h1 := enc_pos (r' : Int); have h2 := congrArg List.length he; rw [List.length_append, List.length_nil] at h2; omega
        rw [e, validD_step _ hne, if_neg (enc_not_odd r' hok _), dec_enc r' hok, validD_step (b :: u) (by simp), if_neg ho]
        rw [List.drop_append_of_le_length (Nat.le_refl _), List.drop_length, List.nil_append, hih]
theorem fold_valid (l : List UInt8) : Lib.validD (foldD l) = Lib.validD l := fold_valid_at _ l (Nat.le_refl _)

theorem tw_append : ∀ (u t : List UInt8), t.takeWhile isCont = [] → (u ++ t).takeWhile isCont = u.takeWhile isCont
  | [], t, h => by rw [List.nil_append, h]; rfl
  | x :: u, t, h => by
    rw [List.cons_append, List.takeWhile_cons, List.takeWhile_cons, tw_append u t h]
/-- Two texts together, the second not beginning within a rune of the first. -/
theorem fold_append_at : ∀ (n : Nat) (l t : List UInt8), l.length ≤ n → (Lib.validD l = true ∨ t.takeWhile isCont = []) → foldD (l ++ t) = foldD l ++ foldD t := by
  intro n
  induction n with
  | zero => intro l t h _; rw [List.length_eq_zero_iff.1 (by omega : l.length = 0)]; rfl
  | succ n ih =>
    intro l t h hp
    match l with
    | [] => rfl
    | b :: u =>
      by_cases ho : oddH (b :: u)
      · have hv : Lib.validD (b :: u) = false := by rw [validD_step _ (by simp), if_pos ho]
        have ht : t.takeWhile isCont = [] := hp.resolve_left (by rw [hv]; simp)
        have hs : (u ++ t).takeWhile isCont = u.takeWhile isCont := tw_append u t ht
        have ho2 : oddH (b :: (u ++ t)) := by unfold oddH at ho ⊢; rw [dec_sim b _ _ hs]; exact ho
        rw [List.cons_append, foldD_step (b :: (u ++ t)) (by simp), piece_odd b _ ho2, odd_drop _ ho2, List.tail_cons, ih u t (by simp at h; omega) (.inr ht), foldD_step (b :: u) (by simp), piece_odd b u ho, odd_drop _ ho, List.tail_cons, List.append_assoc]
      · have hf := dec_form (b :: u) (by simp) ho
        have g1 := dec_ge1 (b :: u)
        have g2 := dec_le (b :: u) (by simp)
        have hsplit : (b :: u) = encodeRune ((dec (b :: u)).1 : Int) ++ (b :: u).drop (dec (b :: u)).2 := by rw [hf, List.take_append_drop]
        have hlen : (encodeRune ((dec (b :: u)).1 : Int)).length = (dec (b :: u)).2 := by rw [hf, List.length_take]; omega
        have hd : dec ((b :: u) ++ t) = dec (b :: u) := by
          conv => lhs; rw [hsplit, List.append_assoc]
          rw [dec_enc _ (dec_ok _), hlen]
        have hne : (b :: u) ++ t ≠ [] := by simp
        have ho2 : ¬ oddH ((b :: u) ++ t) := by unfold oddH at ho ⊢; rw [hd]; exact ho
        have hv : Lib.validD ((b :: u).drop (dec (b :: u)).2) = true ∨ t.takeWhile isCont = [] := by
          refine hp.imp_left (fun h => ?_)
          rw [validD_step _ (by simp), if_neg ho] at h
          exact h
        rw [foldD_step _ hne, piece_ok _ hne ho2, hd, List.drop_append_of_le_length g2, ih _ t (by rw [List.length_drop]; omega) hv, foldD_step (b :: u) (by simp), piece_ok _ (by simp) ho, List.append_assoc]
theorem fold_append (l t : List UInt8) (h : Lib.validD l = true ∨ t.takeWhile isCont = []) : foldD (l ++ t) = foldD l ++ foldD t := fold_append_at _ l t (Nat.le_refl _) h

/-! texts of forms -/
def flat (rs : List Nat) : List UInt8 := rs.flatMap fun r : Nat => encodeRune (r : Int)
theorem flat_snoc (rs : List Nat) (r : Nat) : flat (rs ++ [r]) = flat rs ++ encodeRune (r : Int) := by simp [flat]
theorem flat_runes_at : ∀ (rs : List Nat) (pre : List UInt8), (∀ r ∈ rs, okRune r) → (runesAt (pre ++ flat rs) pre.length).map (·.2) = rs ∧ validAt (pre ++ flat rs) pre.length = true
  | [], pre, _ => by
    have : pre ++ flat [] = pre := by simp [flat]
    rw [this, runesAt_end _ _ (Nat.le_refl _), validAt_end _ _ (Nat.le_refl _)]
    exact ⟨rfl, rfl⟩
  | r :: rs, pre, h => by
    have hr := h r (by simp)
    have e : flat (r :: rs) = encodeRune (r : Int) ++ flat rs := by simp [flat]
    have hpos := enc_pos (r : Int)
    have hd : (pre ++ flat (r :: rs)).drop pre.length = encodeRune (r : Int) ++ flat rs := by rw [List.drop_append_of_le_length (Nat.le_refl _), List.drop_length, List.nil_append, e]
    have hlt : pre.length < (pre ++ flat (r :: rs)).length := by rw [e]; simp; omega
    have ih := flat_runes_at rs (pre ++ encodeRune (r : Int)) (fun x hx => h x (by simp [hx]))
    have e2 : pre ++ encodeRune (r : Int) ++ flat rs = pre ++ flat (r :: rs) := by rw [e, List.append_assoc]
    rw [e2, List.length_append] at ih
    have hno : ¬ odd (pre ++ flat (r :: rs)) pre.length := by
      unfold odd; rw [hd]; exact enc_not_odd r hr _
    rw [runesAt_step _ _ hlt, validAt_step _ _ hlt, if_neg hno, hd, dec_enc r hr]
    exact ⟨by simp only [List.map_cons]; rw [ih.1], ih.2⟩
theorem flat_runes (rs : List Nat) (h : ∀ r ∈ rs, okRune r) : (runes (flat rs)).map (·.2) = rs ∧ Lib.validD (flat rs) = true := by
  have := flat_runes_at rs [] h
  simpa [validAt] using this

end Go.Proofs.FoldText
