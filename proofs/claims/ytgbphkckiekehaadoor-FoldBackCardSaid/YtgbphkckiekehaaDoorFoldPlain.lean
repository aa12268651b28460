/- Ranges of runes, the lower case and the classes of the document as plain functions on integers. -/
set_option linter.unusedSimpArgs false
namespace Go.Proofs.FoldPlain

def inR (a l h : Int) : Bool := decide (l ≤ a ∧ a ≤ h)
theorem inR_t {a l h : Int} (h0 : l ≤ a) (h1 : a ≤ h) : inR a l h = true := decide_eq_true ⟨h0, h1⟩
theorem inR_f1 {a l h : Int} (h0 : a < l) : inR a l h = false := decide_eq_false (by omega)
theorem inR_f2 {a l h : Int} (h0 : h < a) : inR a l h = false := decide_eq_false (by omega)
theorem inR_one (a c : Int) : (a == c) = inR a c c := by
  unfold inR
  by_cases h : a = c
  · subst h; simp
  · have : ¬ (c ≤ a ∧ a ≤ c) := by omega
    simp [h, this]
theorem inR_iff {a l h : Int} : inR a l h = true ↔ l ≤ a ∧ a ≤ h := by unfold inR; exact decide_eq_true_iff

def amongL : List Int → Int → Bool
  | l :: h :: t, a => inR a l h || amongL t a
  | [_], _ => false
  | [], _ => false

def letterD (a : Int) : Bool := amongL [65, 90, 97, 122, 170, 170, 181, 181, 186, 186, 192, 214, 216, 246, 248, 687, 880, 883, 886, 887, 891, 893, 895, 895, 902, 902, 904, 906, 908, 908, 910, 929, 931, 1013, 1015, 1153, 1162, 1327, 1488, 1514, 1568, 1610, 2308, 2361, 12353, 12438, 12449, 12538, 19968, 40959, 44032, 55203] a
def digitD (a : Int) : Bool := amongL [48, 57, 1632, 1641, 2406, 2415, 65296, 65305] a
def markD (a : Int) : Bool := amongL [768, 879, 1155, 1161, 1425, 1469, 1611, 1631, 2364, 2364, 8400, 8432, 65056, 65071] a
def lowerD (a : Int) : Int :=
  if amongL [65, 90, 192, 214, 216, 222, 913, 929, 931, 939, 1040, 1071] a = true then a + 32
  else if amongL [256, 303, 306, 311, 330, 375, 1120, 1153, 1162, 1215, 1232, 1327] a = true then a - a % 2 + 1
  else if amongL [313, 328, 377, 382, 1217, 1230] a = true then a + a % 2
  else if amongL [904, 906] a = true then a + 37
  else if amongL [910, 911] a = true then a + 63
  else if amongL [1024, 1039] a = true then a + 80
  else if a = 376 then 255
  else if a = 1216 then 1231
  else if a = 902 then 940
  else if a = 908 then 972
  else a

/-- The lower case as the program's own chain of tests has it. -/
def lowerP (a : Int) : Int :=
  if (inR a 65 90 || (inR a 192 222 && (a != 215)) || (inR a 913 939 && (a != 930)) || inR a 1040 1071) = true then a + 32
  else if ((a == 304) || (a == 305)) = true then a
  else if (inR a 256 311 || inR a 330 375 || inR a 1120 1153 || inR a 1162 1215 || inR a 1232 1327) = true then (if a % 2 = 0 then a + 1 else a)
  else if (inR a 313 328 || inR a 377 382 || inR a 1217 1230) = true then (if a % 2 = 1 then a + 1 else a)
  else if a = 376 then 255
  else if a = 1216 then 1231
  else if a = 902 then 940
  else if inR a 904 906 = true then a + 37
  else if a = 908 then 972
  else if inR a 910 911 = true then a + 63
  else if inR a 1024 1039 = true then a + 80
  else a
def letterP (a : Int) : Bool :=
  inR a 65 90 || inR a 97 122 || (a == 170) || (a == 181) || (a == 186) || inR a 192 214 || inR a 216 246 || inR a 248 687 || inR a 880 883 || inR a 886 887 || inR a 891 893 || (a == 895) || (a == 902) || inR a 904 906 || (a == 908) || inR a 910 929 || (inR a 931 1023 && (a != 1014)) || (inR a 1024 1327 && !(inR a 1154 1161)) || inR a 1488 1514 || inR a 1568 1610 || inR a 2308 2361 || inR a 12353 12438 || inR a 12449 12538 || inR a 19968 40959 || inR a 44032 55203

theorem letterP_eq (a : Int) : letterP a = letterD a := by
  have e : (inR a 931 1023 && (a != 1014) || (inR a 1024 1327 && !(inR a 1154 1161))) = (inR a 931 1013 || (inR a 1015 1153 || inR a 1162 1327)) := by
    rw [Bool.eq_iff_iff]
    simp only [Bool.or_eq_true, Bool.and_eq_true, Bool.not_eq_true', inR_iff, bne_iff_ne, Bool.eq_false_iff, ne_eq]
    omega
  unfold letterP letterD
  simp only [amongL, Bool.or_false, Bool.or_assoc, inR_one]
  rw [← Bool.or_assoc (inR a 931 1023 && (a != 1014)), e]
  simp only [Bool.or_assoc]

set_option maxHeartbeats 4000000 in
theorem lowerP_eq (a : Int) : lowerP a = lowerD a := by
  unfold lowerP lowerD
  by_cases c20 : a < 907
  · by_cases c10 : a < 312
    · by_cases c5 : a < 223
      · by_cases c2 : a < 192
        · by_cases c1 : a < 91
          · by_cases c0 : a < 65
            · simp (disch := omega) only [inR_t, inR_f1, inR_f2, amongL, Bool.or_false, Bool.or_true, Bool.true_or, Bool.false_or, Bool.and_true, Bool.false_and, Bool.true_and, inR_one, bne, Bool.not_true, Bool.not_false, if_true, if_false, Bool.false_eq_true, reduceIte] <;> (first | omega | ((repeat' split) <;> omega))
            · simp (disch := omega) only [inR_t, inR_f1, inR_f2, amongL, Bool.or_false, Bool.or_true, Bool.true_or, Bool.false_or, Bool.and_true, Bool.false_and, Bool.true_and, inR_one, bne, Bool.not_true, Bool.not_false, if_true, if_false, Bool.false_eq_true, reduceIte] <;> (first | omega | ((repeat' split) <;> omega))
          · simp (disch := omega) only [inR_t, inR_f1, inR_f2, amongL, Bool.or_false, Bool.or_true, Bool.true_or, Bool.false_or, Bool.and_true, Bool.false_and, Bool.true_and, inR_one, bne, Bool.not_true, Bool.not_false, if_true, if_false, Bool.false_eq_true, reduceIte] <;> (first | omega | ((repeat' split) <;> omega))
        · by_cases c4 : a < 216
          · by_cases c3 : a < 215
            · simp (disch := omega) only [inR_t, inR_f1, inR_f2, amongL, Bool.or_false, Bool.or_true, Bool.true_or, Bool.false_or, Bool.and_true, Bool.false_and, Bool.true_and, inR_one, bne, Bool.not_true, Bool.not_false, if_true, if_false, Bool.false_eq_true, reduceIte] <;> (first | omega | ((repeat' split) <;> omega))
            · simp (disch := omega) only [inR_t, inR_f1, inR_f2, amongL, Bool.or_false, Bool.or_true, Bool.true_or, Bool.false_or, Bool.and_true, Bool.false_and, Bool.true_and, inR_one, bne, Bool.not_true, Bool.not_false, if_true, if_false, Bool.false_eq_true, reduceIte] <;> (first | omega | ((repeat' split) <;> omega))
          · simp (disch := omega) only [inR_t, inR_f1, inR_f2, amongL, Bool.or_false, Bool.or_true, Bool.true_or, Bool.false_or, Bool.and_true, Bool.false_and, Bool.true_and, inR_one, bne, Bool.not_true, Bool.not_false, if_true, if_false, Bool.false_eq_true, reduceIte] <;> (first | omega | ((repeat' split) <;> omega))
      · by_cases c8 : a < 305
        · by_cases c7 : a < 304
          · by_cases c6 : a < 256
            · simp (disch := omega) only [inR_t, inR_f1, inR_f2, amongL, Bool.or_false, Bool.or_true, Bool.true_or, Bool.false_or, Bool.and_true, Bool.false_and, Bool.true_and, inR_one, bne, Bool.not_true, Bool.not_false, if_true, if_false, Bool.false_eq_true, reduceIte] <;> (first | omega | ((repeat' split) <;> omega))
            · simp (disch := omega) only [inR_t, inR_f1, inR_f2, amongL, Bool.or_false, Bool.or_true, Bool.true_or, Bool.false_or, Bool.and_true, Bool.false_and, Bool.true_and, inR_one, bne, Bool.not_true, Bool.not_false, if_true, if_false, Bool.false_eq_true, reduceIte] <;> (first | omega | ((repeat' split) <;> omega))
          · simp (disch := omega) only [inR_t, inR_f1, inR_f2, amongL, Bool.or_false, Bool.or_true, Bool.true_or, Bool.false_or, Bool.and_true, Bool.false_and, Bool.true_and, inR_one, bne, Bool.not_true, Bool.not_false, if_true, if_false, Bool.false_eq_true, reduceIte] <;> (first | omega | ((repeat' split) <;> omega))
        · by_cases c9 : a < 306
          · simp (disch := omega) only [inR_t, inR_f1, inR_f2, amongL, Bool.or_false, Bool.or_true, Bool.true_or, Bool.false_or, Bool.and_true, Bool.false_and, Bool.true_and, inR_one, bne, Bool.not_true, Bool.not_false, if_true, if_false, Bool.false_eq_true, reduceIte] <;> (first | omega | ((repeat' split) <;> omega))
          · simp (disch := omega) only [inR_t, inR_f1, inR_f2, amongL, Bool.or_false, Bool.or_true, Bool.true_or, Bool.false_or, Bool.and_true, Bool.false_and, Bool.true_and, inR_one, bne, Bool.not_true, Bool.not_false, if_true, if_false, Bool.false_eq_true, reduceIte] <;> (first | omega | ((repeat' split) <;> omega))
    · by_cases c15 : a < 377
      · by_cases c13 : a < 330
        · by_cases c12 : a < 329
          · by_cases c11 : a < 313
            · simp (disch := omega) only [inR_t, inR_f1, inR_f2, amongL, Bool.or_false, Bool.or_true, Bool.true_or, Bool.false_or, Bool.and_true, Bool.false_and, Bool.true_and, inR_one, bne, Bool.not_true, Bool.not_false, if_true, if_false, Bool.false_eq_true, reduceIte] <;> (first | omega | ((repeat' split) <;> omega))
            · simp (disch := omega) only [inR_t, inR_f1, inR_f2, amongL, Bool.or_false, Bool.or_true, Bool.true_or, Bool.false_or, Bool.and_true, Bool.false_and, Bool.true_and, inR_one, bne, Bool.not_true, Bool.not_false, if_true, if_false, Bool.false_eq_true, reduceIte] <;> (first | omega | ((repeat' split) <;> omega))
          · simp (disch := omega) only [inR_t, inR_f1, inR_f2, amongL, Bool.or_false, Bool.or_true, Bool.true_or, Bool.false_or, Bool.and_true, Bool.false_and, Bool.true_and, inR_one, bne, Bool.not_true, Bool.not_false, if_true, if_false, Bool.false_eq_true, reduceIte] <;> (first | omega | ((repeat' split) <;> omega))
        · by_cases c14 : a < 376
          · simp (disch := omega) only [inR_t, inR_f1, inR_f2, amongL, Bool.or_false, Bool.or_true, Bool.true_or, Bool.false_or, Bool.and_true, Bool.false_and, Bool.true_and, inR_one, bne, Bool.not_true, Bool.not_false, if_true, if_false, Bool.false_eq_true, reduceIte] <;> (first | omega | ((repeat' split) <;> omega))
          · simp (disch := omega) only [inR_t, inR_f1, inR_f2, amongL, Bool.or_false, Bool.or_true, Bool.true_or, Bool.false_or, Bool.and_true, Bool.false_and, Bool.true_and, inR_one, bne, Bool.not_true, Bool.not_false, if_true, if_false, Bool.false_eq_true, reduceIte] <;> (first | omega | ((repeat' split) <;> omega))
      · by_cases c18 : a < 903
        · by_cases c17 : a < 902
          · by_cases c16 : a < 383
            · simp (disch := omega) only [inR_t, inR_f1, inR_f2, amongL, Bool.or_false, Bool.or_true, Bool.true_or, Bool.false_or, Bool.and_true, Bool.false_and, Bool.true_and, inR_one, bne, Bool.not_true, Bool.not_false, if_true, if_false, Bool.false_eq_true, reduceIte] <;> (first | omega | ((repeat' split) <;> omega))
            · simp (disch := omega) only [inR_t, inR_f1, inR_f2, amongL, Bool.or_false, Bool.or_true, Bool.true_or, Bool.false_or, Bool.and_true, Bool.false_and, Bool.true_and, inR_one, bne, Bool.not_true, Bool.not_false, if_true, if_false, Bool.false_eq_true, reduceIte] <;> (first | omega | ((repeat' split) <;> omega))
          · simp (disch := omega) only [inR_t, inR_f1, inR_f2, amongL, Bool.or_false, Bool.or_true, Bool.true_or, Bool.false_or, Bool.and_true, Bool.false_and, Bool.true_and, inR_one, bne, Bool.not_true, Bool.not_false, if_true, if_false, Bool.false_eq_true, reduceIte] <;> (first | omega | ((repeat' split) <;> omega))
        · by_cases c19 : a < 904
          · simp (disch := omega) only [inR_t, inR_f1, inR_f2, amongL, Bool.or_false, Bool.or_true, Bool.true_or, Bool.false_or, Bool.and_true, Bool.false_and, Bool.true_and, inR_one, bne, Bool.not_true, Bool.not_false, if_true, if_false, Bool.false_eq_true, reduceIte] <;> (first | omega | ((repeat' split) <;> omega))
          · simp (disch := omega) only [inR_t, inR_f1, inR_f2, amongL, Bool.or_false, Bool.or_true, Bool.true_or, Bool.false_or, Bool.and_true, Bool.false_and, Bool.true_and, inR_one, bne, Bool.not_true, Bool.not_false, if_true, if_false, Bool.false_eq_true, reduceIte] <;> (first | omega | ((repeat' split) <;> omega))
  · by_cases c30 : a < 1040
    · by_cases c25 : a < 913
      · by_cases c23 : a < 910
        · by_cases c22 : a < 909
          · by_cases c21 : a < 908
            · simp (disch := omega) only [inR_t, inR_f1, inR_f2, amongL, Bool.or_false, Bool.or_true, Bool.true_or, Bool.false_or, Bool.and_true, Bool.false_and, Bool.true_and, inR_one, bne, Bool.not_true, Bool.not_false, if_true, if_false, Bool.false_eq_true, reduceIte] <;> (first | omega | ((repeat' split) <;> omega))
            · simp (disch := omega) only [inR_t, inR_f1, inR_f2, amongL, Bool.or_false, Bool.or_true, Bool.true_or, Bool.false_or, Bool.and_true, Bool.false_and, Bool.true_and, inR_one, bne, Bool.not_true, Bool.not_false, if_true, if_false, Bool.false_eq_true, reduceIte] <;> (first | omega | ((repeat' split) <;> omega))
          · simp (disch := omega) only [inR_t, inR_f1, inR_f2, amongL, Bool.or_false, Bool.or_true, Bool.true_or, Bool.false_or, Bool.and_true, Bool.false_and, Bool.true_and, inR_one, bne, Bool.not_true, Bool.not_false, if_true, if_false, Bool.false_eq_true, reduceIte] <;> (first | omega | ((repeat' split) <;> omega))
        · by_cases c24 : a < 912
          · simp (disch := omega) only [inR_t, inR_f1, inR_f2, amongL, Bool.or_false, Bool.or_true, Bool.true_or, Bool.false_or, Bool.and_true, Bool.false_and, Bool.true_and, inR_one, bne, Bool.not_true, Bool.not_false, if_true, if_false, Bool.false_eq_true, reduceIte] <;> (first | omega | ((repeat' split) <;> omega))
          · simp (disch := omega) only [inR_t, inR_f1, inR_f2, amongL, Bool.or_false, Bool.or_true, Bool.true_or, Bool.false_or, Bool.and_true, Bool.false_and, Bool.true_and, inR_one, bne, Bool.not_true, Bool.not_false, if_true, if_false, Bool.false_eq_true, reduceIte] <;> (first | omega | ((repeat' split) <;> omega))
      · by_cases c28 : a < 940
        · by_cases c27 : a < 931
          · by_cases c26 : a < 930
            · simp (disch := omega) only [inR_t, inR_f1, inR_f2, amongL, Bool.or_false, Bool.or_true, Bool.true_or, Bool.false_or, Bool.and_true, Bool.false_and, Bool.true_and, inR_one, bne, Bool.not_true, Bool.not_false, if_true, if_false, Bool.false_eq_true, reduceIte] <;> (first | omega | ((repeat' split) <;> omega))
            · simp (disch := omega) only [inR_t, inR_f1, inR_f2, amongL, Bool.or_false, Bool.or_true, Bool.true_or, Bool.false_or, Bool.and_true, Bool.false_and, Bool.true_and, inR_one, bne, Bool.not_true, Bool.not_false, if_true, if_false, Bool.false_eq_true, reduceIte] <;> (first | omega | ((repeat' split) <;> omega))
          · simp (disch := omega) only [inR_t, inR_f1, inR_f2, amongL, Bool.or_false, Bool.or_true, Bool.true_or, Bool.false_or, Bool.and_true, Bool.false_and, Bool.true_and, inR_one, bne, Bool.not_true, Bool.not_false, if_true, if_false, Bool.false_eq_true, reduceIte] <;> (first | omega | ((repeat' split) <;> omega))
        · by_cases c29 : a < 1024
          · simp (disch := omega) only [inR_t, inR_f1, inR_f2, amongL, Bool.or_false, Bool.or_true, Bool.true_or, Bool.false_or, Bool.and_true, Bool.false_and, Bool.true_and, inR_one, bne, Bool.not_true, Bool.not_false, if_true, if_false, Bool.false_eq_true, reduceIte] <;> (first | omega | ((repeat' split) <;> omega))
          · simp (disch := omega) only [inR_t, inR_f1, inR_f2, amongL, Bool.or_false, Bool.or_true, Bool.true_or, Bool.false_or, Bool.and_true, Bool.false_and, Bool.true_and, inR_one, bne, Bool.not_true, Bool.not_false, if_true, if_false, Bool.false_eq_true, reduceIte] <;> (first | omega | ((repeat' split) <;> omega))
    · by_cases c35 : a < 1216
      · by_cases c33 : a < 1154
        · by_cases c32 : a < 1120
          · by_cases c31 : a < 1072
            · simp (disch := omega) only [inR_t, inR_f1, inR_f2, amongL, Bool.or_false, Bool.or_true, Bool.true_or, Bool.false_or, Bool.and_true, Bool.false_and, Bool.true_and, inR_one, bne, Bool.not_true, Bool.not_false, if_true, if_false, Bool.false_eq_true, reduceIte] <;> (first | omega | ((repeat' split) <;> omega))
            · simp (disch := omega) only [inR_t, inR_f1, inR_f2, amongL, Bool.or_false, Bool.or_true, Bool.true_or, Bool.false_or, Bool.and_true, Bool.false_and, Bool.true_and, inR_one, bne, Bool.not_true, Bool.not_false, if_true, if_false, Bool.false_eq_true, reduceIte] <;> (first | omega | ((repeat' split) <;> omega))
          · simp (disch := omega) only [inR_t, inR_f1, inR_f2, amongL, Bool.or_false, Bool.or_true, Bool.true_or, Bool.false_or, Bool.and_true, Bool.false_and, Bool.true_and, inR_one, bne, Bool.not_true, Bool.not_false, if_true, if_false, Bool.false_eq_true, reduceIte] <;> (first | omega | ((repeat' split) <;> omega))
        · by_cases c34 : a < 1162
          · simp (disch := omega) only [inR_t, inR_f1, inR_f2, amongL, Bool.or_false, Bool.or_true, Bool.true_or, Bool.false_or, Bool.and_true, Bool.false_and, Bool.true_and, inR_one, bne, Bool.not_true, Bool.not_false, if_true, if_false, Bool.false_eq_true, reduceIte] <;> (first | omega | ((repeat' split) <;> omega))
          · simp (disch := omega) only [inR_t, inR_f1, inR_f2, amongL, Bool.or_false, Bool.or_true, Bool.true_or, Bool.false_or, Bool.and_true, Bool.false_and, Bool.true_and, inR_one, bne, Bool.not_true, Bool.not_false, if_true, if_false, Bool.false_eq_true, reduceIte] <;> (first | omega | ((repeat' split) <;> omega))
      · by_cases c38 : a < 1232
        · by_cases c37 : a < 1231
          · by_cases c36 : a < 1217
            · simp (disch := omega) only [inR_t, inR_f1, inR_f2, amongL, Bool.or_false, Bool.or_true, Bool.true_or, Bool.false_or, Bool.and_true, Bool.false_and, Bool.true_and, inR_one, bne, Bool.not_true, Bool.not_false, if_true, if_false, Bool.false_eq_true, reduceIte] <;> (first | omega | ((repeat' split) <;> omega))
            · simp (disch := omega) only [inR_t, inR_f1, inR_f2, amongL, Bool.or_false, Bool.or_true, Bool.true_or, Bool.false_or, Bool.and_true, Bool.false_and, Bool.true_and, inR_one, bne, Bool.not_true, Bool.not_false, if_true, if_false, Bool.false_eq_true, reduceIte] <;> (first | omega | ((repeat' split) <;> omega))
          · simp (disch := omega) only [inR_t, inR_f1, inR_f2, amongL, Bool.or_false, Bool.or_true, Bool.true_or, Bool.false_or, Bool.and_true, Bool.false_and, Bool.true_and, inR_one, bne, Bool.not_true, Bool.not_false, if_true, if_false, Bool.false_eq_true, reduceIte] <;> (first | omega | ((repeat' split) <;> omega))
        · by_cases c39 : a < 1328
          · simp (disch := omega) only [inR_t, inR_f1, inR_f2, amongL, Bool.or_false, Bool.or_true, Bool.true_or, Bool.false_or, Bool.and_true, Bool.false_and, Bool.true_and, inR_one, bne, Bool.not_true, Bool.not_false, if_true, if_false, Bool.false_eq_true, reduceIte] <;> (first | omega | ((repeat' split) <;> omega))
          · simp (disch := omega) only [inR_t, inR_f1, inR_f2, amongL, Bool.or_false, Bool.or_true, Bool.true_or, Bool.false_or, Bool.and_true, Bool.false_and, Bool.true_and, inR_one, bne, Bool.not_true, Bool.not_false, if_true, if_false, Bool.false_eq_true, reduceIte] <;> (first | omega | ((repeat' split) <;> omega))

end Go.Proofs.FoldPlain
