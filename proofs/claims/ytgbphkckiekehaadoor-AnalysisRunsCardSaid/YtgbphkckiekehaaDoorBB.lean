/- What the printed functions of package fold compute, said plainly; small facts on texts. -/
import Derived.Test.YtgbphkckiekehaaDoorQRefx
import Derived.Test.YtgbphkckiekehaaDoorBA
import Derived.Lib.Small
import Derived.Lib.RuneBytes
import Derived.Lib.Strings
/- What the printed functions of the program and of the document's answer compute, said by the plain functions. -/
namespace Go.Proofs.YtgbphkckiekehaaDoor.FoldBridge
open Go.RowKit Go.Proofs.YtgbphkckiekehaaDoor.QRef Go.Proofs.YtgbphkckiekehaaDoorW.PrintWords Go.Proofs.FoldPlain
set_option linter.unusedSimpArgs false
set_option linter.unusedVariables false

theorem in_f (a l h : Int) : fold_in.f a l h = some (inR a l h) := by
  unfold fold_in.f inR
  by_cases h0 : l ≤ a
  · rw [if_pos h0]; simp [h0]
  · rw [if_neg h0]; simp [h0]

theorem and1 {a : Int} (h0 : 0 ≤ a) (h1 : a < 2147483648) : Go.bits .and .i32 a 1 = a % 2 := by
  have hw : ∀ n : Int, 0 ≤ n → n < 2 ^ 31 → IntKind.i32.wrap n = n := fun n a b => by simp [IntKind.wrap, IntKind.bits, IntKind.signed]; omega
  exact bits_mask .i32 31 (by decide) hw 1 (by decide) a h0 h1

theorem w32 {n : Int} (h0 : -2147483648 ≤ n) (h1 : n ≤ 2147483647) : wrap32 n = n := by unfold wrap32; omega

theorem step0_f {a : Int} (h0 : 0 ≤ a) (h1 : a < 70000) : fold_step.f a 0 = some (if a % 2 = 0 then a + 1 else a) := by
  unfold fold_step.f
  rw [and1 h0 (by omega), w32 (by omega) (by omega)]
  split <;> rfl
theorem step1_f {a : Int} (h0 : 0 ≤ a) (h1 : a < 70000) : fold_step.f a 1 = some (if a % 2 = 1 then a + 1 else a) := by
  unfold fold_step.f
  rw [and1 h0 (by omega), w32 (by omega) (by omega)]
  split <;> rfl



theorem letter_j5 (k : Nat) (a : Int) (x : Bool) : fold_Letter.j5 (k + 1) a x = some (x || (inR a 12353 12438 || (inR a 12449 12538 || (inR a 19968 40959 || inR a 44032 55203)))) := by
  simp only [fold_Letter.j5, in_f, Option.bind_some]
  generalize inR a 12353 12438 = b1; generalize inR a 12449 12538 = b2; generalize inR a 19968 40959 = b3; generalize inR a 44032 55203 = b4
  cases x <;> cases b1 <;> cases b2 <;> cases b3 <;> cases b4 <;> rfl
theorem letter_j4 (k : Nat) (a : Int) (x : Bool) : fold_Letter.j4 (k + 2) a x = some (x || (inR a 1488 1514 || (inR a 1568 1610 || (inR a 2308 2361 || (inR a 12353 12438 || (inR a 12449 12538 || (inR a 19968 40959 || inR a 44032 55203))))))) := by
  simp only [fold_Letter.j4, in_f, Option.bind_some, letter_j5]
  generalize inR a 1488 1514 = b1; generalize inR a 1568 1610 = b2; generalize inR a 2308 2361 = b3
  cases x <;> cases b1 <;> cases b2 <;> cases b3 <;> simp
theorem letter_j3 (k : Nat) (a : Int) (x : Bool) : fold_Letter.j3 (k + 3) a x = some (x || ((inR a 1024 1327 && !(inR a 1154 1161)) || (inR a 1488 1514 || (inR a 1568 1610 || (inR a 2308 2361 || (inR a 12353 12438 || (inR a 12449 12538 || (inR a 19968 40959 || inR a 44032 55203)))))))) := by
  simp only [fold_Letter.j3, in_f, Option.bind_some, letter_j4]
  generalize inR a 1024 1327 = b1; generalize inR a 1154 1161 = b2
  cases x <;> cases b1 <;> cases b2 <;> simp
theorem letter_j2 (k : Nat) (a : Int) (x : Bool) : fold_Letter.j2 (k + 4) a x = some (x || (inR a 904 906 || ((a == 908) || (inR a 910 929 || ((inR a 931 1023 && (a != 1014)) || ((inR a 1024 1327 && !(inR a 1154 1161)) || (inR a 1488 1514 || (inR a 1568 1610 || (inR a 2308 2361 || (inR a 12353 12438 || (inR a 12449 12538 || (inR a 19968 40959 || inR a 44032 55203)))))))))))) := by
  simp only [fold_Letter.j2, in_f, Option.bind_some, letter_j3]
  generalize inR a 904 906 = b1; generalize inR a 910 929 = b2; generalize inR a 931 1023 = b3
  by_cases h : a = 908
  · cases x <;> cases b1 <;> cases b2 <;> cases b3 <;> simp [h]
  · cases x <;> cases b1 <;> cases b2 <;> cases b3 <;> simp [h]
theorem letter_j1 (k : Nat) (a : Int) (x : Bool) : fold_Letter.j1 (k + 5) a x = some (x || (inR a 880 883 || (inR a 886 887 || (inR a 891 893 || ((a == 895) || ((a == 902) || (inR a 904 906 || ((a == 908) || (inR a 910 929 || ((inR a 931 1023 && (a != 1014)) || ((inR a 1024 1327 && !(inR a 1154 1161)) || (inR a 1488 1514 || (inR a 1568 1610 || (inR a 2308 2361 || (inR a 12353 12438 || (inR a 12449 12538 || (inR a 19968 40959 || inR a 44032 55203))))))))))))))))) := by
  simp only [fold_Letter.j1, in_f, Option.bind_some, letter_j2]
  generalize inR a 880 883 = b1; generalize inR a 886 887 = b2; generalize inR a 891 893 = b3
  by_cases h : a = 895
  · cases x <;> cases b1 <;> cases b2 <;> cases b3 <;> simp [h]
  · cases x <;> cases b1 <;> cases b2 <;> cases b3 <;> simp [h]
theorem letter_j0 (k : Nat) (a : Int) (x : Bool) : fold_Letter.j0 (k + 6) a x = some (x || (inR a 192 214 || (inR a 216 246 || (inR a 248 687 || (inR a 880 883 || (inR a 886 887 || (inR a 891 893 || ((a == 895) || ((a == 902) || (inR a 904 906 || ((a == 908) || (inR a 910 929 || ((inR a 931 1023 && (a != 1014)) || ((inR a 1024 1327 && !(inR a 1154 1161)) || (inR a 1488 1514 || (inR a 1568 1610 || (inR a 2308 2361 || (inR a 12353 12438 || (inR a 12449 12538 || (inR a 19968 40959 || inR a 44032 55203)))))))))))))))))))) := by
  simp only [fold_Letter.j0, in_f, Option.bind_some, letter_j1]
  generalize inR a 192 214 = b1; generalize inR a 216 246 = b2; generalize inR a 248 687 = b3
  cases x <;> cases b1 <;> cases b2 <;> cases b3 <;> simp
theorem letter_f (k : Nat) (a : Int) : fold_Letter.f (k + 6) a = some (letterD a) := by
  rw [← letterP_eq]
  unfold letterP
  simp only [fold_Letter.f, in_f, Option.bind_some, letter_j0, Bool.or_assoc]
  generalize inR a 65 90 = b1; generalize inR a 97 122 = b2
  by_cases h : a = 170
  · have e1 : (a == 170) = true := by simp [h]
    cases b1 <;> cases b2 <;> simp only [if_pos h, e1, Bool.false_or, Bool.true_or, if_true, if_false, Bool.false_eq_true, reduceIte]
  · have e1 : (a == 170) = false := by simp [h]
    by_cases h' : a = 181
    · have e2 : (a == 181) = true := by simp [h']
      cases b1 <;> cases b2 <;> simp only [if_neg h, if_pos h', e1, e2, Bool.false_or, Bool.true_or, if_true, if_false, Bool.false_eq_true, reduceIte]
    · have e2 : (a == 181) = false := by simp [h']
      cases b1 <;> cases b2 <;> simp only [if_neg h, if_neg h', e1, e2, Bool.false_or, Bool.true_or, if_true, if_false, Bool.false_eq_true, reduceIte]

theorem digit_f (a : Int) : fold_Digit.f a = some (digitD a) := by
  simp only [fold_Digit.f, in_f, Option.bind_some, digitD, amongL, Bool.or_false]
  generalize inR a 48 57 = b1; generalize inR a 1632 1641 = b2; generalize inR a 2406 2415 = b3; generalize inR a 65296 65305 = b4
  cases b1 <;> cases b2 <;> cases b3 <;> cases b4 <;> rfl

theorem mark_f (k : Nat) (a : Int) : fold_Mark.f (k + 1) a = some (markD a) := by
  simp only [fold_Mark.f, fold_Mark.j0, in_f, Option.bind_some, markD, amongL, Bool.or_false, ← inR_one]
  generalize inR a 768 879 = b1; generalize inR a 1155 1161 = b2; generalize inR a 1425 1469 = b3; generalize inR a 1611 1631 = b4; generalize inR a 8400 8432 = b5; generalize inR a 65056 65071 = b6
  by_cases h : a = 2364
  · cases b1 <;> cases b2 <;> cases b3 <;> cases b4 <;> cases b5 <;> cases b6 <;> simp [h]
  · cases b1 <;> cases b2 <;> cases b3 <;> cases b4 <;> cases b5 <;> cases b6 <;> simp [h]

theorem lower_j6 (k : Nat) (a : Int) (h0 : 0 ≤ a) (h1 : a < 70000) (x : Bool) : fold_Lower.j6 (k + 1) a x = some (if x = true then (if a % 2 = 1 then a + 1 else a) else if a = 376 then 255 else if a = 1216 then 1231 else if a = 902 then 940 else if inR a 904 906 = true then a + 37 else if a = 908 then 972 else if inR a 910 911 = true then a + 63 else if inR a 1024 1039 = true then a + 80 else a) := by
  simp only [fold_Lower.j6, in_f, Option.bind_some, step1_f h0 h1]
  rw [w32 (n := a + 37) (by omega) (by omega), w32 (n := a + 63) (by omega) (by omega), w32 (n := a + 80) (by omega) (by omega)]
  repeat' (split; rename_i g; try simp only [g, if_true, if_false, if_pos, if_neg, not_false_iff, reduceIte])
  all_goals simp_all
theorem lower_j5 (k : Nat) (a : Int) (h0 : 0 ≤ a) (h1 : a < 70000) (x : Bool) : fold_Lower.j5 (k + 2) a x = some (if x = true then (if a % 2 = 0 then a + 1 else a) else if (inR a 313 328 || (inR a 377 382 || inR a 1217 1230)) = true then (if a % 2 = 1 then a + 1 else a) else if a = 376 then 255 else if a = 1216 then 1231 else if a = 902 then 940 else if inR a 904 906 = true then a + 37 else if a = 908 then 972 else if inR a 910 911 = true then a + 63 else if inR a 1024 1039 = true then a + 80 else a) := by
  simp only [fold_Lower.j5, in_f, Option.bind_some, step0_f h0 h1, lower_j6 k a h0 h1]
  generalize inR a 313 328 = b1; generalize inR a 377 382 = b2; generalize inR a 1217 1230 = b3
  cases x <;> cases b1 <;> cases b2 <;> cases b3 <;> rfl
theorem lower_j4 (k : Nat) (a : Int) (h0 : 0 ≤ a) (h1 : a < 70000) (x : Bool) : fold_Lower.j4 (k + 3) a x = some (if (x || (inR a 1120 1153 || (inR a 1162 1215 || inR a 1232 1327))) = true then (if a % 2 = 0 then a + 1 else a) else if (inR a 313 328 || (inR a 377 382 || inR a 1217 1230)) = true then (if a % 2 = 1 then a + 1 else a) else if a = 376 then 255 else if a = 1216 then 1231 else if a = 902 then 940 else if inR a 904 906 = true then a + 37 else if a = 908 then 972 else if inR a 910 911 = true then a + 63 else if inR a 1024 1039 = true then a + 80 else a) := by
  simp only [fold_Lower.j4, in_f, Option.bind_some, step0_f h0 h1, lower_j5 k a h0 h1]
  generalize inR a 1120 1153 = b1; generalize inR a 1162 1215 = b2; generalize inR a 1232 1327 = b3
  cases x <;> cases b1 <;> cases b2 <;> cases b3 <;> rfl
theorem lower_j3 (k : Nat) (a : Int) (h0 : 0 ≤ a) (h1 : a < 70000) (x : Bool) : fold_Lower.j3 (k + 4) a x = some (if x = true then a else if (inR a 256 311 || (inR a 330 375 || (inR a 1120 1153 || (inR a 1162 1215 || inR a 1232 1327)))) = true then (if a % 2 = 0 then a + 1 else a) else if (inR a 313 328 || (inR a 377 382 || inR a 1217 1230)) = true then (if a % 2 = 1 then a + 1 else a) else if a = 376 then 255 else if a = 1216 then 1231 else if a = 902 then 940 else if inR a 904 906 = true then a + 37 else if a = 908 then 972 else if inR a 910 911 = true then a + 63 else if inR a 1024 1039 = true then a + 80 else a) := by
  simp only [fold_Lower.j3, in_f, Option.bind_some, lower_j4 k a h0 h1]
  generalize inR a 256 311 = b1; generalize inR a 330 375 = b2
  cases x <;> cases b1 <;> cases b2 <;> simp
theorem lower_j0 (k : Nat) (a : Int) (h0 : 0 ≤ a) (h1 : a < 70000) (x : Bool) : fold_Lower.j0 (k + 7) a x = some (if (x || ((inR a 913 939 && (a != 930)) || inR a 1040 1071)) = true then a + 32 else if ((a == 304) || (a == 305)) = true then a else if (inR a 256 311 || (inR a 330 375 || (inR a 1120 1153 || (inR a 1162 1215 || inR a 1232 1327)))) = true then (if a % 2 = 0 then a + 1 else a) else if (inR a 313 328 || (inR a 377 382 || inR a 1217 1230)) = true then (if a % 2 = 1 then a + 1 else a) else if a = 376 then 255 else if a = 1216 then 1231 else if a = 902 then 940 else if inR a 904 906 = true then a + 37 else if a = 908 then 972 else if inR a 910 911 = true then a + 63 else if inR a 1024 1039 = true then a + 80 else a) := by
  simp only [fold_Lower.j0, fold_Lower.j1, fold_Lower.j2, in_f, Option.bind_some, lower_j3 k a h0 h1]
  rw [w32 (n := a + 32) (by omega) (by omega)]
  generalize inR a 913 939 = b1; generalize inR a 1040 1071 = b2; generalize (a != 930) = b3
  by_cases h : a = 304
  · have e1 : (a == 304) = true := by simp [h]
    cases x <;> cases b1 <;> cases b2 <;> cases b3 <;> simp only [if_pos h, e1, Bool.false_or, Bool.true_or, Bool.or_true, Bool.or_false, Bool.and_true, Bool.and_false, if_true, if_false, Bool.false_eq_true, reduceIte]
  · have e1 : (a == 304) = false := by simp [h]
    cases x <;> cases b1 <;> cases b2 <;> cases b3 <;> simp only [if_neg h, e1, Bool.false_or, Bool.true_or, Bool.or_true, Bool.or_false, Bool.and_true, Bool.and_false, if_true, if_false, Bool.false_eq_true, reduceIte]
theorem lower_in (k : Nat) (a : Int) (h0 : 0 ≤ a) (h1 : a < 70000) : fold_Lower.f (k + 7) a = some (lowerD a) := by
  rw [← lowerP_eq]
  unfold lowerP
  simp only [fold_Lower.f, in_f, Option.bind_some, lower_j0 k a h0 h1, Bool.or_assoc]
  generalize inR a 65 90 = b1; generalize inR a 192 222 = b2
  cases b1 <;> cases b2 <;> simp
theorem lower_out (k : Nat) (a : Int) (h : a < 0 ∨ 70000 ≤ a) : fold_Lower.f (k + 7) a = some (lowerD a) := by
  rw [← lowerP_eq]
  have e0 : ∀ l h : Int, 0 ≤ l → h < 70000 → inR a l h = false := fun l h' hl hh => by
    rcases h with h | h
    · exact inR_f1 (by omega)
    · exact inR_f2 (by omega)
  have f65 : inR a 65 90 = false := e0 _ _ (by decide) (by decide)
  have f192 : inR a 192 222 = false := e0 _ _ (by decide) (by decide)
  have f913 : inR a 913 939 = false := e0 _ _ (by decide) (by decide)
  have f1040 : inR a 1040 1071 = false := e0 _ _ (by decide) (by decide)
  have f256 : inR a 256 311 = false := e0 _ _ (by decide) (by decide)
  have f330 : inR a 330 375 = false := e0 _ _ (by decide) (by decide)
  have f1120 : inR a 1120 1153 = false := e0 _ _ (by decide) (by decide)
  have f1162 : inR a 1162 1215 = false := e0 _ _ (by decide) (by decide)
  have f1232 : inR a 1232 1327 = false := e0 _ _ (by decide) (by decide)
  have f313 : inR a 313 328 = false := e0 _ _ (by decide) (by decide)
  have f377 : inR a 377 382 = false := e0 _ _ (by decide) (by decide)
  have f1217 : inR a 1217 1230 = false := e0 _ _ (by decide) (by decide)
  have f904 : inR a 904 906 = false := e0 _ _ (by decide) (by decide)
  have f910 : inR a 910 911 = false := e0 _ _ (by decide) (by decide)
  have f1024 : inR a 1024 1039 = false := e0 _ _ (by decide) (by decide)
  have g304 : ¬ a = 304 := by omega
  have b304 : (a == 304) = false := by simp [g304]
  have g305 : ¬ a = 305 := by omega
  have b305 : (a == 305) = false := by simp [g305]
  have g376 : ¬ a = 376 := by omega
  have b376 : (a == 376) = false := by simp [g376]
  have g1216 : ¬ a = 1216 := by omega
  have b1216 : (a == 1216) = false := by simp [g1216]
  have g902 : ¬ a = 902 := by omega
  have b902 : (a == 902) = false := by simp [g902]
  have g908 : ¬ a = 908 := by omega
  have b908 : (a == 908) = false := by simp [g908]
  have e : lowerP a = a := by
    unfold lowerP
    simp only [f65, f192, f913, f1040, f256, f330, f1120, f1162, f1232, f313, f377, f1217, f904, f910, f1024, if_neg g304, b304, if_neg g305, b305, if_neg g376, b376, if_neg g1216, b1216, if_neg g902, b902, if_neg g908, b908, Bool.false_and, Bool.or_false, Bool.false_eq_true, if_false, reduceIte]
  rw [e]
  simp only [fold_Lower.f, in_f, Option.bind_some, f65, f192, Bool.false_eq_true, if_false, reduceIte]
  simp only [fold_Lower.j0, in_f, Option.bind_some, f913, Bool.false_eq_true, if_false, reduceIte]
  simp only [fold_Lower.j1, in_f, Option.bind_some, f1040, Bool.false_eq_true, if_false, reduceIte]
  simp only [fold_Lower.j2, if_neg g304, b305, Bool.false_eq_true, if_false, reduceIte]
  simp only [fold_Lower.j3, in_f, Option.bind_some, f256, f330, Bool.false_eq_true, if_false, reduceIte]
  simp only [fold_Lower.j4, in_f, Option.bind_some, f1120, f1162, f1232, Bool.false_eq_true, if_false, reduceIte]
  simp only [fold_Lower.j5, in_f, Option.bind_some, f313, f377, f1217, Bool.false_eq_true, if_false, reduceIte]
  simp only [fold_Lower.j6, in_f, Option.bind_some, f904, f910, f1024, if_neg g376, if_neg g1216, if_neg g902, if_neg g908, Bool.false_eq_true, if_false, reduceIte]
theorem lower_f (k : Nat) (a : Int) : fold_Lower.f (k + 7) a = some (lowerD a) := by
  by_cases h : 0 ≤ a ∧ a < 70000
  · exact lower_in k a h.1 h.2
  · exact lower_out k a (by omega)

end Go.Proofs.YtgbphkckiekehaaDoor.FoldBridge

set_option linter.unusedSimpArgs false
set_option linter.unusedVariables false
namespace Go.Proofs.YtgbphkckiekehaaDoor.FoldRef
open Go Go.RowKit Go.Proofs.YtgbphkckiekehaaDoor.QRef Go.Proofs.YtgbphkckiekehaaDoorW.PrintWords Go.Proofs.FoldPlain Go.Proofs.FoldText Go.Proofs.YtgbphkckiekehaaDoor.FoldBridge

theorem size_data (s : ByteArray) : s.data.toList.length = s.size := by rw [Array.length_toList]; rfl

/-- A byte of a text, as a number. -/
def by_ (l : List UInt8) (p : Nat) : Nat := (l.getD p 0).toNat
theorem by_lt (l : List UInt8) (p : Nat) : by_ l p < 256 := (l.getD p 0).toNat_lt
theorem bt_by (s : ByteArray) (p : Nat) (h : p < s.size) : bt s (p : Int) = (by_ s.data.toList p : Int) := by
  unfold bt by_
  rw [dif_pos (by simpa using h)]
  have h' : p < s.data.toList.length := by rw [size_data]; exact h
  simp only [Int.toNat_natCast, List.getD_eq_getElem?_getD, List.getElem?_eq_getElem h', Option.getD_some]
  rfl

theorem w64' {n : Int} (h0 : -9223372036854775808 ≤ n) (h1 : n ≤ 9223372036854775807) : wrap64 n = n := by unfold wrap64; omega

theorem strOf_data (xs : List Int) : (strOfNums xs).data.toList = xs.map fun n => UInt8.ofNat n.toNat := by simp [strOfNums]
theorem extract_data (s : ByteArray) (p q : Nat) (hq : q ≤ s.size) : (s.extract p q).data.toList = (s.data.toList.drop p).take (q - p) := by
  rw [ByteArray.data_extract]; simp [List.extract_eq_take_drop]

theorem nums_eq (xs : List Int) (bs : List UInt8) (h : ∀ x ∈ xs, 0 ≤ x ∧ x < 256) : (xs.map fun n => UInt8.ofNat n.toNat) = bs ↔ xs = bs.map fun b => (b.toNat : Int) := by
  constructor
  · rintro rfl
    rw [List.map_map]
    conv => lhs; rw [← List.map_id xs]
    apply List.map_congr_left
    intro x hx
    have := h x hx
    simp [Function.comp]
    omega
  · rintro rfl
    rw [List.map_map]
    conv => rhs; rw [← List.map_id bs]
    apply List.map_congr_left
    intro x _
    simp [Function.comp]

theorem encZ_nums (r : Int) (bs : List UInt8) : ((strOfNums (Lib.encodeRuneZ r)).data.toList = bs) ↔ Lib.encodeRuneZ r = bs.map fun b => (b.toNat : Int) := by
  rw [strOf_data]; exact nums_eq _ _ (Lib.encodeRuneZ_byte r)

theorem valid_iff (r : Int) : Lib.validRune r = true ↔ (0 ≤ r ∧ r < 55296) ∨ (57343 < r ∧ r ≤ 1114111) := by unfold Lib.validRune; rw [decide_eq_true_iff]

/-- The runes of a text as two rows of numbers. -/
def placesZ (rs : List (Nat × Nat)) : List Int := rs.map fun x => (x.1 : Int)
def runesZ (rs : List (Nat × Nat)) : List Int := rs.map fun x => (x.2 : Int)
theorem placesZ_cons (x : Nat × Nat) (rs : List (Nat × Nat)) : placesZ (x :: rs) = (x.1 : Int) :: placesZ rs := rfl
theorem runesZ_cons (x : Nat × Nat) (rs : List (Nat × Nat)) : runesZ (x :: rs) = (x.2 : Int) :: runesZ rs := rfl

theorem validRune_lower (l : List UInt8) : Lib.validRune (lowerD ((dec l).1 : Int)) = true := by
  rw [valid_iff]
  have := dec_rune l
  have := lowerD_range ((dec l).1 : Int)
  omega
theorem bytesOf_map (l : List UInt8) : (l.map fun b => (b.toNat : Int)).length = l.length := by simp
theorem encZ_encode (r : Int) : Lib.encodeRuneZ r = (Lib.encodeRune r).map fun b => (b.toNat : Int) := by
  exact (encZ_nums r _).1 (by rw [strOf_data]; rfl)

/-- A text of bytes. -/
def strOf (l : List UInt8) : ByteArray := ⟨l.toArray⟩
theorem strOf_nums (l : List UInt8) : strOfNums (l.map fun b => (b.toNat : Int)) = strOf l := by
  unfold strOfNums strOf
  rw [List.map_map]
  congr 2
  conv => rhs; rw [← List.map_id l]
  apply List.map_congr_left
  intro x _
  simp [Function.comp]
end Go.Proofs.YtgbphkckiekehaaDoor.FoldRef
