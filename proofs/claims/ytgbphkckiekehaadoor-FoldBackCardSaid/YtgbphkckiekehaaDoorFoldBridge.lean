import Derived.Test.YtgbphkckiekehaaDoorQFoldx
import Derived.Test.YtgbphkckiekehaaDoorFoldPlain
import Derived.Lib.Small
import Derived.Lib.RuneBytes
/- What the printed functions of the program and of the document's answer compute, said by the plain functions. -/
namespace Go.Proofs.YtgbphkckiekehaaDoor.FoldBridge
open Go.RowKit Go.Proofs.YtgbphkckiekehaaDoor.QFold Go.Proofs.YtgbphkckiekehaaDoorW.PrintWords Go.Proofs.FoldPlain
set_option linter.unusedSimpArgs false
set_option linter.unusedVariables false

theorem in_f (a l h : Int) : fold_in.f a l h = some (inR a l h) := by
  unfold fold_in.f inR
  by_cases h0 : l ≤ a
  · rw [if_pos h0]; simp [h0]
  · rw [if_neg h0]; simp [h0]

theorem and1 {a : Int} (h0 : 0 ≤ a) (h1 : a < 2147483648) : Go.bits .and .i32 a 1 = a % 2 := by
  have hw : ∀ n : Int, 0 ≤ n → n < 2 ^ 31 → IntKind.i32.wrap n = n := fun n a b => by simp [IntKind.wrap, IntKind.bits, IntKind.signed]; omega
  exact bits_mask .i32 31 (by decide) hw 1 (by decide) a h0 h1

theorem w32 {n : Int} (h0 : -2147483648 ≤ n) (h1 : n ≤ 2147483647) : wrap32 n = n := by unfold wrap32; omega

theorem step0_f {a : Int} (h0 : 0 ≤ a) (h1 : a < 70000) : fold_step.f a 0 = some (if a % 2 = 0 then a + 1 else a) := by
  unfold fold_step.f
  rw [and1 h0 (by omega), w32 (by omega) (by omega)]
  split <;> rfl
theorem step1_f {a : Int} (h0 : 0 ≤ a) (h1 : a < 70000) : fold_step.f a 1 = some (if a % 2 = 1 then a + 1 else a) := by
  unfold fold_step.f
  rw [and1 h0 (by omega), w32 (by omega) (by omega)]
  split <;> rfl



theorem letter_j5 (k : Nat) (a : Int) (x : Bool) : fold_Letter.j5 (k + 1) a x = some (x || (inR a 12353 12438 || (inR a 12449 12538 || (inR a 19968 40959 || inR a 44032 55203)))) := by
  simp only [fold_Letter.j5, in_f, Option.bind_some]
  generalize inR a 12353 12438 = b1; generalize inR a 12449 12538 = b2; generalize inR a 19968 40959 = b3; generalize inR a 44032 55203 = b4
  cases x <;> cases b1 <;> cases b2 <;> cases b3 <;> cases b4 <;> rfl
theorem letter_j4 (k : Nat) (a : Int) (x : Bool) : fold_Letter.j4 (k + 2) a x = some (x || (inR a 1488 1514 || (inR a 1568 1610 || (inR a 2308 2361 || (inR a 12353 12438 || (inR a 12449 12538 || (inR a 19968 40959 || inR a 44032 55203))))))) := by
  simp only [fold_Letter.j4, in_f, Option.bind_some, letter_j5]
  generalize inR a 1488 1514 = b1; generalize inR a 1568 1610 = b2; generalize inR a 2308 2361 = b3
  cases x <;> cases b1 <;> cases b2 <;> cases b3 <;> simp
theorem letter_j3 (k : Nat) (a : Int) (x : Bool) : fold_Letter.j3 (k + 3) a x = some (x || ((inR a 1024 1327 && !(inR a 1154 1161)) || (inR a 1488 1514 || (inR a 1568 1610 || (inR a 2308 2361 || (inR a 12353 12438 || (inR a 12449 12538 || (inR a 19968 40959 || inR a 44032 55203)))))))) := by
  simp only [fold_Letter.j3, in_f, Option.bind_some, letter_j4]
  generalize inR a 1024 1327 = b1; generalize inR a 1154 1161 = b2
  cases x <;> cases b1 <;> cases b2 <;> simp
theorem letter_j2 (k : Nat) (a : Int) (x : Bool) : fold_Letter.j2 (k + 4) a x = some (x || (inR a 904 906 || ((a == 908) || (inR a 910 929 || ((inR a 931 1023 && (a != 1014)) || ((inR a 1024 1327 && !(inR a 1154 1161)) || (inR a 1488 1514 || (inR a 1568 1610 || (inR a 2308 2361 || (inR a 12353 12438 || (inR a 12449 12538 || (inR a 19968 40959 || inR a 44032 55203)))))))))))) := by
  simp only [fold_Letter.j2, in_f, Option.bind_some, letter_j3]
  generalize inR a 904 906 = b1; generalize inR a 910 929 = b2; generalize inR a 931 1023 = b3
  by_cases h : a = 908
  · cases x <;> cases b1 <;> cases b2 <;> cases b3 <;> simp [h]
  · cases x <;> cases b1 <;> cases b2 <;> cases b3 <;> simp [h]
theorem letter_j1 (k : Nat) (a : Int) (x : Bool) : fold_Letter.j1 (k + 5) a x = some (x || (inR a 880 883 || (inR a 886 887 || (inR a 891 893 || ((a == 895) || ((a == 902) || (inR a 904 906 || ((a == 908) || (inR a 910 929 || ((inR a 931 1023 && (a != 1014)) || ((inR a 1024 1327 && !(inR a 1154 1161)) || (inR a 1488 1514 || (inR a 1568 1610 || (inR a 2308 2361 || (inR a 12353 12438 || (inR a 12449 12538 || (inR a 19968 40959 || inR a 44032 55203))))))))))))))))) := by
  simp only [fold_Letter.j1, in_f, Option.bind_some, letter_j2]
  generalize inR a 880 883 = b1; generalize inR a 886 887 = b2; generalize inR a 891 893 = b3
  by_cases h : a = 895
  · cases x <;> cases b1 <;> cases b2 <;> cases b3 <;> simp [h]
  · cases x <;> cases b1 <;> cases b2 <;> cases b3 <;> simp [h]
theorem letter_j0 (k : Nat) (a : Int) (x : Bool) : fold_Letter.j0 (k + 6) a x = some (x || (inR a 192 214 || (inR a 216 246 || (inR a 248 687 || (inR a 880 883 || (inR a 886 887 || (inR a 891 893 || ((a == 895) || ((a == 902) || (inR a 904 906 || ((a == 908) || (inR a 910 929 || ((inR a 931 1023 && (a != 1014)) || ((inR a 1024 1327 && !(inR a 1154 1161)) || (inR a 1488 1514 || (inR a 1568 1610 || (inR a 2308 2361 || (inR a 12353 12438 || (inR a 12449 12538 || (inR a 19968 40959 || inR a 44032 55203)))))))))))))))))))) := by
  simp only [fold_Letter.j0, in_f, Option.bind_some, letter_j1]
  generalize inR a 192 214 = b1; generalize inR a 216 246 = b2; generalize inR a 248 687 = b3
  cases x <;> cases b1 <;> cases b2 <;> cases b3 <;> simp
theorem letter_f (k : Nat) (a : Int) : fold_Letter.f (k + 6) a = some (letterD a) := by
  rw [← letterP_eq]
  unfold letterP
  simp only [fold_Letter.f, in_f, Option.bind_some, letter_j0, Bool.or_assoc]
  generalize inR a 65 90 = b1; generalize inR a 97 122 = b2
  by_cases h : a = 170
  · have e1 : (a == 170) = true := by simp [h]
    cases b1 <;> cases b2 <;> simp only [if_pos h, e1, Bool.false_or, Bool.true_or, if_true, if_false, Bool.false_eq_true, reduceIte]
  · have e1 : (a == 170) = false := by simp [h]
    by_cases h' : a = 181
    · have e2 : (a == 181) = true := by simp [h']
      cases b1 <;> cases b2 <;> simp only [if_neg h, if_pos h', e1, e2, Bool.false_or, Bool.true_or, if_true, if_false, Bool.false_eq_true, reduceIte]
    · have e2 : (a == 181) = false := by simp [h']
      cases b1 <;> cases b2 <;> simp only [if_neg h, if_neg h', e1, e2, Bool.false_or, Bool.true_or, if_true, if_false, Bool.false_eq_true, reduceIte]

theorem digit_f (a : Int) : fold_Digit.f a = some (digitD a) := by
  simp only [fold_Digit.f, in_f, Option.bind_some, digitD, amongL, Bool.or_false]
  generalize inR a 48 57 = b1; generalize inR a 1632 1641 = b2; generalize inR a 2406 2415 = b3; generalize inR a 65296 65305 = b4
  cases b1 <;> cases b2 <;> cases b3 <;> cases b4 <;> rfl

theorem mark_f (k : Nat) (a : Int) : fold_Mark.f (k + 1) a = some (markD a) := by
  simp only [fold_Mark.f, fold_Mark.j0, in_f, Option.bind_some, markD, amongL, Bool.or_false, ← inR_one]
  generalize inR a 768 879 = b1; generalize inR a 1155 1161 = b2; generalize inR a 1425 1469 = b3; generalize inR a 1611 1631 = b4; generalize inR a 8400 8432 = b5; generalize inR a 65056 65071 = b6
  by_cases h : a = 2364
  · cases b1 <;> cases b2 <;> cases b3 <;> cases b4 <;> cases b5 <;> cases b6 <;> simp [h]
  · cases b1 <;> cases b2 <;> cases b3 <;> cases b4 <;> cases b5 <;> cases b6 <;> simp [h]

theorem lower_j6 (k : Nat) (a : Int) (h0 : 0 ≤ a) (h1 : a < 70000) (x : Bool) : fold_Lower.j6 (k + 1) a x = some (if x = true then (if a % 2 = 1 then a + 1 else a) else if a = 376 then 255 else if a = 1216 then 1231 else if a = 902 then 940 else if inR a 904 906 = true then a + 37 else if a = 908 then 972 else if inR a 910 911 = true then a + 63 else if inR a 1024 1039 = true then a + 80 else a) := by
  simp only [fold_Lower.j6, in_f, Option.bind_some, step1_f h0 h1]
  rw [w32 (n := a + 37) (by omega) (by omega), w32 (n := a + 63) (by omega) (by omega), w32 (n := a + 80) (by omega) (by omega)]
  repeat' (split; rename_i g; try simp only [g, if_true, if_false, if_pos, if_neg, not_false_iff, reduceIte])
  all_goals simp_all
theorem lower_j5 (k : Nat) (a : Int) (h0 : 0 ≤ a) (h1 : a < 70000) (x : Bool) : fold_Lower.j5 (k + 2) a x = some (if x = true then (if a % 2 = 0 then a + 1 else a) else if (inR a 313 328 || (inR a 377 382 || inR a 1217 1230)) = true then (if a % 2 = 1 then a + 1 else a) else if a = 376 then 255 else if a = 1216 then 1231 else if a = 902 then 940 else if inR a 904 906 = true then a + 37 else if a = 908 then 972 else if inR a 910 911 = true then a + 63 else if inR a 1024 1039 = true then a + 80 else a) := by
  simp only [fold_Lower.j5, in_f, Option.bind_some, step0_f h0 h1, lower_j6 k a h0 h1]
  generalize inR a 313 328 = b1; generalize inR a 377 382 = b2; generalize inR a 1217 1230 = b3
  cases x <;> cases b1 <;> cases b2 <;> cases b3 <;> rfl
theorem lower_j4 (k : Nat) (a : Int) (h0 : 0 ≤ a) (h1 : a < 70000) (x : Bool) : fold_Lower.j4 (k + 3) a x = some (if (x || (inR a 1120 1153 || (inR a 1162 1215 || inR a 1232 1327))) = true then (if a % 2 = 0 then a + 1 else a) else if (inR a 313 328 || (inR a 377 382 || inR a 1217 1230)) = true then (if a % 2 = 1 then a + 1 else a) else if a = 376 then 255 else if a = 1216 then 1231 else if a = 902 then 940 else if inR a 904 906 = true then a + 37 else if a = 908 then 972 else if inR a 910 911 = true then a + 63 else if inR a 1024 1039 = true then a + 80 else a) := by
  simp only [fold_Lower.j4, in_f, Option.bind_some, step0_f h0 h1, lower_j5 k a h0 h1]
  generalize inR a 1120 1153 = b1; generalize inR a 1162 1215 = b2; generalize inR a 1232 1327 = b3
  cases x <;> cases b1 <;> cases b2 <;> cases b3 <;> rfl
theorem lower_j3 (k : Nat) (a : Int) (h0 : 0 ≤ a) (h1 : a < 70000) (x : Bool) : fold_Lower.j3 (k + 4) a x = some (if x = true then a else if (inR a 256 311 || (inR a 330 375 || (inR a 1120 1153 || (inR a 1162 1215 || inR a 1232 1327)))) = true then (if a % 2 = 0 then a + 1 else a) else if (inR a 313 328 || (inR a 377 382 || inR a 1217 1230)) = true then (if a % 2 = 1 then a + 1 else a) else if a = 376 then 255 else if a = 1216 then 1231 else if a = 902 then 940 else if inR a 904 906 = true then a + 37 else if a = 908 then 972 else if inR a 910 911 = true then a + 63 else if inR a 1024 1039 = true then a + 80 else a) := by
  simp only [fold_Lower.j3, in_f, Option.bind_some, lower_j4 k a h0 h1]
  generalize inR a 256 311 = b1; generalize inR a 330 375 = b2
  cases x <;> cases b1 <;> cases b2 <;> simp
theorem lower_j0 (k : Nat) (a : Int) (h0 : 0 ≤ a) (h1 : a < 70000) (x : Bool) : fold_Lower.j0 (k + 7) a x = some (if (x || ((inR a 913 939 && (a != 930)) || inR a 1040 1071)) = true then a + 32 else if ((a == 304) || (a == 305)) = true then a else if (inR a 256 311 || (inR a 330 375 || (inR a 1120 1153 || (inR a 1162 1215 || inR a 1232 1327)))) = true then (if a % 2 = 0 then a + 1 else a) else if (inR a 313 328 || (inR a 377 382 || inR a 1217 1230)) = true then (if a % 2 = 1 then a + 1 else a) else if a = 376 then 255 else if a = 1216 then 1231 else if a = 902 then 940 else if inR a 904 906 = true then a + 37 else if a = 908 then 972 else if inR a 910 911 = true then a + 63 else if inR a 1024 1039 = true then a + 80 else a) := by
  simp only [fold_Lower.j0, fold_Lower.j1, fold_Lower.j2, in_f, Option.bind_some, lower_j3 k a h0 h1]
  rw [w32 (n := a + 32) (by omega) (by omega)]
  generalize inR a 913 939 = b1; generalize inR a 1040 1071 = b2; generalize (a != 930) = b3
  by_cases h : a = 304
  · have e1 : (a == 304) = true := by simp [h]
    cases x <;> cases b1 <;> cases b2 <;> cases b3 <;> simp only [if_pos h, e1, Bool.false_or, Bool.true_or, Bool.or_true, Bool.or_false, Bool.and_true, Bool.and_false, if_true, if_false, Bool.false_eq_true, reduceIte]
  · have e1 : (a == 304) = false := by simp [h]
    cases x <;> cases b1 <;> cases b2 <;> cases b3 <;> simp only [if_neg h, e1, Bool.false_or, Bool.true_or, Bool.or_true, Bool.or_false, Bool.and_true, Bool.and_false, if_true, if_false, Bool.false_eq_true, reduceIte]
theorem lower_in (k : Nat) (a : Int) (h0 : 0 ≤ a) (h1 : a < 70000) : fold_Lower.f (k + 7) a = some (lowerD a) := by
  rw [← lowerP_eq]
  unfold lowerP
  simp only [fold_Lower.f, in_f, Option.bind_some, lower_j0 k a h0 h1, Bool.or_assoc]
  generalize inR a 65 90 = b1; generalize inR a 192 222 = b2
  cases b1 <;> cases b2 <;> simp
theorem lower_out (k : Nat) (a : Int) (h : a < 0 ∨ 70000 ≤ a) : fold_Lower.f (k + 7) a = some (lowerD a) := by
  rw [← lowerP_eq]
  have e0 : ∀ l h : Int, 0 ≤ l → h < 70000 → inR a l h = false := fun l h' hl hh => by
    rcases h with h | h
    · exact inR_f1 (by omega)
    · exact inR_f2 (by omega)
  have f65 : inR a 65 90 = false := e0 _ _ (by decide) (by decide)
  have f192 : inR a 192 222 = false := e0 _ _ (by decide) (by decide)
  have f913 : inR a 913 939 = false := e0 _ _ (by decide) (by decide)
  have f1040 : inR a 1040 1071 = false := e0 _ _ (by decide) (by decide)
  have f256 : inR a 256 311 = false := e0 _ _ (by decide) (by decide)
  have f330 : inR a 330 375 = false := e0 _ _ (by decide) (by decide)
  have f1120 : inR a 1120 1153 = false := e0 _ _ (by decide) (by decide)
  have f1162 : inR a 1162 1215 = false := e0 _ _ (by decide) (by decide)
  have f1232 : inR a 1232 1327 = false := e0 _ _ (by decide) (by decide)
  have f313 : inR a 313 328 = false := e0 _ _ (by decide) (by decide)
  have f377 : inR a 377 382 = false := e0 _ _ (by decide) (by decide)
  have f1217 : inR a 1217 1230 = false := e0 _ _ (by decide) (by decide)
  have f904 : inR a 904 906 = false := e0 _ _ (by decide) (by decide)
  have f910 : inR a 910 911 = false := e0 _ _ (by decide) (by decide)
  have f1024 : inR a 1024 1039 = false := e0 _ _ (by decide) (by decide)
  have g304 : ¬ a = 304 := by omega
  have b304 : (a == 304) = false := by simp [g304]
  have g305 : ¬ a = 305 := by omega
  have b305 : (a == 305) = false := by simp [g305]
  have g376 : ¬ a = 376 := by omega
  have b376 : (a == 376) = false := by simp [g376]
  have g1216 : ¬ a = 1216 := by omega
  have b1216 : (a == 1216) = false := by simp [g1216]
  have g902 : ¬ a = 902 := by omega
  have b902 : (a == 902) = false := by simp [g902]
  have g908 : ¬ a = 908 := by omega
  have b908 : (a == 908) = false := by simp [g908]
  have e : lowerP a = a := by
    unfold lowerP
    simp only [f65, f192, f913, f1040, f256, f330, f1120, f1162, f1232, f313, f377, f1217, f904, f910, f1024, if_neg g304, b304, if_neg g305, b305, if_neg g376, b376, if_neg g1216, b1216, if_neg g902, b902, if_neg g908, b908, Bool.false_and, Bool.or_false, Bool.false_eq_true, if_false, reduceIte]
  rw [e]
  simp only [fold_Lower.f, in_f, Option.bind_some, f65, f192, Bool.false_eq_true, if_false, reduceIte]
  simp only [fold_Lower.j0, in_f, Option.bind_some, f913, Bool.false_eq_true, if_false, reduceIte]
  simp only [fold_Lower.j1, in_f, Option.bind_some, f1040, Bool.false_eq_true, if_false, reduceIte]
  simp only [fold_Lower.j2, if_neg g304, b305, Bool.false_eq_true, if_false, reduceIte]
  simp only [fold_Lower.j3, in_f, Option.bind_some, f256, f330, Bool.false_eq_true, if_false, reduceIte]
  simp only [fold_Lower.j4, in_f, Option.bind_some, f1120, f1162, f1232, Bool.false_eq_true, if_false, reduceIte]
  simp only [fold_Lower.j5, in_f, Option.bind_some, f313, f377, f1217, Bool.false_eq_true, if_false, reduceIte]
  simp only [fold_Lower.j6, in_f, Option.bind_some, f904, f910, f1024, if_neg g376, if_neg g1216, if_neg g902, if_neg g908, Bool.false_eq_true, if_false, reduceIte]
theorem lower_f (k : Nat) (a : Int) : fold_Lower.f (k + 7) a = some (lowerD a) := by
  by_cases h : 0 ≤ a ∧ a < 70000
  · exact lower_in k a h.1 h.2
  · exact lower_out k a (by omega)

theorem w64 {n : Int} (h0 : 0 ≤ n) (h1 : n ≤ 1000000000) : wrap64 n = n := by unfold wrap64; omega
theorem rd_at (xs : List Int) (i : Nat) : rd xs (i : Int) = xs.getD i 0 := by unfold rd; simp
theorem rd_at1 (xs : List Int) (i : Nat) : rd xs ((i : Int) + 1) = xs.getD (i + 1) 0 := by unfold rd; rw [show ((i : Int) + 1).toNat = i + 1 by omega]
theorem among_l0 (a : Int) (xs : List Int) (hx : xs.length ≤ 1000) : ∀ (m : Nat) (k i : Nat), xs.length ≤ i + 2 * m → m < k → i ≤ xs.length → lecternref05_among.l0 k a xs (i : Int) = some (amongL (xs.drop i) a)
  | m, 0, i, _, hk, _ => by omega
  | 0, k + 1, i, hm, _, hi => by
    obtain rfl : i = xs.length := by omega
    simp only [lecternref05_among.l0]
    rw [w64 (by omega) (by omega), if_neg (by omega), List.drop_length]
    rfl
  | m + 1, k + 1, i, hm, hk, hi => by
    simp only [lecternref05_among.l0]
    rw [w64 (n := (i : Int) + 1) (by omega) (by omega)]
    by_cases h : (i : Int) + 1 < (xs.length : Int)
    · have h1 : i + 1 < xs.length := by omega
      rw [if_pos h, if_pos (by omega), if_pos (by omega), rd_at, rd_at1, if_pos (show (0 : Int) ≤ (i : Int) + 1 by omega), w64 (by omega) (by omega)]
      have e : xs.drop i = xs.getD i 0 :: xs.getD (i + 1) 0 :: xs.drop (i + 2) := by
        rw [List.drop_eq_getElem_cons (show i < xs.length by omega), List.drop_eq_getElem_cons h1]
        simp [List.getD_eq_getElem?_getD, List.getElem?_eq_getElem h1, List.getElem?_eq_getElem (show i < xs.length by omega)]
      have ih := among_l0 a xs hx m k (i + 2) (by omega) (by omega) (by omega)
      rw [show ((i : Int) + 2) = ((i + 2 : Nat) : Int) by omega, ih, e, amongL]
      by_cases c0 : a ≥ xs.getD i 0
      · rw [if_pos c0]
        by_cases c1 : a ≤ xs.getD (i + 1) 0
        · rw [if_pos c1, inR_t c0 c1, Bool.true_or]
        · rw [if_neg c1, inR_f2 (by omega), Bool.false_or]
      · rw [if_neg c0, inR_f1 (by omega), Bool.false_or]
    · rw [if_neg h]
      have e : ∀ ys : List Int, ys.length ≤ 1 → amongL ys a = false := fun ys hy => by
        match ys, hy with
        | [], _ => rfl
        | [_], _ => rfl
      rw [e _ (by simp; omega)]
theorem among_f (k : Nat) (a : Int) (xs : List Int) (hx : xs.length ≤ 1000) (hk : xs.length < k) : lecternref05_among.f k a xs = some (amongL xs a) := by
  unfold lecternref05_among.f
  have := among_l0 a xs hx xs.length k 0 (by omega) hk (by omega)
  simpa using this

theorem amongL_le {a b : Int} : ∀ xs : List Int, amongL xs a = true → (∀ x ∈ xs, 0 ≤ x ∧ x ≤ b) → 0 ≤ a ∧ a ≤ b
  | [], h, _ => by simp [amongL] at h
  | [_], h, _ => by simp [amongL] at h
  | l :: h' :: t, h, hb => by
    rw [amongL, Bool.or_eq_true, inR_iff] at h
    rcases h with h | h
    · have h1 := hb l (by simp); have h2 := hb h' (by simp); omega
    · exact amongL_le t h (fun x hx => hb x (by simp [hx]))
theorem refLower_k (k : Nat) (a : Int) (h0 : -2147483648 ≤ a) (h1 : a ≤ 2147483647) : lecternref05_Lower.f (k + 100) a = some (lowerD a) := by
  have am : ∀ xs : List Int, xs.length ≤ 99 → lecternref05_among.f (k + 100) a xs = some (amongL xs a) := fun xs h => among_f _ _ _ (by omega) (by omega)
  unfold lecternref05_Lower.f lowerD
  rw [am _ (by decide), am _ (by decide), am _ (by decide), am _ (by decide), am _ (by decide), am _ (by decide)]
  simp only [Option.bind_some]
  have key : ∀ xs : List Int, (∀ x ∈ xs, 0 ≤ x ∧ x ≤ 70000) → amongL xs a = true → 0 ≤ a ∧ a ≤ 70000 := fun xs hx h => amongL_le xs h hx
  by_cases c1 : amongL [65, 90, 192, 214, 216, 222, 913, 929, 931, 939, 1040, 1071] a = true
  · have b := key _ (by decide) c1
    rw [if_pos c1, if_pos c1, w32 (by omega) (by omega)]
  · rw [if_neg c1, if_neg c1]
    by_cases c2 : amongL [256, 303, 306, 311, 330, 375, 1120, 1153, 1162, 1215, 1232, 1327] a = true
    · have b := key _ (by decide) c2
      rw [if_pos c2, if_pos c2, Int.tmod_eq_emod_of_nonneg b.1, w32 (n := a - a % 2) (by omega) (by omega), w32 (by omega) (by omega)]
    · rw [if_neg c2, if_neg c2]
      by_cases c3 : amongL [313, 328, 377, 382, 1217, 1230] a = true
      · have b := key _ (by decide) c3
        rw [if_pos c3, if_pos c3, Int.tmod_eq_emod_of_nonneg b.1, w32 (by omega) (by omega)]
      · rw [if_neg c3, if_neg c3]
        by_cases c4 : amongL [904, 906] a = true
        · have b := key _ (by decide) c4
          rw [if_pos c4, if_pos c4, w32 (by omega) (by omega)]
        · rw [if_neg c4, if_neg c4]
          by_cases c5 : amongL [910, 911] a = true
          · have b := key _ (by decide) c5
            rw [if_pos c5, if_pos c5, w32 (by omega) (by omega)]
          · rw [if_neg c5, if_neg c5]
            by_cases c6 : amongL [1024, 1039] a = true
            · have b := key _ (by decide) c6
              rw [if_pos c6, if_pos c6, w32 (by omega) (by omega)]
            · rw [if_neg c6, if_neg c6]
              (repeat' split) <;> rfl

theorem refLower_f (a : Int) (h0 : -2147483648 ≤ a) (h1 : a ≤ 2147483647) : lecternref05_Lower.f 100 a = some (lowerD a) := refLower_k 0 a h0 h1

theorem rune_f (a : Int) : lecternref05_Rune.f a = some (Lib.validRune a) := by
  unfold lecternref05_Rune.f Lib.validRune
  (repeat' split) <;> first | rw [decide_eq_true (by omega)] | rw [decide_eq_false (by omega)] | (congr 1; rw [decide_eq_decide]; omega)
theorem form_f (a : Int) (h : Lib.validRune a = true) : lecternref05_Form.f a = some (Lib.encodeRuneZ a) := by
  have hb : (0 ≤ a ∧ a < 55296) ∨ (57343 < a ∧ a ≤ 1114111) := by
    unfold Lib.validRune at h
    simp at h
    omega
  have t1 : ∀ c : Int, Int.tdiv a c = a / c := fun c => Int.tdiv_eq_ediv_of_nonneg (by omega)
  have t2 : ∀ c : Int, Int.tmod a c = a % c := fun c => Int.tmod_eq_emod_of_nonneg (by omega)
  unfold lecternref05_Form.f
  rw [t1, t1, t1, t2, w32 (n := a / 64) (by omega) (by omega), w32 (n := a / 4096) (by omega) (by omega), w32 (n := a / 262144) (by omega) (by omega), Int.tmod_eq_emod_of_nonneg (a := a / 64) (by omega), Int.tmod_eq_emod_of_nonneg (a := a / 4096) (by omega), w32 (n := 192 + a / 64) (by omega) (by omega), w32 (n := 128 + a % 64) (by omega) (by omega), w32 (n := 224 + a / 4096) (by omega) (by omega), w32 (n := 128 + a / 64 % 64) (by omega) (by omega), w32 (n := 240 + a / 262144) (by omega) (by omega), w32 (n := 128 + a / 4096 % 64) (by omega) (by omega)]
  by_cases c1 : a < 128
  · rw [if_pos c1, Lib.encodeRuneZ_one (by omega) (by omega)]; congr 2; omega
  · rw [if_neg c1]
    by_cases c2 : a < 2048
    · rw [if_pos c2, Lib.encodeRuneZ_two (by omega) (by omega), show (192 + a / 64) % 256 = 192 + a / 64 by omega, show (128 + a % 64) % 256 = 128 + a % 64 by omega]
    · rw [if_neg c2]
      by_cases c3 : a < 65536
      · rw [if_pos c3, Lib.encodeRuneZ_three (by omega), show (224 + a / 4096) % 256 = 224 + a / 4096 by omega, show (128 + a / 64 % 64) % 256 = 128 + a / 64 % 64 by omega, show (128 + a % 64) % 256 = 128 + a % 64 by omega]
      · rw [if_neg c3, Lib.encodeRuneZ_four (by omega) (by omega), show (240 + a / 262144) % 256 = 240 + a / 262144 by omega, show (128 + a / 4096 % 64) % 256 = 128 + a / 4096 % 64 by omega, show (128 + a / 64 % 64) % 256 = 128 + a / 64 % 64 by omega, show (128 + a % 64) % 256 = 128 + a % 64 by omega]

end Go.Proofs.YtgbphkckiekehaaDoor.FoldBridge
