/- Comparisons of keys: what package order's Compare and the document's say is one. -/
import Derived.Test.YtkndegjjiimheaaDoorOrdBytes
set_option linter.unusedVariables false
set_option linter.unusedSimpArgs false
namespace Go.Proofs.YtkndegjjiimheaaDoor.Ord
open Go Go.RowKit Go.Proofs.YtkndegjjiimheaaDoorW.PrintWords Go.Proofs.YtkndegjjiimheaaDoorW.PrintLast Go.Proofs.OrdPlain Go.Lib Go.Proofs.YtkndegjjiimheaaDoor.QKey

def cmpI (x y : Int) : Int := if x < y then -1 else if x > y then 1 else 0
def cmpS (x y : List UInt8) : Int := if Op.bytesLess x y = true then -1 else if Op.bytesLess y x = true then 1 else 0
def cmpD (a b : S45) : Int := if cmpI a.f0 b.f0 = 0 then (if cmpI a.f1 b.f1 = 0 then cmpS a.f2.toList b.f2.toList else cmpI a.f1 b.f1) else cmpI a.f0 b.f0
theorem cmpI_f (x y : Int) : cmp_Compare_int.f x y = some (cmpI x y) := by
  unfold cmp_Compare_int.f cmp_isNaN_int.f cmpI
  simp
  repeat' split
  all_goals rfl
theorem cmpJ_f (x y : Int) : cmp_Compare_int64.f x y = some (cmpI x y) := by
  unfold cmp_Compare_int64.f cmp_isNaN_int64.f cmpI
  simp
  repeat' split
  all_goals rfl
theorem cmpS_f (x y : ByteArray) : cmp_Compare_string.f x y = some (cmpS x.toList y.toList) := by
  unfold cmp_Compare_string.f cmp_isNaN_string.f cmpS
  simp
  repeat' split
  all_goals rfl
theorem or_f (k : Nat) (x y z : Int) : cmp_Or_int.f (k + 4) [x, y, z] = some (if x = 0 then (if y = 0 then z else y) else x) := by
  unfold cmp_Or_int.f
  simp only [cmp_Or_int.l0, List.length_cons, List.length_nil]
  have w0 : wrap64 (0 + 1) = 1 := by unfold wrap64; omega
  have w1 : wrap64 (1 + 1) = 2 := by unfold wrap64; omega
  have w2 : wrap64 (2 + 1) = 3 := by unfold wrap64; omega
  simp only [w0, w1, w2, rd]
  by_cases hx : x = 0
  · by_cases hy : y = 0
    · by_cases hz : z = 0
      · simp [hx, hy, hz]
      · simp [hx, hy, hz]
    · simp [hx, hy]
  · simp [hx]
theorem compare_f (k : Nat) (a b : S45) : order_Compare.f (k + 4) a.f0 a.f1 a.f2 b.f0 b.f1 b.f2 = some (cmpD a b) := by
  unfold order_Compare.f cmpD
  rw [cmpI_f, cmpJ_f, cmpS_f]
  simp only [Option.bind_some]
  rw [or_f]
  rfl

/-! ### texts byte by byte -/
theorem cmpS_nil : cmpS [] [] = 0 := rfl
theorem cmpS_l (y : UInt8) (ys : List UInt8) : cmpS [] (y :: ys) = -1 := rfl
theorem cmpS_r (x : UInt8) (xs : List UInt8) : cmpS (x :: xs) [] = 1 := rfl
theorem cmpS_cons (x y : UInt8) (xs ys : List UInt8) : cmpS (x :: xs) (y :: ys) = if x.toNat < y.toNat then -1 else if y.toNat < x.toNat then 1 else cmpS xs ys := by
  unfold cmpS
  rw [Op.bytesLess, Op.bytesLess]
  by_cases h1 : x.toNat < y.toNat
  · have : x < y := UInt8.lt_iff_toNat_lt.2 h1
    rw [if_pos h1, if_pos (by simp [this])]
  · have n1 : ¬ x < y := fun h => h1 (UInt8.lt_iff_toNat_lt.1 h)
    rw [if_neg h1]
    by_cases h2 : y.toNat < x.toNat
    · have p2 : y < x := UInt8.lt_iff_toNat_lt.2 h2
      have ne : (x == y) = false := beq_false_of_ne (fun e => by subst e; omega)
      rw [if_pos h2, if_neg (by simp [n1, ne]), if_pos (by simp [p2])]
    · have n2 : ¬ y < x := fun h => h2 (UInt8.lt_iff_toNat_lt.1 h)
      have e : x = y := UInt8.toNat_inj.1 (by omega)
      subst e
      rw [if_neg h2]
      simp [n1]
theorem bt_nat (a : ByteArray) (i : Nat) : bt a (i : Int) = ((a.data.toList.getD i 0).toNat : Int) := by
  unfold bt
  rw [Int.toNat_natCast]
  by_cases h : i < a.size
  · rw [dif_pos h, List.getD_eq_getElem?_getD, List.getElem?_eq_getElem (by rw [Array.length_toList]; exact h)]; rfl
  · rw [dif_neg h, List.getD_eq_getElem?_getD, List.getElem?_eq_none (by rw [Array.length_toList]; exact Nat.le_of_not_lt h)]; rfl
theorem sz_list (a : ByteArray) : a.data.toList.length = a.size := by rw [Array.length_toList]; rfl
theorem refcmp_l (a b : ByteArray) (ha : a.size ≤ 9223372036854775806) (k0 k1 m0 m1 : Int) : ∀ (n i : Nat), a.size ≤ i + n → i ≤ a.size → i ≤ b.size →
    lecternref07_Compare.l0 (2 * n + 2) (i : Int) k0 k1 a m0 m1 b = some (cmpS (a.data.toList.drop i) (b.data.toList.drop i))
  | n, i, h, hi, hib => by
    have hal := sz_list a
    have hbl := sz_list b
    rw [lecternref07_Compare.l0]
    by_cases h1 : i < a.size
    · rw [if_pos (by omega)]
      by_cases h2 : i < b.size
      · rw [decide_eq_true (by omega)]
        obtain ⟨n', rfl⟩ : ∃ n', n = n' + 1 := ⟨n - 1, by omega⟩
        rw [show 2 * (n' + 1) + 1 = (2 * n' + 2) + 1 by omega, lecternref07_Compare.j1, if_pos rfl, if_pos (by omega), if_pos (by omega), if_pos (by omega), bt_nat, bt_nat]
        rw [List.drop_eq_getElem_cons (by omega : i < a.data.toList.length), List.drop_eq_getElem_cons (by omega : i < b.data.toList.length), cmpS_cons]
        rw [show a.data.toList.getD i 0 = a.data.toList[i] by rw [List.getD_eq_getElem?_getD, List.getElem?_eq_getElem (by omega : i < a.data.toList.length)]; rfl,
          show b.data.toList.getD i 0 = b.data.toList[i] by rw [List.getD_eq_getElem?_getD, List.getElem?_eq_getElem (by omega : i < b.data.toList.length)]; rfl]
        by_cases c1 : (a.data.toList[i]).toNat < (b.data.toList[i]).toNat
        · rw [if_pos (by omega), if_pos c1]
        · rw [if_neg (by omega), if_neg c1]
          by_cases c2 : (b.data.toList[i]).toNat < (a.data.toList[i]).toNat
          · rw [if_pos (by omega), if_pos c2]
          · rw [if_neg (by omega), if_neg c2, show wrap64 ((i : Int) + 1) = ((i + 1 : Nat) : Int) by unfold wrap64; omega]
            exact refcmp_l a b ha k0 k1 m0 m1 n' (i + 1) (by omega) (by omega) (by omega)
      · rw [decide_eq_false (by omega)]
        rw [lecternref07_Compare.j1, if_neg (by simp), if_neg (by omega), if_pos (by omega), List.drop_eq_nil_of_le (by omega : b.data.toList.length ≤ i), List.drop_eq_getElem_cons (by omega : i < a.data.toList.length), cmpS_r]
    · rw [if_neg (by omega), lecternref07_Compare.j1, if_neg (by simp), List.drop_eq_nil_of_le (by omega : a.data.toList.length ≤ i)]
      by_cases h2 : i < b.size
      · rw [if_pos (by omega), List.drop_eq_getElem_cons (by omega : i < b.data.toList.length), cmpS_l]
      · rw [if_neg (by omega), if_neg (by omega), List.drop_eq_nil_of_le (by omega : b.data.toList.length ≤ i), cmpS_nil]
theorem cmpI_zero (x y : Int) : cmpI x y = 0 ↔ x = y := by
  unfold cmpI
  by_cases h1 : x < y
  · rw [if_pos h1]; omega
  · rw [if_neg h1]
    by_cases h2 : x > y
    · rw [if_pos h2]; omega
    · rw [if_neg h2]; omega
theorem cmpI_ne (x y : Int) (h : ¬ x = y) : cmpI x y = if x < y then -1 else 1 := by
  unfold cmpI
  by_cases h1 : x < y
  · rw [if_pos h1, if_pos h1]
  · rw [if_neg h1, if_neg h1, if_pos (by omega)]
theorem refcompare_f (a b : S45) (ha : a.f2.size ≤ 9223372036854775806) : lecternref07_Compare.f (2 * a.f2.size + 2) a.f0 a.f1 a.f2 b.f0 b.f1 b.f2 = some (cmpD a b) := by
  unfold lecternref07_Compare.f cmpD
  by_cases h0 : a.f0 = b.f0
  · rw [if_pos h0, if_pos ((cmpI_zero _ _).2 h0)]
    by_cases h1 : a.f1 = b.f1
    · rw [if_pos h1, if_pos ((cmpI_zero _ _).2 h1)]
      have := refcmp_l a.f2 b.f2 ha a.f0 a.f1 b.f0 b.f1 a.f2.size 0 (by omega) (by omega) (by omega)
      rw [List.drop_zero, List.drop_zero] at this
      rw [Lib.toList_data, Lib.toList_data]
      exact this
    · rw [if_neg h1, if_neg (fun h => h1 ((cmpI_zero _ _).1 h)), cmpI_ne _ _ h1]
      split <;> rfl
  · rw [if_neg h0, if_neg (fun h => h0 ((cmpI_zero _ _).1 h)), cmpI_ne _ _ h0]
    split <;> rfl
end Go.Proofs.YtkndegjjiimheaaDoor.Ord
