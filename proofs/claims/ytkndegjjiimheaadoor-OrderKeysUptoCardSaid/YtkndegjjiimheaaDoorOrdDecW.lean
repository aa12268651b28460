/- order.Decimal walked over its callees' contracts. -/
import Derived.Test.YtkndegjjiimheaaDoorOrdCalls
set_option linter.unusedVariables false
set_option linter.unusedSimpArgs false
namespace Go.Proofs.YtkndegjjiimheaaDoor.Ord
open Go Go.RowKit Go.Proofs.YtkndegjjiimheaaDoorW.PrintWords Go.Proofs.YtkndegjjiimheaaDoorW.PrintLast Go.Proofs.OrdPlain Go.Lib

section
variable (T A B : ByteArray) (R : List UInt8) (b p c1 c3 : Bool) (m : Nat) (hm : m ≤ 9) (w : World)
  (h23 : ∀ W, Calls Tryd.prog 23 #[.string T, .string ⟨#[45]⟩] W fun e w' => e = .returned (.tuple #[.string (txt R), .bool b]) ∧ Below W.heap.size W w')
  (h24 : ∀ W, Calls Tryd.prog 24 #[.string (txt R), .string ⟨#[46]⟩] W fun e w' => e = .returned (.tuple #[.string A, .string B, .bool p]) ∧ Below W.heap.size W w')
  (h25a : ∀ W, Calls Tryd.prog 25 #[.string A, .int .i64 1, .int .i64 19] W fun e w' => e = .returned (.bool c1) ∧ Below W.heap.size W w')
  (h25b : ∀ W, Calls Tryd.prog 25 #[.string B, .int .i64 1, .int .i64 m] W fun e w' => e = .returned (.bool c3) ∧ Below W.heap.size W w')
include hm h23 h24 h25a
theorem dec_bad1 (hc : c1 = false) :
    Calls Tryd.prog 5 #[.string T, .int .i64 m] w fun e w' => e = .returned (.tuple #[.int .i64 0, .int .i64 70]) ∧ Below w.heap.size w w' := by
  subst hc
  have m0 : ¬ (m : Int) < 0 := by omega
  have m9 : ¬ (9 : Int) < (m : Int) := by omega
  go_enter Tryd.func5, Tryd.ntmps5
  go_wp2_with (first
    | (go_at_call 23; with_reducible refine (h23 _).mono ?_; clear h23; rintro e w1 ⟨rfl, hb1⟩; have HB1 := Aside0.mk hb1; clear hb1)
    | (go_at_call 24; with_reducible refine (h24 _).mono ?_; clear h24; rintro e w2 ⟨rfl, hb2⟩; have HB2 := Aside0.mk (below_step HB1.out hb2); clear hb2)
    | (go_at_call 25; with_reducible refine (h25a _).mono ?_; clear h25a; rintro e w3 ⟨rfl, hb3⟩; have HB3 := Aside0.mk (below_step HB2.out hb3); clear hb3))
  go_ret2
  exact ⟨rfl, HB3.out⟩
theorem dec_bad2 (hc : c1 = true) (k : Nat) (hA : A.size = k) (h1 : 1 < k) (h0 : ∀ h, (A[0]'h).toNat = 48) :
    Calls Tryd.prog 5 #[.string T, .int .i64 m] w fun e w' => e = .returned (.tuple #[.int .i64 0, .int .i64 70]) ∧ Below w.heap.size w w' := by
  subst hc
  have m0 : ¬ (m : Int) < 0 := by omega
  have m9 : ¬ (9 : Int) < (m : Int) := by omega
  go_enter Tryd.func5, Tryd.ntmps5
  go_wp2_with (first
    | (go_at_call 23; with_reducible refine (h23 _).mono ?_; clear h23; rintro e w1 ⟨rfl, hb1⟩; have HB1 := Aside0.mk hb1; clear hb1)
    | (go_at_call 24; with_reducible refine (h24 _).mono ?_; clear h24; rintro e w2 ⟨rfl, hb2⟩; have HB2 := Aside0.mk (below_step HB1.out hb2); clear hb2)
    | (go_at_call 25; with_reducible refine (h25a _).mono ?_; clear h25a; rintro e w3 ⟨rfl, hb3⟩; have HB3 := Aside0.mk (below_step HB2.out hb3); clear hb3))
  go_ret2
  exact ⟨rfl, HB3.out⟩
include h25b
theorem dec_bad3 (hc : c1 = true) (hp : p = true) (hc3 : c3 = false) (k : Nat) (hA : A.size = k) (h0 : ¬ 1 < k ∨ ∀ h, (((A[0]'h).toNat : Int) == 48) = false) :
    Calls Tryd.prog 5 #[.string T, .int .i64 m] w fun e w' => e = .returned (.tuple #[.int .i64 0, .int .i64 70]) ∧ Below w.heap.size w w' := by
  subst hc hp hc3
  have m0 : ¬ (m : Int) < 0 := by omega
  have m9 : ¬ (9 : Int) < (m : Int) := by omega
  by_cases hk : 1 < k
  · replace h0 : ∀ h, (((A[0]'h).toNat : Int) == 48) = false := h0.resolve_left (fun h => h hk)
    go_enter Tryd.func5, Tryd.ntmps5
    go_wp2_with (first
      | (go_at_call 23; with_reducible refine (h23 _).mono ?_; clear h23; rintro e w1 ⟨rfl, hb1⟩; have HB1 := Aside0.mk hb1; clear hb1)
      | (go_at_call 24; with_reducible refine (h24 _).mono ?_; clear h24; rintro e w2 ⟨rfl, hb2⟩; have HB2 := Aside0.mk (below_step HB1.out hb2); clear hb2)
      | (go_at_call 25; with_reducible refine (h25a _).mono ?_; clear h25a; rintro e w3 ⟨rfl, hb3⟩; have HB3 := Aside0.mk (below_step HB2.out hb3); clear hb3)
      | (go_at_call 25; with_reducible refine (h25b _).mono ?_; clear h25b; rintro e w4 ⟨rfl, hb4⟩; have HB4 := Aside0.mk (below_step HB3.out hb4); clear hb4))
    all_goals (go_ret2; exact ⟨rfl, HB4.out⟩)
  · clear h0
    go_enter Tryd.func5, Tryd.ntmps5
    go_wp2_with (first
      | (go_at_call 23; with_reducible refine (h23 _).mono ?_; clear h23; rintro e w1 ⟨rfl, hb1⟩; have HB1 := Aside0.mk hb1; clear hb1)
      | (go_at_call 24; with_reducible refine (h24 _).mono ?_; clear h24; rintro e w2 ⟨rfl, hb2⟩; have HB2 := Aside0.mk (below_step HB1.out hb2); clear hb2)
      | (go_at_call 25; with_reducible refine (h25a _).mono ?_; clear h25a; rintro e w3 ⟨rfl, hb3⟩; have HB3 := Aside0.mk (below_step HB2.out hb3); clear hb3)
      | (go_at_call 25; with_reducible refine (h25b _).mono ?_; clear h25b; rintro e w4 ⟨rfl, hb4⟩; have HB4 := Aside0.mk (below_step HB3.out hb4); clear hb4))
    all_goals (go_ret2; exact ⟨rfl, HB4.out⟩)
theorem dec_ok (hc : c1 = true) (hp : p = false ∨ p = true ∧ c3 = true) (k j : Nat) (hA : A.size = k) (hB : B.size = j) (hk : k ≤ 100) (hj : j ≤ m) (h0 : ¬ 1 < k ∨ ∀ h, (((A[0]'h).toNat : Int) == 48) = false)
    (AB Z ALL ALL' : ByteArray) (hAB : A ++ B = AB) (hABs : AB.size = k + j) (hZ : Z.size = m - j) (hALL : AB ++ Z = ALL) (hALLs : ALL.size ≤ 200) (hALL' : (⟨#[45]⟩ : ByteArray) ++ ALL = ALL') (hT : Tb w) (v : Int)
    (h26 : ∀ (X : Int) W, X = (m : Int) - (j : Int) → Calls Tryd.prog 26 #[.string ⟨#[48]⟩, .int .i64 X] W fun e w' => e = .returned (.string Z) ∧ Below W.heap.size W w')
    (h27 : ∀ W, Tb W → Calls Tryd.prog 27 #[.string (if b = true then ALL' else ALL), .int .i64 10, .int .i64 64] W fun e w' => e = .returned (.tuple #[.int .i64 v, .nilIface]) ∧ Below W.heap.size W w') :
    Calls Tryd.prog 5 #[.string T, .int .i64 m] w fun e w' => e = .returned (.tuple #[.int .i64 v, .int .i64 0]) ∧ Below w.heap.size w w' := by
  subst hc
  have wm : IntKind.i64.wrap ((m : Int) - (j : Int)) = (m : Int) - (j : Int) := wrap_small _ (by omega) (by omega)
  have z1 : ¬ 9223372036854775807 < k + j := by omega
  have z2 : ¬ 9223372036854775807 < k + j + (m - j) := by omega
  have z3 : ¬ 9223372036854775807 < 1 + ALL.size := by omega
  have m0 : ¬ (m : Int) < 0 := by omega
  have m9 : ¬ (9 : Int) < (m : Int) := by omega
  cases b
  · simp only [Bool.false_eq_true, if_false, if_true] at h27
    rcases hp with rfl | ⟨rfl, rfl⟩
    · by_cases hk1 : 1 < k
      · replace h0 : ∀ h, (((A[0]'h).toNat : Int) == 48) = false := h0.resolve_left (fun h => h hk1)
        go_enter Tryd.func5, Tryd.ntmps5
        go_wp2_with (first
          | (go_at_call 23; with_reducible refine (h23 _).mono ?_; clear h23; rintro e w1 ⟨rfl, hb1⟩; have HB1 := Aside0.mk hb1; clear hb1)
          | (go_at_call 24; with_reducible refine (h24 _).mono ?_; clear h24; rintro e w2 ⟨rfl, hb2⟩; have HB2 := Aside0.mk (below_step HB1.out hb2); clear hb2)
          | (go_at_call 25; with_reducible refine (h25a _).mono ?_; clear h25a; rintro e w3 ⟨rfl, hb3⟩; have HB3 := Aside0.mk (below_step HB2.out hb3); clear hb3)
          | (go_at_call 26; with_reducible refine (h26 _ _ (by omega)).mono ?_; clear h26; rintro e w5 ⟨rfl, hb5⟩; have HB5 := Aside0.mk (below_step HB3.out hb5); clear hb5)
          | (go_at_call 27; with_reducible refine (h27 _ (hT.kp HB5.out)).mono ?_; clear h27; rintro e w6 ⟨rfl, hb6⟩; have HB6 := Aside0.mk (below_step HB5.out hb6); clear hb6))
        all_goals (go_ret2; exact ⟨rfl, HB6.out⟩)
      · clear h0
        go_enter Tryd.func5, Tryd.ntmps5
        go_wp2_with (first
          | (go_at_call 23; with_reducible refine (h23 _).mono ?_; clear h23; rintro e w1 ⟨rfl, hb1⟩; have HB1 := Aside0.mk hb1; clear hb1)
          | (go_at_call 24; with_reducible refine (h24 _).mono ?_; clear h24; rintro e w2 ⟨rfl, hb2⟩; have HB2 := Aside0.mk (below_step HB1.out hb2); clear hb2)
          | (go_at_call 25; with_reducible refine (h25a _).mono ?_; clear h25a; rintro e w3 ⟨rfl, hb3⟩; have HB3 := Aside0.mk (below_step HB2.out hb3); clear hb3)
          | (go_at_call 26; with_reducible refine (h26 _ _ (by omega)).mono ?_; clear h26; rintro e w5 ⟨rfl, hb5⟩; have HB5 := Aside0.mk (below_step HB3.out hb5); clear hb5)
          | (go_at_call 27; with_reducible refine (h27 _ (hT.kp HB5.out)).mono ?_; clear h27; rintro e w6 ⟨rfl, hb6⟩; have HB6 := Aside0.mk (below_step HB5.out hb6); clear hb6))
        all_goals (go_ret2; exact ⟨rfl, HB6.out⟩)
    · by_cases hk1 : 1 < k
      · replace h0 : ∀ h, (((A[0]'h).toNat : Int) == 48) = false := h0.resolve_left (fun h => h hk1)
        go_enter Tryd.func5, Tryd.ntmps5
        go_wp2_with (first
          | (go_at_call 23; with_reducible refine (h23 _).mono ?_; clear h23; rintro e w1 ⟨rfl, hb1⟩; have HB1 := Aside0.mk hb1; clear hb1)
          | (go_at_call 24; with_reducible refine (h24 _).mono ?_; clear h24; rintro e w2 ⟨rfl, hb2⟩; have HB2 := Aside0.mk (below_step HB1.out hb2); clear hb2)
          | (go_at_call 25; with_reducible refine (h25a _).mono ?_; clear h25a; rintro e w3 ⟨rfl, hb3⟩; have HB3 := Aside0.mk (below_step HB2.out hb3); clear hb3)
          | (go_at_call 25; with_reducible refine (h25b _).mono ?_; clear h25b; rintro e w4 ⟨rfl, hb4⟩; have HB4 := Aside0.mk (below_step HB3.out hb4); clear hb4)
          | (go_at_call 26; with_reducible refine (h26 _ _ (by omega)).mono ?_; clear h26; rintro e w5 ⟨rfl, hb5⟩; have HB5 := Aside0.mk (below_step HB4.out hb5); clear hb5)
          | (go_at_call 27; with_reducible refine (h27 _ (hT.kp HB5.out)).mono ?_; clear h27; rintro e w6 ⟨rfl, hb6⟩; have HB6 := Aside0.mk (below_step HB5.out hb6); clear hb6))
        all_goals (go_ret2; exact ⟨rfl, HB6.out⟩)
      · clear h0
        go_enter Tryd.func5, Tryd.ntmps5
        go_wp2_with (first
          | (go_at_call 23; with_reducible refine (h23 _).mono ?_; clear h23; rintro e w1 ⟨rfl, hb1⟩; have HB1 := Aside0.mk hb1; clear hb1)
          | (go_at_call 24; with_reducible refine (h24 _).mono ?_; clear h24; rintro e w2 ⟨rfl, hb2⟩; have HB2 := Aside0.mk (below_step HB1.out hb2); clear hb2)
          | (go_at_call 25; with_reducible refine (h25a _).mono ?_; clear h25a; rintro e w3 ⟨rfl, hb3⟩; have HB3 := Aside0.mk (below_step HB2.out hb3); clear hb3)
          | (go_at_call 25; with_reducible refine (h25b _).mono ?_; clear h25b; rintro e w4 ⟨rfl, hb4⟩; have HB4 := Aside0.mk (below_step HB3.out hb4); clear hb4)
          | (go_at_call 26; with_reducible refine (h26 _ _ (by omega)).mono ?_; clear h26; rintro e w5 ⟨rfl, hb5⟩; have HB5 := Aside0.mk (below_step HB4.out hb5); clear hb5)
          | (go_at_call 27; with_reducible refine (h27 _ (hT.kp HB5.out)).mono ?_; clear h27; rintro e w6 ⟨rfl, hb6⟩; have HB6 := Aside0.mk (below_step HB5.out hb6); clear hb6))
        all_goals (go_ret2; exact ⟨rfl, HB6.out⟩)
  · simp only [Bool.false_eq_true, if_false, if_true] at h27
    rcases hp with rfl | ⟨rfl, rfl⟩
    · by_cases hk1 : 1 < k
      · replace h0 : ∀ h, (((A[0]'h).toNat : Int) == 48) = false := h0.resolve_left (fun h => h hk1)
        go_enter Tryd.func5, Tryd.ntmps5
        go_wp2_with (first
          | (go_at_call 23; with_reducible refine (h23 _).mono ?_; clear h23; rintro e w1 ⟨rfl, hb1⟩; have HB1 := Aside0.mk hb1; clear hb1)
          | (go_at_call 24; with_reducible refine (h24 _).mono ?_; clear h24; rintro e w2 ⟨rfl, hb2⟩; have HB2 := Aside0.mk (below_step HB1.out hb2); clear hb2)
          | (go_at_call 25; with_reducible refine (h25a _).mono ?_; clear h25a; rintro e w3 ⟨rfl, hb3⟩; have HB3 := Aside0.mk (below_step HB2.out hb3); clear hb3)
          | (go_at_call 26; with_reducible refine (h26 _ _ (by omega)).mono ?_; clear h26; rintro e w5 ⟨rfl, hb5⟩; have HB5 := Aside0.mk (below_step HB3.out hb5); clear hb5)
          | (go_at_call 27; with_reducible refine (h27 _ (hT.kp HB5.out)).mono ?_; clear h27; rintro e w6 ⟨rfl, hb6⟩; have HB6 := Aside0.mk (below_step HB5.out hb6); clear hb6))
        all_goals (go_ret2; exact ⟨rfl, HB6.out⟩)
      · clear h0
        go_enter Tryd.func5, Tryd.ntmps5
        go_wp2_with (first
          | (go_at_call 23; with_reducible refine (h23 _).mono ?_; clear h23; rintro e w1 ⟨rfl, hb1⟩; have HB1 := Aside0.mk hb1; clear hb1)
          | (go_at_call 24; with_reducible refine (h24 _).mono ?_; clear h24; rintro e w2 ⟨rfl, hb2⟩; have HB2 := Aside0.mk (below_step HB1.out hb2); clear hb2)
          | (go_at_call 25; with_reducible refine (h25a _).mono ?_; clear h25a; rintro e w3 ⟨rfl, hb3⟩; have HB3 := Aside0.mk (below_step HB2.out hb3); clear hb3)
          | (go_at_call 26; with_reducible refine (h26 _ _ (by omega)).mono ?_; clear h26; rintro e w5 ⟨rfl, hb5⟩; have HB5 := Aside0.mk (below_step HB3.out hb5); clear hb5)
          | (go_at_call 27; with_reducible refine (h27 _ (hT.kp HB5.out)).mono ?_; clear h27; rintro e w6 ⟨rfl, hb6⟩; have HB6 := Aside0.mk (below_step HB5.out hb6); clear hb6))
        all_goals (go_ret2; exact ⟨rfl, HB6.out⟩)
    · by_cases hk1 : 1 < k
      · replace h0 : ∀ h, (((A[0]'h).toNat : Int) == 48) = false := h0.resolve_left (fun h => h hk1)
        go_enter Tryd.func5, Tryd.ntmps5
        go_wp2_with (first
          | (go_at_call 23; with_reducible refine (h23 _).mono ?_; clear h23; rintro e w1 ⟨rfl, hb1⟩; have HB1 := Aside0.mk hb1; clear hb1)
          | (go_at_call 24; with_reducible refine (h24 _).mono ?_; clear h24; rintro e w2 ⟨rfl, hb2⟩; have HB2 := Aside0.mk (below_step HB1.out hb2); clear hb2)
          | (go_at_call 25; with_reducible refine (h25a _).mono ?_; clear h25a; rintro e w3 ⟨rfl, hb3⟩; have HB3 := Aside0.mk (below_step HB2.out hb3); clear hb3)
          | (go_at_call 25; with_reducible refine (h25b _).mono ?_; clear h25b; rintro e w4 ⟨rfl, hb4⟩; have HB4 := Aside0.mk (below_step HB3.out hb4); clear hb4)
          | (go_at_call 26; with_reducible refine (h26 _ _ (by omega)).mono ?_; clear h26; rintro e w5 ⟨rfl, hb5⟩; have HB5 := Aside0.mk (below_step HB4.out hb5); clear hb5)
          | (go_at_call 27; with_reducible refine (h27 _ (hT.kp HB5.out)).mono ?_; clear h27; rintro e w6 ⟨rfl, hb6⟩; have HB6 := Aside0.mk (below_step HB5.out hb6); clear hb6))
        all_goals (go_ret2; exact ⟨rfl, HB6.out⟩)
      · clear h0
        go_enter Tryd.func5, Tryd.ntmps5
        go_wp2_with (first
          | (go_at_call 23; with_reducible refine (h23 _).mono ?_; clear h23; rintro e w1 ⟨rfl, hb1⟩; have HB1 := Aside0.mk hb1; clear hb1)
          | (go_at_call 24; with_reducible refine (h24 _).mono ?_; clear h24; rintro e w2 ⟨rfl, hb2⟩; have HB2 := Aside0.mk (below_step HB1.out hb2); clear hb2)
          | (go_at_call 25; with_reducible refine (h25a _).mono ?_; clear h25a; rintro e w3 ⟨rfl, hb3⟩; have HB3 := Aside0.mk (below_step HB2.out hb3); clear hb3)
          | (go_at_call 25; with_reducible refine (h25b _).mono ?_; clear h25b; rintro e w4 ⟨rfl, hb4⟩; have HB4 := Aside0.mk (below_step HB3.out hb4); clear hb4)
          | (go_at_call 26; with_reducible refine (h26 _ _ (by omega)).mono ?_; clear h26; rintro e w5 ⟨rfl, hb5⟩; have HB5 := Aside0.mk (below_step HB4.out hb5); clear hb5)
          | (go_at_call 27; with_reducible refine (h27 _ (hT.kp HB5.out)).mono ?_; clear h27; rintro e w6 ⟨rfl, hb6⟩; have HB6 := Aside0.mk (below_step HB5.out hb6); clear hb6))
        all_goals (go_ret2; exact ⟨rfl, HB6.out⟩)
theorem dec_range (hc : c1 = true) (hp : p = false ∨ p = true ∧ c3 = true) (k j : Nat) (hA : A.size = k) (hB : B.size = j) (hk : k ≤ 100) (hj : j ≤ m) (h0 : ¬ 1 < k ∨ ∀ h, (((A[0]'h).toNat : Int) == 48) = false)
    (AB Z ALL ALL' : ByteArray) (hAB : A ++ B = AB) (hABs : AB.size = k + j) (hZ : Z.size = m - j) (hALL : AB ++ Z = ALL) (hALLs : ALL.size ≤ 200) (hALL' : (⟨#[45]⟩ : ByteArray) ++ ALL = ALL') (hT : Tb w)
    (h26 : ∀ (X : Int) W, X = (m : Int) - (j : Int) → Calls Tryd.prog 26 #[.string ⟨#[48]⟩, .int .i64 X] W fun e w' => e = .returned (.string Z) ∧ Below W.heap.size W w')
    (h27 : ∀ W, Tb W → Calls Tryd.prog 27 #[.string (if b = true then ALL' else ALL), .int .i64 10, .int .i64 64] W fun e w' => (∃ N v, e = .returned (.tuple #[.int .i64 v, .iface 104 (.pointer (some ⟨N, 0, none⟩))])) ∧ Below W.heap.size W w') :
    Calls Tryd.prog 5 #[.string T, .int .i64 m] w fun e w' => e = .returned (.tuple #[.int .i64 0, .int .i64 70]) ∧ Below w.heap.size w w' := by
  subst hc
  have wm : IntKind.i64.wrap ((m : Int) - (j : Int)) = (m : Int) - (j : Int) := wrap_small _ (by omega) (by omega)
  have z1 : ¬ 9223372036854775807 < k + j := by omega
  have z2 : ¬ 9223372036854775807 < k + j + (m - j) := by omega
  have z3 : ¬ 9223372036854775807 < 1 + ALL.size := by omega
  have m0 : ¬ (m : Int) < 0 := by omega
  have m9 : ¬ (9 : Int) < (m : Int) := by omega
  cases b
  · simp only [Bool.false_eq_true, if_false, if_true] at h27
    rcases hp with rfl | ⟨rfl, rfl⟩
    · by_cases hk1 : 1 < k
      · replace h0 : ∀ h, (((A[0]'h).toNat : Int) == 48) = false := h0.resolve_left (fun h => h hk1)
        go_enter Tryd.func5, Tryd.ntmps5
        go_wp2_with (first
          | (go_at_call 23; with_reducible refine (h23 _).mono ?_; clear h23; rintro e w1 ⟨rfl, hb1⟩; have HB1 := Aside0.mk hb1; clear hb1)
          | (go_at_call 24; with_reducible refine (h24 _).mono ?_; clear h24; rintro e w2 ⟨rfl, hb2⟩; have HB2 := Aside0.mk (below_step HB1.out hb2); clear hb2)
          | (go_at_call 25; with_reducible refine (h25a _).mono ?_; clear h25a; rintro e w3 ⟨rfl, hb3⟩; have HB3 := Aside0.mk (below_step HB2.out hb3); clear hb3)
          | (go_at_call 26; with_reducible refine (h26 _ _ (by omega)).mono ?_; clear h26; rintro e w5 ⟨rfl, hb5⟩; have HB5 := Aside0.mk (below_step HB3.out hb5); clear hb5)
          | (go_at_call 27; with_reducible refine (h27 _ (hT.kp HB5.out)).mono ?_; clear h27; rintro e w6 ⟨⟨N, v, rfl⟩, hb6⟩; have HB6 := Aside0.mk (below_step HB5.out hb6); clear hb6))
        all_goals (go_ret2; exact ⟨rfl, HB6.out⟩)
      · clear h0
        go_enter Tryd.func5, Tryd.ntmps5
        go_wp2_with (first
          | (go_at_call 23; with_reducible refine (h23 _).mono ?_; clear h23; rintro e w1 ⟨rfl, hb1⟩; have HB1 := Aside0.mk hb1; clear hb1)
          | (go_at_call 24; with_reducible refine (h24 _).mono ?_; clear h24; rintro e w2 ⟨rfl, hb2⟩; have HB2 := Aside0.mk (below_step HB1.out hb2); clear hb2)
          | (go_at_call 25; with_reducible refine (h25a _).mono ?_; clear h25a; rintro e w3 ⟨rfl, hb3⟩; have HB3 := Aside0.mk (below_step HB2.out hb3); clear hb3)
          | (go_at_call 26; with_reducible refine (h26 _ _ (by omega)).mono ?_; clear h26; rintro e w5 ⟨rfl, hb5⟩; have HB5 := Aside0.mk (below_step HB3.out hb5); clear hb5)
          | (go_at_call 27; with_reducible refine (h27 _ (hT.kp HB5.out)).mono ?_; clear h27; rintro e w6 ⟨⟨N, v, rfl⟩, hb6⟩; have HB6 := Aside0.mk (below_step HB5.out hb6); clear hb6))
        all_goals (go_ret2; exact ⟨rfl, HB6.out⟩)
    · by_cases hk1 : 1 < k
      · replace h0 : ∀ h, (((A[0]'h).toNat : Int) == 48) = false := h0.resolve_left (fun h => h hk1)
        go_enter Tryd.func5, Tryd.ntmps5
        go_wp2_with (first
          | (go_at_call 23; with_reducible refine (h23 _).mono ?_; clear h23; rintro e w1 ⟨rfl, hb1⟩; have HB1 := Aside0.mk hb1; clear hb1)
          | (go_at_call 24; with_reducible refine (h24 _).mono ?_; clear h24; rintro e w2 ⟨rfl, hb2⟩; have HB2 := Aside0.mk (below_step HB1.out hb2); clear hb2)
          | (go_at_call 25; with_reducible refine (h25a _).mono ?_; clear h25a; rintro e w3 ⟨rfl, hb3⟩; have HB3 := Aside0.mk (below_step HB2.out hb3); clear hb3)
          | (go_at_call 25; with_reducible refine (h25b _).mono ?_; clear h25b; rintro e w4 ⟨rfl, hb4⟩; have HB4 := Aside0.mk (below_step HB3.out hb4); clear hb4)
          | (go_at_call 26; with_reducible refine (h26 _ _ (by omega)).mono ?_; clear h26; rintro e w5 ⟨rfl, hb5⟩; have HB5 := Aside0.mk (below_step HB4.out hb5); clear hb5)
          | (go_at_call 27; with_reducible refine (h27 _ (hT.kp HB5.out)).mono ?_; clear h27; rintro e w6 ⟨⟨N, v, rfl⟩, hb6⟩; have HB6 := Aside0.mk (below_step HB5.out hb6); clear hb6))
        all_goals (go_ret2; exact ⟨rfl, HB6.out⟩)
      · clear h0
        go_enter Tryd.func5, Tryd.ntmps5
        go_wp2_with (first
          | (go_at_call 23; with_reducible refine (h23 _).mono ?_; clear h23; rintro e w1 ⟨rfl, hb1⟩; have HB1 := Aside0.mk hb1; clear hb1)
          | (go_at_call 24; with_reducible refine (h24 _).mono ?_; clear h24; rintro e w2 ⟨rfl, hb2⟩; have HB2 := Aside0.mk (below_step HB1.out hb2); clear hb2)
          | (go_at_call 25; with_reducible refine (h25a _).mono ?_; clear h25a; rintro e w3 ⟨rfl, hb3⟩; have HB3 := Aside0.mk (below_step HB2.out hb3); clear hb3)
          | (go_at_call 25; with_reducible refine (h25b _).mono ?_; clear h25b; rintro e w4 ⟨rfl, hb4⟩; have HB4 := Aside0.mk (below_step HB3.out hb4); clear hb4)
          | (go_at_call 26; with_reducible refine (h26 _ _ (by omega)).mono ?_; clear h26; rintro e w5 ⟨rfl, hb5⟩; have HB5 := Aside0.mk (below_step HB4.out hb5); clear hb5)
          | (go_at_call 27; with_reducible refine (h27 _ (hT.kp HB5.out)).mono ?_; clear h27; rintro e w6 ⟨⟨N, v, rfl⟩, hb6⟩; have HB6 := Aside0.mk (below_step HB5.out hb6); clear hb6))
        all_goals (go_ret2; exact ⟨rfl, HB6.out⟩)
  · simp only [Bool.false_eq_true, if_false, if_true] at h27
    rcases hp with rfl | ⟨rfl, rfl⟩
    · by_cases hk1 : 1 < k
      · replace h0 : ∀ h, (((A[0]'h).toNat : Int) == 48) = false := h0.resolve_left (fun h => h hk1)
        go_enter Tryd.func5, Tryd.ntmps5
        go_wp2_with (first
          | (go_at_call 23; with_reducible refine (h23 _).mono ?_; clear h23; rintro e w1 ⟨rfl, hb1⟩; have HB1 := Aside0.mk hb1; clear hb1)
          | (go_at_call 24; with_reducible refine (h24 _).mono ?_; clear h24; rintro e w2 ⟨rfl, hb2⟩; have HB2 := Aside0.mk (below_step HB1.out hb2); clear hb2)
          | (go_at_call 25; with_reducible refine (h25a _).mono ?_; clear h25a; rintro e w3 ⟨rfl, hb3⟩; have HB3 := Aside0.mk (below_step HB2.out hb3); clear hb3)
          | (go_at_call 26; with_reducible refine (h26 _ _ (by omega)).mono ?_; clear h26; rintro e w5 ⟨rfl, hb5⟩; have HB5 := Aside0.mk (below_step HB3.out hb5); clear hb5)
          | (go_at_call 27; with_reducible refine (h27 _ (hT.kp HB5.out)).mono ?_; clear h27; rintro e w6 ⟨⟨N, v, rfl⟩, hb6⟩; have HB6 := Aside0.mk (below_step HB5.out hb6); clear hb6))
        all_goals (go_ret2; exact ⟨rfl, HB6.out⟩)
      · clear h0
        go_enter Tryd.func5, Tryd.ntmps5
        go_wp2_with (first
          | (go_at_call 23; with_reducible refine (h23 _).mono ?_; clear h23; rintro e w1 ⟨rfl, hb1⟩; have HB1 := Aside0.mk hb1; clear hb1)
          | (go_at_call 24; with_reducible refine (h24 _).mono ?_; clear h24; rintro e w2 ⟨rfl, hb2⟩; have HB2 := Aside0.mk (below_step HB1.out hb2); clear hb2)
          | (go_at_call 25; with_reducible refine (h25a _).mono ?_; clear h25a; rintro e w3 ⟨rfl, hb3⟩; have HB3 := Aside0.mk (below_step HB2.out hb3); clear hb3)
          | (go_at_call 26; with_reducible refine (h26 _ _ (by omega)).mono ?_; clear h26; rintro e w5 ⟨rfl, hb5⟩; have HB5 := Aside0.mk (below_step HB3.out hb5); clear hb5)
          | (go_at_call 27; with_reducible refine (h27 _ (hT.kp HB5.out)).mono ?_; clear h27; rintro e w6 ⟨⟨N, v, rfl⟩, hb6⟩; have HB6 := Aside0.mk (below_step HB5.out hb6); clear hb6))
        all_goals (go_ret2; exact ⟨rfl, HB6.out⟩)
    · by_cases hk1 : 1 < k
      · replace h0 : ∀ h, (((A[0]'h).toNat : Int) == 48) = false := h0.resolve_left (fun h => h hk1)
        go_enter Tryd.func5, Tryd.ntmps5
        go_wp2_with (first
          | (go_at_call 23; with_reducible refine (h23 _).mono ?_; clear h23; rintro e w1 ⟨rfl, hb1⟩; have HB1 := Aside0.mk hb1; clear hb1)
          | (go_at_call 24; with_reducible refine (h24 _).mono ?_; clear h24; rintro e w2 ⟨rfl, hb2⟩; have HB2 := Aside0.mk (below_step HB1.out hb2); clear hb2)
          | (go_at_call 25; with_reducible refine (h25a _).mono ?_; clear h25a; rintro e w3 ⟨rfl, hb3⟩; have HB3 := Aside0.mk (below_step HB2.out hb3); clear hb3)
          | (go_at_call 25; with_reducible refine (h25b _).mono ?_; clear h25b; rintro e w4 ⟨rfl, hb4⟩; have HB4 := Aside0.mk (below_step HB3.out hb4); clear hb4)
          | (go_at_call 26; with_reducible refine (h26 _ _ (by omega)).mono ?_; clear h26; rintro e w5 ⟨rfl, hb5⟩; have HB5 := Aside0.mk (below_step HB4.out hb5); clear hb5)
          | (go_at_call 27; with_reducible refine (h27 _ (hT.kp HB5.out)).mono ?_; clear h27; rintro e w6 ⟨⟨N, v, rfl⟩, hb6⟩; have HB6 := Aside0.mk (below_step HB5.out hb6); clear hb6))
        all_goals (go_ret2; exact ⟨rfl, HB6.out⟩)
      · clear h0
        go_enter Tryd.func5, Tryd.ntmps5
        go_wp2_with (first
          | (go_at_call 23; with_reducible refine (h23 _).mono ?_; clear h23; rintro e w1 ⟨rfl, hb1⟩; have HB1 := Aside0.mk hb1; clear hb1)
          | (go_at_call 24; with_reducible refine (h24 _).mono ?_; clear h24; rintro e w2 ⟨rfl, hb2⟩; have HB2 := Aside0.mk (below_step HB1.out hb2); clear hb2)
          | (go_at_call 25; with_reducible refine (h25a _).mono ?_; clear h25a; rintro e w3 ⟨rfl, hb3⟩; have HB3 := Aside0.mk (below_step HB2.out hb3); clear hb3)
          | (go_at_call 25; with_reducible refine (h25b _).mono ?_; clear h25b; rintro e w4 ⟨rfl, hb4⟩; have HB4 := Aside0.mk (below_step HB3.out hb4); clear hb4)
          | (go_at_call 26; with_reducible refine (h26 _ _ (by omega)).mono ?_; clear h26; rintro e w5 ⟨rfl, hb5⟩; have HB5 := Aside0.mk (below_step HB4.out hb5); clear hb5)
          | (go_at_call 27; with_reducible refine (h27 _ (hT.kp HB5.out)).mono ?_; clear h27; rintro e w6 ⟨⟨N, v, rfl⟩, hb6⟩; have HB6 := Aside0.mk (below_step HB5.out hb6); clear hb6))
        all_goals (go_ret2; exact ⟨rfl, HB6.out⟩)
end
end Go.Proofs.YtkndegjjiimheaaDoor.Ord
