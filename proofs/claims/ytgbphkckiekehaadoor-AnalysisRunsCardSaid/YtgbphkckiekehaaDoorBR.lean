/- The document's small functions, said plainly; its lower case and folding. -/
import Derived.Test.YtgbphkckiekehaaDoorQRefx
import Derived.Test.YtgbphkckiekehaaDoorBA
import Derived.Test.YtgbphkckiekehaaDoorBB
import Derived.Lib.Small
import Derived.Lib.RuneBytes
import Derived.Test.YtgbphkckiekehaaDoorBC
import Derived.Lib.Strings
import Derived.Test.YtgbphkckiekehaaDoorBD
/- What the printed functions of the document's answer compute, said by the plain functions. -/
namespace Go.Proofs.YtgbphkckiekehaaDoor.FoldBridge
open Go.RowKit Go.Proofs.YtgbphkckiekehaaDoor.QRef Go.Proofs.YtgbphkckiekehaaDoorW.PrintWords Go.Proofs.FoldPlain
set_option linter.unusedSimpArgs false
set_option linter.unusedVariables false

theorem w64 {n : Int} (h0 : 0 ≤ n) (h1 : n ≤ 1000000000) : wrap64 n = n := by unfold wrap64; omega
theorem rd_at (xs : List Int) (i : Nat) : rd xs (i : Int) = xs.getD i 0 := by unfold rd; simp
theorem rd_at1 (xs : List Int) (i : Nat) : rd xs ((i : Int) + 1) = xs.getD (i + 1) 0 := by unfold rd; rw [show ((i : Int) + 1).toNat = i + 1 by omega]
theorem among_l0 (a : Int) (xs : List Int) (hx : xs.length ≤ 1000) : ∀ (m : Nat) (k i : Nat), xs.length ≤ i + 2 * m → m < k → i ≤ xs.length → lecternref05_among.l0 k a xs (i : Int) = some (amongL (xs.drop i) a)
  | m, 0, i, _, hk, _ => by omega
  | 0, k + 1, i, hm, _, hi => by
    obtain rfl : i = xs.length := by omega
    simp only [lecternref05_among.l0]
    rw [w64 (by omega) (by omega), if_neg (by omega), List.drop_length]
    rfl
  | m + 1, k + 1, i, hm, hk, hi => by
    simp only [lecternref05_among.l0]
    rw [w64 (n := (i : Int) + 1) (by omega) (by omega)]
    by_cases h : (i : Int) + 1 < (xs.length : Int)
    · have h1 : i + 1 < xs.length := by omega
      rw [if_pos h, if_pos (by omega), if_pos (by omega), rd_at, rd_at1, if_pos (show (0 : Int) ≤ (i : Int) + 1 by omega), w64 (by omega) (by omega)]
      have e : xs.drop i = xs.getD i 0 :: xs.getD (i + 1) 0 :: xs.drop (i + 2) := by
        rw [List.drop_eq_getElem_cons (show i < xs.length by omega), List.drop_eq_getElem_cons h1]
        simp [List.getD_eq_getElem?_getD, List.getElem?_eq_getElem h1, List.getElem?_eq_getElem (show i < xs.length by omega)]
      have ih := among_l0 a xs hx m k (i + 2) (by omega) (by omega) (by omega)
      rw [show ((i : Int) + 2) = ((i + 2 : Nat) : Int) by omega, ih, e, amongL]
      by_cases c0 : a ≥ xs.getD i 0
      · rw [if_pos c0]
        by_cases c1 : a ≤ xs.getD (i + 1) 0
        · rw [if_pos c1, inR_t c0 c1, Bool.true_or]
        · rw [if_neg c1, inR_f2 (by omega), Bool.false_or]
      · rw [if_neg c0, inR_f1 (by omega), Bool.false_or]
    · rw [if_neg h]
      have e : ∀ ys : List Int, ys.length ≤ 1 → amongL ys a = false := fun ys hy => by
        match ys, hy with
        | [], _ => rfl
        | [_], _ => rfl
      rw [e _ (by simp; omega)]
theorem among_f (k : Nat) (a : Int) (xs : List Int) (hx : xs.length ≤ 1000) (hk : xs.length < k) : lecternref05_among.f k a xs = some (amongL xs a) := by
  unfold lecternref05_among.f
  have := among_l0 a xs hx xs.length k 0 (by omega) hk (by omega)
  simpa using this

theorem amongL_le {a b : Int} : ∀ xs : List Int, amongL xs a = true → (∀ x ∈ xs, 0 ≤ x ∧ x ≤ b) → 0 ≤ a ∧ a ≤ b
  | [], h, _ => by simp [amongL] at h
  | [_], h, _ => by simp [amongL] at h
  | l :: h' :: t, h, hb => by
    rw [amongL, Bool.or_eq_true, inR_iff] at h
    rcases h with h | h
    · have h1 := hb l (by simp); have h2 := hb h' (by simp); omega
    · exact amongL_le t h (fun x hx => hb x (by simp [hx]))
theorem rune_f (a : Int) : lecternref05_Rune.f a = some (Lib.validRune a) := by
  unfold lecternref05_Rune.f Lib.validRune
  (repeat' split) <;> first | rw [decide_eq_true (by omega)] | rw [decide_eq_false (by omega)] | (congr 1; rw [decide_eq_decide]; omega)
theorem form_f (a : Int) (h : Lib.validRune a = true) : lecternref05_Form.f a = some (Lib.encodeRuneZ a) := by
  have hb : (0 ≤ a ∧ a < 55296) ∨ (57343 < a ∧ a ≤ 1114111) := by
    unfold Lib.validRune at h
    simp at h
    omega
  have t1 : ∀ c : Int, Int.tdiv a c = a / c := fun c => Int.tdiv_eq_ediv_of_nonneg (by omega)
  have t2 : ∀ c : Int, Int.tmod a c = a % c := fun c => Int.tmod_eq_emod_of_nonneg (by omega)
  unfold lecternref05_Form.f
  rw [t1, t1, t1, t2, w32 (n := a / 64) (by omega) (by omega), w32 (n := a / 4096) (by omega) (by omega), w32 (n := a / 262144) (by omega) (by omega), Int.tmod_eq_emod_of_nonneg (a := a / 64) (by omega), Int.tmod_eq_emod_of_nonneg (a := a / 4096) (by omega), w32 (n := 192 + a / 64) (by omega) (by omega), w32 (n := 128 + a % 64) (by omega) (by omega), w32 (n := 224 + a / 4096) (by omega) (by omega), w32 (n := 128 + a / 64 % 64) (by omega) (by omega), w32 (n := 240 + a / 262144) (by omega) (by omega), w32 (n := 128 + a / 4096 % 64) (by omega) (by omega)]
  by_cases c1 : a < 128
  · rw [if_pos c1, Lib.encodeRuneZ_one (by omega) (by omega)]; congr 2; omega
  · rw [if_neg c1]
    by_cases c2 : a < 2048
    · rw [if_pos c2, Lib.encodeRuneZ_two (by omega) (by omega), show (192 + a / 64) % 256 = 192 + a / 64 by omega, show (128 + a % 64) % 256 = 128 + a % 64 by omega]
    · rw [if_neg c2]
      by_cases c3 : a < 65536
      · rw [if_pos c3, Lib.encodeRuneZ_three (by omega), show (224 + a / 4096) % 256 = 224 + a / 4096 by omega, show (128 + a / 64 % 64) % 256 = 128 + a / 64 % 64 by omega, show (128 + a % 64) % 256 = 128 + a % 64 by omega]
      · rw [if_neg c3, Lib.encodeRuneZ_four (by omega) (by omega), show (240 + a / 262144) % 256 = 240 + a / 262144 by omega, show (128 + a / 4096 % 64) % 256 = 128 + a / 4096 % 64 by omega, show (128 + a / 64 % 64) % 256 = 128 + a / 64 % 64 by omega, show (128 + a % 64) % 256 = 128 + a % 64 by omega]

end Go.Proofs.YtgbphkckiekehaaDoor.FoldBridge

set_option linter.unusedVariables false
set_option linter.unusedSimpArgs false
namespace Go.Proofs.YtgbphkckiekehaaDoor.QRef
open Go.RowKit Go.Proofs.YtgbphkckiekehaaDoorW.PrintWords Go.Proofs.YtgbphkckiekehaaDoorW.PrintLast

def lecternref05_Lower.f (k : Nat) (a0 : Int) : Option (Int) := (lecternref05_among.f k a0 (([65, 90, 192, 214, 216, 222, 913, 929, 931, 939, 1040, 1071] : List Int))).bind fun t180 => (if t180 = true then (some (wrap32 (a0 + 32))) else ((lecternref05_among.f k a0 (([256, 303, 306, 311, 330, 375, 1120, 1153, 1162, 1215, 1232, 1327] : List Int))).bind fun t184 => (if t184 = true then (some (wrap32 ((wrap32 (a0 - (Int.tmod a0 2))) + 1))) else ((lecternref05_among.f k a0 (([313, 328, 377, 382, 1217, 1230] : List Int))).bind fun t188 => (if t188 = true then (some (wrap32 (a0 + (Int.tmod a0 2)))) else ((lecternref05_among.f k a0 (([904, 906] : List Int))).bind fun t192 => (if t192 = true then (some (wrap32 (a0 + 37))) else ((lecternref05_among.f k a0 (([910, 911] : List Int))).bind fun t196 => (if t196 = true then (some (wrap32 (a0 + 63))) else ((lecternref05_among.f k a0 (([1024, 1039] : List Int))).bind fun t200 => (if t200 = true then (some (wrap32 (a0 + 80))) else (if a0 = 376 then (some 255) else (if a0 = 1216 then (some 1231) else (if a0 = 902 then (some 940) else (if a0 = 908 then (some 972) else (some a0))))))))))))))))
theorem lecternref05_Lower.mono : ∀ a0 k, LeO (lecternref05_Lower.f k a0) (lecternref05_Lower.f (k + 1) a0) := by
  intro a0 k
  unfold lecternref05_Lower.f
  repeat' first
      | (with_reducible exact lecternref05_among.mono _ _ _)
      | (with_reducible exact LeO.refl _)
      | (with_reducible exact LeO.none _)
      | (with_reducible refine LeO.ite ?_ ?_)
      | (with_reducible refine LeO.bind ?_ (fun _ => ?_))
      | exact lecternref05_among.mono _ _ _
      | exact LeO.none _
      | refine LeO.ite ?_ ?_
      | refine LeO.bind ?_ (fun _ => ?_)

theorem ints_new32 (W : World) (xs : List Int) (h : xs.length ≤ 9223372036854775807) : Kd.C (Kd.int .i32) (W.alloc (.cells (xs.map (Value.int .i32)).toArray 21)) (some ⟨W.heap.size, 0, none⟩) xs.length xs := by
  have h1 := OwnRow.lit (R := (Kd.int .i32).K (W.alloc (.cells (xs.map (Value.int .i32)).toArray 21))) (e := 21) (size := 1) (ps := xs) (inner := xs.map (Value.int .i32)) W W.heap.size (Kd.reps_scalar (enc := Value.int .i32) xs) (Nat.le_refl _) h
  obtain ⟨A, c, he, hl, hr⟩ := OwnRow.reads h1
  injection he with e1 e2 e3
  subst e1
  exact hr
theorem among_lit (k : Nat) (a : Int) (xs : List Int) (t : Bool) (h : lecternref05_among.f k a xs = some t) (hx : xs.length ≤ 1000) (n : Nat) (hn : n = xs.length) (cs : Array Value) (hcs : cs = (xs.map (Value.int .i32)).toArray) (W : World) :
    Calls Tryd.prog 68 #[.int .i32 a, .slice (some ⟨W.heap.size, 0, none⟩) n n] (W.alloc (.cells cs 21)) fun e w' => e = .returned (.bool t) ∧ Below W.heap.size W w' := by
  subst hn
  subst hcs
  exact (lecternref05_among.calls k a (some ⟨W.heap.size, 0, none⟩) xs.length xs t _ (ints_new32 W xs (by omega)) (Nat.le_refl _) h).mono fun _ _ ⟨h1, h2⟩ => ⟨h1, below_step (below_alloc (Below.refl _ _) _) (Go.Proofs.YtgbphkckiekehaaDoor.FoldP.drawn_below h2)⟩
set_option maxHeartbeats 8000000 in
set_option maxRecDepth 100000 in
theorem lecternref05_Lower.calls (k : Nat) (a0 : Int) (r : Int) (w : World) (h : lecternref05_Lower.f k a0 = some r) :
    Calls Tryd.prog 53 #[.int .i32 a0] w fun e w' => e = .returned (.int .i32 r) ∧ Below w.heap.size w w' := by
  have HB := Aside0.mk (Below.refl w.heap.size w)
  unfold lecternref05_Lower.f at h
  replace h := Option.bind_eq_some_iff.mp h
  obtain ⟨t1, A1, h⟩ := h
  have m1 : ∀ W : World, Calls Tryd.prog 68 #[.int .i32 a0, .slice (some ⟨W.heap.size, 0, none⟩) 12 12] (W.alloc (.cells #[.int .i32 65, .int .i32 90, .int .i32 192, .int .i32 214, .int .i32 216, .int .i32 222, .int .i32 913, .int .i32 929, .int .i32 931, .int .i32 939, .int .i32 1040, .int .i32 1071] 21)) fun e w' => e = .returned (.bool t1) ∧ Below W.heap.size W w' := among_lit k a0 _ t1 A1 (by decide) 12 rfl _ rfl
  clear A1
  cases t1 with
  | true =>
    rw [if_pos rfl] at h
    replace h := Option.some.inj h
    subst h
    go_enter Tryd.func53, Tryd.ntmps53
    go_wp2_with (first
      | (go_at_call 68; ((with_reducible refine (m1 _).mono ?_); rintro e w1 ⟨rfl, hb⟩; have n0_ := Aside0.mk (below_step HB.out hb); clear HB hb; have HB := n0_; clear n0_)))
    go_ret
    exact ⟨by first | rfl | (simp; done) | (simp [*]; done), HB.out⟩
  | false =>
    rw [if_neg (by decide)] at h
    replace h := Option.bind_eq_some_iff.mp h
    obtain ⟨t2, A2, h⟩ := h
    have m2 : ∀ W : World, Calls Tryd.prog 68 #[.int .i32 a0, .slice (some ⟨W.heap.size, 0, none⟩) 12 12] (W.alloc (.cells #[.int .i32 256, .int .i32 303, .int .i32 306, .int .i32 311, .int .i32 330, .int .i32 375, .int .i32 1120, .int .i32 1153, .int .i32 1162, .int .i32 1215, .int .i32 1232, .int .i32 1327] 21)) fun e w' => e = .returned (.bool t2) ∧ Below W.heap.size W w' := among_lit k a0 _ t2 A2 (by decide) 12 rfl _ rfl
    clear A2
    cases t2 with
    | true =>
      rw [if_pos rfl] at h
      replace h := Option.some.inj h
      subst h
      go_enter Tryd.func53, Tryd.ntmps53
      go_wp2_with (first
        | (go_at_call 68; ((with_reducible refine (m1 _).mono ?_); rintro e w1 ⟨rfl, hb⟩; have n0_ := Aside0.mk (below_step HB.out hb); clear HB hb; have HB := n0_; clear n0_))
        | (go_at_call 68; ((with_reducible refine (m2 _).mono ?_); rintro e w1 ⟨rfl, hb⟩; have n0_ := Aside0.mk (below_step HB.out hb); clear HB hb; have HB := n0_; clear n0_)))
      go_ret
      exact ⟨by first | rfl | (simp; done) | (simp [*]; done), HB.out⟩
    | false =>
      rw [if_neg (by decide)] at h
      replace h := Option.bind_eq_some_iff.mp h
      obtain ⟨t3, A3, h⟩ := h
      have m3 : ∀ W : World, Calls Tryd.prog 68 #[.int .i32 a0, .slice (some ⟨W.heap.size, 0, none⟩) 6 6] (W.alloc (.cells #[.int .i32 313, .int .i32 328, .int .i32 377, .int .i32 382, .int .i32 1217, .int .i32 1230] 21)) fun e w' => e = .returned (.bool t3) ∧ Below W.heap.size W w' := among_lit k a0 _ t3 A3 (by decide) 6 rfl _ rfl
      clear A3
      cases t3 with
      | true =>
        rw [if_pos rfl] at h
        replace h := Option.some.inj h
        subst h
        go_enter Tryd.func53, Tryd.ntmps53
        go_wp2_with (first
          | (go_at_call 68; ((with_reducible refine (m1 _).mono ?_); rintro e w1 ⟨rfl, hb⟩; have n0_ := Aside0.mk (below_step HB.out hb); clear HB hb; have HB := n0_; clear n0_))
          | (go_at_call 68; ((with_reducible refine (m2 _).mono ?_); rintro e w1 ⟨rfl, hb⟩; have n0_ := Aside0.mk (below_step HB.out hb); clear HB hb; have HB := n0_; clear n0_))
          | (go_at_call 68; ((with_reducible refine (m3 _).mono ?_); rintro e w1 ⟨rfl, hb⟩; have n0_ := Aside0.mk (below_step HB.out hb); clear HB hb; have HB := n0_; clear n0_)))
        go_ret
        exact ⟨by first | rfl | (simp; done) | (simp [*]; done), HB.out⟩
      | false =>
        rw [if_neg (by decide)] at h
        replace h := Option.bind_eq_some_iff.mp h
        obtain ⟨t4, A4, h⟩ := h
        have m4 : ∀ W : World, Calls Tryd.prog 68 #[.int .i32 a0, .slice (some ⟨W.heap.size, 0, none⟩) 2 2] (W.alloc (.cells #[.int .i32 904, .int .i32 906] 21)) fun e w' => e = .returned (.bool t4) ∧ Below W.heap.size W w' := among_lit k a0 _ t4 A4 (by decide) 2 rfl _ rfl
        clear A4
        cases t4 with
        | true =>
          rw [if_pos rfl] at h
          replace h := Option.some.inj h
          subst h
          go_enter Tryd.func53, Tryd.ntmps53
          go_wp2_with (first
            | (go_at_call 68; ((with_reducible refine (m1 _).mono ?_); rintro e w1 ⟨rfl, hb⟩; have n0_ := Aside0.mk (below_step HB.out hb); clear HB hb; have HB := n0_; clear n0_))
            | (go_at_call 68; ((with_reducible refine (m2 _).mono ?_); rintro e w1 ⟨rfl, hb⟩; have n0_ := Aside0.mk (below_step HB.out hb); clear HB hb; have HB := n0_; clear n0_))
            | (go_at_call 68; ((with_reducible refine (m3 _).mono ?_); rintro e w1 ⟨rfl, hb⟩; have n0_ := Aside0.mk (below_step HB.out hb); clear HB hb; have HB := n0_; clear n0_))
            | (go_at_call 68; ((with_reducible refine (m4 _).mono ?_); rintro e w1 ⟨rfl, hb⟩; have n0_ := Aside0.mk (below_step HB.out hb); clear HB hb; have HB := n0_; clear n0_)))
          go_ret
          exact ⟨by first | rfl | (simp; done) | (simp [*]; done), HB.out⟩
        | false =>
          rw [if_neg (by decide)] at h
          replace h := Option.bind_eq_some_iff.mp h
          obtain ⟨t5, A5, h⟩ := h
          have m5 : ∀ W : World, Calls Tryd.prog 68 #[.int .i32 a0, .slice (some ⟨W.heap.size, 0, none⟩) 2 2] (W.alloc (.cells #[.int .i32 910, .int .i32 911] 21)) fun e w' => e = .returned (.bool t5) ∧ Below W.heap.size W w' := among_lit k a0 _ t5 A5 (by decide) 2 rfl _ rfl
          clear A5
          cases t5 with
          | true =>
            rw [if_pos rfl] at h
            replace h := Option.some.inj h
            subst h
            go_enter Tryd.func53, Tryd.ntmps53
            go_wp2_with (first
              | (go_at_call 68; ((with_reducible refine (m1 _).mono ?_); rintro e w1 ⟨rfl, hb⟩; have n0_ := Aside0.mk (below_step HB.out hb); clear HB hb; have HB := n0_; clear n0_))
              | (go_at_call 68; ((with_reducible refine (m2 _).mono ?_); rintro e w1 ⟨rfl, hb⟩; have n0_ := Aside0.mk (below_step HB.out hb); clear HB hb; have HB := n0_; clear n0_))
              | (go_at_call 68; ((with_reducible refine (m3 _).mono ?_); rintro e w1 ⟨rfl, hb⟩; have n0_ := Aside0.mk (below_step HB.out hb); clear HB hb; have HB := n0_; clear n0_))
              | (go_at_call 68; ((with_reducible refine (m4 _).mono ?_); rintro e w1 ⟨rfl, hb⟩; have n0_ := Aside0.mk (below_step HB.out hb); clear HB hb; have HB := n0_; clear n0_))
              | (go_at_call 68; ((with_reducible refine (m5 _).mono ?_); rintro e w1 ⟨rfl, hb⟩; have n0_ := Aside0.mk (below_step HB.out hb); clear HB hb; have HB := n0_; clear n0_)))
            go_ret
            exact ⟨by first | rfl | (simp; done) | (simp [*]; done), HB.out⟩
          | false =>
            rw [if_neg (by decide)] at h
            replace h := Option.bind_eq_some_iff.mp h
            obtain ⟨t6, A6, h⟩ := h
            have m6 : ∀ W : World, Calls Tryd.prog 68 #[.int .i32 a0, .slice (some ⟨W.heap.size, 0, none⟩) 2 2] (W.alloc (.cells #[.int .i32 1024, .int .i32 1039] 21)) fun e w' => e = .returned (.bool t6) ∧ Below W.heap.size W w' := among_lit k a0 _ t6 A6 (by decide) 2 rfl _ rfl
            clear A6
            cases t6 with
            | true =>
              rw [if_pos rfl] at h
              replace h := Option.some.inj h
              subst h
              go_enter Tryd.func53, Tryd.ntmps53
              go_wp2_with (first
                | (go_at_call 68; ((with_reducible refine (m1 _).mono ?_); rintro e w1 ⟨rfl, hb⟩; have n0_ := Aside0.mk (below_step HB.out hb); clear HB hb; have HB := n0_; clear n0_))
                | (go_at_call 68; ((with_reducible refine (m2 _).mono ?_); rintro e w1 ⟨rfl, hb⟩; have n0_ := Aside0.mk (below_step HB.out hb); clear HB hb; have HB := n0_; clear n0_))
                | (go_at_call 68; ((with_reducible refine (m3 _).mono ?_); rintro e w1 ⟨rfl, hb⟩; have n0_ := Aside0.mk (below_step HB.out hb); clear HB hb; have HB := n0_; clear n0_))
                | (go_at_call 68; ((with_reducible refine (m4 _).mono ?_); rintro e w1 ⟨rfl, hb⟩; have n0_ := Aside0.mk (below_step HB.out hb); clear HB hb; have HB := n0_; clear n0_))
                | (go_at_call 68; ((with_reducible refine (m5 _).mono ?_); rintro e w1 ⟨rfl, hb⟩; have n0_ := Aside0.mk (below_step HB.out hb); clear HB hb; have HB := n0_; clear n0_))
                | (go_at_call 68; ((with_reducible refine (m6 _).mono ?_); rintro e w1 ⟨rfl, hb⟩; have n0_ := Aside0.mk (below_step HB.out hb); clear HB hb; have HB := n0_; clear n0_)))
              go_ret
              exact ⟨by first | rfl | (simp; done) | (simp [*]; done), HB.out⟩
            | false =>
              rw [if_neg (by decide)] at h
              by_cases c0 : a0 = 376
              · rw [if_pos c0] at h
                replace h := Option.some.inj h
                subst h
                subst c0
                go_enter Tryd.func53, Tryd.ntmps53
                go_wp2_with (first
                  | (go_at_call 68; ((with_reducible refine (m1 _).mono ?_); rintro e w1 ⟨rfl, hb⟩; have n0_ := Aside0.mk (below_step HB.out hb); clear HB hb; have HB := n0_; clear n0_))
                  | (go_at_call 68; ((with_reducible refine (m2 _).mono ?_); rintro e w1 ⟨rfl, hb⟩; have n0_ := Aside0.mk (below_step HB.out hb); clear HB hb; have HB := n0_; clear n0_))
                  | (go_at_call 68; ((with_reducible refine (m3 _).mono ?_); rintro e w1 ⟨rfl, hb⟩; have n0_ := Aside0.mk (below_step HB.out hb); clear HB hb; have HB := n0_; clear n0_))
                  | (go_at_call 68; ((with_reducible refine (m4 _).mono ?_); rintro e w1 ⟨rfl, hb⟩; have n0_ := Aside0.mk (below_step HB.out hb); clear HB hb; have HB := n0_; clear n0_))
                  | (go_at_call 68; ((with_reducible refine (m5 _).mono ?_); rintro e w1 ⟨rfl, hb⟩; have n0_ := Aside0.mk (below_step HB.out hb); clear HB hb; have HB := n0_; clear n0_))
                  | (go_at_call 68; ((with_reducible refine (m6 _).mono ?_); rintro e w1 ⟨rfl, hb⟩; have n0_ := Aside0.mk (below_step HB.out hb); clear HB hb; have HB := n0_; clear n0_)))
                go_ret
                exact ⟨by first | rfl | (simp; done) | (simp [*]; done), HB.out⟩
              rw [if_neg c0] at h
              have b0 : (a0 == 376) = false := beq_eq_false_iff_ne.2 c0
              by_cases c1 : a0 = 1216
              · rw [if_pos c1] at h
                replace h := Option.some.inj h
                subst h
                subst c1
                go_enter Tryd.func53, Tryd.ntmps53
                go_wp2_with (first
                  | (go_at_call 68; ((with_reducible refine (m1 _).mono ?_); rintro e w1 ⟨rfl, hb⟩; have n0_ := Aside0.mk (below_step HB.out hb); clear HB hb; have HB := n0_; clear n0_))
                  | (go_at_call 68; ((with_reducible refine (m2 _).mono ?_); rintro e w1 ⟨rfl, hb⟩; have n0_ := Aside0.mk (below_step HB.out hb); clear HB hb; have HB := n0_; clear n0_))
                  | (go_at_call 68; ((with_reducible refine (m3 _).mono ?_); rintro e w1 ⟨rfl, hb⟩; have n0_ := Aside0.mk (below_step HB.out hb); clear HB hb; have HB := n0_; clear n0_))
                  | (go_at_call 68; ((with_reducible refine (m4 _).mono ?_); rintro e w1 ⟨rfl, hb⟩; have n0_ := Aside0.mk (below_step HB.out hb); clear HB hb; have HB := n0_; clear n0_))
                  | (go_at_call 68; ((with_reducible refine (m5 _).mono ?_); rintro e w1 ⟨rfl, hb⟩; have n0_ := Aside0.mk (below_step HB.out hb); clear HB hb; have HB := n0_; clear n0_))
                  | (go_at_call 68; ((with_reducible refine (m6 _).mono ?_); rintro e w1 ⟨rfl, hb⟩; have n0_ := Aside0.mk (below_step HB.out hb); clear HB hb; have HB := n0_; clear n0_)))
                go_ret
                exact ⟨by first | rfl | (simp; done) | (simp [*]; done), HB.out⟩
              rw [if_neg c1] at h
              have b1 : (a0 == 1216) = false := beq_eq_false_iff_ne.2 c1
              by_cases c2 : a0 = 902
              · rw [if_pos c2] at h
                replace h := Option.some.inj h
                subst h
                subst c2
                go_enter Tryd.func53, Tryd.ntmps53
                go_wp2_with (first
                  | (go_at_call 68; ((with_reducible refine (m1 _).mono ?_); rintro e w1 ⟨rfl, hb⟩; have n0_ := Aside0.mk (below_step HB.out hb); clear HB hb; have HB := n0_; clear n0_))
                  | (go_at_call 68; ((with_reducible refine (m2 _).mono ?_); rintro e w1 ⟨rfl, hb⟩; have n0_ := Aside0.mk (below_step HB.out hb); clear HB hb; have HB := n0_; clear n0_))
                  | (go_at_call 68; ((with_reducible refine (m3 _).mono ?_); rintro e w1 ⟨rfl, hb⟩; have n0_ := Aside0.mk (below_step HB.out hb); clear HB hb; have HB := n0_; clear n0_))
                  | (go_at_call 68; ((with_reducible refine (m4 _).mono ?_); rintro e w1 ⟨rfl, hb⟩; have n0_ := Aside0.mk (below_step HB.out hb); clear HB hb; have HB := n0_; clear n0_))
                  | (go_at_call 68; ((with_reducible refine (m5 _).mono ?_); rintro e w1 ⟨rfl, hb⟩; have n0_ := Aside0.mk (below_step HB.out hb); clear HB hb; have HB := n0_; clear n0_))
                  | (go_at_call 68; ((with_reducible refine (m6 _).mono ?_); rintro e w1 ⟨rfl, hb⟩; have n0_ := Aside0.mk (below_step HB.out hb); clear HB hb; have HB := n0_; clear n0_)))
                go_ret
                exact ⟨by first | rfl | (simp; done) | (simp [*]; done), HB.out⟩
              rw [if_neg c2] at h
              have b2 : (a0 == 902) = false := beq_eq_false_iff_ne.2 c2
              by_cases c3 : a0 = 908
              · rw [if_pos c3] at h
                replace h := Option.some.inj h
                subst h
                subst c3
                go_enter Tryd.func53, Tryd.ntmps53
                go_wp2_with (first
                  | (go_at_call 68; ((with_reducible refine (m1 _).mono ?_); rintro e w1 ⟨rfl, hb⟩; have n0_ := Aside0.mk (below_step HB.out hb); clear HB hb; have HB := n0_; clear n0_))
                  | (go_at_call 68; ((with_reducible refine (m2 _).mono ?_); rintro e w1 ⟨rfl, hb⟩; have n0_ := Aside0.mk (below_step HB.out hb); clear HB hb; have HB := n0_; clear n0_))
                  | (go_at_call 68; ((with_reducible refine (m3 _).mono ?_); rintro e w1 ⟨rfl, hb⟩; have n0_ := Aside0.mk (below_step HB.out hb); clear HB hb; have HB := n0_; clear n0_))
                  | (go_at_call 68; ((with_reducible refine (m4 _).mono ?_); rintro e w1 ⟨rfl, hb⟩; have n0_ := Aside0.mk (below_step HB.out hb); clear HB hb; have HB := n0_; clear n0_))
                  | (go_at_call 68; ((with_reducible refine (m5 _).mono ?_); rintro e w1 ⟨rfl, hb⟩; have n0_ := Aside0.mk (below_step HB.out hb); clear HB hb; have HB := n0_; clear n0_))
                  | (go_at_call 68; ((with_reducible refine (m6 _).mono ?_); rintro e w1 ⟨rfl, hb⟩; have n0_ := Aside0.mk (below_step HB.out hb); clear HB hb; have HB := n0_; clear n0_)))
                go_ret
                exact ⟨by first | rfl | (simp; done) | (simp [*]; done), HB.out⟩
              rw [if_neg c3] at h
              have b3 : (a0 == 908) = false := beq_eq_false_iff_ne.2 c3
              replace h := Option.some.inj h
              subst h
              go_enter Tryd.func53, Tryd.ntmps53
              go_wp2_with (first
                | (go_at_call 68; ((with_reducible refine (m1 _).mono ?_); rintro e w1 ⟨rfl, hb⟩; have n0_ := Aside0.mk (below_step HB.out hb); clear HB hb; have HB := n0_; clear n0_))
                | (go_at_call 68; ((with_reducible refine (m2 _).mono ?_); rintro e w1 ⟨rfl, hb⟩; have n0_ := Aside0.mk (below_step HB.out hb); clear HB hb; have HB := n0_; clear n0_))
                | (go_at_call 68; ((with_reducible refine (m3 _).mono ?_); rintro e w1 ⟨rfl, hb⟩; have n0_ := Aside0.mk (below_step HB.out hb); clear HB hb; have HB := n0_; clear n0_))
                | (go_at_call 68; ((with_reducible refine (m4 _).mono ?_); rintro e w1 ⟨rfl, hb⟩; have n0_ := Aside0.mk (below_step HB.out hb); clear HB hb; have HB := n0_; clear n0_))
                | (go_at_call 68; ((with_reducible refine (m5 _).mono ?_); rintro e w1 ⟨rfl, hb⟩; have n0_ := Aside0.mk (below_step HB.out hb); clear HB hb; have HB := n0_; clear n0_))
                | (go_at_call 68; ((with_reducible refine (m6 _).mono ?_); rintro e w1 ⟨rfl, hb⟩; have n0_ := Aside0.mk (below_step HB.out hb); clear HB hb; have HB := n0_; clear n0_)))
              go_ret
              exact ⟨by first | rfl | (simp; done) | (simp [*]; done), HB.out⟩

/-! ### lecternref05_Fold: function 22 -/
def lecternref05_Fold.l0 : Nat → ByteArray → List Int → Int → Option (ByteArray)
  | 0, _, _, _ => none
  | k + 1, x0, x3, x4 => if x4 < (x0.size : Int) then ((lecternref05_Next.f k x0 x4).bind fun bt201 => ((lecternref05_Lower.f k bt201.1).bind fun t203 => (if t203 = bt201.1 then (if 0 ≤ x4 then (if x4 ≤ (wrap64 (x4 + bt201.2)) then (if (wrap64 (x4 + bt201.2)) ≤ (x0.size : Int) then (if x3.length + (x0.extract (x4 : Int).toNat ((wrap64 (x4 + bt201.2)) : Int).toNat).size < 140737488355328 then (lecternref05_Fold.l0 k x0 (x3 ++ bytesOf (x0.extract (x4 : Int).toNat ((wrap64 (x4 + bt201.2)) : Int).toNat)) (wrap64 (x4 + bt201.2))) else (none)) else (none)) else (none)) else (none)) else ((lecternref05_Lower.f k bt201.1).bind fun t207 => ((lecternref05_Form.f t207).bind fun t208 => (if x3.length + t208.length < 140737488355328 then (lecternref05_Fold.l0 k x0 (x3 ++ t208) (wrap64 (x4 + bt201.2))) else (none))))))) else (some (strOfNums x3))
def lecternref05_Fold.f (k : Nat) (a0 : ByteArray) : Option (ByteArray) := lecternref05_Fold.l0 k a0 ([] : List Int) 0
theorem lecternref05_Fold.mono_l : ∀ k, (∀ y0 y1 y2, LeO (lecternref05_Fold.l0 k y0 y1 y2) (lecternref05_Fold.l0 (k + 1) y0 y1 y2))
  | 0 => fun _ _ _ r h => by simp [lecternref05_Fold.l0] at h
  | k + 1 => by
    have ih0 := lecternref05_Fold.mono_l k
    · intro y0 y1 y2
      unfold lecternref05_Fold.l0
      repeat' first
      | (with_reducible exact ih0 _ _ _)
      | (with_reducible exact lecternref05_Lower.mono _ _)
      | (with_reducible exact lecternref05_Next.mono _ _ _)
      | (with_reducible exact LeO.refl _)
      | (with_reducible exact LeO.none _)
      | (with_reducible refine LeO.ite ?_ ?_)
      | (with_reducible refine LeO.bind ?_ (fun _ => ?_))
      | exact ih0 _ _ _
      | exact lecternref05_Lower.mono _ _
      | exact lecternref05_Next.mono _ _ _
      | exact LeO.none _
      | refine LeO.ite ?_ ?_
      | refine LeO.bind ?_ (fun _ => ?_)
theorem lecternref05_Fold.mono : ∀ a0 k, LeO (lecternref05_Fold.f k a0) (lecternref05_Fold.f (k + 1) a0) := by
  intro a0 k
  have ih0 := lecternref05_Fold.mono_l k
  unfold lecternref05_Fold.f
  repeat' first
      | (with_reducible exact ih0 _ _ _)
      | (with_reducible exact lecternref05_Lower.mono _ _)
      | (with_reducible exact lecternref05_Next.mono _ _ _)
      | (with_reducible exact LeO.refl _)
      | (with_reducible exact LeO.none _)
      | (with_reducible refine LeO.ite ?_ ?_)
      | (with_reducible refine LeO.bind ?_ (fun _ => ?_))
      | exact ih0 _ _ _
      | exact lecternref05_Lower.mono _ _
      | exact lecternref05_Next.mono _ _ _
      | exact LeO.none _
      | refine LeO.ite ?_ ?_
      | refine LeO.bind ?_ (fun _ => ?_)
set_option maxHeartbeats 8000000 in
set_option maxRecDepth 100000 in
theorem lecternref05_Fold.calls (k : Nat) (a0 : ByteArray) (r : ByteArray) (w : World) (h : lecternref05_Fold.f k a0 = some r) :
    Calls Tryd.prog 22 #[.string a0] w fun e w' => e = .returned (.string r) ∧ Below w.heap.size w w' := by
  have HB := Aside0.mk (Below.refl w.heap.size w)
  have H : (lecternref05_Fold.l0 k a0 ([] : List Int) 0) = some r := h
  clear h
  have H' := Aside0.mk H
  clear H
  go_enter Tryd.func22, Tryd.ntmps22
  go_wp2
  go_loopg [3, 4] k (fun kq v3 v4 w' => ∃ (x3_1 : List Int) (x4_1 : Int), v4 = .int .i64 x4_1 ∧ Aside0 (lecternref05_Fold.l0 kq a0 x3_1 x4_1 = some r) ∧ Aside0 (kq ≤ k) ∧ Aside0 (Kd.R (Kd.int .u8) 5 w' w.heap.size (fun _ => True) v3 x3_1) ∧ Aside0 (Below w.heap.size w w'))
  case atStart => exact ⟨(([] : List Int)), (0), (by first | rfl | (simp; done) | (simp [*]; done)), H', ⟨Nat.le_refl _⟩, ⟨by first | exact Kd.R_nil _ _ _ _ _ | exact Kd.N_nil _ _ _ _ _ | exact Kd.V_nil _ _ _ _ _ | exact Kd.Q_nil _ _ _ _ _ | exact Kd.S_nil _ _ _ _ _⟩, ⟨by repeat (first | (with_reducible first | exact HB.out | apply below_alloc | apply pw_below_drewN | apply below_drew1) | exact HB.out)⟩⟩
  case round =>
    clear H'
    obtain ⟨x3_1, x4_1, rfl, HA, HK1, HO_3, HB⟩ := hrel
    cases gk with
    | zero => exact absurd HA.out (by simp [lecternref05_Fold.l0])
    | succ k1 =>
      have H := HA.out
      clear HA
      simp only [lecternref05_Fold.l0] at H
      by_cases c2 : x4_1 < (a0.size : Int)
      · rw [if_pos c2] at H
        have c2b0 : decide (x4_1 < (a0.size : Int)) = true := decide_eq_true c2
        clear c2
        replace H := Option.bind_eq_some_iff.mp H
        obtain ⟨⟨t201, t202⟩, A30, H⟩ := H
        replace H : ((lecternref05_Lower.f k1 t201).bind fun t203 => (if t203 = t201 then (if 0 ≤ x4_1 then (if x4_1 ≤ (wrap64 (x4_1 + t202)) then (if (wrap64 (x4_1 + t202)) ≤ (a0.size : Int) then (if x3_1.length + (a0.extract (x4_1 : Int).toNat ((wrap64 (x4_1 + t202)) : Int).toNat).size < 140737488355328 then (lecternref05_Fold.l0 k1 a0 (x3_1 ++ bytesOf (a0.extract (x4_1 : Int).toNat ((wrap64 (x4_1 + t202)) : Int).toNat)) (wrap64 (x4_1 + t202))) else (none)) else (none)) else (none)) else (none)) else ((lecternref05_Lower.f k1 t201).bind fun t207 => ((lecternref05_Form.f t207).bind fun t208 => (if x3_1.length + t208.length < 140737488355328 then (lecternref05_Fold.l0 k1 a0 (x3_1 ++ t208) (wrap64 (x4_1 + t202))) else (none)))))) = some r := H
        have A3 := Aside0.mk A30
        clear A30
        replace H := Option.bind_eq_some_iff.mp H
        obtain ⟨t203, A40, H⟩ := H
        replace H : (if t203 = t201 then (if 0 ≤ x4_1 then (if x4_1 ≤ (wrap64 (x4_1 + t202)) then (if (wrap64 (x4_1 + t202)) ≤ (a0.size : Int) then (if x3_1.length + (a0.extract (x4_1 : Int).toNat ((wrap64 (x4_1 + t202)) : Int).toNat).size < 140737488355328 then (lecternref05_Fold.l0 k1 a0 (x3_1 ++ bytesOf (a0.extract (x4_1 : Int).toNat ((wrap64 (x4_1 + t202)) : Int).toNat)) (wrap64 (x4_1 + t202))) else (none)) else (none)) else (none)) else (none)) else ((lecternref05_Lower.f k1 t201).bind fun t207 => ((lecternref05_Form.f t207).bind fun t208 => (if x3_1.length + t208.length < 140737488355328 then (lecternref05_Fold.l0 k1 a0 (x3_1 ++ t208) (wrap64 (x4_1 + t202))) else (none))))) = some r := H
        have A4 := Aside0.mk A40
        clear A40
        by_cases c5 : t203 = t201
        · rw [if_pos c5] at H
          have c5b0 : (t203 == t201) = true := beq_iff_eq.mpr c5
          have c5b1 : (t203 != t201) = false := bne_eq_false_iff_eq.mpr c5
          clear c5
          by_cases c6 : 0 ≤ x4_1
          · rw [if_pos c6] at H
            have c6b0 := eq_true c6
            have c6b1 : decide (0 ≤ x4_1) = true := decide_eq_true c6
            clear c6
            by_cases c7 : x4_1 ≤ (wrap64 (x4_1 + t202))
            · rw [if_pos c7] at H
              have c7b0 := eq_true c7
              have c7b1 : decide (x4_1 ≤ (wrap64 (x4_1 + t202))) = true := decide_eq_true c7
              by_cases c8 : (wrap64 (x4_1 + t202)) ≤ (a0.size : Int)
              · rw [if_pos c8] at H
                have c8b0 := eq_true c8
                have c8b1 : decide ((wrap64 (x4_1 + t202)) ≤ (a0.size : Int)) = true := decide_eq_true c8
                by_cases c9 : x3_1.length + (a0.extract (x4_1 : Int).toNat ((wrap64 (x4_1 + t202)) : Int).toNat).size < 140737488355328
                · rw [if_pos c9] at H
                  have LMc9 := Aside0.mk c9
                  clear c9
                  obtain ⟨y204, hy204⟩ : ∃ y_ : List Int, y_ = (x3_1 ++ bytesOf (a0.extract (x4_1 : Int).toNat ((wrap64 (x4_1 + t202)) : Int).toNat)) := ⟨_, rfl⟩
                  replace H : (lecternref05_Fold.l0 k1 a0 y204 (wrap64 (x4_1 + t202))) = some r := by first | (rw [hy204]; with_reducible exact H) | (have H2_ := (Option.bind_some _ _).symm.trans H; rw [hy204]; with_reducible exact H2_) | (have H2_ := (Option.bind_some _ _).symm.trans H; with_reducible exact H2_) | with_reducible exact H | (rw [hy204]; exact H) | exact H
                  have Ny204 := Aside0.mk hy204
                  clear hy204
                  have H' := Aside0.mk H
                  clear H
                  go_wp2_with (first | ((with_reducible refine gate_callee (f := 16) rfl ?_); refine goesL_ (some 14) rfl rfl Tryd.func16 (by kernel_rfl) rfl #[.string a0, .int .i64 x4_1] rfl (by (try simp only [List.map_toArray, List.map_cons, List.map_nil]); first | done | rfl | (simp only [List.length_drop, List.length_take]; rfl)) ?_; (with_reducible refine (lecternref05_Next.calls k1 a0 x4_1 t201 t202 _ A3.out).mono ?_); rintro e w10 ⟨rfl, hb⟩; refine ⟨_, rfl, ?_⟩; have n0_ := Aside0.mk (Kd.R_below (by (with_reducible repeat (first | apply Kd.R_alloc | apply Kd.R_drewN | apply Kd.R_drew)); exact HO_3.out) hb); have n1_ := Aside0.mk (below_step (by repeat (first | (with_reducible first | exact HB.out | apply below_alloc | apply pw_below_drewN | apply below_drew1) | exact HB.out)) hb); clear HO_3; clear HB; have HO_3 := n0_; have HB := n1_; clear n0_ n1_; (try clear hb); (try clear hb2); (try clear hk); (try clear hi)) | ((with_reducible refine gate_callee (f := 53) rfl ?_); refine goesL_ (some 18) rfl rfl Tryd.func53 (by kernel_rfl) rfl #[.int .i32 t201] rfl (by (try simp only [List.map_toArray, List.map_cons, List.map_nil]); first | done | rfl | (simp only [List.length_drop, List.length_take]; rfl)) ?_; (with_reducible refine (lecternref05_Lower.calls k1 t201 t203 _ A4.out).mono ?_); rintro e w11 ⟨rfl, hb⟩; refine ⟨_, rfl, ?_⟩; have n0_ := Aside0.mk (Kd.R_below (by (with_reducible repeat (first | apply Kd.R_alloc | apply Kd.R_drewN | apply Kd.R_drew)); exact HO_3.out) hb); have n1_ := Aside0.mk (below_step (by repeat (first | (with_reducible first | exact HB.out | apply below_alloc | apply pw_below_drewN | apply below_drew1) | exact HB.out)) hb); clear HO_3; clear HB; have HO_3 := n0_; have HB := n1_; clear n0_ n1_; (try clear hb); (try clear hb2); (try clear hk); (try clear hi)) | (at_builtin; refine print_append_str (w0 := w) w.heap.size rfl (.tmp 26) _ 61 9 5 rfl Tryd.underlying61 Tryd.underlying9 info5 u3 x3_1 (a0.extract (x4_1 : Int).toNat ((wrap64 (x4_1 + t202)) : Int).toNat) rfl rfl ?aO ?aB ?aS ?aL ?_; (case aB => exact (by repeat (first | (with_reducible first | exact HB.out | apply below_alloc | apply pw_below_drewN | apply below_drew1) | exact HB.out))); (case aO => exact (Kd.own_of_R (by (with_reducible repeat (first | apply Kd.R_alloc | apply Kd.R_drewN | apply Kd.R_drew)); exact HO_3.out))); (case aS => exact (below_size (by repeat (first | (with_reducible first | exact HB.out | apply below_alloc | apply pw_below_drewN | apply below_drew1) | exact HB.out)))); (case aL => have := LMc9.out; omega); intro v205 w12 ho0 hb hg; have ho := Kd.R_of_own (h1 := fun _ => rfl) (ok := fun _ => True) ho0 (fun _ _ => trivial); clear ho0; have hat := True.intro; rw [← Ny204.out] at ho; change Kd.R (Kd.int .u8) 5 w12 w.heap.size (fun _ => True) v205 y204 at ho; have n0_ := Aside0.mk (hb); have n1_ := Aside0.mk (ho); clear HB; clear HO_3; have HB := n0_; have HO206 := n1_; clear n0_ n1_; clear ho hb hg hat))
                  go_roundg k1
                  case measure => have := HK1.out; omega
                  case rel => exact ⟨(y204), (wrap64 (x4_1 + t202)), (by first | rfl | (simp; done) | (simp [*]; done)), H', ⟨by have := HK1.out; omega⟩, ⟨by (with_reducible repeat (first | apply Kd.R_alloc | apply Kd.R_drewN | apply Kd.R_drew)); exact HO206.out⟩, ⟨by repeat (first | (with_reducible first | exact HB.out | apply below_alloc | apply pw_below_drewN | apply below_drew1) | exact HB.out)⟩⟩
                · rw [if_neg c9] at H
                  exact absurd H (by simp)
              · rw [if_neg c8] at H
                exact absurd H (by simp)
            · rw [if_neg c7] at H
              exact absurd H (by simp)
          · rw [if_neg c6] at H
            exact absurd H (by simp)
        · rw [if_neg c5] at H
          have c5b0 : (t203 == t201) = false := beq_eq_false_iff_ne.mpr c5
          have c5b1 : (t203 != t201) = true := bne_iff_ne.mpr c5
          replace H := Option.bind_eq_some_iff.mp H
          obtain ⟨t207, A130, H⟩ := H
          replace H : ((lecternref05_Form.f t207).bind fun t208 => (if x3_1.length + t208.length < 140737488355328 then (lecternref05_Fold.l0 k1 a0 (x3_1 ++ t208) (wrap64 (x4_1 + t202))) else (none))) = some r := H
          have A13 := Aside0.mk A130
          clear A130
          replace H := Option.bind_eq_some_iff.mp H
          obtain ⟨t208, A140, H⟩ := H
          replace H : (if x3_1.length + t208.length < 140737488355328 then (lecternref05_Fold.l0 k1 a0 (x3_1 ++ t208) (wrap64 (x4_1 + t202))) else (none)) = some r := H
          have A14 := Aside0.mk A140
          clear A140
          by_cases c15 : x3_1.length + t208.length < 140737488355328
          · rw [if_pos c15] at H
            have LMc15 := Aside0.mk c15
            clear c15
            obtain ⟨y211, hy211⟩ : ∃ y_ : List Int, y_ = (x3_1 ++ t208) := ⟨_, rfl⟩
            replace H : (lecternref05_Fold.l0 k1 a0 y211 (wrap64 (x4_1 + t202))) = some r := by first | (rw [hy211]; with_reducible exact H) | (have H2_ := (Option.bind_some _ _).symm.trans H; rw [hy211]; with_reducible exact H2_) | (have H2_ := (Option.bind_some _ _).symm.trans H; with_reducible exact H2_) | with_reducible exact H | (rw [hy211]; exact H) | exact H
            have Ny211 := Aside0.mk hy211
            clear hy211
            have H' := Aside0.mk H
            clear H
            go_wp2_with (first | ((with_reducible refine gate_callee (f := 16) rfl ?_); refine goesL_ (some 14) rfl rfl Tryd.func16 (by kernel_rfl) rfl #[.string a0, .int .i64 x4_1] rfl (by (try simp only [List.map_toArray, List.map_cons, List.map_nil]); first | done | rfl | (simp only [List.length_drop, List.length_take]; rfl)) ?_; (with_reducible refine (lecternref05_Next.calls k1 a0 x4_1 t201 t202 _ A3.out).mono ?_); rintro e w16 ⟨rfl, hb⟩; refine ⟨_, rfl, ?_⟩; have n0_ := Aside0.mk (Kd.R_below (by (with_reducible repeat (first | apply Kd.R_alloc | apply Kd.R_drewN | apply Kd.R_drew)); exact HO_3.out) hb); have n1_ := Aside0.mk (below_step (by repeat (first | (with_reducible first | exact HB.out | apply below_alloc | apply pw_below_drewN | apply below_drew1) | exact HB.out)) hb); clear HO_3; clear HB; have HO_3 := n0_; have HB := n1_; clear n0_ n1_; (try clear hb); (try clear hb2); (try clear hk); (try clear hi)) | ((with_reducible refine gate_callee (f := 53) rfl ?_); refine goesL_ (some 18) rfl rfl Tryd.func53 (by kernel_rfl) rfl #[.int .i32 t201] rfl (by (try simp only [List.map_toArray, List.map_cons, List.map_nil]); first | done | rfl | (simp only [List.length_drop, List.length_take]; rfl)) ?_; (with_reducible refine (lecternref05_Lower.calls k1 t201 t203 _ A4.out).mono ?_); rintro e w17 ⟨rfl, hb⟩; refine ⟨_, rfl, ?_⟩; have n0_ := Aside0.mk (Kd.R_below (by (with_reducible repeat (first | apply Kd.R_alloc | apply Kd.R_drewN | apply Kd.R_drew)); exact HO_3.out) hb); have n1_ := Aside0.mk (below_step (by repeat (first | (with_reducible first | exact HB.out | apply below_alloc | apply pw_below_drewN | apply below_drew1) | exact HB.out)) hb); clear HO_3; clear HB; have HO_3 := n0_; have HB := n1_; clear n0_ n1_; (try clear hb); (try clear hb2); (try clear hk); (try clear hi)) | ((with_reducible refine gate_callee (f := 53) rfl ?_); refine goesL_ (some 23) rfl rfl Tryd.func53 (by kernel_rfl) rfl #[.int .i32 t201] rfl (by (try simp only [List.map_toArray, List.map_cons, List.map_nil]); first | done | rfl | (simp only [List.length_drop, List.length_take]; rfl)) ?_; (with_reducible refine (lecternref05_Lower.calls k1 t201 t207 _ A13.out).mono ?_); rintro e w18 ⟨rfl, hb⟩; refine ⟨_, rfl, ?_⟩; have n0_ := Aside0.mk (Kd.R_below (by (with_reducible repeat (first | apply Kd.R_alloc | apply Kd.R_drewN | apply Kd.R_drew)); exact HO_3.out) hb); have n1_ := Aside0.mk (below_step (by repeat (first | (with_reducible first | exact HB.out | apply below_alloc | apply pw_below_drewN | apply below_drew1) | exact HB.out)) hb); clear HO_3; clear HB; have HO_3 := n0_; have HB := n1_; clear n0_ n1_; (try clear hb); (try clear hb2); (try clear hk); (try clear hi)) | ((with_reducible refine gate_callee (f := 47) rfl ?_); refine goesL_ (some 24) rfl rfl Tryd.func47 (by kernel_rfl) rfl #[.int .i32 t207] rfl (by (try simp only [List.map_toArray, List.map_cons, List.map_nil]); first | done | rfl | (simp only [List.length_drop, List.length_take]; rfl)) ?_; (with_reducible refine (lecternref05_Form.calls t207 t208 _ A14.out).mono ?_); rintro e w19 ⟨v209, rfl, ho0, hb⟩; refine ⟨_, rfl, ?_⟩; have n0_ := Aside0.mk (Kd.R_elder' (by (with_reducible repeat (first | apply Kd.R_alloc | apply Kd.R_drewN | apply Kd.R_drew)); exact HO_3.out) (Kd.R_base ho0) hb); have n1_ := Aside0.mk (Kd.R_lower (Kd.R_new' ho0 (Kd.R_lt (by (with_reducible repeat (first | apply Kd.R_alloc | apply Kd.R_drewN | apply Kd.R_drew)); exact HO_3.out))) (below_size (by repeat (first | (with_reducible first | exact HB.out | apply below_alloc | apply pw_below_drewN | apply below_drew1) | exact HB.out)))); have n2_ := Aside0.mk (below_step (by repeat (first | (with_reducible first | exact HB.out | apply below_alloc | apply pw_below_drewN | apply below_drew1) | exact HB.out)) hb); clear HO_3; clear HB; have HO_3 := n0_; have HO210 := n1_; have HB := n2_; clear n0_ n1_ n2_; (try clear hb); (try clear hb2); (try clear hk); (try clear hi); (try clear ho0); obtain ⟨Ao21, co21, eo21⟩ := Kd.R_slice HO210.out; subst eo21) | ((with_reducible refine gate_builtin (b := .append) (xs := #[.tmp 21, .tmp 24]) rfl ?_); at_builtin; refine Kd.R_append_rows (Kd.int .u8) (w0 := w) w.heap.size rfl (.tmp 21) (.tmp 24) 61 5 (.int .u8 0) 1 rfl Tryd.underlying61 info5 rfl (by decide) (by omega) u3 x3_1 t208 _ _ _ (fun k_ => some k_ ≠ (.slice Ao21 t208.length co21 : Value).ownBlock) (fun _ => False) rfl rfl ?aO ?aR (fun _ _ h => h) (fun _ h => h.elim) ?aF ?aB ?aS ?aL ?_; (case aR => repeat (first | exact (Kd.R_reads' HO210.out).2.2 | (with_reducible refine Kd.C_alloc ?_ _) | (with_reducible refine Kd.C_drewN ?_ _) | (with_reducible refine Kd.C_drew ?_))); (case aB => exact (by repeat (first | (with_reducible first | exact HB.out | apply below_alloc | apply pw_below_drewN | apply below_drew1) | exact HB.out))); (case aF => exact (fun k_ hk => Kd.fresh' (Kd.R_lt (by (with_reducible repeat (first | apply Kd.R_alloc | apply Kd.R_drewN | apply Kd.R_drew)); exact HO210.out)) k_ hk)); (case aO => exact (by (with_reducible repeat (first | apply Kd.R_alloc | apply Kd.R_drewN | apply Kd.R_drew)); exact Kd.R_mono HO_3.out (fun _ hk => hk.2))); (case aS => exact (below_size (by repeat (first | (with_reducible first | exact HB.out | apply below_alloc | apply pw_below_drewN | apply below_drew1) | exact HB.out)))); (case aL => have := LMc15.out; omega); intro v212 w20 ho hb hg hat; rw [← Ny211.out] at ho; have n0_ := Aside0.mk (Kd.R_after (ok := (fun _ => True)) (by (with_reducible repeat (first | apply Kd.R_alloc | apply Kd.R_drewN | apply Kd.R_drew)); exact HO210.out) hg hat); have n1_ := Aside0.mk (hb); have n2_ := Aside0.mk (ho); clear HO210; clear HB; clear HO_3; have HO210 := n0_; have HB := n1_; have HO213 := n2_; clear n0_ n1_ n2_; clear ho hb hg hat))
            go_roundg k1
            case measure => have := HK1.out; omega
            case rel => exact ⟨(y211), (wrap64 (x4_1 + t202)), (by first | rfl | (simp; done) | (simp [*]; done)), H', ⟨by have := HK1.out; omega⟩, ⟨by (with_reducible repeat (first | apply Kd.R_alloc | apply Kd.R_drewN | apply Kd.R_drew)); exact Kd.R_mono HO213.out (fun _ hk => trivial)⟩, ⟨by repeat (first | (with_reducible first | exact HB.out | apply below_alloc | apply pw_below_drewN | apply below_drew1) | exact HB.out)⟩⟩
          · rw [if_neg c15] at H
            exact absurd H (by simp)
      · rw [if_neg c2] at H
        have c2b0 : decide (x4_1 < (a0.size : Int)) = false := decide_eq_false c2
        clear c2
        obtain rfl := Option.some.inj H
        have hcv22 := own_string (P := Tryd.prog) Tryd.underlying61 Tryd.underlying5 Tryd.underlying9 (Kd.own_of_R HO_3.out)
        go_wp2
        go_ret
        exact ⟨by first | rfl | (simp [errW_none, errW_some] <;> rfl) | (simp [*, errW_none, errW_some] <;> rfl), by repeat (first | (with_reducible first | exact HB.out | apply below_alloc | apply pw_below_drewN | apply below_drew1) | exact HB.out)⟩
end Go.Proofs.YtgbphkckiekehaaDoor.QRef

set_option linter.unusedSimpArgs false
set_option linter.unusedVariables false
namespace Go.Proofs.YtgbphkckiekehaaDoor.FoldRef
open Go Go.RowKit Go.Proofs.YtgbphkckiekehaaDoor.QRef Go.Proofs.YtgbphkckiekehaaDoorW.PrintWords Go.Proofs.FoldPlain Go.Proofs.FoldText Go.Proofs.YtgbphkckiekehaaDoor.FoldBridge

/-- The check at the end of the document's decoder. -/
def tailD (r : Int) (n : Nat) (bs : List UInt8) : Int × Int := if Lib.validRune r = true ∧ Lib.encodeRuneZ r = bs.map fun b => (b.toNat : Int) then (r, (n : Int)) else (65533, 1)

theorem next_tail (k : Nat) (s : ByteArray) (p n : Nat) (r : Int) (hp : p + n ≤ s.size) (hs : s.size ≤ 140737488355328) :
    lecternref05_Next.l0 (k + 1) s (p : Int) (n : Int) r (n : Int) = some (tailD r n ((s.data.toList.drop p).take n)) := by
  simp only [lecternref05_Next.l0]
  rw [if_neg (by omega), rune_f, Option.bind_some]
  unfold tailD
  by_cases hv : Lib.validRune r = true
  · rw [if_pos hv, form_f r hv, Option.bind_some, w64' (by omega) (by omega), if_pos (by omega), if_pos (by omega), if_pos (by omega)]
    have e : (((p : Int) + (n : Int)).toNat) = p + n := by omega
    rw [Lib.toList_data, Lib.toList_data, Int.toNat_natCast, e, extract_data _ _ _ hp, show p + n - p = n by omega]
    by_cases he : (strOfNums (Lib.encodeRuneZ r)).data.toList = (s.data.toList.drop p).take n
    · rw [if_pos he, if_pos ⟨hv, (encZ_nums _ _).1 he⟩]
    · rw [if_neg he, if_neg (fun h => he ((encZ_nums _ _).2 h.2))]
  · rw [if_neg hv, if_neg (fun h => hv h.1)]

theorem and63 {x : Int} (h0 : 0 ≤ x) (h1 : x < 256) : Go.bits .and .u8 x 63 = x % 64 := u8_and63 x h0 h1

theorem next_step (k : Nat) (s : ByteArray) (p n i : Nat) (r : Int) (hi : i < n) (hp : p + n ≤ s.size) (hs : s.size ≤ 140737488355328) (h0 : 0 ≤ r) (h1 : r ≤ 2097151) :
    lecternref05_Next.l0 (k + 1) s (p : Int) (n : Int) r (i : Int) = lecternref05_Next.l0 k s (p : Int) (n : Int) (r * 64 + (by_ s.data.toList (p + i) % 64 : Nat)) ((i + 1 : Nat) : Int) := by
  have hb := by_lt s.data.toList (p + i)
  simp only [lecternref05_Next.l0]
  rw [if_pos (by omega), w64' (n := (p : Int) + (i : Int)) (by omega) (by omega), if_pos (by omega), if_pos (by omega), w64' (by omega) (by omega)]
  rw [show (p : Int) + (i : Int) = ((p + i : Nat) : Int) by omega, bt_by s _ (by omega), and63 (by omega) (by omega), w32 (n := r * 64) (by omega) (by omega), w32 (n := (by_ s.data.toList (p + i) : Int) % 64) (by omega) (by omega), w32 (by omega) (by omega)]
  congr 1

theorem drop_getD (l : List UInt8) (p k : Nat) : (l.drop p).getD k 0 = l.getD (p + k) 0 := by simp [List.getD, List.getElem?_drop]

/-- Two, three, four bytes. -/
theorem two (k : Nat) (s : ByteArray) (p : Nat) (r : Int) (hp : p + 2 ≤ s.size) (hs : s.size ≤ 140737488355328) (h0 : 0 ≤ r) (h1 : r ≤ 31) :
    lecternref05_Next.l0 (k + 2) s (p : Int) 2 r 1 = some (tailD (r * 64 + (by_ s.data.toList (p + 1) % 64 : Nat)) 2 ((s.data.toList.drop p).take 2)) := by
  have a := next_step (k + 1) s p 2 1 r (by omega) hp hs h0 (by omega)
  have b := next_tail k s p 2 (r * 64 + (by_ s.data.toList (p + 1) % 64 : Nat)) hp hs
  exact a.trans b
theorem three (k : Nat) (s : ByteArray) (p : Nat) (r : Int) (hp : p + 3 ≤ s.size) (hs : s.size ≤ 140737488355328) (h0 : 0 ≤ r) (h1 : r ≤ 15) :
    lecternref05_Next.l0 (k + 3) s (p : Int) 3 r 1 = some (tailD ((r * 64 + (by_ s.data.toList (p + 1) % 64 : Nat)) * 64 + (by_ s.data.toList (p + 2) % 64 : Nat)) 3 ((s.data.toList.drop p).take 3)) := by
  have a := next_step (k + 2) s p 3 1 r (by omega) hp hs h0 (by omega)
  have b := next_step (k + 1) s p 3 2 _ (by omega) hp hs (show (0 : Int) ≤ r * 64 + (by_ s.data.toList (p + 1) % 64 : Nat) by omega) (by omega)
  have c := next_tail k s p 3 ((r * 64 + (by_ s.data.toList (p + 1) % 64 : Nat)) * 64 + (by_ s.data.toList (p + 2) % 64 : Nat)) hp hs
  exact a.trans (b.trans c)
theorem four (k : Nat) (s : ByteArray) (p : Nat) (r : Int) (hp : p + 4 ≤ s.size) (hs : s.size ≤ 140737488355328) (h0 : 0 ≤ r) (h1 : r ≤ 7) :
    lecternref05_Next.l0 (k + 4) s (p : Int) 4 r 1 = some (tailD (((r * 64 + (by_ s.data.toList (p + 1) % 64 : Nat)) * 64 + (by_ s.data.toList (p + 2) % 64 : Nat)) * 64 + (by_ s.data.toList (p + 3) % 64 : Nat)) 4 ((s.data.toList.drop p).take 4)) := by
  have a := next_step (k + 3) s p 4 1 r (by omega) hp hs h0 (by omega)
  have b := next_step (k + 2) s p 4 2 _ (by omega) hp hs (show (0 : Int) ≤ r * 64 + (by_ s.data.toList (p + 1) % 64 : Nat) by omega) (by omega)
  have c := next_step (k + 1) s p 4 3 _ (by omega) hp hs (show (0 : Int) ≤ (r * 64 + (by_ s.data.toList (p + 1) % 64 : Nat)) * 64 + (by_ s.data.toList (p + 2) % 64 : Nat) by omega) (by omega)
  have d := next_tail k s p 4 (((r * 64 + (by_ s.data.toList (p + 1) % 64 : Nat)) * 64 + (by_ s.data.toList (p + 2) % 64 : Nat)) * 64 + (by_ s.data.toList (p + 3) % 64 : Nat)) hp hs
  exact a.trans (b.trans (c.trans d))

set_option maxRecDepth 100000 in
set_option maxHeartbeats 1000000 in
/-- The decoder's two ways agree: over numbers. -/
theorem tail2 (n b0 b1 b2 b3 : Nat) (x y : UInt8) (hx : x.toNat = b0) (hy : y.toNat = b1) (h0 : 192 ≤ b0) (h1 : b0 < 224) (k1 : b1 < 256) (hn : 2 ≤ n) :
    tailD (((b0 : Int) - 192) * 64 + (b1 % 64 : Nat)) 2 [x, y] = (((Lib.decodeN n b0 b1 b2 b3).1 : Int), ((Lib.decodeN n b0 b1 b2 b3).2 : Int)) := by
  obtain ⟨r, hr⟩ : ∃ r : Int, r = ((b0 : Int) - 192) * 64 + (b1 % 64 : Nat) := ⟨_, rfl⟩
  rw [← hr]
  have hr' : r = ((b0 % 32 * 64 + b1 % 64 : Nat) : Int) := by omega
  have e : (Lib.validRune r = true ∧ Lib.encodeRuneZ r = [x, y].map fun b => (b.toNat : Int)) ↔ (b1 / 64 = 2 ∧ 128 ≤ r) := by
    simp only [List.map_cons, List.map_nil, hx, hy, valid_iff]
    constructor
    · rintro ⟨_, h⟩
      by_cases c1 : r ≤ 127
      · rw [Lib.encodeRuneZ_one (by omega) c1] at h; simp at h
      · rw [Lib.encodeRuneZ_two (by omega) (by omega)] at h
        obtain ⟨a1, h⟩ := List.cons_eq_cons.1 h
        obtain ⟨a2, h⟩ := List.cons_eq_cons.1 h
        omega
    · rintro ⟨h2, h3⟩
      refine ⟨by omega, ?_⟩
      rw [Lib.encodeRuneZ_two (by omega) (by omega)]
      exact List.cons_eq_cons.2 ⟨by omega, List.cons_eq_cons.2 ⟨by omega, rfl⟩⟩
  by_cases c : b1 / 64 = 2 ∧ 128 ≤ b0 % 32 * 64 + b1 % 64
  · have d : Lib.decodeN n b0 b1 b2 b3 = (b0 % 32 * 64 + b1 % 64, 2) := by
      unfold Lib.decodeN
      rw [if_neg (by omega), if_pos (show b0 / 32 = 6 ∧ (1 < n ∧ b1 / 64 = 2) from ⟨by omega, by omega, c.1⟩), if_pos c.2]
    rw [d]; unfold tailD
    rw [if_pos (e.2 ⟨c.1, by omega⟩), hr']
  · have d : Lib.decodeN n b0 b1 b2 b3 = (65533, 1) := by
      unfold Lib.decodeN
      rw [if_neg (by omega)]
      by_cases c' : b1 / 64 = 2
      · rw [if_pos (show b0 / 32 = 6 ∧ (1 < n ∧ b1 / 64 = 2) from ⟨by omega, by omega, c'⟩), if_neg (fun h => c ⟨c', h⟩)]
      · rw [if_neg (fun h => c' h.2.2), if_neg (fun h => c' h.2.1.2), if_neg (fun h => c' h.2.1.2)]
    rw [d]; unfold tailD
    rw [if_neg (fun h => c (by have := e.1 h; omega))]; rfl
set_option maxRecDepth 100000 in
set_option maxHeartbeats 1000000 in
theorem tail3 (n b0 b1 b2 b3 : Nat) (x y z : UInt8) (hx : x.toNat = b0) (hy : y.toNat = b1) (hz : z.toNat = b2) (h0 : 224 ≤ b0) (h1 : b0 < 240) (k1 : b1 < 256) (k2 : b2 < 256) (hn : 3 ≤ n) :
    tailD ((((b0 : Int) - 224) * 64 + (b1 % 64 : Nat)) * 64 + (b2 % 64 : Nat)) 3 [x, y, z] = (((Lib.decodeN n b0 b1 b2 b3).1 : Int), ((Lib.decodeN n b0 b1 b2 b3).2 : Int)) := by
  obtain ⟨r, hr⟩ : ∃ r : Int, r = (((b0 : Int) - 224) * 64 + (b1 % 64 : Nat)) * 64 + (b2 % 64 : Nat) := ⟨_, rfl⟩
  rw [← hr]
  have hr' : r = ((b0 % 16 * 4096 + b1 % 64 * 64 + b2 % 64 : Nat) : Int) := by omega
  have e : (Lib.validRune r = true ∧ Lib.encodeRuneZ r = [x, y, z].map fun b => (b.toNat : Int)) ↔ (b1 / 64 = 2 ∧ b2 / 64 = 2 ∧ 2048 ≤ r ∧ (r < 55296 ∨ 57344 ≤ r)) := by
    simp only [List.map_cons, List.map_nil, hx, hy, hz, valid_iff]
    constructor
    · rintro ⟨hv, h⟩
      by_cases c1 : r ≤ 127
      · rw [Lib.encodeRuneZ_one (by omega) c1] at h; simp at h
      · by_cases c2 : r ≤ 2047
        · rw [Lib.encodeRuneZ_two (by omega) (by omega)] at h; simp at h
        · rw [Lib.encodeRuneZ_three (by omega)] at h
          obtain ⟨a1, h⟩ := List.cons_eq_cons.1 h
          obtain ⟨a2, h⟩ := List.cons_eq_cons.1 h
          obtain ⟨a3, h⟩ := List.cons_eq_cons.1 h
          omega
    · rintro ⟨h2, h3, h4, h5⟩
      refine ⟨by omega, ?_⟩
      rw [Lib.encodeRuneZ_three (by omega)]
      exact List.cons_eq_cons.2 ⟨by omega, List.cons_eq_cons.2 ⟨by omega, List.cons_eq_cons.2 ⟨by omega, rfl⟩⟩⟩
  have n6 : ¬ (b0 / 32 = 6 ∧ (1 < n ∧ b1 / 64 = 2)) := fun h => by omega
  by_cases c : b1 / 64 = 2 ∧ b2 / 64 = 2 ∧ 2048 ≤ r ∧ (r < 55296 ∨ 57344 ≤ r)
  · have d : Lib.decodeN n b0 b1 b2 b3 = (b0 % 16 * 4096 + b1 % 64 * 64 + b2 % 64, 3) := by
      unfold Lib.decodeN
      rw [if_neg (by omega), if_neg n6, if_pos ⟨by omega, ⟨by omega, c.1⟩, by omega, c.2.1⟩, if_pos ⟨by omega, by omega⟩]
    rw [d]; unfold tailD
    rw [if_pos (e.2 c), hr']
  · have d : Lib.decodeN n b0 b1 b2 b3 = (65533, 1) := by
      unfold Lib.decodeN
      rw [if_neg (by omega), if_neg n6]
      by_cases c' : b0 / 16 = 14 ∧ (1 < n ∧ b1 / 64 = 2) ∧ (2 < n ∧ b2 / 64 = 2)
      · rw [if_pos c', if_neg (fun h => c ⟨c'.2.1.2, c'.2.2.2, by omega, by omega⟩)]
      · rw [if_neg c', if_neg (fun h => by omega)]
    rw [d]; unfold tailD
    rw [if_neg (fun h => c (e.1 h))]; rfl
set_option maxRecDepth 100000 in
set_option maxHeartbeats 1000000 in
theorem tail4 (n b0 b1 b2 b3 : Nat) (x y z u : UInt8) (hx : x.toNat = b0) (hy : y.toNat = b1) (hz : z.toNat = b2) (hu : u.toNat = b3) (h0 : 240 ≤ b0) (h1 : b0 < 248) (k1 : b1 < 256) (k2 : b2 < 256) (k3 : b3 < 256) (hn : 4 ≤ n) :
    tailD (((((b0 : Int) - 240) * 64 + (b1 % 64 : Nat)) * 64 + (b2 % 64 : Nat)) * 64 + (b3 % 64 : Nat)) 4 [x, y, z, u] = (((Lib.decodeN n b0 b1 b2 b3).1 : Int), ((Lib.decodeN n b0 b1 b2 b3).2 : Int)) := by
  obtain ⟨r, hr⟩ : ∃ r : Int, r = ((((b0 : Int) - 240) * 64 + (b1 % 64 : Nat)) * 64 + (b2 % 64 : Nat)) * 64 + (b3 % 64 : Nat) := ⟨_, rfl⟩
  rw [← hr]
  have hr' : r = ((b0 % 8 * 262144 + b1 % 64 * 4096 + b2 % 64 * 64 + b3 % 64 : Nat) : Int) := by omega
  have e : (Lib.validRune r = true ∧ Lib.encodeRuneZ r = [x, y, z, u].map fun b => (b.toNat : Int)) ↔ (b1 / 64 = 2 ∧ b2 / 64 = 2 ∧ b3 / 64 = 2 ∧ 65536 ≤ r ∧ r ≤ 1114111) := by
    simp only [List.map_cons, List.map_nil, hx, hy, hz, hu, valid_iff]
    constructor
    · rintro ⟨hv, h⟩
      by_cases c1 : r ≤ 127
      · rw [Lib.encodeRuneZ_one (by omega) c1] at h; simp at h
      · by_cases c2 : r ≤ 2047
        · rw [Lib.encodeRuneZ_two (by omega) (by omega)] at h; simp at h
        · by_cases c3 : r ≤ 65535
          · rw [Lib.encodeRuneZ_three (by omega)] at h; simp at h
          · rw [Lib.encodeRuneZ_four (by omega) (by omega)] at h
            obtain ⟨a1, h⟩ := List.cons_eq_cons.1 h
            obtain ⟨a2, h⟩ := List.cons_eq_cons.1 h
            obtain ⟨a3, h⟩ := List.cons_eq_cons.1 h
            obtain ⟨a4, h⟩ := List.cons_eq_cons.1 h
            omega
    · rintro ⟨h2, h3, h4, h5, h6⟩
      refine ⟨by omega, ?_⟩
      rw [Lib.encodeRuneZ_four (by omega) (by omega)]
      exact List.cons_eq_cons.2 ⟨by omega, List.cons_eq_cons.2 ⟨by omega, List.cons_eq_cons.2 ⟨by omega, List.cons_eq_cons.2 ⟨by omega, rfl⟩⟩⟩⟩
  have n6 : ¬ (b0 / 32 = 6 ∧ (1 < n ∧ b1 / 64 = 2)) := fun h => by omega
  have n14 : ¬ (b0 / 16 = 14 ∧ (1 < n ∧ b1 / 64 = 2) ∧ (2 < n ∧ b2 / 64 = 2)) := fun h => by omega
  by_cases c : b1 / 64 = 2 ∧ b2 / 64 = 2 ∧ b3 / 64 = 2 ∧ 65536 ≤ r ∧ r ≤ 1114111
  · have d : Lib.decodeN n b0 b1 b2 b3 = (b0 % 8 * 262144 + b1 % 64 * 4096 + b2 % 64 * 64 + b3 % 64, 4) := by
      unfold Lib.decodeN
      rw [if_neg (by omega), if_neg n6, if_neg n14, if_pos ⟨by omega, ⟨by omega, c.1⟩, ⟨by omega, c.2.1⟩, by omega, c.2.2.1⟩, if_pos ⟨by omega, by omega⟩]
    rw [d]; unfold tailD
    rw [if_pos (e.2 c), hr']
  · have d : Lib.decodeN n b0 b1 b2 b3 = (65533, 1) := by
      unfold Lib.decodeN
      rw [if_neg (by omega), if_neg n6, if_neg n14]
      by_cases c' : b0 / 8 = 30 ∧ (1 < n ∧ b1 / 64 = 2) ∧ (2 < n ∧ b2 / 64 = 2) ∧ (3 < n ∧ b3 / 64 = 2)
      · rw [if_pos c', if_neg (fun h => c ⟨c'.2.1.2, c'.2.2.1.2, c'.2.2.2.2, by omega, by omega⟩)]
      · rw [if_neg c']
    rw [d]; unfold tailD
    rw [if_neg (fun h => c (e.1 h))]; rfl

theorem short2 (n b0 b1 b2 b3 : Nat) (h : 192 ≤ b0 ∧ b0 < 224 ∧ n < 2 ∨ 224 ≤ b0 ∧ b0 < 240 ∧ n < 3 ∨ 240 ≤ b0 ∧ n < 4 ∨ 248 ≤ b0 ∨ 128 ≤ b0 ∧ b0 < 192) (hb : b0 < 256) : Lib.decodeN n b0 b1 b2 b3 = (65533, 1) := by
  unfold Lib.decodeN
  rw [if_neg (by omega), if_neg (fun h => by omega), if_neg (fun h => by omega), if_neg (fun h => by omega)]

set_option maxRecDepth 100000 in
/-- The document's decoder is the decoder. -/
theorem refNext_in (k : Nat) (s : ByteArray) (p : Nat) (hp : p < s.size) (hs : s.size ≤ 140737488355328) :
    lecternref05_Next.f (k + 8) s (p : Int) = some (nextD s.data.toList (p : Int)) := by
  rw [nextD_in _ _ (by rw [size_data]; exact hp)]
  unfold dec
  have hl := size_data s
  rw [Lib.decodeL_N, List.length_drop, drop_getD, drop_getD, drop_getD, drop_getD, Nat.add_zero, hl]
  have k0 := by_lt s.data.toList p
  have k1 := by_lt s.data.toList (p + 1)
  have k2 := by_lt s.data.toList (p + 2)
  have k3 := by_lt s.data.toList (p + 3)
  have hb := bt_by s p hp
  change _ = some (((Lib.decodeN (s.size - p) (by_ s.data.toList p) (by_ s.data.toList (p + 1)) (by_ s.data.toList (p + 2)) (by_ s.data.toList (p + 3))).1 : Int), ((Lib.decodeN (s.size - p) (by_ s.data.toList p) (by_ s.data.toList (p + 1)) (by_ s.data.toList (p + 2)) (by_ s.data.toList (p + 3))).2 : Int))
  have t2 : p + 2 ≤ s.size → (s.data.toList.drop p).take 2 = [s.data.toList.getD p 0, s.data.toList.getD (p + 1) 0] := fun h => by
    rw [Lib.takeB _ (by rw [List.length_drop]; omega), drop_getD, drop_getD, Nat.add_zero]
  have t3 : p + 3 ≤ s.size → (s.data.toList.drop p).take 3 = [s.data.toList.getD p 0, s.data.toList.getD (p + 1) 0, s.data.toList.getD (p + 2) 0] := fun h => by
    rw [Lib.takeC _ (by rw [List.length_drop]; omega), drop_getD, drop_getD, drop_getD, Nat.add_zero]
  have t4 : p + 4 ≤ s.size → (s.data.toList.drop p).take 4 = [s.data.toList.getD p 0, s.data.toList.getD (p + 1) 0, s.data.toList.getD (p + 2) 0, s.data.toList.getD (p + 3) 0] := fun h => by
    rw [Lib.takeD _ (by rw [List.length_drop]; omega), drop_getD, drop_getD, drop_getD, drop_getD, Nat.add_zero]
  have two' := fun k r => two k s p r
  have three' := fun k r => three k s p r
  have four' := fun k r => four k s p r
  have n2 := tail2 (s.size - p) (by_ s.data.toList p) (by_ s.data.toList (p + 1)) (by_ s.data.toList (p + 2)) (by_ s.data.toList (p + 3)) (s.data.toList.getD p 0) (s.data.toList.getD (p + 1) 0) rfl rfl
  have n3 := tail3 (s.size - p) (by_ s.data.toList p) (by_ s.data.toList (p + 1)) (by_ s.data.toList (p + 2)) (by_ s.data.toList (p + 3)) (s.data.toList.getD p 0) (s.data.toList.getD (p + 1) 0) (s.data.toList.getD (p + 2) 0) rfl rfl rfl
  have n4 := tail4 (s.size - p) (by_ s.data.toList p) (by_ s.data.toList (p + 1)) (by_ s.data.toList (p + 2)) (by_ s.data.toList (p + 3)) (s.data.toList.getD p 0) (s.data.toList.getD (p + 1) 0) (s.data.toList.getD (p + 2) 0) (s.data.toList.getD (p + 3) 0) rfl rfl rfl rfl
  have sh := short2 (s.size - p) (by_ s.data.toList p) (by_ s.data.toList (p + 1)) (by_ s.data.toList (p + 2)) (by_ s.data.toList (p + 3))
  revert hb k0 k1 k2 k3 two' three' four' n2 n3 n4 sh
  generalize by_ s.data.toList p = b0
  generalize by_ s.data.toList (p + 1) = b1
  generalize by_ s.data.toList (p + 2) = b2
  generalize by_ s.data.toList (p + 3) = b3
  intro k0 k1 k2 k3 hb two' three' four' n2 n3 n4 sh
  unfold lecternref05_Next.f
  rw [if_neg (by omega), decide_eq_false (by omega)]
  simp only [lecternref05_Next.j0, hb]
  rw [if_neg (by decide), if_pos (by omega), if_pos (by omega)]
  by_cases c0 : (b0 : Int) < 128
  · rw [if_pos c0, w32 (by omega) (by omega), Lib.decodeN_ascii _ _ _ _ _ (by omega)]; rfl
  · rw [if_neg c0]
    by_cases c1 : (b0 : Int) ≥ 192
    · rw [if_pos c1]
      by_cases c2 : (b0 : Int) < 224
      · rw [decide_eq_true c2]
        simp only [lecternref05_Next.j1, lecternref05_Next.j3]
        rw [if_pos trivial, w64' (by omega) (by omega)]
        by_cases hn : (s.size : Int) - (p : Int) < 2
        · rw [if_pos hn, sh (.inl ⟨by omega, by omega, by omega⟩) (by omega)]; rfl
        · rw [if_neg hn, show ((b0 : Int) - 192) % 256 = (b0 : Int) - 192 by omega, two' _ _ (by omega) hs (by omega) (by omega), t2 (by omega), n2 (by omega) (by omega) (by omega) (by omega)]
      · rw [decide_eq_false c2]
        simp only [lecternref05_Next.j1]
        rw [if_neg (by decide), if_pos (by omega)]
        by_cases c3 : (b0 : Int) < 240
        · rw [decide_eq_true c3]
          simp only [lecternref05_Next.j2, lecternref05_Next.j3]
          rw [if_pos trivial, w64' (by omega) (by omega)]
          by_cases hn : (s.size : Int) - (p : Int) < 3
          · rw [if_pos hn, sh (.inr (.inl ⟨by omega, by omega, by omega⟩)) (by omega)]; rfl
          · rw [if_neg hn, show ((b0 : Int) - 224) % 256 = (b0 : Int) - 224 by omega, three' _ _ (by omega) hs (by omega) (by omega), t3 (by omega), n3 (by omega) (by omega) (by omega) (by omega) (by omega)]
        · rw [decide_eq_false c3]
          simp only [lecternref05_Next.j2, lecternref05_Next.j3]
          rw [if_neg (by decide), if_pos (by omega)]
          by_cases c4 : (b0 : Int) < 248
          · rw [if_pos c4, w64' (by omega) (by omega)]
            by_cases hn : (s.size : Int) - (p : Int) < 4
            · rw [if_pos hn, sh (.inr (.inr (.inl ⟨by omega, by omega⟩))) (by omega)]; rfl
            · rw [if_neg hn, show ((b0 : Int) - 240) % 256 = (b0 : Int) - 240 by omega, four' _ _ (by omega) hs (by omega) (by omega), t4 (by omega), n4 (by omega) (by omega) (by omega) (by omega) (by omega) (by omega)]
          · rw [if_neg c4, sh (.inr (.inr (.inr (.inl (by omega))))) (by omega)]; rfl
    · rw [if_neg c1]
      simp only [lecternref05_Next.j1]
      rw [if_neg (by decide), if_neg (by omega)]
      simp only [lecternref05_Next.j2]
      rw [if_neg (by decide), if_neg (by omega), sh (.inr (.inr (.inr (.inr ⟨by omega, by omega⟩)))) (by omega)]; rfl

theorem refNext_f (k : Nat) (s : ByteArray) (p : Int) (hs : s.size ≤ 140737488355328) : lecternref05_Next.f (k + 8) s p = some (nextD s.data.toList p) := by
  by_cases h : p < 0
  · rw [nextD_out _ _ (.inl h)]
    unfold lecternref05_Next.f; rw [if_pos h]; simp [lecternref05_Next.j0]
  · by_cases h1 : (s.size : Int) ≤ p
    · rw [nextD_out _ _ (.inr (by rw [size_data]; exact h1))]
      unfold lecternref05_Next.f; rw [if_neg h, decide_eq_true h1]; simp [lecternref05_Next.j0]
    · have := refNext_in k s p.toNat (by omega) hs
      rwa [Int.toNat_of_nonneg (by omega)] at this

theorem refNext_at (k : Nat) (s : ByteArray) (p : Nat) (hp : p < s.size) (hs : s.size ≤ 140737488355328) :
    lecternref05_Next.f (k + 8) s (p : Int) = some (((dec (s.data.toList.drop p)).1 : Int), ((dec (s.data.toList.drop p)).2 : Int)) := by
  rw [refNext_f k s p hs, nextD_in _ _ (by rw [size_data]; exact hp)]

theorem refRunes_l0 (s : ByteArray) (hs : s.size ≤ 17592186044416) : ∀ (d k p : Nat) (xs ys : List Int), s.size ≤ p + d → p ≤ s.size → d + 9 ≤ k → xs.length ≤ p → ys.length ≤ p →
    lecternref05_Runes.l0 k s xs ys (p : Int) = some (xs ++ placesZ (runesAt s.data.toList p), ys ++ runesZ (runesAt s.data.toList p)) := by
  intro d
  induction d with
  | zero =>
    intro k p xs ys h0 h1 hk _ _
    obtain ⟨k, rfl⟩ : ∃ m, k = m + 1 := ⟨k - 1, by omega⟩
    rw [lecternref05_Runes.l0]
    rw [if_neg (by omega), runesAt_end _ _ (by rw [size_data]; omega)]
    simp [placesZ, runesZ]
  | succ d ih =>
    intro k p xs ys h0 h1 hk hx hy
    obtain ⟨k, rfl⟩ : ∃ m, k = m + 8 + 1 := ⟨k - 9, by omega⟩
    rw [lecternref05_Runes.l0]
    by_cases hp : p < s.size
    · have hl : p < s.data.toList.length := by rw [size_data]; exact hp
      have g1 := dec_ge1 (s.data.toList.drop p)
      have g2 := dec_in hl
      rw [size_data] at g2
      rw [if_pos (by omega), refNext_at k s p hp (by omega), Option.bind_some, if_pos (by omega), if_pos (by omega)]
      dsimp only
      rw [w64' (by omega) (by omega)]
      have hn := ih (k + 8) (p + (dec (s.data.toList.drop p)).2) (xs ++ [(p : Int)]) (ys ++ [((dec (s.data.toList.drop p)).1 : Int)]) (by omega) g2 (by omega) (by simp; omega) (by simp; omega)
      rw [show (p : Int) + ((dec (s.data.toList.drop p)).2 : Int) = ((p + (dec (s.data.toList.drop p)).2 : Nat) : Int) by omega, hn, runesAt_step _ _ hl, placesZ_cons, runesZ_cons]
      simp
    · rw [if_neg (by omega), runesAt_end _ _ (by rw [size_data]; omega)]
      simp [placesZ, runesZ]
theorem refRunes_f (s : ByteArray) (hs : s.size ≤ 17592186044416) : lecternref05_Runes.f (s.size + 9) s = some (placesZ (runes s.data.toList), runesZ (runes s.data.toList)) := by
  have := refRunes_l0 s hs s.size (s.size + 9) 0 [] [] (by omega) (by omega) (by omega) (by simp) (by simp)
  simpa [lecternref05_Runes.f] using this

end Go.Proofs.YtgbphkckiekehaaDoor.FoldRef

set_option linter.unusedSimpArgs false
set_option linter.unusedVariables false
set_option linter.unusedSimpArgs false
set_option linter.unusedVariables false
namespace Go.Proofs.YtgbphkckiekehaaDoor.FoldBridge
open Go.RowKit Go.Proofs.YtgbphkckiekehaaDoor.QRef Go.Proofs.YtgbphkckiekehaaDoorW.PrintWords Go.Proofs.FoldPlain
theorem refLower_k (k : Nat) (a : Int) (h0 : -2147483648 ≤ a) (h1 : a ≤ 2147483647) : lecternref05_Lower.f (k + 100) a = some (lowerD a) := by
  have am : ∀ xs : List Int, xs.length ≤ 99 → lecternref05_among.f (k + 100) a xs = some (amongL xs a) := fun xs h => among_f _ _ _ (by omega) (by omega)
  unfold lecternref05_Lower.f lowerD
  rw [am _ (by decide), am _ (by decide), am _ (by decide), am _ (by decide), am _ (by decide), am _ (by decide)]
  simp only [Option.bind_some]
  have key : ∀ xs : List Int, (∀ x ∈ xs, 0 ≤ x ∧ x ≤ 70000) → amongL xs a = true → 0 ≤ a ∧ a ≤ 70000 := fun xs hx h => amongL_le xs h hx
  by_cases c1 : amongL [65, 90, 192, 214, 216, 222, 913, 929, 931, 939, 1040, 1071] a = true
  · have b := key _ (by decide) c1
    rw [if_pos c1, if_pos c1, w32 (by omega) (by omega)]
  · rw [if_neg c1, if_neg c1]
    by_cases c2 : amongL [256, 303, 306, 311, 330, 375, 1120, 1153, 1162, 1215, 1232, 1327] a = true
    · have b := key _ (by decide) c2
      rw [if_pos c2, if_pos c2, Int.tmod_eq_emod_of_nonneg b.1, w32 (n := a - a % 2) (by omega) (by omega), w32 (by omega) (by omega)]
    · rw [if_neg c2, if_neg c2]
      by_cases c3 : amongL [313, 328, 377, 382, 1217, 1230] a = true
      · have b := key _ (by decide) c3
        rw [if_pos c3, if_pos c3, Int.tmod_eq_emod_of_nonneg b.1, w32 (by omega) (by omega)]
      · rw [if_neg c3, if_neg c3]
        by_cases c4 : amongL [904, 906] a = true
        · have b := key _ (by decide) c4
          rw [if_pos c4, if_pos c4, w32 (by omega) (by omega)]
        · rw [if_neg c4, if_neg c4]
          by_cases c5 : amongL [910, 911] a = true
          · have b := key _ (by decide) c5
            rw [if_pos c5, if_pos c5, w32 (by omega) (by omega)]
          · rw [if_neg c5, if_neg c5]
            by_cases c6 : amongL [1024, 1039] a = true
            · have b := key _ (by decide) c6
              rw [if_pos c6, if_pos c6, w32 (by omega) (by omega)]
            · rw [if_neg c6, if_neg c6]
              (repeat' split) <;> rfl

theorem refLower_f (a : Int) (h0 : -2147483648 ≤ a) (h1 : a ≤ 2147483647) : lecternref05_Lower.f 100 a = some (lowerD a) := refLower_k 0 a h0 h1
end Go.Proofs.YtgbphkckiekehaaDoor.FoldBridge
namespace Go.Proofs.YtgbphkckiekehaaDoor.FoldRef
open Go Go.RowKit Go.Proofs.YtgbphkckiekehaaDoor.QRef Go.Proofs.YtgbphkckiekehaaDoorW.PrintWords Go.Proofs.FoldPlain Go.Proofs.FoldText Go.Proofs.YtgbphkckiekehaaDoor.FoldBridge
theorem refFold_l0 (s : ByteArray) (hs : s.size ≤ 140737488351232) : ∀ (d k p : Nat) (xs : List UInt8), s.size ≤ p + d → p ≤ s.size → d + 109 ≤ k → xs.length = p →
    lecternref05_Fold.l0 k s (xs.map fun b => (b.toNat : Int)) (p : Int) = some (strOfNums ((xs ++ foldAt s.data.toList p).map fun b => (b.toNat : Int))) := by
  intro d
  induction d with
  | zero =>
    intro k p xs h0 h1 hk _
    obtain ⟨k, rfl⟩ : ∃ m, k = m + 1 := ⟨k - 1, by omega⟩
    rw [lecternref05_Fold.l0]
    rw [if_neg (by omega), foldAt_end _ _ (by rw [size_data]; omega), List.append_nil]
  | succ d ih =>
    intro k p xs h0 h1 hk hx
    obtain ⟨k, rfl⟩ : ∃ m, k = m + 100 + 1 := ⟨k - 101, by omega⟩
    rw [lecternref05_Fold.l0]
    by_cases hp : p < s.size
    · have hl : p < s.data.toList.length := by rw [size_data]; exact hp
      have g1 := dec_ge1 (s.data.toList.drop p)
      have g2 := dec_in hl
      have g4 := dec_rune (s.data.toList.drop p)
      have gp := piece_length _ _ hl
      rw [size_data] at g2
      rw [if_pos (by omega), refNext_at (k + 92) s p hp (by omega), Option.bind_some]
      dsimp only
      rw [refLower_k k _ (by omega) (by omega), Option.bind_some]
      have hn := ih (k + 100) (p + (dec (s.data.toList.drop p)).2) (xs ++ piece s.data.toList p) (by omega) g2 (by omega) (by simp; omega)
      rw [show ((p + (dec (s.data.toList.drop p)).2 : Nat) : Int) = (p : Int) + ((dec (s.data.toList.drop p)).2 : Int) by omega] at hn
      rw [w64' (by omega) (by omega), foldAt_step _ _ hl, ← List.append_assoc]
      by_cases hlow : lowerD ((dec (s.data.toList.drop p)).1 : Int) = ((dec (s.data.toList.drop p)).1 : Int)
      · have ep : piece s.data.toList p = (s.data.toList.drop p).take (dec (s.data.toList.drop p)).2 := by unfold piece; rw [if_pos hlow]
        have ex : (s.extract (p : Int).toNat ((p : Int) + ((dec (s.data.toList.drop p)).2 : Int)).toNat).data.toList = piece s.data.toList p := by
          rw [show ((p : Int) + ((dec (s.data.toList.drop p)).2 : Int)).toNat = p + (dec (s.data.toList.drop p)).2 by omega, Int.toNat_natCast, extract_data _ _ _ g2, show p + (dec (s.data.toList.drop p)).2 - p = (dec (s.data.toList.drop p)).2 by omega, ep]
        have es : (s.extract (p : Int).toNat ((p : Int) + ((dec (s.data.toList.drop p)).2 : Int)).toNat).size = (dec (s.data.toList.drop p)).2 := by
          rw [← size_data, ex, gp]
        rw [if_pos hlow, if_pos (by omega), if_pos (by omega), if_pos (by omega), es, if_pos (by simp; omega)]
        unfold bytesOf
        rw [ex, ← List.map_append]
        exact hn
      · have ep : piece s.data.toList p = Lib.encodeRune (lowerD ((dec (s.data.toList.drop p)).1 : Int)) := by unfold piece; rw [if_neg hlow]
        rw [if_neg hlow, Option.bind_some, form_f _ (validRune_lower _), Option.bind_some, encZ_encode, ← ep]
        rw [if_pos (by simp; omega), ← List.map_append]
        exact hn
    · rw [if_neg (by omega), foldAt_end _ _ (by rw [size_data]; omega), List.append_nil]
theorem refFold_f (s : ByteArray) (hs : s.size ≤ 140737488351232) : lecternref05_Fold.f (s.size + 109) s = some (strOf (foldD s.data.toList)) := by
  have := refFold_l0 s hs s.size (s.size + 109) 0 [] (by omega) (by omega) (by omega) rfl
  rw [List.nil_append, strOf_nums] at this
  exact this
end Go.Proofs.YtgbphkckiekehaaDoor.FoldRef

set_option linter.unusedVariables false
set_option linter.unusedSimpArgs false
namespace Go.Proofs.YtgbphkckiekehaaDoor.Ana
open Go Go.RowKit Go.Proofs.YtgbphkckiekehaaDoor.QRef Go.Proofs.YtgbphkckiekehaaDoorW.PrintWords Go.Proofs.FoldPlain Go.Proofs.FoldText Go.Proofs.YtgbphkckiekehaaDoor.FoldRef Go.Proofs.YtgbphkckiekehaaDoor.FoldBridge

theorem ints_l0 (l m : List Int) (hlm : l.length = m.length) (hl : l.length ≤ 1152921504606846976) : ∀ d i, i + d = l.length → lecternkit_Ints.l0 (d + 1) l m (i : Int) = some (decide (l.drop i = m.drop i)) := by
  intro d
  induction d with
  | zero =>
    intro i hi
    rw [lecternkit_Ints.l0, if_neg (by omega), List.drop_eq_nil_of_le (by omega), List.drop_eq_nil_of_le (by omega)]; rfl
  | succ d ih =>
    intro i hi
    have h1 := ih (i + 1) (by omega)
    have hlt : i < l.length := by omega
    have hmt : i < m.length := by omega
    rw [lecternkit_Ints.l0, if_pos (by omega), if_pos (by omega), if_pos (by omega), rd_get l i hlt, rd_get m i hmt, List.drop_eq_getElem_cons hlt, List.drop_eq_getElem_cons hmt]
    generalize l.drop (i + 1) = T at h1 ⊢
    generalize m.drop (i + 1) = U at h1 ⊢
    by_cases e : l[i] = m[i]
    · rw [if_pos e, w64' (by omega) (by omega), show ((i : Int) + 1) = ((i + 1 : Nat) : Int) by omega, h1, e]; simp
    · rw [if_neg e]; simp [e]
theorem ints_f (l m : List Int) (hl : l.length ≤ 1152921504606846976) : lecternkit_Ints.f (l.length + 1) l m = some (decide (l = m)) := by
  unfold lecternkit_Ints.f
  by_cases h : l.length = m.length
  · rw [if_pos (by omega)]
    have := ints_l0 l m h hl l.length 0 (by omega)
    simpa using this
  · rw [if_neg (by omega), decide_eq_false (fun e => h (by rw [e]))]
/-! ### the document's small functions -/
theorem refLetter_f (a : Int) : lecternref05_Letter.f 100 a = some (letterD a) := by
  unfold lecternref05_Letter.f letterD
  rw [among_f _ _ _ (by decide) (by decide)]
  rfl
theorem refDigit_f (a : Int) : lecternref05_Digit.f 100 a = some (digitD a) := by
  unfold lecternref05_Digit.f digitD
  rw [among_f _ _ _ (by decide) (by decide)]
  rfl
theorem refMark_f (a : Int) : lecternref05_Mark.f 100 a = some (markD a) := by
  unfold lecternref05_Mark.f markD
  rw [among_f _ _ _ (by decide) (by decide)]
  rfl
theorem refBlank_f (r : Int) : lecternref06_Blank.f r = some (blankB r) := by
  unfold lecternref06_Blank.f blankB
  repeat' split
  all_goals first
    | (simp only [Option.some.injEq]; symm; exact decide_eq_true (by omega))
    | (simp only [Option.some.injEq]; rw [Bool.eq_iff_iff]; simp only [beq_iff_eq, decide_eq_true_eq]; omega)
theorem refWord_f (r : Int) : lecternref06_word.f 100 r = some (wordB r) := by
  unfold lecternref06_word.f wordB
  rw [refLetter_f, Option.bind_some, refDigit_f, Option.bind_some]
  cases letterD r <;> simp
theorem refMay_f (n r : Int) : lecternref06_may.f 100 n r = some (if n = 2 then openB r else mayB r) := by
  unfold lecternref06_may.f mayB openB
  rw [refBlank_f, refWord_f, refMark_f]
  split
  · rfl
  · cases wordB r <;> simp
theorem filter_f (n : Int) : lecternref06_Filter.f n = some (filtF n).isSome := by
  unfold lecternref06_Filter.f filtF
  by_cases h : n ≥ 10
  · rw [if_pos h]
    by_cases h15 : n ≤ 15
    · have : n = 10 ∨ n = 11 ∨ n = 12 ∨ n = 13 ∨ n = 14 ∨ n = 15 := by omega
      rcases this with rfl | rfl | rfl | rfl | rfl | rfl <;> rfl
    · rw [if_neg (by omega), if_neg (by omega), if_neg (by omega), if_neg (by omega), if_neg (by omega), if_neg (by omega), decide_eq_false h15]; rfl
  · rw [if_neg h, if_neg (by omega), if_neg (by omega), if_neg (by omega), if_neg (by omega), if_neg (by omega), if_neg (by omega)]; rfl
theorem rdOf_get (xs : List ByteArray) (i : Nat) (h : i < xs.length) : rdOf ByteArray.empty xs (i : Int) = xs[i] := by
  show xs.getD (i : Int).toNat _ = _
  simp [List.getD_eq_getElem?_getD, h]
theorem stop_l0 (s : ByteArray) (l : List ByteArray) (hl : l.length ≤ 1152921504606846976) : ∀ d i, i + d = l.length → lecternref06_Stop.l0 (d + 1) s l (i : Int) = some ((l.drop i).any fun x => decide (x = s)) := by
  intro d
  induction d with
  | zero =>
    intro i hi
    rw [lecternref06_Stop.l0, if_neg (by omega), List.drop_eq_nil_of_le (by omega)]; rfl
  | succ d ih =>
    intro i hi
    have h1 := ih (i + 1) (by omega)
    have hlt : i < l.length := by omega
    rw [lecternref06_Stop.l0, if_pos (by omega), if_pos (by omega), rdOf_get l i hlt, List.drop_eq_getElem_cons hlt, List.any_cons]
    by_cases e : l[i] = s
    · rw [if_pos (by rw [e]), decide_eq_true e, Bool.true_or]
    · have hne : ¬ (l[i].toList = s.toList) := fun h => e (by have := toList_inj' (a := l[i]) (b := s); rw [h] at this; simpa using this)
      rw [if_neg hne, w64' (by omega) (by omega), show ((i : Int) + 1) = ((i + 1 : Nat) : Int) by omega, h1, decide_eq_false e, Bool.false_or]
end Go.Proofs.YtgbphkckiekehaaDoor.Ana
