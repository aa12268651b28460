-- Written by the kit's print.py at this session's call, over functions of my choice (no statement's print; not a text of print.sh)
import Derived.Test.YtgbphkckiekehaaDoorQRefx0
import Derived.Test.YtgbphkckiekehaaDoorQRefx2
namespace Go.Proofs.YtgbphkckiekehaaDoor.QRef
open Go.RowKit Go.Proofs.YtgbphkckiekehaaDoorW.PrintWords Go.Proofs.YtgbphkckiekehaaDoorW.PrintLast
set_option linter.unusedVariables false
set_option linter.unusedSimpArgs false

/-! ### fold_Lower: function 25 -/
mutual
def fold_Lower.j0 : Nat → Int → Bool → Option (Int)
  | 0, _, _ => none
  | k + 1, x0, x3 => if x3 = true then (some (wrap32 (x0 + 32))) else ((fold_in.f x0 913 939).bind fun t103 => (if t103 = true then (fold_Lower.j1 k x0 (x0 != 930)) else (fold_Lower.j1 k x0 false)))
def fold_Lower.j1 : Nat → Int → Bool → Option (Int)
  | 0, _, _ => none
  | k + 1, x0, x12 => if x12 = true then (fold_Lower.j2 k x0 x12) else ((fold_in.f x0 1040 1071).bind fun t104 => (fold_Lower.j2 k x0 t104))
def fold_Lower.j2 : Nat → Int → Bool → Option (Int)
  | 0, _, _ => none
  | k + 1, x0, x12 => if x12 = true then (some (wrap32 (x0 + 32))) else (if x0 = 304 then (fold_Lower.j3 k x0 (x0 == 304)) else (fold_Lower.j3 k x0 (x0 == 305)))
def fold_Lower.j3 : Nat → Int → Bool → Option (Int)
  | 0, _, _ => none
  | k + 1, x0, x21 => if x21 = true then (some x0) else ((fold_in.f x0 256 311).bind fun t105 => (if t105 = true then (fold_Lower.j4 k x0 t105) else ((fold_in.f x0 330 375).bind fun t106 => (fold_Lower.j4 k x0 t106))))
def fold_Lower.j4 : Nat → Int → Bool → Option (Int)
  | 0, _, _ => none
  | k + 1, x0, x26 => if x26 = true then ((fold_step.f x0 0).bind fun t107 => (some t107)) else ((fold_in.f x0 1120 1153).bind fun t108 => (if t108 = true then (fold_Lower.j5 k x0 t108) else ((fold_in.f x0 1162 1215).bind fun t109 => (if t109 = true then (fold_Lower.j5 k x0 t109) else ((fold_in.f x0 1232 1327).bind fun t110 => (fold_Lower.j5 k x0 t110))))))
def fold_Lower.j5 : Nat → Int → Bool → Option (Int)
  | 0, _, _ => none
  | k + 1, x0, x31 => if x31 = true then ((fold_step.f x0 0).bind fun t111 => (some t111)) else ((fold_in.f x0 313 328).bind fun t112 => (if t112 = true then (fold_Lower.j6 k x0 t112) else ((fold_in.f x0 377 382).bind fun t113 => (if t113 = true then (fold_Lower.j6 k x0 t113) else ((fold_in.f x0 1217 1230).bind fun t114 => (fold_Lower.j6 k x0 t114))))))
def fold_Lower.j6 : Nat → Int → Bool → Option (Int)
  | 0, _, _ => none
  | k + 1, x0, x38 => if x38 = true then ((fold_step.f x0 1).bind fun t115 => (some t115)) else (if x0 = 376 then (some 255) else (if x0 = 1216 then (some 1231) else (if x0 = 902 then (some 940) else ((fold_in.f x0 904 906).bind fun t116 => (if t116 = true then (some (wrap32 (x0 + 37))) else (if x0 = 908 then (some 972) else ((fold_in.f x0 910 911).bind fun t117 => (if t117 = true then (some (wrap32 (x0 + 63))) else ((fold_in.f x0 1024 1039).bind fun t118 => (if t118 = true then (some (wrap32 (x0 + 80))) else (some x0)))))))))))
end
def fold_Lower.f (k : Nat) (a0 : Int) : Option (Int) := (fold_in.f a0 65 90).bind fun t101 => (if t101 = true then (fold_Lower.j0 k a0 t101) else ((fold_in.f a0 192 222).bind fun t102 => (if t102 = true then (fold_Lower.j0 k a0 (a0 != 215)) else (fold_Lower.j0 k a0 false))))
theorem fold_Lower.mono_l : ∀ k, (∀ y0 y1, LeO (fold_Lower.j0 k y0 y1) (fold_Lower.j0 (k + 1) y0 y1)) ∧ (∀ y0 y1, LeO (fold_Lower.j1 k y0 y1) (fold_Lower.j1 (k + 1) y0 y1)) ∧ (∀ y0 y1, LeO (fold_Lower.j2 k y0 y1) (fold_Lower.j2 (k + 1) y0 y1)) ∧ (∀ y0 y1, LeO (fold_Lower.j3 k y0 y1) (fold_Lower.j3 (k + 1) y0 y1)) ∧ (∀ y0 y1, LeO (fold_Lower.j4 k y0 y1) (fold_Lower.j4 (k + 1) y0 y1)) ∧ (∀ y0 y1, LeO (fold_Lower.j5 k y0 y1) (fold_Lower.j5 (k + 1) y0 y1)) ∧ (∀ y0 y1, LeO (fold_Lower.j6 k y0 y1) (fold_Lower.j6 (k + 1) y0 y1))
  | 0 => ⟨fun _ _ r h => by simp [fold_Lower.j0] at h, fun _ _ r h => by simp [fold_Lower.j1] at h, fun _ _ r h => by simp [fold_Lower.j2] at h, fun _ _ r h => by simp [fold_Lower.j3] at h, fun _ _ r h => by simp [fold_Lower.j4] at h, fun _ _ r h => by simp [fold_Lower.j5] at h, fun _ _ r h => by simp [fold_Lower.j6] at h⟩
  | k + 1 => by
    obtain ⟨ih0, ih1, ih2, ih3, ih4, ih5, ih6⟩ := fold_Lower.mono_l k
    refine ⟨?_, ?_, ?_, ?_, ?_, ?_, ?_⟩
    · intro y0 y1
      unfold fold_Lower.j0
      repeat' first
      | (with_reducible exact ih0 _ _)
      | (with_reducible exact ih1 _ _)
      | (with_reducible exact ih2 _ _)
      | (with_reducible exact ih3 _ _)
      | (with_reducible exact ih4 _ _)
      | (with_reducible exact ih5 _ _)
      | (with_reducible exact ih6 _ _)
      | (with_reducible exact LeO.refl _)
      | (with_reducible exact LeO.none _)
      | (with_reducible refine LeO.ite ?_ ?_)
      | (with_reducible refine LeO.bind ?_ (fun _ => ?_))
      | exact ih0 _ _
      | exact ih1 _ _
      | exact ih2 _ _
      | exact ih3 _ _
      | exact ih4 _ _
      | exact ih5 _ _
      | exact ih6 _ _
      | exact LeO.none _
      | refine LeO.ite ?_ ?_
      | refine LeO.bind ?_ (fun _ => ?_)
    · intro y0 y1
      unfold fold_Lower.j1
      repeat' first
      | (with_reducible exact ih0 _ _)
      | (with_reducible exact ih1 _ _)
      | (with_reducible exact ih2 _ _)
      | (with_reducible exact ih3 _ _)
      | (with_reducible exact ih4 _ _)
      | (with_reducible exact ih5 _ _)
      | (with_reducible exact ih6 _ _)
      | (with_reducible exact LeO.refl _)
      | (with_reducible exact LeO.none _)
      | (with_reducible refine LeO.ite ?_ ?_)
      | (with_reducible refine LeO.bind ?_ (fun _ => ?_))
      | exact ih0 _ _
      | exact ih1 _ _
      | exact ih2 _ _
      | exact ih3 _ _
      | exact ih4 _ _
      | exact ih5 _ _
      | exact ih6 _ _
      | exact LeO.none _
      | refine LeO.ite ?_ ?_
      | refine LeO.bind ?_ (fun _ => ?_)
    · intro y0 y1
      unfold fold_Lower.j2
      repeat' first
      | (with_reducible exact ih0 _ _)
      | (with_reducible exact ih1 _ _)
      | (with_reducible exact ih2 _ _)
      | (with_reducible exact ih3 _ _)
      | (with_reducible exact ih4 _ _)
      | (with_reducible exact ih5 _ _)
      | (with_reducible exact ih6 _ _)
      | (with_reducible exact LeO.refl _)
      | (with_reducible exact LeO.none _)
      | (with_reducible refine LeO.ite ?_ ?_)
      | (with_reducible refine LeO.bind ?_ (fun _ => ?_))
      | exact ih0 _ _
      | exact ih1 _ _
      | exact ih2 _ _
      | exact ih3 _ _
      | exact ih4 _ _
      | exact ih5 _ _
      | exact ih6 _ _
      | exact LeO.none _
      | refine LeO.ite ?_ ?_
      | refine LeO.bind ?_ (fun _ => ?_)
    · intro y0 y1
      unfold fold_Lower.j3
      repeat' first
      | (with_reducible exact ih0 _ _)
      | (with_reducible exact ih1 _ _)
      | (with_reducible exact ih2 _ _)
      | (with_reducible exact ih3 _ _)
      | (with_reducible exact ih4 _ _)
      | (with_reducible exact ih5 _ _)
      | (with_reducible exact ih6 _ _)
      | (with_reducible exact LeO.refl _)
      | (with_reducible exact LeO.none _)
      | (with_reducible refine LeO.ite ?_ ?_)
      | (with_reducible refine LeO.bind ?_ (fun _ => ?_))
      | exact ih0 _ _
      | exact ih1 _ _
      | exact ih2 _ _
      | exact ih3 _ _
      | exact ih4 _ _
      | exact ih5 _ _
      | exact ih6 _ _
      | exact LeO.none _
      | refine LeO.ite ?_ ?_
      | refine LeO.bind ?_ (fun _ => ?_)
    · intro y0 y1
      unfold fold_Lower.j4
      repeat' first
      | (with_reducible exact ih0 _ _)
      | (with_reducible exact ih1 _ _)
      | (with_reducible exact ih2 _ _)
      | (with_reducible exact ih3 _ _)
      | (with_reducible exact ih4 _ _)
      | (with_reducible exact ih5 _ _)
      | (with_reducible exact ih6 _ _)
      | (with_reducible exact LeO.refl _)
      | (with_reducible exact LeO.none _)
      | (with_reducible refine LeO.ite ?_ ?_)
      | (with_reducible refine LeO.bind ?_ (fun _ => ?_))
      | exact ih0 _ _
      | exact ih1 _ _
      | exact ih2 _ _
      | exact ih3 _ _
      | exact ih4 _ _
      | exact ih5 _ _
      | exact ih6 _ _
      | exact LeO.none _
      | refine LeO.ite ?_ ?_
      | refine LeO.bind ?_ (fun _ => ?_)
    · intro y0 y1
      unfold fold_Lower.j5
      repeat' first
      | (with_reducible exact ih0 _ _)
      | (with_reducible exact ih1 _ _)
      | (with_reducible exact ih2 _ _)
      | (with_reducible exact ih3 _ _)
      | (with_reducible exact ih4 _ _)
      | (with_reducible exact ih5 _ _)
      | (with_reducible exact ih6 _ _)
      | (with_reducible exact LeO.refl _)
      | (with_reducible exact LeO.none _)
      | (with_reducible refine LeO.ite ?_ ?_)
      | (with_reducible refine LeO.bind ?_ (fun _ => ?_))
      | exact ih0 _ _
      | exact ih1 _ _
      | exact ih2 _ _
      | exact ih3 _ _
      | exact ih4 _ _
      | exact ih5 _ _
      | exact ih6 _ _
      | exact LeO.none _
      | refine LeO.ite ?_ ?_
      | refine LeO.bind ?_ (fun _ => ?_)
    · intro y0 y1
      unfold fold_Lower.j6
      repeat' first
      | (with_reducible exact ih0 _ _)
      | (with_reducible exact ih1 _ _)
      | (with_reducible exact ih2 _ _)
      | (with_reducible exact ih3 _ _)
      | (with_reducible exact ih4 _ _)
      | (with_reducible exact ih5 _ _)
      | (with_reducible exact ih6 _ _)
      | (with_reducible exact LeO.refl _)
      | (with_reducible exact LeO.none _)
      | (with_reducible refine LeO.ite ?_ ?_)
      | (with_reducible refine LeO.bind ?_ (fun _ => ?_))
      | exact ih0 _ _
      | exact ih1 _ _
      | exact ih2 _ _
      | exact ih3 _ _
      | exact ih4 _ _
      | exact ih5 _ _
      | exact ih6 _ _
      | exact LeO.none _
      | refine LeO.ite ?_ ?_
      | refine LeO.bind ?_ (fun _ => ?_)
theorem fold_Lower.mono : ∀ a0 k, LeO (fold_Lower.f k a0) (fold_Lower.f (k + 1) a0) := by
  intro a0 k
  obtain ⟨ih0, ih1, ih2, ih3, ih4, ih5, ih6⟩ := fold_Lower.mono_l k
  unfold fold_Lower.f
  repeat' first
      | (with_reducible exact ih0 _ _)
      | (with_reducible exact ih1 _ _)
      | (with_reducible exact ih2 _ _)
      | (with_reducible exact ih3 _ _)
      | (with_reducible exact ih4 _ _)
      | (with_reducible exact ih5 _ _)
      | (with_reducible exact ih6 _ _)
      | (with_reducible exact LeO.refl _)
      | (with_reducible exact LeO.none _)
      | (with_reducible refine LeO.ite ?_ ?_)
      | (with_reducible refine LeO.bind ?_ (fun _ => ?_))
      | exact ih0 _ _
      | exact ih1 _ _
      | exact ih2 _ _
      | exact ih3 _ _
      | exact ih4 _ _
      | exact ih5 _ _
      | exact ih6 _ _
      | exact LeO.none _
      | refine LeO.ite ?_ ?_
      | refine LeO.bind ?_ (fun _ => ?_)
set_option maxHeartbeats 8000000 in
set_option maxRecDepth 100000 in
theorem fold_Lower.calls (k : Nat) (a0 : Int) (r : Int) (w : World) (h : fold_Lower.f k a0 = some r) :
    Calls Tryd.prog 25 #[.int .i32 a0] w fun e w' => e = .returned (.int .i32 r) ∧ Drawn0 w w' := by
  have H : ((fold_in.f a0 65 90).bind fun t101 => (if t101 = true then (fold_Lower.j0 k a0 t101) else ((fold_in.f a0 192 222).bind fun t102 => (if t102 = true then (fold_Lower.j0 k a0 (a0 != 215)) else (fold_Lower.j0 k a0 false))))) = some r := h
  clear h
  replace H := Option.bind_eq_some_iff.mp H
  obtain ⟨t101, A20, H⟩ := H
  replace H : (if t101 = true then (fold_Lower.j0 k a0 t101) else ((fold_in.f a0 192 222).bind fun t102 => (if t102 = true then (fold_Lower.j0 k a0 (a0 != 215)) else (fold_Lower.j0 k a0 false)))) = some r := H
  have A2 := Aside0.mk A20
  clear A20
  have HC3 := Aside0.mk H
  clear H
  go_enter Tryd.func25, Tryd.ntmps25
  go_upto_if 3 with (first | ((with_reducible refine gate_callee (f := 56) rfl ?_); refine goesL_ (some 5) rfl rfl Tryd.func56 (by kernel_rfl) rfl #[.int .i32 a0, .int .i32 65, .int .i32 90] rfl (by (try simp only [List.map_toArray, List.map_cons, List.map_nil]); first | done | rfl | (simp only [List.length_drop, List.length_take]; rfl)) ?_; (with_reducible refine (fold_in.calls a0 65 90 t101 _ A2.out).mono ?_); rintro e w' ⟨rfl, ⟨nd, rfl⟩⟩; refine ⟨_, rfl, ?_⟩))
  (try simp only [Act.put, List.setIfInBounds_toArray, List.set_cons_zero, List.set_cons_succ])
  go_cut [3] (fun v3 wc => ∃ (kq : Nat) (x3_2 : Bool), v3 = .bool x3_2 ∧ Aside0 (fold_Lower.j0 kq a0 x3_2 = some r) ∧ Aside0 (kq ≤ k) ∧ Drawn0 w wc)
  case first =>
    have H := HC3.out
    clear HC3
    by_cases c4 : t101 = true
    · subst c4
      have H1 : (fold_Lower.j0 k a0 true) = some r := by rw [if_pos rfl] at H; exact H
      clear H
      have H := H1
      clear H1
      have H' := Aside0.mk H
      clear H
      go_wp2
      go_meet
      case rel => exact ⟨_, (true), (by first | rfl | (simp; done) | (simp [*]; done)), H', ⟨by first | omega | exact Nat.le_refl _⟩, by repeat (first | exact Drawn0.refl _ | apply Drawn0.step)⟩
    · replace c4 := Bool.eq_false_iff.mpr c4
      subst c4
      have H1 : ((fold_in.f a0 192 222).bind fun t102 => (if t102 = true then (fold_Lower.j0 k a0 (a0 != 215)) else (fold_Lower.j0 k a0 false))) = some r := by rw [if_neg (show ¬ (false = true) by decide)] at H; exact H
      clear H
      have H := H1
      clear H1
      replace H := Option.bind_eq_some_iff.mp H
      obtain ⟨t102, A50, H⟩ := H
      replace H : (if t102 = true then (fold_Lower.j0 k a0 (a0 != 215)) else (fold_Lower.j0 k a0 false)) = some r := H
      have A5 := Aside0.mk A50
      clear A50
      by_cases c6 : t102 = true
      · subst c6
        have H1 : (fold_Lower.j0 k a0 (a0 != 215)) = some r := by rw [if_pos rfl] at H; exact H
        clear H
        have H := H1
        clear H1
        have H' := Aside0.mk H
        clear H
        go_wp2_with (first | ((with_reducible refine gate_callee (f := 56) rfl ?_); refine goesL_ (some 7) rfl rfl Tryd.func56 (by kernel_rfl) rfl #[.int .i32 a0, .int .i32 192, .int .i32 222] rfl (by (try simp only [List.map_toArray, List.map_cons, List.map_nil]); first | done | rfl | (simp only [List.length_drop, List.length_take]; rfl)) ?_; (with_reducible refine (fold_in.calls a0 192 222 true _ A5.out).mono ?_); rintro e w' ⟨rfl, ⟨nd, rfl⟩⟩; refine ⟨_, rfl, ?_⟩))
        go_meet
        case rel => exact ⟨_, ((a0 != 215)), (by first | rfl | (simp; done) | (simp [*]; done)), H', ⟨by first | omega | exact Nat.le_refl _⟩, by repeat (first | exact Drawn0.refl _ | apply Drawn0.step)⟩
      · replace c6 := Bool.eq_false_iff.mpr c6
        subst c6
        have H1 : (fold_Lower.j0 k a0 false) = some r := by rw [if_neg (show ¬ (false = true) by decide)] at H; exact H
        clear H
        have H := H1
        clear H1
        have H' := Aside0.mk H
        clear H
        go_wp2_with (first | ((with_reducible refine gate_callee (f := 56) rfl ?_); refine goesL_ (some 7) rfl rfl Tryd.func56 (by kernel_rfl) rfl #[.int .i32 a0, .int .i32 192, .int .i32 222] rfl (by (try simp only [List.map_toArray, List.map_cons, List.map_nil]); first | done | rfl | (simp only [List.length_drop, List.length_take]; rfl)) ?_; (with_reducible refine (fold_in.calls a0 192 222 false _ A5.out).mono ?_); rintro e w' ⟨rfl, ⟨nd, rfl⟩⟩; refine ⟨_, rfl, ?_⟩))
        go_meet
        case rel => exact ⟨_, (false), (by first | rfl | (simp; done) | (simp [*]; done)), H', ⟨by first | omega | exact Nat.le_refl _⟩, by repeat (first | exact Drawn0.refl _ | apply Drawn0.step)⟩
  case rest =>
    clear HC3
    try clear c2
    try clear p2
    try clear c4
    try clear c5
    try clear c6
    obtain ⟨kq, x3_2, rfl, HA, HJ2, ⟨mc2, rfl⟩⟩ := hcut
    cases kq with
    | zero => exact absurd HA.out (by simp [fold_Lower.j0])
    | succ kj2 =>
      have H := HA.out
      clear HA
      simp only [fold_Lower.j0] at H
      by_cases c7 : x3_2 = true
      · subst c7
        have H1 : (some (wrap32 (a0 + 32))) = some r := by rw [if_pos rfl] at H; exact H
        clear H
        have H := H1
        clear H1
        obtain rfl := Option.some.inj H
        go_wp2
        go_ret
        exact ⟨by first | rfl | (simp; done) | (simp [*]; done), by repeat (first | exact Drawn0.refl _ | apply Drawn0.step)⟩
      · replace c7 := Bool.eq_false_iff.mpr c7
        subst c7
        have H1 : ((fold_in.f a0 913 939).bind fun t103 => (if t103 = true then (fold_Lower.j1 kj2 a0 (a0 != 930)) else (fold_Lower.j1 kj2 a0 false))) = some r := by rw [if_neg (show ¬ (false = true) by decide)] at H; exact H
        clear H
        have H := H1
        clear H1
        have HC8 := Aside0.mk H
        clear H
        go_upto_region 3 with (fail)
        go_cut [12] (fun v12 wc => ∃ (kq : Nat) (x12_7 : Bool), v12 = .bool x12_7 ∧ Aside0 (fold_Lower.j1 kq a0 x12_7 = some r) ∧ Aside0 (kq ≤ kj2) ∧ Drawn0 w wc)
        case first =>
          have H := HC8.out
          clear HC8
          replace H := Option.bind_eq_some_iff.mp H
          obtain ⟨t103, A90, H⟩ := H
          replace H : (if t103 = true then (fold_Lower.j1 kj2 a0 (a0 != 930)) else (fold_Lower.j1 kj2 a0 false)) = some r := H
          have A9 := Aside0.mk A90
          clear A90
          by_cases c10 : t103 = true
          · subst c10
            have H1 : (fold_Lower.j1 kj2 a0 (a0 != 930)) = some r := by rw [if_pos rfl] at H; exact H
            clear H
            have H := H1
            clear H1
            have H' := Aside0.mk H
            clear H
            go_wp2_with (first | ((with_reducible refine gate_callee (f := 56) rfl ?_); refine goesL_ (some 14) rfl rfl Tryd.func56 (by kernel_rfl) rfl #[.int .i32 a0, .int .i32 913, .int .i32 939] rfl (by (try simp only [List.map_toArray, List.map_cons, List.map_nil]); first | done | rfl | (simp only [List.length_drop, List.length_take]; rfl)) ?_; (with_reducible refine (fold_in.calls a0 913 939 true _ A9.out).mono ?_); rintro e w' ⟨rfl, ⟨nd, rfl⟩⟩; refine ⟨_, rfl, ?_⟩))
            go_meet
            case rel => exact ⟨_, ((a0 != 930)), (by first | rfl | (simp; done) | (simp [*]; done)), H', ⟨by have := HJ2.out; first | omega | exact Nat.le_refl _⟩, by repeat (first | exact Drawn0.refl _ | apply Drawn0.step)⟩
          · replace c10 := Bool.eq_false_iff.mpr c10
            subst c10
            have H1 : (fold_Lower.j1 kj2 a0 false) = some r := by rw [if_neg (show ¬ (false = true) by decide)] at H; exact H
            clear H
            have H := H1
            clear H1
            have H' := Aside0.mk H
            clear H
            go_wp2_with (first | ((with_reducible refine gate_callee (f := 56) rfl ?_); refine goesL_ (some 14) rfl rfl Tryd.func56 (by kernel_rfl) rfl #[.int .i32 a0, .int .i32 913, .int .i32 939] rfl (by (try simp only [List.map_toArray, List.map_cons, List.map_nil]); first | done | rfl | (simp only [List.length_drop, List.length_take]; rfl)) ?_; (with_reducible refine (fold_in.calls a0 913 939 false _ A9.out).mono ?_); rintro e w' ⟨rfl, ⟨nd, rfl⟩⟩; refine ⟨_, rfl, ?_⟩))
            go_meet
            case rel => exact ⟨_, (false), (by first | rfl | (simp; done) | (simp [*]; done)), H', ⟨by have := HJ2.out; first | omega | exact Nat.le_refl _⟩, by repeat (first | exact Drawn0.refl _ | apply Drawn0.step)⟩
        case rest =>
          clear HC8
          try clear c1
          try clear c2
          try clear p2
          try clear p3
          try clear c4
          try clear c5
          try clear c6
          try clear c7
          try clear c10
          try clear p2
          obtain ⟨kq, x12_7, rfl, HA, HJ7, ⟨mc7, rfl⟩⟩ := hcut
          cases kq with
          | zero => exact absurd HA.out (by simp [fold_Lower.j1])
          | succ kj7 =>
            have H := HA.out
            clear HA
            simp only [fold_Lower.j1] at H
            have HC11 := Aside0.mk H
            clear H
            go_upto_if 12 with (fail)
            go_cut [12] (fun v12 wc => ∃ (kq : Nat) (x12_10 : Bool), v12 = .bool x12_10 ∧ Aside0 (fold_Lower.j2 kq a0 x12_10 = some r) ∧ Aside0 (kq ≤ kj7) ∧ Drawn0 w wc)
            case first =>
              have H := HC11.out
              clear HC11
              by_cases c12 : x12_7 = true
              · subst c12
                have H1 : (fold_Lower.j2 kj7 a0 true) = some r := by rw [if_pos rfl] at H; exact H
                clear H
                have H := H1
                clear H1
                have H' := Aside0.mk H
                clear H
                go_wp2
                go_meet
                case rel => exact ⟨_, (true), (by first | rfl | (simp; done) | (simp [*]; done)), H', ⟨by have := HJ2.out; have := HJ7.out; first | omega | exact Nat.le_refl _⟩, by repeat (first | exact Drawn0.refl _ | apply Drawn0.step)⟩
              · replace c12 := Bool.eq_false_iff.mpr c12
                subst c12
                have H1 : ((fold_in.f a0 1040 1071).bind fun t104 => (fold_Lower.j2 kj7 a0 t104)) = some r := by rw [if_neg (show ¬ (false = true) by decide)] at H; exact H
                clear H
                have H := H1
                clear H1
                replace H := Option.bind_eq_some_iff.mp H
                obtain ⟨t104, A130, H⟩ := H
                replace H : (fold_Lower.j2 kj7 a0 t104) = some r := H
                have A13 := Aside0.mk A130
                clear A130
                have H' := Aside0.mk H
                clear H
                go_wp2_with (first | ((with_reducible refine gate_callee (f := 56) rfl ?_); refine goesL_ (some 20) rfl rfl Tryd.func56 (by kernel_rfl) rfl #[.int .i32 a0, .int .i32 1040, .int .i32 1071] rfl (by (try simp only [List.map_toArray, List.map_cons, List.map_nil]); first | done | rfl | (simp only [List.length_drop, List.length_take]; rfl)) ?_; (with_reducible refine (fold_in.calls a0 1040 1071 t104 _ A13.out).mono ?_); rintro e w' ⟨rfl, ⟨nd, rfl⟩⟩; refine ⟨_, rfl, ?_⟩))
                go_meet
                case rel => exact ⟨_, (t104), (by first | rfl | (simp; done) | (simp [*]; done)), H', ⟨by have := HJ2.out; have := HJ7.out; first | omega | exact Nat.le_refl _⟩, by repeat (first | exact Drawn0.refl _ | apply Drawn0.step)⟩
            case rest =>
              clear HC11
              try clear c1
              try clear c2
              try clear p2
              try clear p3
              try clear c4
              try clear c5
              try clear c6
              try clear c7
              try clear c10
              try clear c12
              try clear p2
              try clear p3
              obtain ⟨kq, x12_10, rfl, HA, HJ10, ⟨mc10, rfl⟩⟩ := hcut
              cases kq with
              | zero => exact absurd HA.out (by simp [fold_Lower.j2])
              | succ kj10 =>
                have H := HA.out
                clear HA
                simp only [fold_Lower.j2] at H
                by_cases c14 : x12_10 = true
                · subst c14
                  have H1 : (some (wrap32 (a0 + 32))) = some r := by rw [if_pos rfl] at H; exact H
                  clear H
                  have H := H1
                  clear H1
                  obtain rfl := Option.some.inj H
                  go_wp2
                  go_ret
                  exact ⟨by first | rfl | (simp; done) | (simp [*]; done), by repeat (first | exact Drawn0.refl _ | apply Drawn0.step)⟩
                · replace c14 := Bool.eq_false_iff.mpr c14
                  subst c14
                  have H1 : (if a0 = 304 then (fold_Lower.j3 kj10 a0 (a0 == 304)) else (fold_Lower.j3 kj10 a0 (a0 == 305))) = some r := by rw [if_neg (show ¬ (false = true) by decide)] at H; exact H
                  clear H
                  have H := H1
                  clear H1
                  have HC15 := Aside0.mk H
                  clear H
                  go_upto_if 21 with (fail)
                  go_cut [21] (fun v21 wc => ∃ (kq : Nat) (x21_14 : Bool), v21 = .bool x21_14 ∧ Aside0 (fold_Lower.j3 kq a0 x21_14 = some r) ∧ Aside0 (kq ≤ kj10) ∧ Drawn0 w wc)
                  case first =>
                    have H := HC15.out
                    clear HC15
                    by_cases c16 : a0 = 304
                    · rw [if_pos c16] at H
                      have c16b0 : (a0 == 304) = true := beq_iff_eq.mpr c16
                      have c16b1 : (a0 != 304) = false := bne_eq_false_iff_eq.mpr c16
                      clear c16
                      (first | rw [c16b0] | (simp only [i64_w, i32_w]; rw [c16b0]) | skip)
                      have H' := Aside0.mk H
                      clear H
                      go_wp2
                      go_meet
                      case rel => exact ⟨_, ((a0 == 304)), (by first | rfl | (simp; done) | (simp [*]; done)), H', ⟨by have := HJ2.out; have := HJ7.out; have := HJ10.out; first | omega | exact Nat.le_refl _⟩, by repeat (first | exact Drawn0.refl _ | apply Drawn0.step)⟩
                    · rw [if_neg c16] at H
                      have c16b0 : (a0 == 304) = false := beq_eq_false_iff_ne.mpr c16
                      have c16b1 : (a0 != 304) = true := bne_iff_ne.mpr c16
                      (first | rw [c16b0] | (simp only [i64_w, i32_w]; rw [c16b0]) | skip)
                      have H' := Aside0.mk H
                      clear H
                      go_wp2
                      go_meet
                      case rel => exact ⟨_, ((a0 == 305)), (by first | rfl | (simp; done) | (simp [*]; done)), H', ⟨by have := HJ2.out; have := HJ7.out; have := HJ10.out; first | omega | exact Nat.le_refl _⟩, by repeat (first | exact Drawn0.refl _ | apply Drawn0.step)⟩
                  case rest =>
                    clear HC15
                    try clear c1
                    try clear c2
                    try clear p2
                    try clear p3
                    try clear c4
                    try clear c5
                    try clear c6
                    try clear c7
                    try clear c10
                    try clear c12
                    try clear c14
                    try clear c16
                    try clear c16b0
                    try clear c16b1
                    try clear p2
                    try clear p3
                    obtain ⟨kq, x21_14, rfl, HA, HJ14, ⟨mc14, rfl⟩⟩ := hcut
                    cases kq with
                    | zero => exact absurd HA.out (by simp [fold_Lower.j3])
                    | succ kj14 =>
                      have H := HA.out
                      clear HA
                      simp only [fold_Lower.j3] at H
                      by_cases c17 : x21_14 = true
                      · subst c17
                        have H1 : (some a0) = some r := by rw [if_pos rfl] at H; exact H
                        clear H
                        have H := H1
                        clear H1
                        obtain rfl := Option.some.inj H
                        go_wp2
                        go_ret
                        exact ⟨by first | rfl | (simp; done) | (simp [*]; done), by repeat (first | exact Drawn0.refl _ | apply Drawn0.step)⟩
                      · replace c17 := Bool.eq_false_iff.mpr c17
                        subst c17
                        have H1 : ((fold_in.f a0 256 311).bind fun t105 => (if t105 = true then (fold_Lower.j4 kj14 a0 t105) else ((fold_in.f a0 330 375).bind fun t106 => (fold_Lower.j4 kj14 a0 t106)))) = some r := by rw [if_neg (show ¬ (false = true) by decide)] at H; exact H
                        clear H
                        have H := H1
                        clear H1
                        replace H := Option.bind_eq_some_iff.mp H
                        obtain ⟨t105, A180, H⟩ := H
                        replace H : (if t105 = true then (fold_Lower.j4 kj14 a0 t105) else ((fold_in.f a0 330 375).bind fun t106 => (fold_Lower.j4 kj14 a0 t106))) = some r := H
                        have A18 := Aside0.mk A180
                        clear A180
                        have HC19 := Aside0.mk H
                        clear H
                        go_upto_if 26 with (first | ((with_reducible refine gate_callee (f := 56) rfl ?_); refine goesL_ (some 28) rfl rfl Tryd.func56 (by kernel_rfl) rfl #[.int .i32 a0, .int .i32 256, .int .i32 311] rfl (by (try simp only [List.map_toArray, List.map_cons, List.map_nil]); first | done | rfl | (simp only [List.length_drop, List.length_take]; rfl)) ?_; (with_reducible refine (fold_in.calls a0 256 311 t105 _ A18.out).mono ?_); rintro e w' ⟨rfl, ⟨nd, rfl⟩⟩; refine ⟨_, rfl, ?_⟩))
                        (try simp only [Act.put, List.setIfInBounds_toArray, List.set_cons_zero, List.set_cons_succ])
                        go_cut [26] (fun v26 wc => ∃ (kq : Nat) (x26_18 : Bool), v26 = .bool x26_18 ∧ Aside0 (fold_Lower.j4 kq a0 x26_18 = some r) ∧ Aside0 (kq ≤ kj14) ∧ Drawn0 w wc)
                        case first =>
                          have H := HC19.out
                          clear HC19
                          by_cases c20 : t105 = true
                          · subst c20
                            have H1 : (fold_Lower.j4 kj14 a0 true) = some r := by rw [if_pos rfl] at H; exact H
                            clear H
                            have H := H1
                            clear H1
                            have H' := Aside0.mk H
                            clear H
                            go_wp2
                            go_meet
                            case rel => exact ⟨_, (true), (by first | rfl | (simp; done) | (simp [*]; done)), H', ⟨by have := HJ2.out; have := HJ7.out; have := HJ10.out; have := HJ14.out; first | omega | exact Nat.le_refl _⟩, by repeat (first | exact Drawn0.refl _ | apply Drawn0.step)⟩
                          · replace c20 := Bool.eq_false_iff.mpr c20
                            subst c20
                            have H1 : ((fold_in.f a0 330 375).bind fun t106 => (fold_Lower.j4 kj14 a0 t106)) = some r := by rw [if_neg (show ¬ (false = true) by decide)] at H; exact H
                            clear H
                            have H := H1
                            clear H1
                            replace H := Option.bind_eq_some_iff.mp H
                            obtain ⟨t106, A210, H⟩ := H
                            replace H : (fold_Lower.j4 kj14 a0 t106) = some r := H
                            have A21 := Aside0.mk A210
                            clear A210
                            have H' := Aside0.mk H
                            clear H
                            go_wp2_with (first | ((with_reducible refine gate_callee (f := 56) rfl ?_); refine goesL_ (some 30) rfl rfl Tryd.func56 (by kernel_rfl) rfl #[.int .i32 a0, .int .i32 330, .int .i32 375] rfl (by (try simp only [List.map_toArray, List.map_cons, List.map_nil]); first | done | rfl | (simp only [List.length_drop, List.length_take]; rfl)) ?_; (with_reducible refine (fold_in.calls a0 330 375 t106 _ A21.out).mono ?_); rintro e w' ⟨rfl, ⟨nd, rfl⟩⟩; refine ⟨_, rfl, ?_⟩))
                            go_meet
                            case rel => exact ⟨_, (t106), (by first | rfl | (simp; done) | (simp [*]; done)), H', ⟨by have := HJ2.out; have := HJ7.out; have := HJ10.out; have := HJ14.out; first | omega | exact Nat.le_refl _⟩, by repeat (first | exact Drawn0.refl _ | apply Drawn0.step)⟩
                        case rest =>
                          clear HC19
                          try clear c1
                          try clear c2
                          try clear p2
                          try clear p3
                          try clear c4
                          try clear c5
                          try clear c6
                          try clear c7
                          try clear c10
                          try clear c12
                          try clear c14
                          try clear c16
                          try clear c16b0
                          try clear c16b1
                          try clear c17
                          try clear c20
                          try clear p2
                          try clear p3
                          obtain ⟨kq, x26_18, rfl, HA, HJ18, ⟨mc18, rfl⟩⟩ := hcut
                          cases kq with
                          | zero => exact absurd HA.out (by simp [fold_Lower.j4])
                          | succ kj18 =>
                            have H := HA.out
                            clear HA
                            simp only [fold_Lower.j4] at H
                            by_cases c22 : x26_18 = true
                            · subst c22
                              have H1 : ((fold_step.f a0 0).bind fun t107 => (some t107)) = some r := by rw [if_pos rfl] at H; exact H
                              clear H
                              have H := H1
                              clear H1
                              replace H := Option.bind_eq_some_iff.mp H
                              obtain ⟨t107, A230, H⟩ := H
                              replace H : (some t107) = some r := H
                              have A23 := Aside0.mk A230
                              clear A230
                              obtain rfl := Option.some.inj H
                              go_wp2_with (first | ((with_reducible refine gate_callee (f := 57) rfl ?_); refine goesL_ (some 70) rfl rfl Tryd.func57 (by kernel_rfl) rfl #[.int .i32 a0, .int .i32 0] rfl (by (try simp only [List.map_toArray, List.map_cons, List.map_nil]); first | done | rfl | (simp only [List.length_drop, List.length_take]; rfl)) ?_; (with_reducible refine (fold_step.calls a0 0 t107 _ A23.out).mono ?_); rintro e w' ⟨rfl, ⟨nd, rfl⟩⟩; refine ⟨_, rfl, ?_⟩))
                              go_ret
                              exact ⟨by first | rfl | (simp; done) | (simp [*]; done), by repeat (first | exact Drawn0.refl _ | apply Drawn0.step)⟩
                            · replace c22 := Bool.eq_false_iff.mpr c22
                              subst c22
                              have H1 : ((fold_in.f a0 1120 1153).bind fun t108 => (if t108 = true then (fold_Lower.j5 kj18 a0 t108) else ((fold_in.f a0 1162 1215).bind fun t109 => (if t109 = true then (fold_Lower.j5 kj18 a0 t109) else ((fold_in.f a0 1232 1327).bind fun t110 => (fold_Lower.j5 kj18 a0 t110)))))) = some r := by rw [if_neg (show ¬ (false = true) by decide)] at H; exact H
                              clear H
                              have H := H1
                              clear H1
                              replace H := Option.bind_eq_some_iff.mp H
                              obtain ⟨t108, A240, H⟩ := H
                              replace H : (if t108 = true then (fold_Lower.j5 kj18 a0 t108) else ((fold_in.f a0 1162 1215).bind fun t109 => (if t109 = true then (fold_Lower.j5 kj18 a0 t109) else ((fold_in.f a0 1232 1327).bind fun t110 => (fold_Lower.j5 kj18 a0 t110))))) = some r := H
                              have A24 := Aside0.mk A240
                              clear A240
                              have HC25 := Aside0.mk H
                              clear H
                              go_upto_if 31 with (first | ((with_reducible refine gate_callee (f := 56) rfl ?_); refine goesL_ (some 33) rfl rfl Tryd.func56 (by kernel_rfl) rfl #[.int .i32 a0, .int .i32 1120, .int .i32 1153] rfl (by (try simp only [List.map_toArray, List.map_cons, List.map_nil]); first | done | rfl | (simp only [List.length_drop, List.length_take]; rfl)) ?_; (with_reducible refine (fold_in.calls a0 1120 1153 t108 _ A24.out).mono ?_); rintro e w' ⟨rfl, ⟨nd, rfl⟩⟩; refine ⟨_, rfl, ?_⟩))
                              (try simp only [Act.put, List.setIfInBounds_toArray, List.set_cons_zero, List.set_cons_succ])
                              go_cut [31] (fun v31 wc => ∃ (kq : Nat) (x31_24 : Bool), v31 = .bool x31_24 ∧ Aside0 (fold_Lower.j5 kq a0 x31_24 = some r) ∧ Aside0 (kq ≤ kj18) ∧ Drawn0 w wc)
                              case first =>
                                have H := HC25.out
                                clear HC25
                                by_cases c26 : t108 = true
                                · subst c26
                                  have H1 : (fold_Lower.j5 kj18 a0 true) = some r := by rw [if_pos rfl] at H; exact H
                                  clear H
                                  have H := H1
                                  clear H1
                                  have H' := Aside0.mk H
                                  clear H
                                  go_wp2
                                  go_meet
                                  case rel => exact ⟨_, (true), (by first | rfl | (simp; done) | (simp [*]; done)), H', ⟨by have := HJ2.out; have := HJ7.out; have := HJ10.out; have := HJ14.out; have := HJ18.out; first | omega | exact Nat.le_refl _⟩, by repeat (first | exact Drawn0.refl _ | apply Drawn0.step)⟩
                                · replace c26 := Bool.eq_false_iff.mpr c26
                                  subst c26
                                  have H1 : ((fold_in.f a0 1162 1215).bind fun t109 => (if t109 = true then (fold_Lower.j5 kj18 a0 t109) else ((fold_in.f a0 1232 1327).bind fun t110 => (fold_Lower.j5 kj18 a0 t110)))) = some r := by rw [if_neg (show ¬ (false = true) by decide)] at H; exact H
                                  clear H
                                  have H := H1
                                  clear H1
                                  replace H := Option.bind_eq_some_iff.mp H
                                  obtain ⟨t109, A270, H⟩ := H
                                  replace H : (if t109 = true then (fold_Lower.j5 kj18 a0 t109) else ((fold_in.f a0 1232 1327).bind fun t110 => (fold_Lower.j5 kj18 a0 t110))) = some r := H
                                  have A27 := Aside0.mk A270
                                  clear A270
                                  by_cases c28 : t109 = true
                                  · subst c28
                                    have H1 : (fold_Lower.j5 kj18 a0 true) = some r := by rw [if_pos rfl] at H; exact H
                                    clear H
                                    have H := H1
                                    clear H1
                                    have H' := Aside0.mk H
                                    clear H
                                    go_wp2_with (first | ((with_reducible refine gate_callee (f := 56) rfl ?_); refine goesL_ (some 35) rfl rfl Tryd.func56 (by kernel_rfl) rfl #[.int .i32 a0, .int .i32 1162, .int .i32 1215] rfl (by (try simp only [List.map_toArray, List.map_cons, List.map_nil]); first | done | rfl | (simp only [List.length_drop, List.length_take]; rfl)) ?_; (with_reducible refine (fold_in.calls a0 1162 1215 true _ A27.out).mono ?_); rintro e w' ⟨rfl, ⟨nd, rfl⟩⟩; refine ⟨_, rfl, ?_⟩))
                                    go_meet
                                    case rel => exact ⟨_, (true), (by first | rfl | (simp; done) | (simp [*]; done)), H', ⟨by have := HJ2.out; have := HJ7.out; have := HJ10.out; have := HJ14.out; have := HJ18.out; first | omega | exact Nat.le_refl _⟩, by repeat (first | exact Drawn0.refl _ | apply Drawn0.step)⟩
                                  · replace c28 := Bool.eq_false_iff.mpr c28
                                    subst c28
                                    have H1 : ((fold_in.f a0 1232 1327).bind fun t110 => (fold_Lower.j5 kj18 a0 t110)) = some r := by rw [if_neg (show ¬ (false = true) by decide)] at H; exact H
                                    clear H
                                    have H := H1
                                    clear H1
                                    replace H := Option.bind_eq_some_iff.mp H
                                    obtain ⟨t110, A290, H⟩ := H
                                    replace H : (fold_Lower.j5 kj18 a0 t110) = some r := H
                                    have A29 := Aside0.mk A290
                                    clear A290
                                    have H' := Aside0.mk H
                                    clear H
                                    go_wp2_with (first | ((with_reducible refine gate_callee (f := 56) rfl ?_); refine goesL_ (some 35) rfl rfl Tryd.func56 (by kernel_rfl) rfl #[.int .i32 a0, .int .i32 1162, .int .i32 1215] rfl (by (try simp only [List.map_toArray, List.map_cons, List.map_nil]); first | done | rfl | (simp only [List.length_drop, List.length_take]; rfl)) ?_; (with_reducible refine (fold_in.calls a0 1162 1215 false _ A27.out).mono ?_); rintro e w' ⟨rfl, ⟨nd, rfl⟩⟩; refine ⟨_, rfl, ?_⟩) | ((with_reducible refine gate_callee (f := 56) rfl ?_); refine goesL_ (some 37) rfl rfl Tryd.func56 (by kernel_rfl) rfl #[.int .i32 a0, .int .i32 1232, .int .i32 1327] rfl (by (try simp only [List.map_toArray, List.map_cons, List.map_nil]); first | done | rfl | (simp only [List.length_drop, List.length_take]; rfl)) ?_; (with_reducible refine (fold_in.calls a0 1232 1327 t110 _ A29.out).mono ?_); rintro e w' ⟨rfl, ⟨nd, rfl⟩⟩; refine ⟨_, rfl, ?_⟩))
                                    go_meet
                                    case rel => exact ⟨_, (t110), (by first | rfl | (simp; done) | (simp [*]; done)), H', ⟨by have := HJ2.out; have := HJ7.out; have := HJ10.out; have := HJ14.out; have := HJ18.out; first | omega | exact Nat.le_refl _⟩, by repeat (first | exact Drawn0.refl _ | apply Drawn0.step)⟩
                              case rest =>
                                clear HC25
                                try clear c1
                                try clear c2
                                try clear p2
                                try clear p3
                                try clear c4
                                try clear c5
                                try clear c6
                                try clear c7
                                try clear c10
                                try clear c12
                                try clear c14
                                try clear c16
                                try clear c16b0
                                try clear c16b1
                                try clear c17
                                try clear c18
                                try clear c20
                                try clear c22
                                try clear c25
                                try clear c26
                                try clear c28
                                try clear p2
                                try clear p3
                                obtain ⟨kq, x31_24, rfl, HA, HJ24, ⟨mc24, rfl⟩⟩ := hcut
                                cases kq with
                                | zero => exact absurd HA.out (by simp [fold_Lower.j5])
                                | succ kj24 =>
                                  have H := HA.out
                                  clear HA
                                  simp only [fold_Lower.j5] at H
                                  by_cases c30 : x31_24 = true
                                  · subst c30
                                    have H1 : ((fold_step.f a0 0).bind fun t111 => (some t111)) = some r := by rw [if_pos rfl] at H; exact H
                                    clear H
                                    have H := H1
                                    clear H1
                                    replace H := Option.bind_eq_some_iff.mp H
                                    obtain ⟨t111, A310, H⟩ := H
                                    replace H : (some t111) = some r := H
                                    have A31 := Aside0.mk A310
                                    clear A310
                                    obtain rfl := Option.some.inj H
                                    go_wp2_with (first | ((with_reducible refine gate_callee (f := 57) rfl ?_); refine goesL_ (some 70) rfl rfl Tryd.func57 (by kernel_rfl) rfl #[.int .i32 a0, .int .i32 0] rfl (by (try simp only [List.map_toArray, List.map_cons, List.map_nil]); first | done | rfl | (simp only [List.length_drop, List.length_take]; rfl)) ?_; (with_reducible refine (fold_step.calls a0 0 t111 _ A31.out).mono ?_); rintro e w' ⟨rfl, ⟨nd, rfl⟩⟩; refine ⟨_, rfl, ?_⟩))
                                    go_ret
                                    exact ⟨by first | rfl | (simp; done) | (simp [*]; done), by repeat (first | exact Drawn0.refl _ | apply Drawn0.step)⟩
                                  · replace c30 := Bool.eq_false_iff.mpr c30
                                    subst c30
                                    have H1 : ((fold_in.f a0 313 328).bind fun t112 => (if t112 = true then (fold_Lower.j6 kj24 a0 t112) else ((fold_in.f a0 377 382).bind fun t113 => (if t113 = true then (fold_Lower.j6 kj24 a0 t113) else ((fold_in.f a0 1217 1230).bind fun t114 => (fold_Lower.j6 kj24 a0 t114)))))) = some r := by rw [if_neg (show ¬ (false = true) by decide)] at H; exact H
                                    clear H
                                    have H := H1
                                    clear H1
                                    replace H := Option.bind_eq_some_iff.mp H
                                    obtain ⟨t112, A320, H⟩ := H
                                    replace H : (if t112 = true then (fold_Lower.j6 kj24 a0 t112) else ((fold_in.f a0 377 382).bind fun t113 => (if t113 = true then (fold_Lower.j6 kj24 a0 t113) else ((fold_in.f a0 1217 1230).bind fun t114 => (fold_Lower.j6 kj24 a0 t114))))) = some r := H
                                    have A32 := Aside0.mk A320
                                    clear A320
                                    have HC33 := Aside0.mk H
                                    clear H
                                    go_upto_if 38 with (first | ((with_reducible refine gate_callee (f := 56) rfl ?_); refine goesL_ (some 40) rfl rfl Tryd.func56 (by kernel_rfl) rfl #[.int .i32 a0, .int .i32 313, .int .i32 328] rfl (by (try simp only [List.map_toArray, List.map_cons, List.map_nil]); first | done | rfl | (simp only [List.length_drop, List.length_take]; rfl)) ?_; (with_reducible refine (fold_in.calls a0 313 328 t112 _ A32.out).mono ?_); rintro e w' ⟨rfl, ⟨nd, rfl⟩⟩; refine ⟨_, rfl, ?_⟩))
                                    (try simp only [Act.put, List.setIfInBounds_toArray, List.set_cons_zero, List.set_cons_succ])
                                    go_cut [38] (fun v38 wc => ∃ (kq : Nat) (x38_32 : Bool), v38 = .bool x38_32 ∧ Aside0 (fold_Lower.j6 kq a0 x38_32 = some r) ∧ Aside0 (kq ≤ kj24) ∧ Drawn0 w wc)
                                    case first =>
                                      have H := HC33.out
                                      clear HC33
                                      by_cases c34 : t112 = true
                                      · subst c34
                                        have H1 : (fold_Lower.j6 kj24 a0 true) = some r := by rw [if_pos rfl] at H; exact H
                                        clear H
                                        have H := H1
                                        clear H1
                                        have H' := Aside0.mk H
                                        clear H
                                        go_wp2
                                        go_meet
                                        case rel => exact ⟨_, (true), (by first | rfl | (simp; done) | (simp [*]; done)), H', ⟨by have := HJ2.out; have := HJ7.out; have := HJ10.out; have := HJ14.out; have := HJ18.out; have := HJ24.out; first | omega | exact Nat.le_refl _⟩, by repeat (first | exact Drawn0.refl _ | apply Drawn0.step)⟩
                                      · replace c34 := Bool.eq_false_iff.mpr c34
                                        subst c34
                                        have H1 : ((fold_in.f a0 377 382).bind fun t113 => (if t113 = true then (fold_Lower.j6 kj24 a0 t113) else ((fold_in.f a0 1217 1230).bind fun t114 => (fold_Lower.j6 kj24 a0 t114)))) = some r := by rw [if_neg (show ¬ (false = true) by decide)] at H; exact H
                                        clear H
                                        have H := H1
                                        clear H1
                                        replace H := Option.bind_eq_some_iff.mp H
                                        obtain ⟨t113, A350, H⟩ := H
                                        replace H : (if t113 = true then (fold_Lower.j6 kj24 a0 t113) else ((fold_in.f a0 1217 1230).bind fun t114 => (fold_Lower.j6 kj24 a0 t114))) = some r := H
                                        have A35 := Aside0.mk A350
                                        clear A350
                                        by_cases c36 : t113 = true
                                        · subst c36
                                          have H1 : (fold_Lower.j6 kj24 a0 true) = some r := by rw [if_pos rfl] at H; exact H
                                          clear H
                                          have H := H1
                                          clear H1
                                          have H' := Aside0.mk H
                                          clear H
                                          go_wp2_with (first | ((with_reducible refine gate_callee (f := 56) rfl ?_); refine goesL_ (some 42) rfl rfl Tryd.func56 (by kernel_rfl) rfl #[.int .i32 a0, .int .i32 377, .int .i32 382] rfl (by (try simp only [List.map_toArray, List.map_cons, List.map_nil]); first | done | rfl | (simp only [List.length_drop, List.length_take]; rfl)) ?_; (with_reducible refine (fold_in.calls a0 377 382 true _ A35.out).mono ?_); rintro e w' ⟨rfl, ⟨nd, rfl⟩⟩; refine ⟨_, rfl, ?_⟩))
                                          go_meet
                                          case rel => exact ⟨_, (true), (by first | rfl | (simp; done) | (simp [*]; done)), H', ⟨by have := HJ2.out; have := HJ7.out; have := HJ10.out; have := HJ14.out; have := HJ18.out; have := HJ24.out; first | omega | exact Nat.le_refl _⟩, by repeat (first | exact Drawn0.refl _ | apply Drawn0.step)⟩
                                        · replace c36 := Bool.eq_false_iff.mpr c36
                                          subst c36
                                          have H1 : ((fold_in.f a0 1217 1230).bind fun t114 => (fold_Lower.j6 kj24 a0 t114)) = some r := by rw [if_neg (show ¬ (false = true) by decide)] at H; exact H
                                          clear H
                                          have H := H1
                                          clear H1
                                          replace H := Option.bind_eq_some_iff.mp H
                                          obtain ⟨t114, A370, H⟩ := H
                                          replace H : (fold_Lower.j6 kj24 a0 t114) = some r := H
                                          have A37 := Aside0.mk A370
                                          clear A370
                                          have H' := Aside0.mk H
                                          clear H
                                          go_wp2_with (first | ((with_reducible refine gate_callee (f := 56) rfl ?_); refine goesL_ (some 42) rfl rfl Tryd.func56 (by kernel_rfl) rfl #[.int .i32 a0, .int .i32 377, .int .i32 382] rfl (by (try simp only [List.map_toArray, List.map_cons, List.map_nil]); first | done | rfl | (simp only [List.length_drop, List.length_take]; rfl)) ?_; (with_reducible refine (fold_in.calls a0 377 382 false _ A35.out).mono ?_); rintro e w' ⟨rfl, ⟨nd, rfl⟩⟩; refine ⟨_, rfl, ?_⟩) | ((with_reducible refine gate_callee (f := 56) rfl ?_); refine goesL_ (some 44) rfl rfl Tryd.func56 (by kernel_rfl) rfl #[.int .i32 a0, .int .i32 1217, .int .i32 1230] rfl (by (try simp only [List.map_toArray, List.map_cons, List.map_nil]); first | done | rfl | (simp only [List.length_drop, List.length_take]; rfl)) ?_; (with_reducible refine (fold_in.calls a0 1217 1230 t114 _ A37.out).mono ?_); rintro e w' ⟨rfl, ⟨nd, rfl⟩⟩; refine ⟨_, rfl, ?_⟩))
                                          go_meet
                                          case rel => exact ⟨_, (t114), (by first | rfl | (simp; done) | (simp [*]; done)), H', ⟨by have := HJ2.out; have := HJ7.out; have := HJ10.out; have := HJ14.out; have := HJ18.out; have := HJ24.out; first | omega | exact Nat.le_refl _⟩, by repeat (first | exact Drawn0.refl _ | apply Drawn0.step)⟩
                                    case rest =>
                                      clear HC33
                                      try clear c1
                                      try clear c2
                                      try clear p2
                                      try clear c3
                                      try clear p3
                                      try clear c4
                                      try clear c5
                                      try clear c6
                                      try clear c7
                                      try clear c10
                                      try clear c12
                                      try clear c14
                                      try clear c16
                                      try clear c16b0
                                      try clear c16b1
                                      try clear c17
                                      try clear c18
                                      try clear c20
                                      try clear c22
                                      try clear c24
                                      try clear c25
                                      try clear c26
                                      try clear c28
                                      try clear c30
                                      try clear p32
                                      try clear c34
                                      try clear c36
                                      try clear p2
                                      try clear p3
                                      obtain ⟨kq, x38_32, rfl, HA, HJ32, ⟨mc32, rfl⟩⟩ := hcut
                                      cases kq with
                                      | zero => exact absurd HA.out (by simp [fold_Lower.j6])
                                      | succ kj32 =>
                                        have H := HA.out
                                        clear HA
                                        simp only [fold_Lower.j6] at H
                                        by_cases c38 : x38_32 = true
                                        · subst c38
                                          have H1 : ((fold_step.f a0 1).bind fun t115 => (some t115)) = some r := by rw [if_pos rfl] at H; exact H
                                          clear H
                                          have H := H1
                                          clear H1
                                          replace H := Option.bind_eq_some_iff.mp H
                                          obtain ⟨t115, A390, H⟩ := H
                                          replace H : (some t115) = some r := H
                                          have A39 := Aside0.mk A390
                                          clear A390
                                          obtain rfl := Option.some.inj H
                                          go_wp2_with (first | ((with_reducible refine gate_callee (f := 57) rfl ?_); refine goesL_ (some 72) rfl rfl Tryd.func57 (by kernel_rfl) rfl #[.int .i32 a0, .int .i32 1] rfl (by (try simp only [List.map_toArray, List.map_cons, List.map_nil]); first | done | rfl | (simp only [List.length_drop, List.length_take]; rfl)) ?_; (with_reducible refine (fold_step.calls a0 1 t115 _ A39.out).mono ?_); rintro e w' ⟨rfl, ⟨nd, rfl⟩⟩; refine ⟨_, rfl, ?_⟩))
                                          go_ret
                                          exact ⟨by first | rfl | (simp; done) | (simp [*]; done), by repeat (first | exact Drawn0.refl _ | apply Drawn0.step)⟩
                                        · replace c38 := Bool.eq_false_iff.mpr c38
                                          subst c38
                                          have H1 : (if a0 = 376 then (some 255) else (if a0 = 1216 then (some 1231) else (if a0 = 902 then (some 940) else ((fold_in.f a0 904 906).bind fun t116 => (if t116 = true then (some (wrap32 (a0 + 37))) else (if a0 = 908 then (some 972) else ((fold_in.f a0 910 911).bind fun t117 => (if t117 = true then (some (wrap32 (a0 + 63))) else ((fold_in.f a0 1024 1039).bind fun t118 => (if t118 = true then (some (wrap32 (a0 + 80))) else (some a0))))))))))) = some r := by rw [if_neg (show ¬ (false = true) by decide)] at H; exact H
                                          clear H
                                          have H := H1
                                          clear H1
                                          by_cases c40 : a0 = 376
                                          · rw [if_pos c40] at H
                                            have c40b0 : (a0 == 376) = true := beq_iff_eq.mpr c40
                                            have c40b1 : (a0 != 376) = false := bne_eq_false_iff_eq.mpr c40
                                            clear c40
                                            obtain rfl := Option.some.inj H
                                            go_wp2
                                            go_ret
                                            exact ⟨by first | rfl | (simp; done) | (simp [*]; done), by repeat (first | exact Drawn0.refl _ | apply Drawn0.step)⟩
                                          · rw [if_neg c40] at H
                                            have c40b0 : (a0 == 376) = false := beq_eq_false_iff_ne.mpr c40
                                            have c40b1 : (a0 != 376) = true := bne_iff_ne.mpr c40
                                            by_cases c41 : a0 = 1216
                                            · rw [if_pos c41] at H
                                              have c41b0 : (a0 == 1216) = true := beq_iff_eq.mpr c41
                                              have c41b1 : (a0 != 1216) = false := bne_eq_false_iff_eq.mpr c41
                                              clear c41
                                              obtain rfl := Option.some.inj H
                                              go_wp2
                                              go_ret
                                              exact ⟨by first | rfl | (simp; done) | (simp [*]; done), by repeat (first | exact Drawn0.refl _ | apply Drawn0.step)⟩
                                            · rw [if_neg c41] at H
                                              have c41b0 : (a0 == 1216) = false := beq_eq_false_iff_ne.mpr c41
                                              have c41b1 : (a0 != 1216) = true := bne_iff_ne.mpr c41
                                              by_cases c42 : a0 = 902
                                              · rw [if_pos c42] at H
                                                have c42b0 : (a0 == 902) = true := beq_iff_eq.mpr c42
                                                have c42b1 : (a0 != 902) = false := bne_eq_false_iff_eq.mpr c42
                                                clear c42
                                                obtain rfl := Option.some.inj H
                                                go_wp2
                                                go_ret
                                                exact ⟨by first | rfl | (simp; done) | (simp [*]; done), by repeat (first | exact Drawn0.refl _ | apply Drawn0.step)⟩
                                              · rw [if_neg c42] at H
                                                have c42b0 : (a0 == 902) = false := beq_eq_false_iff_ne.mpr c42
                                                have c42b1 : (a0 != 902) = true := bne_iff_ne.mpr c42
                                                replace H := Option.bind_eq_some_iff.mp H
                                                obtain ⟨t116, A430, H⟩ := H
                                                replace H : (if t116 = true then (some (wrap32 (a0 + 37))) else (if a0 = 908 then (some 972) else ((fold_in.f a0 910 911).bind fun t117 => (if t117 = true then (some (wrap32 (a0 + 63))) else ((fold_in.f a0 1024 1039).bind fun t118 => (if t118 = true then (some (wrap32 (a0 + 80))) else (some a0))))))) = some r := H
                                                have A43 := Aside0.mk A430
                                                clear A430
                                                by_cases c44 : t116 = true
                                                · subst c44
                                                  have H1 : (some (wrap32 (a0 + 37))) = some r := by rw [if_pos rfl] at H; exact H
                                                  clear H
                                                  have H := H1
                                                  clear H1
                                                  obtain rfl := Option.some.inj H
                                                  go_wp2_with (first | ((with_reducible refine gate_callee (f := 56) rfl ?_); refine goesL_ (some 56) rfl rfl Tryd.func56 (by kernel_rfl) rfl #[.int .i32 a0, .int .i32 904, .int .i32 906] rfl (by (try simp only [List.map_toArray, List.map_cons, List.map_nil]); first | done | rfl | (simp only [List.length_drop, List.length_take]; rfl)) ?_; (with_reducible refine (fold_in.calls a0 904 906 true _ A43.out).mono ?_); rintro e w' ⟨rfl, ⟨nd, rfl⟩⟩; refine ⟨_, rfl, ?_⟩))
                                                  go_ret
                                                  exact ⟨by first | rfl | (simp; done) | (simp [*]; done), by repeat (first | exact Drawn0.refl _ | apply Drawn0.step)⟩
                                                · replace c44 := Bool.eq_false_iff.mpr c44
                                                  subst c44
                                                  have H1 : (if a0 = 908 then (some 972) else ((fold_in.f a0 910 911).bind fun t117 => (if t117 = true then (some (wrap32 (a0 + 63))) else ((fold_in.f a0 1024 1039).bind fun t118 => (if t118 = true then (some (wrap32 (a0 + 80))) else (some a0)))))) = some r := by rw [if_neg (show ¬ (false = true) by decide)] at H; exact H
                                                  clear H
                                                  have H := H1
                                                  clear H1
                                                  by_cases c45 : a0 = 908
                                                  · rw [if_pos c45] at H
                                                    have c45b0 : (a0 == 908) = true := beq_iff_eq.mpr c45
                                                    have c45b1 : (a0 != 908) = false := bne_eq_false_iff_eq.mpr c45
                                                    clear c45
                                                    obtain rfl := Option.some.inj H
                                                    go_wp2_with (first | ((with_reducible refine gate_callee (f := 56) rfl ?_); refine goesL_ (some 56) rfl rfl Tryd.func56 (by kernel_rfl) rfl #[.int .i32 a0, .int .i32 904, .int .i32 906] rfl (by (try simp only [List.map_toArray, List.map_cons, List.map_nil]); first | done | rfl | (simp only [List.length_drop, List.length_take]; rfl)) ?_; (with_reducible refine (fold_in.calls a0 904 906 false _ A43.out).mono ?_); rintro e w' ⟨rfl, ⟨nd, rfl⟩⟩; refine ⟨_, rfl, ?_⟩))
                                                    go_ret
                                                    exact ⟨by first | rfl | (simp; done) | (simp [*]; done), by repeat (first | exact Drawn0.refl _ | apply Drawn0.step)⟩
                                                  · rw [if_neg c45] at H
                                                    have c45b0 : (a0 == 908) = false := beq_eq_false_iff_ne.mpr c45
                                                    have c45b1 : (a0 != 908) = true := bne_iff_ne.mpr c45
                                                    replace H := Option.bind_eq_some_iff.mp H
                                                    obtain ⟨t117, A460, H⟩ := H
                                                    replace H : (if t117 = true then (some (wrap32 (a0 + 63))) else ((fold_in.f a0 1024 1039).bind fun t118 => (if t118 = true then (some (wrap32 (a0 + 80))) else (some a0)))) = some r := H
                                                    have A46 := Aside0.mk A460
                                                    clear A460
                                                    by_cases c47 : t117 = true
                                                    · subst c47
                                                      have H1 : (some (wrap32 (a0 + 63))) = some r := by rw [if_pos rfl] at H; exact H
                                                      clear H
                                                      have H := H1
                                                      clear H1
                                                      obtain rfl := Option.some.inj H
                                                      go_wp2_with (first | ((with_reducible refine gate_callee (f := 56) rfl ?_); refine goesL_ (some 56) rfl rfl Tryd.func56 (by kernel_rfl) rfl #[.int .i32 a0, .int .i32 904, .int .i32 906] rfl (by (try simp only [List.map_toArray, List.map_cons, List.map_nil]); first | done | rfl | (simp only [List.length_drop, List.length_take]; rfl)) ?_; (with_reducible refine (fold_in.calls a0 904 906 false _ A43.out).mono ?_); rintro e w' ⟨rfl, ⟨nd, rfl⟩⟩; refine ⟨_, rfl, ?_⟩) | ((with_reducible refine gate_callee (f := 56) rfl ?_); refine goesL_ (some 62) rfl rfl Tryd.func56 (by kernel_rfl) rfl #[.int .i32 a0, .int .i32 910, .int .i32 911] rfl (by (try simp only [List.map_toArray, List.map_cons, List.map_nil]); first | done | rfl | (simp only [List.length_drop, List.length_take]; rfl)) ?_; (with_reducible refine (fold_in.calls a0 910 911 true _ A46.out).mono ?_); rintro e w' ⟨rfl, ⟨nd, rfl⟩⟩; refine ⟨_, rfl, ?_⟩))
                                                      go_ret
                                                      exact ⟨by first | rfl | (simp; done) | (simp [*]; done), by repeat (first | exact Drawn0.refl _ | apply Drawn0.step)⟩
                                                    · replace c47 := Bool.eq_false_iff.mpr c47
                                                      subst c47
                                                      have H1 : ((fold_in.f a0 1024 1039).bind fun t118 => (if t118 = true then (some (wrap32 (a0 + 80))) else (some a0))) = some r := by rw [if_neg (show ¬ (false = true) by decide)] at H; exact H
                                                      clear H
                                                      have H := H1
                                                      clear H1
                                                      replace H := Option.bind_eq_some_iff.mp H
                                                      obtain ⟨t118, A480, H⟩ := H
                                                      replace H : (if t118 = true then (some (wrap32 (a0 + 80))) else (some a0)) = some r := H
                                                      have A48 := Aside0.mk A480
                                                      clear A480
                                                      by_cases c49 : t118 = true
                                                      · subst c49
                                                        have H1 : (some (wrap32 (a0 + 80))) = some r := by rw [if_pos rfl] at H; exact H
                                                        clear H
                                                        have H := H1
                                                        clear H1
                                                        obtain rfl := Option.some.inj H
                                                        go_wp2_with (first | ((with_reducible refine gate_callee (f := 56) rfl ?_); refine goesL_ (some 56) rfl rfl Tryd.func56 (by kernel_rfl) rfl #[.int .i32 a0, .int .i32 904, .int .i32 906] rfl (by (try simp only [List.map_toArray, List.map_cons, List.map_nil]); first | done | rfl | (simp only [List.length_drop, List.length_take]; rfl)) ?_; (with_reducible refine (fold_in.calls a0 904 906 false _ A43.out).mono ?_); rintro e w' ⟨rfl, ⟨nd, rfl⟩⟩; refine ⟨_, rfl, ?_⟩) | ((with_reducible refine gate_callee (f := 56) rfl ?_); refine goesL_ (some 62) rfl rfl Tryd.func56 (by kernel_rfl) rfl #[.int .i32 a0, .int .i32 910, .int .i32 911] rfl (by (try simp only [List.map_toArray, List.map_cons, List.map_nil]); first | done | rfl | (simp only [List.length_drop, List.length_take]; rfl)) ?_; (with_reducible refine (fold_in.calls a0 910 911 false _ A46.out).mono ?_); rintro e w' ⟨rfl, ⟨nd, rfl⟩⟩; refine ⟨_, rfl, ?_⟩) | ((with_reducible refine gate_callee (f := 56) rfl ?_); refine goesL_ (some 65) rfl rfl Tryd.func56 (by kernel_rfl) rfl #[.int .i32 a0, .int .i32 1024, .int .i32 1039] rfl (by (try simp only [List.map_toArray, List.map_cons, List.map_nil]); first | done | rfl | (simp only [List.length_drop, List.length_take]; rfl)) ?_; (with_reducible refine (fold_in.calls a0 1024 1039 true _ A48.out).mono ?_); rintro e w' ⟨rfl, ⟨nd, rfl⟩⟩; refine ⟨_, rfl, ?_⟩))
                                                        go_ret
                                                        exact ⟨by first | rfl | (simp; done) | (simp [*]; done), by repeat (first | exact Drawn0.refl _ | apply Drawn0.step)⟩
                                                      · replace c49 := Bool.eq_false_iff.mpr c49
                                                        subst c49
                                                        have H1 : (some a0) = some r := by rw [if_neg (show ¬ (false = true) by decide)] at H; exact H
                                                        clear H
                                                        have H := H1
                                                        clear H1
                                                        obtain rfl := Option.some.inj H
                                                        go_wp2_with (first | ((with_reducible refine gate_callee (f := 56) rfl ?_); refine goesL_ (some 56) rfl rfl Tryd.func56 (by kernel_rfl) rfl #[.int .i32 a0, .int .i32 904, .int .i32 906] rfl (by (try simp only [List.map_toArray, List.map_cons, List.map_nil]); first | done | rfl | (simp only [List.length_drop, List.length_take]; rfl)) ?_; (with_reducible refine (fold_in.calls a0 904 906 false _ A43.out).mono ?_); rintro e w' ⟨rfl, ⟨nd, rfl⟩⟩; refine ⟨_, rfl, ?_⟩) | ((with_reducible refine gate_callee (f := 56) rfl ?_); refine goesL_ (some 62) rfl rfl Tryd.func56 (by kernel_rfl) rfl #[.int .i32 a0, .int .i32 910, .int .i32 911] rfl (by (try simp only [List.map_toArray, List.map_cons, List.map_nil]); first | done | rfl | (simp only [List.length_drop, List.length_take]; rfl)) ?_; (with_reducible refine (fold_in.calls a0 910 911 false _ A46.out).mono ?_); rintro e w' ⟨rfl, ⟨nd, rfl⟩⟩; refine ⟨_, rfl, ?_⟩) | ((with_reducible refine gate_callee (f := 56) rfl ?_); refine goesL_ (some 65) rfl rfl Tryd.func56 (by kernel_rfl) rfl #[.int .i32 a0, .int .i32 1024, .int .i32 1039] rfl (by (try simp only [List.map_toArray, List.map_cons, List.map_nil]); first | done | rfl | (simp only [List.length_drop, List.length_take]; rfl)) ?_; (with_reducible refine (fold_in.calls a0 1024 1039 false _ A48.out).mono ?_); rintro e w' ⟨rfl, ⟨nd, rfl⟩⟩; refine ⟨_, rfl, ?_⟩))
                                                        go_ret
                                                        exact ⟨by first | rfl | (simp; done) | (simp [*]; done), by repeat (first | exact Drawn0.refl _ | apply Drawn0.step)⟩

end Go.Proofs.YtgbphkckiekehaaDoor.QRef
