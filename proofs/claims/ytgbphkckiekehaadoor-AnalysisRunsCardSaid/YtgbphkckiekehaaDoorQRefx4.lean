-- Written by the kit's print.py at this session's call, over functions of my choice (no statement's print; not a text of print.sh)
import Derived.Test.YtgbphkckiekehaaDoorQRefx0
import Derived.Test.YtgbphkckiekehaaDoorQRefx2
namespace Go.Proofs.YtgbphkckiekehaaDoor.QRef
open Go.RowKit Go.Proofs.YtgbphkckiekehaaDoorW.PrintWords Go.Proofs.YtgbphkckiekehaaDoorW.PrintLast
set_option linter.unusedVariables false
set_option linter.unusedSimpArgs false

/-! ### fold_Letter: function 26 -/
mutual
def fold_Letter.j0 : Nat → Int → Bool → Option (Bool)
  | 0, _, _ => none
  | k + 1, x0, x3 => if x3 = true then (some true) else ((fold_in.f x0 192 214).bind fun t121 => (if t121 = true then (fold_Letter.j1 k x0 t121) else ((fold_in.f x0 216 246).bind fun t122 => (if t122 = true then (fold_Letter.j1 k x0 t122) else ((fold_in.f x0 248 687).bind fun t123 => (fold_Letter.j1 k x0 t123))))))
def fold_Letter.j1 : Nat → Int → Bool → Option (Bool)
  | 0, _, _ => none
  | k + 1, x0, x14 => if x14 = true then (some true) else ((fold_in.f x0 880 883).bind fun t124 => (if t124 = true then (fold_Letter.j2 k x0 t124) else ((fold_in.f x0 886 887).bind fun t125 => (if t125 = true then (fold_Letter.j2 k x0 t125) else ((fold_in.f x0 891 893).bind fun t126 => (if t126 = true then (fold_Letter.j2 k x0 t126) else (if x0 = 895 then (fold_Letter.j2 k x0 (x0 == 895)) else (fold_Letter.j2 k x0 (x0 == 902)))))))))
def fold_Letter.j2 : Nat → Int → Bool → Option (Bool)
  | 0, _, _ => none
  | k + 1, x0, x21 => if x21 = true then (some true) else ((fold_in.f x0 904 906).bind fun t127 => (if t127 = true then (fold_Letter.j3 k x0 t127) else (if x0 = 908 then (fold_Letter.j3 k x0 (x0 == 908)) else ((fold_in.f x0 910 929).bind fun t128 => (if t128 = true then (fold_Letter.j3 k x0 t128) else ((fold_in.f x0 931 1023).bind fun t129 => (if t129 = true then (fold_Letter.j3 k x0 (x0 != 1014)) else (fold_Letter.j3 k x0 false))))))))
def fold_Letter.j3 : Nat → Int → Bool → Option (Bool)
  | 0, _, _ => none
  | k + 1, x0, x32 => if x32 = true then (some true) else ((fold_in.f x0 1024 1327).bind fun t130 => (if t130 = true then ((fold_in.f x0 1154 1161).bind fun t131 => (fold_Letter.j4 k x0 (!t131))) else (fold_Letter.j4 k x0 false)))
def fold_Letter.j4 : Nat → Int → Bool → Option (Bool)
  | 0, _, _ => none
  | k + 1, x0, x45 => if x45 = true then (some true) else ((fold_in.f x0 1488 1514).bind fun t132 => (if t132 = true then (fold_Letter.j5 k x0 t132) else ((fold_in.f x0 1568 1610).bind fun t133 => (if t133 = true then (fold_Letter.j5 k x0 t133) else ((fold_in.f x0 2308 2361).bind fun t134 => (fold_Letter.j5 k x0 t134))))))
def fold_Letter.j5 : Nat → Int → Bool → Option (Bool)
  | 0, _, _ => none
  | k + 1, x0, x53 => if x53 = true then (some true) else ((fold_in.f x0 12353 12438).bind fun t135 => (if t135 = true then (some true) else ((fold_in.f x0 12449 12538).bind fun t136 => (if t136 = true then (some true) else ((fold_in.f x0 19968 40959).bind fun t137 => (if t137 = true then (some true) else ((fold_in.f x0 44032 55203).bind fun t138 => (if t138 = true then (some true) else (some false)))))))))
end
def fold_Letter.f (k : Nat) (a0 : Int) : Option (Bool) := (fold_in.f a0 65 90).bind fun t119 => (if t119 = true then (fold_Letter.j0 k a0 t119) else ((fold_in.f a0 97 122).bind fun t120 => (if t120 = true then (fold_Letter.j0 k a0 t120) else (if a0 = 170 then (fold_Letter.j0 k a0 (a0 == 170)) else (if a0 = 181 then (fold_Letter.j0 k a0 (a0 == 181)) else (fold_Letter.j0 k a0 (a0 == 186)))))))
theorem fold_Letter.mono_l : ∀ k, (∀ y0 y1, LeO (fold_Letter.j0 k y0 y1) (fold_Letter.j0 (k + 1) y0 y1)) ∧ (∀ y0 y1, LeO (fold_Letter.j1 k y0 y1) (fold_Letter.j1 (k + 1) y0 y1)) ∧ (∀ y0 y1, LeO (fold_Letter.j2 k y0 y1) (fold_Letter.j2 (k + 1) y0 y1)) ∧ (∀ y0 y1, LeO (fold_Letter.j3 k y0 y1) (fold_Letter.j3 (k + 1) y0 y1)) ∧ (∀ y0 y1, LeO (fold_Letter.j4 k y0 y1) (fold_Letter.j4 (k + 1) y0 y1)) ∧ (∀ y0 y1, LeO (fold_Letter.j5 k y0 y1) (fold_Letter.j5 (k + 1) y0 y1))
  | 0 => ⟨fun _ _ r h => by simp [fold_Letter.j0] at h, fun _ _ r h => by simp [fold_Letter.j1] at h, fun _ _ r h => by simp [fold_Letter.j2] at h, fun _ _ r h => by simp [fold_Letter.j3] at h, fun _ _ r h => by simp [fold_Letter.j4] at h, fun _ _ r h => by simp [fold_Letter.j5] at h⟩
  | k + 1 => by
    obtain ⟨ih0, ih1, ih2, ih3, ih4, ih5⟩ := fold_Letter.mono_l k
    refine ⟨?_, ?_, ?_, ?_, ?_, ?_⟩
    · intro y0 y1
      unfold fold_Letter.j0
      repeat' first
      | (with_reducible exact ih0 _ _)
      | (with_reducible exact ih1 _ _)
      | (with_reducible exact ih2 _ _)
      | (with_reducible exact ih3 _ _)
      | (with_reducible exact ih4 _ _)
      | (with_reducible exact ih5 _ _)
      | (with_reducible exact LeO.refl _)
      | (with_reducible exact LeO.none _)
      | (with_reducible refine LeO.ite ?_ ?_)
      | (with_reducible refine LeO.bind ?_ (fun _ => ?_))
      | exact ih0 _ _
      | exact ih1 _ _
      | exact ih2 _ _
      | exact ih3 _ _
      | exact ih4 _ _
      | exact ih5 _ _
      | exact LeO.none _
      | refine LeO.ite ?_ ?_
      | refine LeO.bind ?_ (fun _ => ?_)
    · intro y0 y1
      unfold fold_Letter.j1
      repeat' first
      | (with_reducible exact ih0 _ _)
      | (with_reducible exact ih1 _ _)
      | (with_reducible exact ih2 _ _)
      | (with_reducible exact ih3 _ _)
      | (with_reducible exact ih4 _ _)
      | (with_reducible exact ih5 _ _)
      | (with_reducible exact LeO.refl _)
      | (with_reducible exact LeO.none _)
      | (with_reducible refine LeO.ite ?_ ?_)
      | (with_reducible refine LeO.bind ?_ (fun _ => ?_))
      | exact ih0 _ _
      | exact ih1 _ _
      | exact ih2 _ _
      | exact ih3 _ _
      | exact ih4 _ _
      | exact ih5 _ _
      | exact LeO.none _
      | refine LeO.ite ?_ ?_
      | refine LeO.bind ?_ (fun _ => ?_)
    · intro y0 y1
      unfold fold_Letter.j2
      repeat' first
      | (with_reducible exact ih0 _ _)
      | (with_reducible exact ih1 _ _)
      | (with_reducible exact ih2 _ _)
      | (with_reducible exact ih3 _ _)
      | (with_reducible exact ih4 _ _)
      | (with_reducible exact ih5 _ _)
      | (with_reducible exact LeO.refl _)
      | (with_reducible exact LeO.none _)
      | (with_reducible refine LeO.ite ?_ ?_)
      | (with_reducible refine LeO.bind ?_ (fun _ => ?_))
      | exact ih0 _ _
      | exact ih1 _ _
      | exact ih2 _ _
      | exact ih3 _ _
      | exact ih4 _ _
      | exact ih5 _ _
      | exact LeO.none _
      | refine LeO.ite ?_ ?_
      | refine LeO.bind ?_ (fun _ => ?_)
    · intro y0 y1
      unfold fold_Letter.j3
      repeat' first
      | (with_reducible exact ih0 _ _)
      | (with_reducible exact ih1 _ _)
      | (with_reducible exact ih2 _ _)
      | (with_reducible exact ih3 _ _)
      | (with_reducible exact ih4 _ _)
      | (with_reducible exact ih5 _ _)
      | (with_reducible exact LeO.refl _)
      | (with_reducible exact LeO.none _)
      | (with_reducible refine LeO.ite ?_ ?_)
      | (with_reducible refine LeO.bind ?_ (fun _ => ?_))
      | exact ih0 _ _
      | exact ih1 _ _
      | exact ih2 _ _
      | exact ih3 _ _
      | exact ih4 _ _
      | exact ih5 _ _
      | exact LeO.none _
      | refine LeO.ite ?_ ?_
      | refine LeO.bind ?_ (fun _ => ?_)
    · intro y0 y1
      unfold fold_Letter.j4
      repeat' first
      | (with_reducible exact ih0 _ _)
      | (with_reducible exact ih1 _ _)
      | (with_reducible exact ih2 _ _)
      | (with_reducible exact ih3 _ _)
      | (with_reducible exact ih4 _ _)
      | (with_reducible exact ih5 _ _)
      | (with_reducible exact LeO.refl _)
      | (with_reducible exact LeO.none _)
      | (with_reducible refine LeO.ite ?_ ?_)
      | (with_reducible refine LeO.bind ?_ (fun _ => ?_))
      | exact ih0 _ _
      | exact ih1 _ _
      | exact ih2 _ _
      | exact ih3 _ _
      | exact ih4 _ _
      | exact ih5 _ _
      | exact LeO.none _
      | refine LeO.ite ?_ ?_
      | refine LeO.bind ?_ (fun _ => ?_)
    · intro y0 y1
      unfold fold_Letter.j5
      repeat' first
      | (with_reducible exact ih0 _ _)
      | (with_reducible exact ih1 _ _)
      | (with_reducible exact ih2 _ _)
      | (with_reducible exact ih3 _ _)
      | (with_reducible exact ih4 _ _)
      | (with_reducible exact ih5 _ _)
      | (with_reducible exact LeO.refl _)
      | (with_reducible exact LeO.none _)
      | (with_reducible refine LeO.ite ?_ ?_)
      | (with_reducible refine LeO.bind ?_ (fun _ => ?_))
      | exact ih0 _ _
      | exact ih1 _ _
      | exact ih2 _ _
      | exact ih3 _ _
      | exact ih4 _ _
      | exact ih5 _ _
      | exact LeO.none _
      | refine LeO.ite ?_ ?_
      | refine LeO.bind ?_ (fun _ => ?_)
theorem fold_Letter.mono : ∀ a0 k, LeO (fold_Letter.f k a0) (fold_Letter.f (k + 1) a0) := by
  intro a0 k
  obtain ⟨ih0, ih1, ih2, ih3, ih4, ih5⟩ := fold_Letter.mono_l k
  unfold fold_Letter.f
  repeat' first
      | (with_reducible exact ih0 _ _)
      | (with_reducible exact ih1 _ _)
      | (with_reducible exact ih2 _ _)
      | (with_reducible exact ih3 _ _)
      | (with_reducible exact ih4 _ _)
      | (with_reducible exact ih5 _ _)
      | (with_reducible exact LeO.refl _)
      | (with_reducible exact LeO.none _)
      | (with_reducible refine LeO.ite ?_ ?_)
      | (with_reducible refine LeO.bind ?_ (fun _ => ?_))
      | exact ih0 _ _
      | exact ih1 _ _
      | exact ih2 _ _
      | exact ih3 _ _
      | exact ih4 _ _
      | exact ih5 _ _
      | exact LeO.none _
      | refine LeO.ite ?_ ?_
      | refine LeO.bind ?_ (fun _ => ?_)
set_option maxHeartbeats 8000000 in
set_option maxRecDepth 100000 in
theorem fold_Letter.calls (k : Nat) (a0 : Int) (r : Bool) (w : World) (h : fold_Letter.f k a0 = some r) :
    Calls Tryd.prog 26 #[.int .i32 a0] w fun e w' => e = .returned (.bool r) ∧ Drawn0 w w' := by
  have H : ((fold_in.f a0 65 90).bind fun t119 => (if t119 = true then (fold_Letter.j0 k a0 t119) else ((fold_in.f a0 97 122).bind fun t120 => (if t120 = true then (fold_Letter.j0 k a0 t120) else (if a0 = 170 then (fold_Letter.j0 k a0 (a0 == 170)) else (if a0 = 181 then (fold_Letter.j0 k a0 (a0 == 181)) else (fold_Letter.j0 k a0 (a0 == 186)))))))) = some r := h
  clear h
  replace H := Option.bind_eq_some_iff.mp H
  obtain ⟨t119, A20, H⟩ := H
  replace H : (if t119 = true then (fold_Letter.j0 k a0 t119) else ((fold_in.f a0 97 122).bind fun t120 => (if t120 = true then (fold_Letter.j0 k a0 t120) else (if a0 = 170 then (fold_Letter.j0 k a0 (a0 == 170)) else (if a0 = 181 then (fold_Letter.j0 k a0 (a0 == 181)) else (fold_Letter.j0 k a0 (a0 == 186))))))) = some r := H
  have A2 := Aside0.mk A20
  clear A20
  have HC3 := Aside0.mk H
  clear H
  go_enter Tryd.func26, Tryd.ntmps26
  go_upto_if 3 with (first | ((with_reducible refine gate_callee (f := 56) rfl ?_); refine goesL_ (some 5) rfl rfl Tryd.func56 (by kernel_rfl) rfl #[.int .i32 a0, .int .i32 65, .int .i32 90] rfl (by (try simp only [List.map_toArray, List.map_cons, List.map_nil]); first | done | rfl | (simp only [List.length_drop, List.length_take]; rfl)) ?_; (with_reducible refine (fold_in.calls a0 65 90 t119 _ A2.out).mono ?_); rintro e w' ⟨rfl, ⟨nd, rfl⟩⟩; refine ⟨_, rfl, ?_⟩))
  (try simp only [Act.put, List.setIfInBounds_toArray, List.set_cons_zero, List.set_cons_succ])
  go_cut [3] (fun v3 wc => ∃ (kq : Nat) (x3_2 : Bool), v3 = .bool x3_2 ∧ Aside0 (fold_Letter.j0 kq a0 x3_2 = some r) ∧ Aside0 (kq ≤ k) ∧ Drawn0 w wc)
  case first =>
    have H := HC3.out
    clear HC3
    by_cases c4 : t119 = true
    · subst c4
      have H1 : (fold_Letter.j0 k a0 true) = some r := by rw [if_pos rfl] at H; exact H
      clear H
      have H := H1
      clear H1
      have H' := Aside0.mk H
      clear H
      go_wp2
      go_meet
      case rel => exact ⟨_, (true), (by first | rfl | (simp; done) | (simp [*]; done)), H', ⟨by first | omega | exact Nat.le_refl _⟩, by repeat (first | exact Drawn0.refl _ | apply Drawn0.step)⟩
    · replace c4 := Bool.eq_false_iff.mpr c4
      subst c4
      have H1 : ((fold_in.f a0 97 122).bind fun t120 => (if t120 = true then (fold_Letter.j0 k a0 t120) else (if a0 = 170 then (fold_Letter.j0 k a0 (a0 == 170)) else (if a0 = 181 then (fold_Letter.j0 k a0 (a0 == 181)) else (fold_Letter.j0 k a0 (a0 == 186)))))) = some r := by rw [if_neg (show ¬ (false = true) by decide)] at H; exact H
      clear H
      have H := H1
      clear H1
      replace H := Option.bind_eq_some_iff.mp H
      obtain ⟨t120, A50, H⟩ := H
      replace H : (if t120 = true then (fold_Letter.j0 k a0 t120) else (if a0 = 170 then (fold_Letter.j0 k a0 (a0 == 170)) else (if a0 = 181 then (fold_Letter.j0 k a0 (a0 == 181)) else (fold_Letter.j0 k a0 (a0 == 186))))) = some r := H
      have A5 := Aside0.mk A50
      clear A50
      by_cases c6 : t120 = true
      · subst c6
        have H1 : (fold_Letter.j0 k a0 true) = some r := by rw [if_pos rfl] at H; exact H
        clear H
        have H := H1
        clear H1
        have H' := Aside0.mk H
        clear H
        go_wp2_with (first | ((with_reducible refine gate_callee (f := 56) rfl ?_); refine goesL_ (some 7) rfl rfl Tryd.func56 (by kernel_rfl) rfl #[.int .i32 a0, .int .i32 97, .int .i32 122] rfl (by (try simp only [List.map_toArray, List.map_cons, List.map_nil]); first | done | rfl | (simp only [List.length_drop, List.length_take]; rfl)) ?_; (with_reducible refine (fold_in.calls a0 97 122 true _ A5.out).mono ?_); rintro e w' ⟨rfl, ⟨nd, rfl⟩⟩; refine ⟨_, rfl, ?_⟩))
        go_meet
        case rel => exact ⟨_, (true), (by first | rfl | (simp; done) | (simp [*]; done)), H', ⟨by first | omega | exact Nat.le_refl _⟩, by repeat (first | exact Drawn0.refl _ | apply Drawn0.step)⟩
      · replace c6 := Bool.eq_false_iff.mpr c6
        subst c6
        have H1 : (if a0 = 170 then (fold_Letter.j0 k a0 (a0 == 170)) else (if a0 = 181 then (fold_Letter.j0 k a0 (a0 == 181)) else (fold_Letter.j0 k a0 (a0 == 186)))) = some r := by rw [if_neg (show ¬ (false = true) by decide)] at H; exact H
        clear H
        have H := H1
        clear H1
        by_cases c7 : a0 = 170
        · rw [if_pos c7] at H
          have c7b0 : (a0 == 170) = true := beq_iff_eq.mpr c7
          have c7b1 : (a0 != 170) = false := bne_eq_false_iff_eq.mpr c7
          clear c7
          (first | rw [c7b0] | (simp only [i64_w, i32_w]; rw [c7b0]) | skip)
          have H' := Aside0.mk H
          clear H
          go_wp2_with (first | ((with_reducible refine gate_callee (f := 56) rfl ?_); refine goesL_ (some 7) rfl rfl Tryd.func56 (by kernel_rfl) rfl #[.int .i32 a0, .int .i32 97, .int .i32 122] rfl (by (try simp only [List.map_toArray, List.map_cons, List.map_nil]); first | done | rfl | (simp only [List.length_drop, List.length_take]; rfl)) ?_; (with_reducible refine (fold_in.calls a0 97 122 false _ A5.out).mono ?_); rintro e w' ⟨rfl, ⟨nd, rfl⟩⟩; refine ⟨_, rfl, ?_⟩))
          go_meet
          case rel => exact ⟨_, ((a0 == 170)), (by first | rfl | (simp; done) | (simp [*]; done)), H', ⟨by first | omega | exact Nat.le_refl _⟩, by repeat (first | exact Drawn0.refl _ | apply Drawn0.step)⟩
        · rw [if_neg c7] at H
          have c7b0 : (a0 == 170) = false := beq_eq_false_iff_ne.mpr c7
          have c7b1 : (a0 != 170) = true := bne_iff_ne.mpr c7
          (first | rw [c7b0] | (simp only [i64_w, i32_w]; rw [c7b0]) | skip)
          by_cases c8 : a0 = 181
          · rw [if_pos c8] at H
            have c8b0 : (a0 == 181) = true := beq_iff_eq.mpr c8
            have c8b1 : (a0 != 181) = false := bne_eq_false_iff_eq.mpr c8
            clear c8
            have H' := Aside0.mk H
            clear H
            go_wp2_with (first | ((with_reducible refine gate_callee (f := 56) rfl ?_); refine goesL_ (some 7) rfl rfl Tryd.func56 (by kernel_rfl) rfl #[.int .i32 a0, .int .i32 97, .int .i32 122] rfl (by (try simp only [List.map_toArray, List.map_cons, List.map_nil]); first | done | rfl | (simp only [List.length_drop, List.length_take]; rfl)) ?_; (with_reducible refine (fold_in.calls a0 97 122 false _ A5.out).mono ?_); rintro e w' ⟨rfl, ⟨nd, rfl⟩⟩; refine ⟨_, rfl, ?_⟩))
            go_meet
            case rel => exact ⟨_, ((a0 == 181)), (by first | rfl | (simp; done) | (simp [*]; done)), H', ⟨by first | omega | exact Nat.le_refl _⟩, by repeat (first | exact Drawn0.refl _ | apply Drawn0.step)⟩
          · rw [if_neg c8] at H
            have c8b0 : (a0 == 181) = false := beq_eq_false_iff_ne.mpr c8
            have c8b1 : (a0 != 181) = true := bne_iff_ne.mpr c8
            have H' := Aside0.mk H
            clear H
            go_wp2_with (first | ((with_reducible refine gate_callee (f := 56) rfl ?_); refine goesL_ (some 7) rfl rfl Tryd.func56 (by kernel_rfl) rfl #[.int .i32 a0, .int .i32 97, .int .i32 122] rfl (by (try simp only [List.map_toArray, List.map_cons, List.map_nil]); first | done | rfl | (simp only [List.length_drop, List.length_take]; rfl)) ?_; (with_reducible refine (fold_in.calls a0 97 122 false _ A5.out).mono ?_); rintro e w' ⟨rfl, ⟨nd, rfl⟩⟩; refine ⟨_, rfl, ?_⟩))
            go_meet
            case rel => exact ⟨_, ((a0 == 186)), (by first | rfl | (simp; done) | (simp [*]; done)), H', ⟨by first | omega | exact Nat.le_refl _⟩, by repeat (first | exact Drawn0.refl _ | apply Drawn0.step)⟩
  case rest =>
    clear HC3
    try clear c2
    try clear p2
    try clear c4
    try clear c5
    try clear c6
    try clear c7
    try clear c7b0
    try clear c7b1
    try clear c8
    try clear c8b0
    try clear c8b1
    obtain ⟨kq, x3_2, rfl, HA, HJ2, ⟨mc2, rfl⟩⟩ := hcut
    cases kq with
    | zero => exact absurd HA.out (by simp [fold_Letter.j0])
    | succ kj2 =>
      have H := HA.out
      clear HA
      simp only [fold_Letter.j0] at H
      by_cases c9 : x3_2 = true
      · subst c9
        have H1 : (some true) = some r := by rw [if_pos rfl] at H; exact H
        clear H
        have H := H1
        clear H1
        obtain rfl := Option.some.inj H
        go_wp2
        go_ret
        exact ⟨by first | rfl | (simp; done) | (simp [*]; done), by repeat (first | exact Drawn0.refl _ | apply Drawn0.step)⟩
      · replace c9 := Bool.eq_false_iff.mpr c9
        subst c9
        have H1 : ((fold_in.f a0 192 214).bind fun t121 => (if t121 = true then (fold_Letter.j1 kj2 a0 t121) else ((fold_in.f a0 216 246).bind fun t122 => (if t122 = true then (fold_Letter.j1 kj2 a0 t122) else ((fold_in.f a0 248 687).bind fun t123 => (fold_Letter.j1 kj2 a0 t123)))))) = some r := by rw [if_neg (show ¬ (false = true) by decide)] at H; exact H
        clear H
        have H := H1
        clear H1
        replace H := Option.bind_eq_some_iff.mp H
        obtain ⟨t121, A100, H⟩ := H
        replace H : (if t121 = true then (fold_Letter.j1 kj2 a0 t121) else ((fold_in.f a0 216 246).bind fun t122 => (if t122 = true then (fold_Letter.j1 kj2 a0 t122) else ((fold_in.f a0 248 687).bind fun t123 => (fold_Letter.j1 kj2 a0 t123))))) = some r := H
        have A10 := Aside0.mk A100
        clear A100
        have HC11 := Aside0.mk H
        clear H
        go_upto_if 14 with (first | ((with_reducible refine gate_callee (f := 56) rfl ?_); refine goesL_ (some 16) rfl rfl Tryd.func56 (by kernel_rfl) rfl #[.int .i32 a0, .int .i32 192, .int .i32 214] rfl (by (try simp only [List.map_toArray, List.map_cons, List.map_nil]); first | done | rfl | (simp only [List.length_drop, List.length_take]; rfl)) ?_; (with_reducible refine (fold_in.calls a0 192 214 t121 _ A10.out).mono ?_); rintro e w' ⟨rfl, ⟨nd, rfl⟩⟩; refine ⟨_, rfl, ?_⟩))
        (try simp only [Act.put, List.setIfInBounds_toArray, List.set_cons_zero, List.set_cons_succ])
        go_cut [14] (fun v14 wc => ∃ (kq : Nat) (x14_10 : Bool), v14 = .bool x14_10 ∧ Aside0 (fold_Letter.j1 kq a0 x14_10 = some r) ∧ Aside0 (kq ≤ kj2) ∧ Drawn0 w wc)
        case first =>
          have H := HC11.out
          clear HC11
          by_cases c12 : t121 = true
          · subst c12
            have H1 : (fold_Letter.j1 kj2 a0 true) = some r := by rw [if_pos rfl] at H; exact H
            clear H
            have H := H1
            clear H1
            have H' := Aside0.mk H
            clear H
            go_wp2
            go_meet
            case rel => exact ⟨_, (true), (by first | rfl | (simp; done) | (simp [*]; done)), H', ⟨by have := HJ2.out; first | omega | exact Nat.le_refl _⟩, by repeat (first | exact Drawn0.refl _ | apply Drawn0.step)⟩
          · replace c12 := Bool.eq_false_iff.mpr c12
            subst c12
            have H1 : ((fold_in.f a0 216 246).bind fun t122 => (if t122 = true then (fold_Letter.j1 kj2 a0 t122) else ((fold_in.f a0 248 687).bind fun t123 => (fold_Letter.j1 kj2 a0 t123)))) = some r := by rw [if_neg (show ¬ (false = true) by decide)] at H; exact H
            clear H
            have H := H1
            clear H1
            replace H := Option.bind_eq_some_iff.mp H
            obtain ⟨t122, A130, H⟩ := H
            replace H : (if t122 = true then (fold_Letter.j1 kj2 a0 t122) else ((fold_in.f a0 248 687).bind fun t123 => (fold_Letter.j1 kj2 a0 t123))) = some r := H
            have A13 := Aside0.mk A130
            clear A130
            by_cases c14 : t122 = true
            · subst c14
              have H1 : (fold_Letter.j1 kj2 a0 true) = some r := by rw [if_pos rfl] at H; exact H
              clear H
              have H := H1
              clear H1
              have H' := Aside0.mk H
              clear H
              go_wp2_with (first | ((with_reducible refine gate_callee (f := 56) rfl ?_); refine goesL_ (some 18) rfl rfl Tryd.func56 (by kernel_rfl) rfl #[.int .i32 a0, .int .i32 216, .int .i32 246] rfl (by (try simp only [List.map_toArray, List.map_cons, List.map_nil]); first | done | rfl | (simp only [List.length_drop, List.length_take]; rfl)) ?_; (with_reducible refine (fold_in.calls a0 216 246 true _ A13.out).mono ?_); rintro e w' ⟨rfl, ⟨nd, rfl⟩⟩; refine ⟨_, rfl, ?_⟩))
              go_meet
              case rel => exact ⟨_, (true), (by first | rfl | (simp; done) | (simp [*]; done)), H', ⟨by have := HJ2.out; first | omega | exact Nat.le_refl _⟩, by repeat (first | exact Drawn0.refl _ | apply Drawn0.step)⟩
            · replace c14 := Bool.eq_false_iff.mpr c14
              subst c14
              have H1 : ((fold_in.f a0 248 687).bind fun t123 => (fold_Letter.j1 kj2 a0 t123)) = some r := by rw [if_neg (show ¬ (false = true) by decide)] at H; exact H
              clear H
              have H := H1
              clear H1
              replace H := Option.bind_eq_some_iff.mp H
              obtain ⟨t123, A150, H⟩ := H
              replace H : (fold_Letter.j1 kj2 a0 t123) = some r := H
              have A15 := Aside0.mk A150
              clear A150
              have H' := Aside0.mk H
              clear H
              go_wp2_with (first | ((with_reducible refine gate_callee (f := 56) rfl ?_); refine goesL_ (some 18) rfl rfl Tryd.func56 (by kernel_rfl) rfl #[.int .i32 a0, .int .i32 216, .int .i32 246] rfl (by (try simp only [List.map_toArray, List.map_cons, List.map_nil]); first | done | rfl | (simp only [List.length_drop, List.length_take]; rfl)) ?_; (with_reducible refine (fold_in.calls a0 216 246 false _ A13.out).mono ?_); rintro e w' ⟨rfl, ⟨nd, rfl⟩⟩; refine ⟨_, rfl, ?_⟩) | ((with_reducible refine gate_callee (f := 56) rfl ?_); refine goesL_ (some 20) rfl rfl Tryd.func56 (by kernel_rfl) rfl #[.int .i32 a0, .int .i32 248, .int .i32 687] rfl (by (try simp only [List.map_toArray, List.map_cons, List.map_nil]); first | done | rfl | (simp only [List.length_drop, List.length_take]; rfl)) ?_; (with_reducible refine (fold_in.calls a0 248 687 t123 _ A15.out).mono ?_); rintro e w' ⟨rfl, ⟨nd, rfl⟩⟩; refine ⟨_, rfl, ?_⟩))
              go_meet
              case rel => exact ⟨_, (t123), (by first | rfl | (simp; done) | (simp [*]; done)), H', ⟨by have := HJ2.out; first | omega | exact Nat.le_refl _⟩, by repeat (first | exact Drawn0.refl _ | apply Drawn0.step)⟩
        case rest =>
          clear HC11
          try clear c1
          try clear c2
          try clear p2
          try clear c4
          try clear c5
          try clear c6
          try clear c7
          try clear c7b0
          try clear c7b1
          try clear c8
          try clear c8b0
          try clear c8b1
          try clear c9
          try clear c12
          try clear c14
          try clear p2
          obtain ⟨kq, x14_10, rfl, HA, HJ10, ⟨mc10, rfl⟩⟩ := hcut
          cases kq with
          | zero => exact absurd HA.out (by simp [fold_Letter.j1])
          | succ kj10 =>
            have H := HA.out
            clear HA
            simp only [fold_Letter.j1] at H
            by_cases c16 : x14_10 = true
            · subst c16
              have H1 : (some true) = some r := by rw [if_pos rfl] at H; exact H
              clear H
              have H := H1
              clear H1
              obtain rfl := Option.some.inj H
              go_wp2
              go_ret
              exact ⟨by first | rfl | (simp; done) | (simp [*]; done), by repeat (first | exact Drawn0.refl _ | apply Drawn0.step)⟩
            · replace c16 := Bool.eq_false_iff.mpr c16
              subst c16
              have H1 : ((fold_in.f a0 880 883).bind fun t124 => (if t124 = true then (fold_Letter.j2 kj10 a0 t124) else ((fold_in.f a0 886 887).bind fun t125 => (if t125 = true then (fold_Letter.j2 kj10 a0 t125) else ((fold_in.f a0 891 893).bind fun t126 => (if t126 = true then (fold_Letter.j2 kj10 a0 t126) else (if a0 = 895 then (fold_Letter.j2 kj10 a0 (a0 == 895)) else (fold_Letter.j2 kj10 a0 (a0 == 902))))))))) = some r := by rw [if_neg (show ¬ (false = true) by decide)] at H; exact H
              clear H
              have H := H1
              clear H1
              replace H := Option.bind_eq_some_iff.mp H
              obtain ⟨t124, A170, H⟩ := H
              replace H : (if t124 = true then (fold_Letter.j2 kj10 a0 t124) else ((fold_in.f a0 886 887).bind fun t125 => (if t125 = true then (fold_Letter.j2 kj10 a0 t125) else ((fold_in.f a0 891 893).bind fun t126 => (if t126 = true then (fold_Letter.j2 kj10 a0 t126) else (if a0 = 895 then (fold_Letter.j2 kj10 a0 (a0 == 895)) else (fold_Letter.j2 kj10 a0 (a0 == 902)))))))) = some r := H
              have A17 := Aside0.mk A170
              clear A170
              have HC18 := Aside0.mk H
              clear H
              go_upto_if 21 with (first | ((with_reducible refine gate_callee (f := 56) rfl ?_); refine goesL_ (some 23) rfl rfl Tryd.func56 (by kernel_rfl) rfl #[.int .i32 a0, .int .i32 880, .int .i32 883] rfl (by (try simp only [List.map_toArray, List.map_cons, List.map_nil]); first | done | rfl | (simp only [List.length_drop, List.length_take]; rfl)) ?_; (with_reducible refine (fold_in.calls a0 880 883 t124 _ A17.out).mono ?_); rintro e w' ⟨rfl, ⟨nd, rfl⟩⟩; refine ⟨_, rfl, ?_⟩))
              (try simp only [Act.put, List.setIfInBounds_toArray, List.set_cons_zero, List.set_cons_succ])
              go_cut [21] (fun v21 wc => ∃ (kq : Nat) (x21_17 : Bool), v21 = .bool x21_17 ∧ Aside0 (fold_Letter.j2 kq a0 x21_17 = some r) ∧ Aside0 (kq ≤ kj10) ∧ Drawn0 w wc)
              case first =>
                have H := HC18.out
                clear HC18
                by_cases c19 : t124 = true
                · subst c19
                  have H1 : (fold_Letter.j2 kj10 a0 true) = some r := by rw [if_pos rfl] at H; exact H
                  clear H
                  have H := H1
                  clear H1
                  have H' := Aside0.mk H
                  clear H
                  go_wp2
                  go_meet
                  case rel => exact ⟨_, (true), (by first | rfl | (simp; done) | (simp [*]; done)), H', ⟨by have := HJ2.out; have := HJ10.out; first | omega | exact Nat.le_refl _⟩, by repeat (first | exact Drawn0.refl _ | apply Drawn0.step)⟩
                · replace c19 := Bool.eq_false_iff.mpr c19
                  subst c19
                  have H1 : ((fold_in.f a0 886 887).bind fun t125 => (if t125 = true then (fold_Letter.j2 kj10 a0 t125) else ((fold_in.f a0 891 893).bind fun t126 => (if t126 = true then (fold_Letter.j2 kj10 a0 t126) else (if a0 = 895 then (fold_Letter.j2 kj10 a0 (a0 == 895)) else (fold_Letter.j2 kj10 a0 (a0 == 902))))))) = some r := by rw [if_neg (show ¬ (false = true) by decide)] at H; exact H
                  clear H
                  have H := H1
                  clear H1
                  replace H := Option.bind_eq_some_iff.mp H
                  obtain ⟨t125, A200, H⟩ := H
                  replace H : (if t125 = true then (fold_Letter.j2 kj10 a0 t125) else ((fold_in.f a0 891 893).bind fun t126 => (if t126 = true then (fold_Letter.j2 kj10 a0 t126) else (if a0 = 895 then (fold_Letter.j2 kj10 a0 (a0 == 895)) else (fold_Letter.j2 kj10 a0 (a0 == 902)))))) = some r := H
                  have A20 := Aside0.mk A200
                  clear A200
                  by_cases c21 : t125 = true
                  · subst c21
                    have H1 : (fold_Letter.j2 kj10 a0 true) = some r := by rw [if_pos rfl] at H; exact H
                    clear H
                    have H := H1
                    clear H1
                    have H' := Aside0.mk H
                    clear H
                    go_wp2_with (first | ((with_reducible refine gate_callee (f := 56) rfl ?_); refine goesL_ (some 25) rfl rfl Tryd.func56 (by kernel_rfl) rfl #[.int .i32 a0, .int .i32 886, .int .i32 887] rfl (by (try simp only [List.map_toArray, List.map_cons, List.map_nil]); first | done | rfl | (simp only [List.length_drop, List.length_take]; rfl)) ?_; (with_reducible refine (fold_in.calls a0 886 887 true _ A20.out).mono ?_); rintro e w' ⟨rfl, ⟨nd, rfl⟩⟩; refine ⟨_, rfl, ?_⟩))
                    go_meet
                    case rel => exact ⟨_, (true), (by first | rfl | (simp; done) | (simp [*]; done)), H', ⟨by have := HJ2.out; have := HJ10.out; first | omega | exact Nat.le_refl _⟩, by repeat (first | exact Drawn0.refl _ | apply Drawn0.step)⟩
                  · replace c21 := Bool.eq_false_iff.mpr c21
                    subst c21
                    have H1 : ((fold_in.f a0 891 893).bind fun t126 => (if t126 = true then (fold_Letter.j2 kj10 a0 t126) else (if a0 = 895 then (fold_Letter.j2 kj10 a0 (a0 == 895)) else (fold_Letter.j2 kj10 a0 (a0 == 902))))) = some r := by rw [if_neg (show ¬ (false = true) by decide)] at H; exact H
                    clear H
                    have H := H1
                    clear H1
                    replace H := Option.bind_eq_some_iff.mp H
                    obtain ⟨t126, A220, H⟩ := H
                    replace H : (if t126 = true then (fold_Letter.j2 kj10 a0 t126) else (if a0 = 895 then (fold_Letter.j2 kj10 a0 (a0 == 895)) else (fold_Letter.j2 kj10 a0 (a0 == 902)))) = some r := H
                    have A22 := Aside0.mk A220
                    clear A220
                    by_cases c23 : t126 = true
                    · subst c23
                      have H1 : (fold_Letter.j2 kj10 a0 true) = some r := by rw [if_pos rfl] at H; exact H
                      clear H
                      have H := H1
                      clear H1
                      have H' := Aside0.mk H
                      clear H
                      go_wp2_with (first | ((with_reducible refine gate_callee (f := 56) rfl ?_); refine goesL_ (some 25) rfl rfl Tryd.func56 (by kernel_rfl) rfl #[.int .i32 a0, .int .i32 886, .int .i32 887] rfl (by (try simp only [List.map_toArray, List.map_cons, List.map_nil]); first | done | rfl | (simp only [List.length_drop, List.length_take]; rfl)) ?_; (with_reducible refine (fold_in.calls a0 886 887 false _ A20.out).mono ?_); rintro e w' ⟨rfl, ⟨nd, rfl⟩⟩; refine ⟨_, rfl, ?_⟩) | ((with_reducible refine gate_callee (f := 56) rfl ?_); refine goesL_ (some 27) rfl rfl Tryd.func56 (by kernel_rfl) rfl #[.int .i32 a0, .int .i32 891, .int .i32 893] rfl (by (try simp only [List.map_toArray, List.map_cons, List.map_nil]); first | done | rfl | (simp only [List.length_drop, List.length_take]; rfl)) ?_; (with_reducible refine (fold_in.calls a0 891 893 true _ A22.out).mono ?_); rintro e w' ⟨rfl, ⟨nd, rfl⟩⟩; refine ⟨_, rfl, ?_⟩))
                      go_meet
                      case rel => exact ⟨_, (true), (by first | rfl | (simp; done) | (simp [*]; done)), H', ⟨by have := HJ2.out; have := HJ10.out; first | omega | exact Nat.le_refl _⟩, by repeat (first | exact Drawn0.refl _ | apply Drawn0.step)⟩
                    · replace c23 := Bool.eq_false_iff.mpr c23
                      subst c23
                      have H1 : (if a0 = 895 then (fold_Letter.j2 kj10 a0 (a0 == 895)) else (fold_Letter.j2 kj10 a0 (a0 == 902))) = some r := by rw [if_neg (show ¬ (false = true) by decide)] at H; exact H
                      clear H
                      have H := H1
                      clear H1
                      by_cases c24 : a0 = 895
                      · rw [if_pos c24] at H
                        have c24b0 : (a0 == 895) = true := beq_iff_eq.mpr c24
                        have c24b1 : (a0 != 895) = false := bne_eq_false_iff_eq.mpr c24
                        clear c24
                        (first | rw [c24b0] | (simp only [i64_w, i32_w]; rw [c24b0]) | skip)
                        have H' := Aside0.mk H
                        clear H
                        go_wp2_with (first | ((with_reducible refine gate_callee (f := 56) rfl ?_); refine goesL_ (some 25) rfl rfl Tryd.func56 (by kernel_rfl) rfl #[.int .i32 a0, .int .i32 886, .int .i32 887] rfl (by (try simp only [List.map_toArray, List.map_cons, List.map_nil]); first | done | rfl | (simp only [List.length_drop, List.length_take]; rfl)) ?_; (with_reducible refine (fold_in.calls a0 886 887 false _ A20.out).mono ?_); rintro e w' ⟨rfl, ⟨nd, rfl⟩⟩; refine ⟨_, rfl, ?_⟩) | ((with_reducible refine gate_callee (f := 56) rfl ?_); refine goesL_ (some 27) rfl rfl Tryd.func56 (by kernel_rfl) rfl #[.int .i32 a0, .int .i32 891, .int .i32 893] rfl (by (try simp only [List.map_toArray, List.map_cons, List.map_nil]); first | done | rfl | (simp only [List.length_drop, List.length_take]; rfl)) ?_; (with_reducible refine (fold_in.calls a0 891 893 false _ A22.out).mono ?_); rintro e w' ⟨rfl, ⟨nd, rfl⟩⟩; refine ⟨_, rfl, ?_⟩))
                        go_meet
                        case rel => exact ⟨_, ((a0 == 895)), (by first | rfl | (simp; done) | (simp [*]; done)), H', ⟨by have := HJ2.out; have := HJ10.out; first | omega | exact Nat.le_refl _⟩, by repeat (first | exact Drawn0.refl _ | apply Drawn0.step)⟩
                      · rw [if_neg c24] at H
                        have c24b0 : (a0 == 895) = false := beq_eq_false_iff_ne.mpr c24
                        have c24b1 : (a0 != 895) = true := bne_iff_ne.mpr c24
                        (first | rw [c24b0] | (simp only [i64_w, i32_w]; rw [c24b0]) | skip)
                        have H' := Aside0.mk H
                        clear H
                        go_wp2_with (first | ((with_reducible refine gate_callee (f := 56) rfl ?_); refine goesL_ (some 25) rfl rfl Tryd.func56 (by kernel_rfl) rfl #[.int .i32 a0, .int .i32 886, .int .i32 887] rfl (by (try simp only [List.map_toArray, List.map_cons, List.map_nil]); first | done | rfl | (simp only [List.length_drop, List.length_take]; rfl)) ?_; (with_reducible refine (fold_in.calls a0 886 887 false _ A20.out).mono ?_); rintro e w' ⟨rfl, ⟨nd, rfl⟩⟩; refine ⟨_, rfl, ?_⟩) | ((with_reducible refine gate_callee (f := 56) rfl ?_); refine goesL_ (some 27) rfl rfl Tryd.func56 (by kernel_rfl) rfl #[.int .i32 a0, .int .i32 891, .int .i32 893] rfl (by (try simp only [List.map_toArray, List.map_cons, List.map_nil]); first | done | rfl | (simp only [List.length_drop, List.length_take]; rfl)) ?_; (with_reducible refine (fold_in.calls a0 891 893 false _ A22.out).mono ?_); rintro e w' ⟨rfl, ⟨nd, rfl⟩⟩; refine ⟨_, rfl, ?_⟩))
                        go_meet
                        case rel => exact ⟨_, ((a0 == 902)), (by first | rfl | (simp; done) | (simp [*]; done)), H', ⟨by have := HJ2.out; have := HJ10.out; first | omega | exact Nat.le_refl _⟩, by repeat (first | exact Drawn0.refl _ | apply Drawn0.step)⟩
              case rest =>
                clear HC18
                try clear c1
                try clear c2
                try clear p2
                try clear c4
                try clear c5
                try clear c6
                try clear c7
                try clear c7b0
                try clear c7b1
                try clear c8
                try clear c8b0
                try clear c8b1
                try clear c9
                try clear c10
                try clear c12
                try clear c14
                try clear c16
                try clear c19
                try clear c21
                try clear c23
                try clear c24
                try clear c24b0
                try clear c24b1
                try clear p2
                obtain ⟨kq, x21_17, rfl, HA, HJ17, ⟨mc17, rfl⟩⟩ := hcut
                cases kq with
                | zero => exact absurd HA.out (by simp [fold_Letter.j2])
                | succ kj17 =>
                  have H := HA.out
                  clear HA
                  simp only [fold_Letter.j2] at H
                  by_cases c25 : x21_17 = true
                  · subst c25
                    have H1 : (some true) = some r := by rw [if_pos rfl] at H; exact H
                    clear H
                    have H := H1
                    clear H1
                    obtain rfl := Option.some.inj H
                    go_wp2
                    go_ret
                    exact ⟨by first | rfl | (simp; done) | (simp [*]; done), by repeat (first | exact Drawn0.refl _ | apply Drawn0.step)⟩
                  · replace c25 := Bool.eq_false_iff.mpr c25
                    subst c25
                    have H1 : ((fold_in.f a0 904 906).bind fun t127 => (if t127 = true then (fold_Letter.j3 kj17 a0 t127) else (if a0 = 908 then (fold_Letter.j3 kj17 a0 (a0 == 908)) else ((fold_in.f a0 910 929).bind fun t128 => (if t128 = true then (fold_Letter.j3 kj17 a0 t128) else ((fold_in.f a0 931 1023).bind fun t129 => (if t129 = true then (fold_Letter.j3 kj17 a0 (a0 != 1014)) else (fold_Letter.j3 kj17 a0 false)))))))) = some r := by rw [if_neg (show ¬ (false = true) by decide)] at H; exact H
                    clear H
                    have H := H1
                    clear H1
                    replace H := Option.bind_eq_some_iff.mp H
                    obtain ⟨t127, A260, H⟩ := H
                    replace H : (if t127 = true then (fold_Letter.j3 kj17 a0 t127) else (if a0 = 908 then (fold_Letter.j3 kj17 a0 (a0 == 908)) else ((fold_in.f a0 910 929).bind fun t128 => (if t128 = true then (fold_Letter.j3 kj17 a0 t128) else ((fold_in.f a0 931 1023).bind fun t129 => (if t129 = true then (fold_Letter.j3 kj17 a0 (a0 != 1014)) else (fold_Letter.j3 kj17 a0 false))))))) = some r := H
                    have A26 := Aside0.mk A260
                    clear A260
                    have HC27 := Aside0.mk H
                    clear H
                    go_upto_if 32 with (first | ((with_reducible refine gate_callee (f := 56) rfl ?_); refine goesL_ (some 34) rfl rfl Tryd.func56 (by kernel_rfl) rfl #[.int .i32 a0, .int .i32 904, .int .i32 906] rfl (by (try simp only [List.map_toArray, List.map_cons, List.map_nil]); first | done | rfl | (simp only [List.length_drop, List.length_take]; rfl)) ?_; (with_reducible refine (fold_in.calls a0 904 906 t127 _ A26.out).mono ?_); rintro e w' ⟨rfl, ⟨nd, rfl⟩⟩; refine ⟨_, rfl, ?_⟩))
                    (try simp only [Act.put, List.setIfInBounds_toArray, List.set_cons_zero, List.set_cons_succ])
                    go_cut [32] (fun v32 wc => ∃ (kq : Nat) (x32_26 : Bool), v32 = .bool x32_26 ∧ Aside0 (fold_Letter.j3 kq a0 x32_26 = some r) ∧ Aside0 (kq ≤ kj17) ∧ Drawn0 w wc)
                    case first =>
                      have H := HC27.out
                      clear HC27
                      by_cases c28 : t127 = true
                      · subst c28
                        have H1 : (fold_Letter.j3 kj17 a0 true) = some r := by rw [if_pos rfl] at H; exact H
                        clear H
                        have H := H1
                        clear H1
                        have H' := Aside0.mk H
                        clear H
                        go_wp2
                        go_meet
                        case rel => exact ⟨_, (true), (by first | rfl | (simp; done) | (simp [*]; done)), H', ⟨by have := HJ2.out; have := HJ10.out; have := HJ17.out; first | omega | exact Nat.le_refl _⟩, by repeat (first | exact Drawn0.refl _ | apply Drawn0.step)⟩
                      · replace c28 := Bool.eq_false_iff.mpr c28
                        subst c28
                        have H1 : (if a0 = 908 then (fold_Letter.j3 kj17 a0 (a0 == 908)) else ((fold_in.f a0 910 929).bind fun t128 => (if t128 = true then (fold_Letter.j3 kj17 a0 t128) else ((fold_in.f a0 931 1023).bind fun t129 => (if t129 = true then (fold_Letter.j3 kj17 a0 (a0 != 1014)) else (fold_Letter.j3 kj17 a0 false)))))) = some r := by rw [if_neg (show ¬ (false = true) by decide)] at H; exact H
                        clear H
                        have H := H1
                        clear H1
                        by_cases c29 : a0 = 908
                        · rw [if_pos c29] at H
                          have c29b0 : (a0 == 908) = true := beq_iff_eq.mpr c29
                          have c29b1 : (a0 != 908) = false := bne_eq_false_iff_eq.mpr c29
                          clear c29
                          (first | rw [c29b0] | (simp only [i64_w, i32_w]; rw [c29b0]) | skip)
                          have H' := Aside0.mk H
                          clear H
                          go_wp2
                          go_meet
                          case rel => exact ⟨_, ((a0 == 908)), (by first | rfl | (simp; done) | (simp [*]; done)), H', ⟨by have := HJ2.out; have := HJ10.out; have := HJ17.out; first | omega | exact Nat.le_refl _⟩, by repeat (first | exact Drawn0.refl _ | apply Drawn0.step)⟩
                        · rw [if_neg c29] at H
                          have c29b0 : (a0 == 908) = false := beq_eq_false_iff_ne.mpr c29
                          have c29b1 : (a0 != 908) = true := bne_iff_ne.mpr c29
                          (first | rw [c29b0] | (simp only [i64_w, i32_w]; rw [c29b0]) | skip)
                          replace H := Option.bind_eq_some_iff.mp H
                          obtain ⟨t128, A300, H⟩ := H
                          replace H : (if t128 = true then (fold_Letter.j3 kj17 a0 t128) else ((fold_in.f a0 931 1023).bind fun t129 => (if t129 = true then (fold_Letter.j3 kj17 a0 (a0 != 1014)) else (fold_Letter.j3 kj17 a0 false)))) = some r := H
                          have A30 := Aside0.mk A300
                          clear A300
                          by_cases c31 : t128 = true
                          · subst c31
                            have H1 : (fold_Letter.j3 kj17 a0 true) = some r := by rw [if_pos rfl] at H; exact H
                            clear H
                            have H := H1
                            clear H1
                            have H' := Aside0.mk H
                            clear H
                            go_wp2_with (first | ((with_reducible refine gate_callee (f := 56) rfl ?_); refine goesL_ (some 38) rfl rfl Tryd.func56 (by kernel_rfl) rfl #[.int .i32 a0, .int .i32 910, .int .i32 929] rfl (by (try simp only [List.map_toArray, List.map_cons, List.map_nil]); first | done | rfl | (simp only [List.length_drop, List.length_take]; rfl)) ?_; (with_reducible refine (fold_in.calls a0 910 929 true _ A30.out).mono ?_); rintro e w' ⟨rfl, ⟨nd, rfl⟩⟩; refine ⟨_, rfl, ?_⟩))
                            go_meet
                            case rel => exact ⟨_, (true), (by first | rfl | (simp; done) | (simp [*]; done)), H', ⟨by have := HJ2.out; have := HJ10.out; have := HJ17.out; first | omega | exact Nat.le_refl _⟩, by repeat (first | exact Drawn0.refl _ | apply Drawn0.step)⟩
                          · replace c31 := Bool.eq_false_iff.mpr c31
                            subst c31
                            have H1 : ((fold_in.f a0 931 1023).bind fun t129 => (if t129 = true then (fold_Letter.j3 kj17 a0 (a0 != 1014)) else (fold_Letter.j3 kj17 a0 false))) = some r := by rw [if_neg (show ¬ (false = true) by decide)] at H; exact H
                            clear H
                            have H := H1
                            clear H1
                            replace H := Option.bind_eq_some_iff.mp H
                            obtain ⟨t129, A320, H⟩ := H
                            replace H : (if t129 = true then (fold_Letter.j3 kj17 a0 (a0 != 1014)) else (fold_Letter.j3 kj17 a0 false)) = some r := H
                            have A32 := Aside0.mk A320
                            clear A320
                            by_cases c33 : t129 = true
                            · subst c33
                              have H1 : (fold_Letter.j3 kj17 a0 (a0 != 1014)) = some r := by rw [if_pos rfl] at H; exact H
                              clear H
                              have H := H1
                              clear H1
                              have H' := Aside0.mk H
                              clear H
                              go_wp2_with (first | ((with_reducible refine gate_callee (f := 56) rfl ?_); refine goesL_ (some 38) rfl rfl Tryd.func56 (by kernel_rfl) rfl #[.int .i32 a0, .int .i32 910, .int .i32 929] rfl (by (try simp only [List.map_toArray, List.map_cons, List.map_nil]); first | done | rfl | (simp only [List.length_drop, List.length_take]; rfl)) ?_; (with_reducible refine (fold_in.calls a0 910 929 false _ A30.out).mono ?_); rintro e w' ⟨rfl, ⟨nd, rfl⟩⟩; refine ⟨_, rfl, ?_⟩) | ((with_reducible refine gate_callee (f := 56) rfl ?_); refine goesL_ (some 40) rfl rfl Tryd.func56 (by kernel_rfl) rfl #[.int .i32 a0, .int .i32 931, .int .i32 1023] rfl (by (try simp only [List.map_toArray, List.map_cons, List.map_nil]); first | done | rfl | (simp only [List.length_drop, List.length_take]; rfl)) ?_; (with_reducible refine (fold_in.calls a0 931 1023 true _ A32.out).mono ?_); rintro e w' ⟨rfl, ⟨nd, rfl⟩⟩; refine ⟨_, rfl, ?_⟩))
                              go_meet
                              case rel => exact ⟨_, ((a0 != 1014)), (by first | rfl | (simp; done) | (simp [*]; done)), H', ⟨by have := HJ2.out; have := HJ10.out; have := HJ17.out; first | omega | exact Nat.le_refl _⟩, by repeat (first | exact Drawn0.refl _ | apply Drawn0.step)⟩
                            · replace c33 := Bool.eq_false_iff.mpr c33
                              subst c33
                              have H1 : (fold_Letter.j3 kj17 a0 false) = some r := by rw [if_neg (show ¬ (false = true) by decide)] at H; exact H
                              clear H
                              have H := H1
                              clear H1
                              have H' := Aside0.mk H
                              clear H
                              go_wp2_with (first | ((with_reducible refine gate_callee (f := 56) rfl ?_); refine goesL_ (some 38) rfl rfl Tryd.func56 (by kernel_rfl) rfl #[.int .i32 a0, .int .i32 910, .int .i32 929] rfl (by (try simp only [List.map_toArray, List.map_cons, List.map_nil]); first | done | rfl | (simp only [List.length_drop, List.length_take]; rfl)) ?_; (with_reducible refine (fold_in.calls a0 910 929 false _ A30.out).mono ?_); rintro e w' ⟨rfl, ⟨nd, rfl⟩⟩; refine ⟨_, rfl, ?_⟩) | ((with_reducible refine gate_callee (f := 56) rfl ?_); refine goesL_ (some 40) rfl rfl Tryd.func56 (by kernel_rfl) rfl #[.int .i32 a0, .int .i32 931, .int .i32 1023] rfl (by (try simp only [List.map_toArray, List.map_cons, List.map_nil]); first | done | rfl | (simp only [List.length_drop, List.length_take]; rfl)) ?_; (with_reducible refine (fold_in.calls a0 931 1023 false _ A32.out).mono ?_); rintro e w' ⟨rfl, ⟨nd, rfl⟩⟩; refine ⟨_, rfl, ?_⟩))
                              go_meet
                              case rel => exact ⟨_, (false), (by first | rfl | (simp; done) | (simp [*]; done)), H', ⟨by have := HJ2.out; have := HJ10.out; have := HJ17.out; first | omega | exact Nat.le_refl _⟩, by repeat (first | exact Drawn0.refl _ | apply Drawn0.step)⟩
                    case rest =>
                      clear HC27
                      try clear c1
                      try clear c2
                      try clear p2
                      try clear c3
                      try clear c4
                      try clear c5
                      try clear c6
                      try clear c7
                      try clear c7b0
                      try clear c7b1
                      try clear c8
                      try clear c8b0
                      try clear c8b1
                      try clear c9
                      try clear c10
                      try clear c12
                      try clear c14
                      try clear c16
                      try clear c17
                      try clear c19
                      try clear c21
                      try clear c23
                      try clear c24
                      try clear c24b0
                      try clear c24b1
                      try clear c25
                      try clear c26
                      try clear c28
                      try clear c29
                      try clear c29b0
                      try clear c29b1
                      try clear c31
                      try clear c33
                      try clear p2
                      obtain ⟨kq, x32_26, rfl, HA, HJ26, ⟨mc26, rfl⟩⟩ := hcut
                      cases kq with
                      | zero => exact absurd HA.out (by simp [fold_Letter.j3])
                      | succ kj26 =>
                        have H := HA.out
                        clear HA
                        simp only [fold_Letter.j3] at H
                        by_cases c34 : x32_26 = true
                        · subst c34
                          have H1 : (some true) = some r := by rw [if_pos rfl] at H; exact H
                          clear H
                          have H := H1
                          clear H1
                          obtain rfl := Option.some.inj H
                          go_wp2
                          go_ret
                          exact ⟨by first | rfl | (simp; done) | (simp [*]; done), by repeat (first | exact Drawn0.refl _ | apply Drawn0.step)⟩
                        · replace c34 := Bool.eq_false_iff.mpr c34
                          subst c34
                          have H1 : ((fold_in.f a0 1024 1327).bind fun t130 => (if t130 = true then ((fold_in.f a0 1154 1161).bind fun t131 => (fold_Letter.j4 kj26 a0 (!t131))) else (fold_Letter.j4 kj26 a0 false))) = some r := by rw [if_neg (show ¬ (false = true) by decide)] at H; exact H
                          clear H
                          have H := H1
                          clear H1
                          have HC35 := Aside0.mk H
                          clear H
                          go_upto_region 18 with (fail)
                          go_cut [45] (fun v45 wc => ∃ (kq : Nat) (x45_34 : Bool), v45 = .bool x45_34 ∧ Aside0 (fold_Letter.j4 kq a0 x45_34 = some r) ∧ Aside0 (kq ≤ kj26) ∧ Drawn0 w wc)
                          case first =>
                            have H := HC35.out
                            clear HC35
                            replace H := Option.bind_eq_some_iff.mp H
                            obtain ⟨t130, A360, H⟩ := H
                            replace H : (if t130 = true then ((fold_in.f a0 1154 1161).bind fun t131 => (fold_Letter.j4 kj26 a0 (!t131))) else (fold_Letter.j4 kj26 a0 false)) = some r := H
                            have A36 := Aside0.mk A360
                            clear A360
                            by_cases c37 : t130 = true
                            · subst c37
                              have H1 : ((fold_in.f a0 1154 1161).bind fun t131 => (fold_Letter.j4 kj26 a0 (!t131))) = some r := by rw [if_pos rfl] at H; exact H
                              clear H
                              have H := H1
                              clear H1
                              replace H := Option.bind_eq_some_iff.mp H
                              obtain ⟨t131, A380, H⟩ := H
                              replace H : (fold_Letter.j4 kj26 a0 (!t131)) = some r := H
                              have A38 := Aside0.mk A380
                              clear A380
                              have H' := Aside0.mk H
                              clear H
                              go_wp2_with (first | ((with_reducible refine gate_callee (f := 56) rfl ?_); refine goesL_ (some 47) rfl rfl Tryd.func56 (by kernel_rfl) rfl #[.int .i32 a0, .int .i32 1024, .int .i32 1327] rfl (by (try simp only [List.map_toArray, List.map_cons, List.map_nil]); first | done | rfl | (simp only [List.length_drop, List.length_take]; rfl)) ?_; (with_reducible refine (fold_in.calls a0 1024 1327 true _ A36.out).mono ?_); rintro e w' ⟨rfl, ⟨nd, rfl⟩⟩; refine ⟨_, rfl, ?_⟩) | (go_at_call 56; (with_reducible refine (fold_in.calls a0 1154 1161 t131 _ A38.out).mono ?_); rintro e w' ⟨rfl, ⟨nd, rfl⟩⟩))
                              go_meet
                              case rel => exact ⟨_, (!t131), (by first | rfl | (simp; done) | (simp [*]; done)), H', ⟨by have := HJ2.out; have := HJ10.out; have := HJ17.out; have := HJ26.out; first | omega | exact Nat.le_refl _⟩, by repeat (first | exact Drawn0.refl _ | apply Drawn0.step)⟩
                            · replace c37 := Bool.eq_false_iff.mpr c37
                              subst c37
                              have H1 : (fold_Letter.j4 kj26 a0 false) = some r := by rw [if_neg (show ¬ (false = true) by decide)] at H; exact H
                              clear H
                              have H := H1
                              clear H1
                              have H' := Aside0.mk H
                              clear H
                              go_wp2_with (first | ((with_reducible refine gate_callee (f := 56) rfl ?_); refine goesL_ (some 47) rfl rfl Tryd.func56 (by kernel_rfl) rfl #[.int .i32 a0, .int .i32 1024, .int .i32 1327] rfl (by (try simp only [List.map_toArray, List.map_cons, List.map_nil]); first | done | rfl | (simp only [List.length_drop, List.length_take]; rfl)) ?_; (with_reducible refine (fold_in.calls a0 1024 1327 false _ A36.out).mono ?_); rintro e w' ⟨rfl, ⟨nd, rfl⟩⟩; refine ⟨_, rfl, ?_⟩))
                              go_meet
                              case rel => exact ⟨_, (false), (by first | rfl | (simp; done) | (simp [*]; done)), H', ⟨by have := HJ2.out; have := HJ10.out; have := HJ17.out; have := HJ26.out; first | omega | exact Nat.le_refl _⟩, by repeat (first | exact Drawn0.refl _ | apply Drawn0.step)⟩
                          case rest =>
                            clear HC35
                            try clear c1
                            try clear c2
                            try clear p2
                            try clear c3
                            try clear c4
                            try clear c5
                            try clear c6
                            try clear c7
                            try clear c7b0
                            try clear c7b1
                            try clear c8
                            try clear c8b0
                            try clear c8b1
                            try clear c9
                            try clear c10
                            try clear c12
                            try clear c14
                            try clear c16
                            try clear c17
                            try clear c19
                            try clear c21
                            try clear c23
                            try clear c24
                            try clear c24b0
                            try clear c24b1
                            try clear c25
                            try clear c26
                            try clear c28
                            try clear c29
                            try clear c29b0
                            try clear c29b1
                            try clear c31
                            try clear c33
                            try clear c34
                            try clear c37
                            try clear p2
                            obtain ⟨kq, x45_34, rfl, HA, HJ34, ⟨mc34, rfl⟩⟩ := hcut
                            cases kq with
                            | zero => exact absurd HA.out (by simp [fold_Letter.j4])
                            | succ kj34 =>
                              have H := HA.out
                              clear HA
                              simp only [fold_Letter.j4] at H
                              by_cases c39 : x45_34 = true
                              · subst c39
                                have H1 : (some true) = some r := by rw [if_pos rfl] at H; exact H
                                clear H
                                have H := H1
                                clear H1
                                obtain rfl := Option.some.inj H
                                go_wp2
                                go_ret
                                exact ⟨by first | rfl | (simp; done) | (simp [*]; done), by repeat (first | exact Drawn0.refl _ | apply Drawn0.step)⟩
                              · replace c39 := Bool.eq_false_iff.mpr c39
                                subst c39
                                have H1 : ((fold_in.f a0 1488 1514).bind fun t132 => (if t132 = true then (fold_Letter.j5 kj34 a0 t132) else ((fold_in.f a0 1568 1610).bind fun t133 => (if t133 = true then (fold_Letter.j5 kj34 a0 t133) else ((fold_in.f a0 2308 2361).bind fun t134 => (fold_Letter.j5 kj34 a0 t134)))))) = some r := by rw [if_neg (show ¬ (false = true) by decide)] at H; exact H
                                clear H
                                have H := H1
                                clear H1
                                replace H := Option.bind_eq_some_iff.mp H
                                obtain ⟨t132, A400, H⟩ := H
                                replace H : (if t132 = true then (fold_Letter.j5 kj34 a0 t132) else ((fold_in.f a0 1568 1610).bind fun t133 => (if t133 = true then (fold_Letter.j5 kj34 a0 t133) else ((fold_in.f a0 2308 2361).bind fun t134 => (fold_Letter.j5 kj34 a0 t134))))) = some r := H
                                have A40 := Aside0.mk A400
                                clear A400
                                have HC41 := Aside0.mk H
                                clear H
                                go_upto_if 53 with (first | ((with_reducible refine gate_callee (f := 56) rfl ?_); refine goesL_ (some 55) rfl rfl Tryd.func56 (by kernel_rfl) rfl #[.int .i32 a0, .int .i32 1488, .int .i32 1514] rfl (by (try simp only [List.map_toArray, List.map_cons, List.map_nil]); first | done | rfl | (simp only [List.length_drop, List.length_take]; rfl)) ?_; (with_reducible refine (fold_in.calls a0 1488 1514 t132 _ A40.out).mono ?_); rintro e w' ⟨rfl, ⟨nd, rfl⟩⟩; refine ⟨_, rfl, ?_⟩))
                                (try simp only [Act.put, List.setIfInBounds_toArray, List.set_cons_zero, List.set_cons_succ])
                                go_cut [53] (fun v53 wc => ∃ (kq : Nat) (x53_40 : Bool), v53 = .bool x53_40 ∧ Aside0 (fold_Letter.j5 kq a0 x53_40 = some r) ∧ Aside0 (kq ≤ kj34) ∧ Drawn0 w wc)
                                case first =>
                                  have H := HC41.out
                                  clear HC41
                                  by_cases c42 : t132 = true
                                  · subst c42
                                    have H1 : (fold_Letter.j5 kj34 a0 true) = some r := by rw [if_pos rfl] at H; exact H
                                    clear H
                                    have H := H1
                                    clear H1
                                    have H' := Aside0.mk H
                                    clear H
                                    go_wp2
                                    go_meet
                                    case rel => exact ⟨_, (true), (by first | rfl | (simp; done) | (simp [*]; done)), H', ⟨by have := HJ2.out; have := HJ10.out; have := HJ17.out; have := HJ26.out; have := HJ34.out; first | omega | exact Nat.le_refl _⟩, by repeat (first | exact Drawn0.refl _ | apply Drawn0.step)⟩
                                  · replace c42 := Bool.eq_false_iff.mpr c42
                                    subst c42
                                    have H1 : ((fold_in.f a0 1568 1610).bind fun t133 => (if t133 = true then (fold_Letter.j5 kj34 a0 t133) else ((fold_in.f a0 2308 2361).bind fun t134 => (fold_Letter.j5 kj34 a0 t134)))) = some r := by rw [if_neg (show ¬ (false = true) by decide)] at H; exact H
                                    clear H
                                    have H := H1
                                    clear H1
                                    replace H := Option.bind_eq_some_iff.mp H
                                    obtain ⟨t133, A430, H⟩ := H
                                    replace H : (if t133 = true then (fold_Letter.j5 kj34 a0 t133) else ((fold_in.f a0 2308 2361).bind fun t134 => (fold_Letter.j5 kj34 a0 t134))) = some r := H
                                    have A43 := Aside0.mk A430
                                    clear A430
                                    by_cases c44 : t133 = true
                                    · subst c44
                                      have H1 : (fold_Letter.j5 kj34 a0 true) = some r := by rw [if_pos rfl] at H; exact H
                                      clear H
                                      have H := H1
                                      clear H1
                                      have H' := Aside0.mk H
                                      clear H
                                      go_wp2_with (first | ((with_reducible refine gate_callee (f := 56) rfl ?_); refine goesL_ (some 57) rfl rfl Tryd.func56 (by kernel_rfl) rfl #[.int .i32 a0, .int .i32 1568, .int .i32 1610] rfl (by (try simp only [List.map_toArray, List.map_cons, List.map_nil]); first | done | rfl | (simp only [List.length_drop, List.length_take]; rfl)) ?_; (with_reducible refine (fold_in.calls a0 1568 1610 true _ A43.out).mono ?_); rintro e w' ⟨rfl, ⟨nd, rfl⟩⟩; refine ⟨_, rfl, ?_⟩))
                                      go_meet
                                      case rel => exact ⟨_, (true), (by first | rfl | (simp; done) | (simp [*]; done)), H', ⟨by have := HJ2.out; have := HJ10.out; have := HJ17.out; have := HJ26.out; have := HJ34.out; first | omega | exact Nat.le_refl _⟩, by repeat (first | exact Drawn0.refl _ | apply Drawn0.step)⟩
                                    · replace c44 := Bool.eq_false_iff.mpr c44
                                      subst c44
                                      have H1 : ((fold_in.f a0 2308 2361).bind fun t134 => (fold_Letter.j5 kj34 a0 t134)) = some r := by rw [if_neg (show ¬ (false = true) by decide)] at H; exact H
                                      clear H
                                      have H := H1
                                      clear H1
                                      replace H := Option.bind_eq_some_iff.mp H
                                      obtain ⟨t134, A450, H⟩ := H
                                      replace H : (fold_Letter.j5 kj34 a0 t134) = some r := H
                                      have A45 := Aside0.mk A450
                                      clear A450
                                      have H' := Aside0.mk H
                                      clear H
                                      go_wp2_with (first | ((with_reducible refine gate_callee (f := 56) rfl ?_); refine goesL_ (some 57) rfl rfl Tryd.func56 (by kernel_rfl) rfl #[.int .i32 a0, .int .i32 1568, .int .i32 1610] rfl (by (try simp only [List.map_toArray, List.map_cons, List.map_nil]); first | done | rfl | (simp only [List.length_drop, List.length_take]; rfl)) ?_; (with_reducible refine (fold_in.calls a0 1568 1610 false _ A43.out).mono ?_); rintro e w' ⟨rfl, ⟨nd, rfl⟩⟩; refine ⟨_, rfl, ?_⟩) | ((with_reducible refine gate_callee (f := 56) rfl ?_); refine goesL_ (some 59) rfl rfl Tryd.func56 (by kernel_rfl) rfl #[.int .i32 a0, .int .i32 2308, .int .i32 2361] rfl (by (try simp only [List.map_toArray, List.map_cons, List.map_nil]); first | done | rfl | (simp only [List.length_drop, List.length_take]; rfl)) ?_; (with_reducible refine (fold_in.calls a0 2308 2361 t134 _ A45.out).mono ?_); rintro e w' ⟨rfl, ⟨nd, rfl⟩⟩; refine ⟨_, rfl, ?_⟩))
                                      go_meet
                                      case rel => exact ⟨_, (t134), (by first | rfl | (simp; done) | (simp [*]; done)), H', ⟨by have := HJ2.out; have := HJ10.out; have := HJ17.out; have := HJ26.out; have := HJ34.out; first | omega | exact Nat.le_refl _⟩, by repeat (first | exact Drawn0.refl _ | apply Drawn0.step)⟩
                                case rest =>
                                  clear HC41
                                  try clear c1
                                  try clear c2
                                  try clear p2
                                  try clear c3
                                  try clear c4
                                  try clear c5
                                  try clear c6
                                  try clear c7
                                  try clear c7b0
                                  try clear c7b1
                                  try clear c8
                                  try clear c8b0
                                  try clear c8b1
                                  try clear c9
                                  try clear c10
                                  try clear c12
                                  try clear c14
                                  try clear c16
                                  try clear c17
                                  try clear c19
                                  try clear c21
                                  try clear c23
                                  try clear c24
                                  try clear c24b0
                                  try clear c24b1
                                  try clear c25
                                  try clear c26
                                  try clear c28
                                  try clear c29
                                  try clear c29b0
                                  try clear c29b1
                                  try clear c31
                                  try clear c33
                                  try clear c34
                                  try clear c37
                                  try clear c39
                                  try clear c42
                                  try clear c44
                                  try clear p2
                                  obtain ⟨kq, x53_40, rfl, HA, HJ40, ⟨mc40, rfl⟩⟩ := hcut
                                  cases kq with
                                  | zero => exact absurd HA.out (by simp [fold_Letter.j5])
                                  | succ kj40 =>
                                    have H := HA.out
                                    clear HA
                                    simp only [fold_Letter.j5] at H
                                    by_cases c46 : x53_40 = true
                                    · subst c46
                                      have H1 : (some true) = some r := by rw [if_pos rfl] at H; exact H
                                      clear H
                                      have H := H1
                                      clear H1
                                      obtain rfl := Option.some.inj H
                                      go_wp2
                                      go_ret
                                      exact ⟨by first | rfl | (simp; done) | (simp [*]; done), by repeat (first | exact Drawn0.refl _ | apply Drawn0.step)⟩
                                    · replace c46 := Bool.eq_false_iff.mpr c46
                                      subst c46
                                      have H1 : ((fold_in.f a0 12353 12438).bind fun t135 => (if t135 = true then (some true) else ((fold_in.f a0 12449 12538).bind fun t136 => (if t136 = true then (some true) else ((fold_in.f a0 19968 40959).bind fun t137 => (if t137 = true then (some true) else ((fold_in.f a0 44032 55203).bind fun t138 => (if t138 = true then (some true) else (some false))))))))) = some r := by rw [if_neg (show ¬ (false = true) by decide)] at H; exact H
                                      clear H
                                      have H := H1
                                      clear H1
                                      replace H := Option.bind_eq_some_iff.mp H
                                      obtain ⟨t135, A470, H⟩ := H
                                      replace H : (if t135 = true then (some true) else ((fold_in.f a0 12449 12538).bind fun t136 => (if t136 = true then (some true) else ((fold_in.f a0 19968 40959).bind fun t137 => (if t137 = true then (some true) else ((fold_in.f a0 44032 55203).bind fun t138 => (if t138 = true then (some true) else (some false)))))))) = some r := H
                                      have A47 := Aside0.mk A470
                                      clear A470
                                      by_cases c48 : t135 = true
                                      · subst c48
                                        have H1 : (some true) = some r := by rw [if_pos rfl] at H; exact H
                                        clear H
                                        have H := H1
                                        clear H1
                                        obtain rfl := Option.some.inj H
                                        go_wp2_with (first | ((with_reducible refine gate_callee (f := 56) rfl ?_); refine goesL_ (some 62) rfl rfl Tryd.func56 (by kernel_rfl) rfl #[.int .i32 a0, .int .i32 12353, .int .i32 12438] rfl (by (try simp only [List.map_toArray, List.map_cons, List.map_nil]); first | done | rfl | (simp only [List.length_drop, List.length_take]; rfl)) ?_; (with_reducible refine (fold_in.calls a0 12353 12438 true _ A47.out).mono ?_); rintro e w' ⟨rfl, ⟨nd, rfl⟩⟩; refine ⟨_, rfl, ?_⟩))
                                        go_ret
                                        exact ⟨by first | rfl | (simp; done) | (simp [*]; done), by repeat (first | exact Drawn0.refl _ | apply Drawn0.step)⟩
                                      · replace c48 := Bool.eq_false_iff.mpr c48
                                        subst c48
                                        have H1 : ((fold_in.f a0 12449 12538).bind fun t136 => (if t136 = true then (some true) else ((fold_in.f a0 19968 40959).bind fun t137 => (if t137 = true then (some true) else ((fold_in.f a0 44032 55203).bind fun t138 => (if t138 = true then (some true) else (some false))))))) = some r := by rw [if_neg (show ¬ (false = true) by decide)] at H; exact H
                                        clear H
                                        have H := H1
                                        clear H1
                                        replace H := Option.bind_eq_some_iff.mp H
                                        obtain ⟨t136, A490, H⟩ := H
                                        replace H : (if t136 = true then (some true) else ((fold_in.f a0 19968 40959).bind fun t137 => (if t137 = true then (some true) else ((fold_in.f a0 44032 55203).bind fun t138 => (if t138 = true then (some true) else (some false)))))) = some r := H
                                        have A49 := Aside0.mk A490
                                        clear A490
                                        by_cases c50 : t136 = true
                                        · subst c50
                                          have H1 : (some true) = some r := by rw [if_pos rfl] at H; exact H
                                          clear H
                                          have H := H1
                                          clear H1
                                          obtain rfl := Option.some.inj H
                                          go_wp2_with (first | ((with_reducible refine gate_callee (f := 56) rfl ?_); refine goesL_ (some 62) rfl rfl Tryd.func56 (by kernel_rfl) rfl #[.int .i32 a0, .int .i32 12353, .int .i32 12438] rfl (by (try simp only [List.map_toArray, List.map_cons, List.map_nil]); first | done | rfl | (simp only [List.length_drop, List.length_take]; rfl)) ?_; (with_reducible refine (fold_in.calls a0 12353 12438 false _ A47.out).mono ?_); rintro e w' ⟨rfl, ⟨nd, rfl⟩⟩; refine ⟨_, rfl, ?_⟩) | ((with_reducible refine gate_callee (f := 56) rfl ?_); refine goesL_ (some 64) rfl rfl Tryd.func56 (by kernel_rfl) rfl #[.int .i32 a0, .int .i32 12449, .int .i32 12538] rfl (by (try simp only [List.map_toArray, List.map_cons, List.map_nil]); first | done | rfl | (simp only [List.length_drop, List.length_take]; rfl)) ?_; (with_reducible refine (fold_in.calls a0 12449 12538 true _ A49.out).mono ?_); rintro e w' ⟨rfl, ⟨nd, rfl⟩⟩; refine ⟨_, rfl, ?_⟩))
                                          go_ret
                                          exact ⟨by first | rfl | (simp; done) | (simp [*]; done), by repeat (first | exact Drawn0.refl _ | apply Drawn0.step)⟩
                                        · replace c50 := Bool.eq_false_iff.mpr c50
                                          subst c50
                                          have H1 : ((fold_in.f a0 19968 40959).bind fun t137 => (if t137 = true then (some true) else ((fold_in.f a0 44032 55203).bind fun t138 => (if t138 = true then (some true) else (some false))))) = some r := by rw [if_neg (show ¬ (false = true) by decide)] at H; exact H
                                          clear H
                                          have H := H1
                                          clear H1
                                          replace H := Option.bind_eq_some_iff.mp H
                                          obtain ⟨t137, A510, H⟩ := H
                                          replace H : (if t137 = true then (some true) else ((fold_in.f a0 44032 55203).bind fun t138 => (if t138 = true then (some true) else (some false)))) = some r := H
                                          have A51 := Aside0.mk A510
                                          clear A510
                                          by_cases c52 : t137 = true
                                          · subst c52
                                            have H1 : (some true) = some r := by rw [if_pos rfl] at H; exact H
                                            clear H
                                            have H := H1
                                            clear H1
                                            obtain rfl := Option.some.inj H
                                            go_wp2_with (first | ((with_reducible refine gate_callee (f := 56) rfl ?_); refine goesL_ (some 62) rfl rfl Tryd.func56 (by kernel_rfl) rfl #[.int .i32 a0, .int .i32 12353, .int .i32 12438] rfl (by (try simp only [List.map_toArray, List.map_cons, List.map_nil]); first | done | rfl | (simp only [List.length_drop, List.length_take]; rfl)) ?_; (with_reducible refine (fold_in.calls a0 12353 12438 false _ A47.out).mono ?_); rintro e w' ⟨rfl, ⟨nd, rfl⟩⟩; refine ⟨_, rfl, ?_⟩) | ((with_reducible refine gate_callee (f := 56) rfl ?_); refine goesL_ (some 64) rfl rfl Tryd.func56 (by kernel_rfl) rfl #[.int .i32 a0, .int .i32 12449, .int .i32 12538] rfl (by (try simp only [List.map_toArray, List.map_cons, List.map_nil]); first | done | rfl | (simp only [List.length_drop, List.length_take]; rfl)) ?_; (with_reducible refine (fold_in.calls a0 12449 12538 false _ A49.out).mono ?_); rintro e w' ⟨rfl, ⟨nd, rfl⟩⟩; refine ⟨_, rfl, ?_⟩) | ((with_reducible refine gate_callee (f := 56) rfl ?_); refine goesL_ (some 66) rfl rfl Tryd.func56 (by kernel_rfl) rfl #[.int .i32 a0, .int .i32 19968, .int .i32 40959] rfl (by (try simp only [List.map_toArray, List.map_cons, List.map_nil]); first | done | rfl | (simp only [List.length_drop, List.length_take]; rfl)) ?_; (with_reducible refine (fold_in.calls a0 19968 40959 true _ A51.out).mono ?_); rintro e w' ⟨rfl, ⟨nd, rfl⟩⟩; refine ⟨_, rfl, ?_⟩))
                                            go_ret
                                            exact ⟨by first | rfl | (simp; done) | (simp [*]; done), by repeat (first | exact Drawn0.refl _ | apply Drawn0.step)⟩
                                          · replace c52 := Bool.eq_false_iff.mpr c52
                                            subst c52
                                            have H1 : ((fold_in.f a0 44032 55203).bind fun t138 => (if t138 = true then (some true) else (some false))) = some r := by rw [if_neg (show ¬ (false = true) by decide)] at H; exact H
                                            clear H
                                            have H := H1
                                            clear H1
                                            replace H := Option.bind_eq_some_iff.mp H
                                            obtain ⟨t138, A530, H⟩ := H
                                            replace H : (if t138 = true then (some true) else (some false)) = some r := H
                                            have A53 := Aside0.mk A530
                                            clear A530
                                            by_cases c54 : t138 = true
                                            · subst c54
                                              have H1 : (some true) = some r := by rw [if_pos rfl] at H; exact H
                                              clear H
                                              have H := H1
                                              clear H1
                                              obtain rfl := Option.some.inj H
                                              go_wp2_with (first | ((with_reducible refine gate_callee (f := 56) rfl ?_); refine goesL_ (some 62) rfl rfl Tryd.func56 (by kernel_rfl) rfl #[.int .i32 a0, .int .i32 12353, .int .i32 12438] rfl (by (try simp only [List.map_toArray, List.map_cons, List.map_nil]); first | done | rfl | (simp only [List.length_drop, List.length_take]; rfl)) ?_; (with_reducible refine (fold_in.calls a0 12353 12438 false _ A47.out).mono ?_); rintro e w' ⟨rfl, ⟨nd, rfl⟩⟩; refine ⟨_, rfl, ?_⟩) | ((with_reducible refine gate_callee (f := 56) rfl ?_); refine goesL_ (some 64) rfl rfl Tryd.func56 (by kernel_rfl) rfl #[.int .i32 a0, .int .i32 12449, .int .i32 12538] rfl (by (try simp only [List.map_toArray, List.map_cons, List.map_nil]); first | done | rfl | (simp only [List.length_drop, List.length_take]; rfl)) ?_; (with_reducible refine (fold_in.calls a0 12449 12538 false _ A49.out).mono ?_); rintro e w' ⟨rfl, ⟨nd, rfl⟩⟩; refine ⟨_, rfl, ?_⟩) | ((with_reducible refine gate_callee (f := 56) rfl ?_); refine goesL_ (some 66) rfl rfl Tryd.func56 (by kernel_rfl) rfl #[.int .i32 a0, .int .i32 19968, .int .i32 40959] rfl (by (try simp only [List.map_toArray, List.map_cons, List.map_nil]); first | done | rfl | (simp only [List.length_drop, List.length_take]; rfl)) ?_; (with_reducible refine (fold_in.calls a0 19968 40959 false _ A51.out).mono ?_); rintro e w' ⟨rfl, ⟨nd, rfl⟩⟩; refine ⟨_, rfl, ?_⟩) | ((with_reducible refine gate_callee (f := 56) rfl ?_); refine goesL_ (some 68) rfl rfl Tryd.func56 (by kernel_rfl) rfl #[.int .i32 a0, .int .i32 44032, .int .i32 55203] rfl (by (try simp only [List.map_toArray, List.map_cons, List.map_nil]); first | done | rfl | (simp only [List.length_drop, List.length_take]; rfl)) ?_; (with_reducible refine (fold_in.calls a0 44032 55203 true _ A53.out).mono ?_); rintro e w' ⟨rfl, ⟨nd, rfl⟩⟩; refine ⟨_, rfl, ?_⟩))
                                              go_ret
                                              exact ⟨by first | rfl | (simp; done) | (simp [*]; done), by repeat (first | exact Drawn0.refl _ | apply Drawn0.step)⟩
                                            · replace c54 := Bool.eq_false_iff.mpr c54
                                              subst c54
                                              have H1 : (some false) = some r := by rw [if_neg (show ¬ (false = true) by decide)] at H; exact H
                                              clear H
                                              have H := H1
                                              clear H1
                                              obtain rfl := Option.some.inj H
                                              go_wp2_with (first | ((with_reducible refine gate_callee (f := 56) rfl ?_); refine goesL_ (some 62) rfl rfl Tryd.func56 (by kernel_rfl) rfl #[.int .i32 a0, .int .i32 12353, .int .i32 12438] rfl (by (try simp only [List.map_toArray, List.map_cons, List.map_nil]); first | done | rfl | (simp only [List.length_drop, List.length_take]; rfl)) ?_; (with_reducible refine (fold_in.calls a0 12353 12438 false _ A47.out).mono ?_); rintro e w' ⟨rfl, ⟨nd, rfl⟩⟩; refine ⟨_, rfl, ?_⟩) | ((with_reducible refine gate_callee (f := 56) rfl ?_); refine goesL_ (some 64) rfl rfl Tryd.func56 (by kernel_rfl) rfl #[.int .i32 a0, .int .i32 12449, .int .i32 12538] rfl (by (try simp only [List.map_toArray, List.map_cons, List.map_nil]); first | done | rfl | (simp only [List.length_drop, List.length_take]; rfl)) ?_; (with_reducible refine (fold_in.calls a0 12449 12538 false _ A49.out).mono ?_); rintro e w' ⟨rfl, ⟨nd, rfl⟩⟩; refine ⟨_, rfl, ?_⟩) | ((with_reducible refine gate_callee (f := 56) rfl ?_); refine goesL_ (some 66) rfl rfl Tryd.func56 (by kernel_rfl) rfl #[.int .i32 a0, .int .i32 19968, .int .i32 40959] rfl (by (try simp only [List.map_toArray, List.map_cons, List.map_nil]); first | done | rfl | (simp only [List.length_drop, List.length_take]; rfl)) ?_; (with_reducible refine (fold_in.calls a0 19968 40959 false _ A51.out).mono ?_); rintro e w' ⟨rfl, ⟨nd, rfl⟩⟩; refine ⟨_, rfl, ?_⟩) | ((with_reducible refine gate_callee (f := 56) rfl ?_); refine goesL_ (some 68) rfl rfl Tryd.func56 (by kernel_rfl) rfl #[.int .i32 a0, .int .i32 44032, .int .i32 55203] rfl (by (try simp only [List.map_toArray, List.map_cons, List.map_nil]); first | done | rfl | (simp only [List.length_drop, List.length_take]; rfl)) ?_; (with_reducible refine (fold_in.calls a0 44032 55203 false _ A53.out).mono ?_); rintro e w' ⟨rfl, ⟨nd, rfl⟩⟩; refine ⟨_, rfl, ?_⟩))
                                              go_ret
                                              exact ⟨by first | rfl | (simp; done) | (simp [*]; done), by repeat (first | exact Drawn0.refl _ | apply Drawn0.step)⟩

/-- THE ONE PURE STATEMENT of fold_Letter: yours. -/
def fold_Letter.Pure : Prop := ∀ (a0 : Int), (Lit.int .i32 a0).wf = true → ∃ k, fold_Letter.f k a0 = some true
theorem fold_Letter.walk (P : fold_Letter.Pure) (a0 : Int) (w : World) (w0 : (Lit.int .i32 a0).wf = true) :
    Calls Tryd.prog 26 #[.int .i32 a0] w fun e w' => e = .returned (.bool true) ∧ Below w.heap.size w w' := by
  obtain ⟨k, h⟩ := P a0 w0
  refine (fold_Letter.calls k a0 true w h).mono ?_
  rintro e w' ⟨rfl, hd⟩
  exact ⟨rfl, hd.below⟩

end Go.Proofs.YtgbphkckiekehaaDoor.QRef
