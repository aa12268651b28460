-- Written by the kit's print.py at this session's call, over functions of my choice (no statement's print; not a text of print.sh)
import Derived.Test.YtgbphkckiekehaaDoorQRefx0
namespace Go.Proofs.YtgbphkckiekehaaDoor.QRef
open Go.RowKit Go.Proofs.YtgbphkckiekehaaDoorW.PrintWords Go.Proofs.YtgbphkckiekehaaDoorW.PrintLast
set_option linter.unusedVariables false
set_option linter.unusedSimpArgs false

/-! ### fold_in: function 56 -/
def fold_in.f (a0 : Int) (a1 : Int) (a2 : Int) : Option (Bool) := if a1 ≤ a0 then (some (decide (a0 ≤ a2))) else (some false)
set_option maxHeartbeats 8000000 in
set_option maxRecDepth 100000 in
theorem fold_in.calls (a0 : Int) (a1 : Int) (a2 : Int) (r : Bool) (w : World) (h : fold_in.f a0 a1 a2 = some r) :
    Calls Tryd.prog 56 #[.int .i32 a0, .int .i32 a1, .int .i32 a2] w fun e w' => e = .returned (.bool r) ∧ Drawn0 w w' := by
  have H : (if a1 ≤ a0 then (some (decide (a0 ≤ a2))) else (some false)) = some r := h
  clear h
  by_cases c4 : a1 ≤ a0
  · rw [if_pos c4] at H
    have c4b0 : decide (a1 ≤ a0) = true := decide_eq_true c4
    clear c4
    obtain rfl := Option.some.inj H
    go_enter Tryd.func56, Tryd.ntmps56
    go_wp2
    go_ret
    exact ⟨by first | rfl | (simp; done) | (simp [*]; done), by repeat (first | exact Drawn0.refl _ | apply Drawn0.step)⟩
  · rw [if_neg c4] at H
    have c4b0 : decide (a1 ≤ a0) = false := decide_eq_false c4
    clear c4
    obtain rfl := Option.some.inj H
    go_enter Tryd.func56, Tryd.ntmps56
    go_wp2
    go_ret
    exact ⟨by first | rfl | (simp; done) | (simp [*]; done), by repeat (first | exact Drawn0.refl _ | apply Drawn0.step)⟩

/-! ### fold_step: function 57 -/
def fold_step.f (a0 : Int) (a1 : Int) : Option (Int) := if (Go.bits .and .i32 a0 1) = a1 then (some (wrap32 (a0 + 1))) else (some a0)
set_option maxHeartbeats 8000000 in
set_option maxRecDepth 100000 in
theorem fold_step.calls (a0 : Int) (a1 : Int) (r : Int) (w : World) (h : fold_step.f a0 a1 = some r) :
    Calls Tryd.prog 57 #[.int .i32 a0, .int .i32 a1] w fun e w' => e = .returned (.int .i32 r) ∧ Drawn0 w w' := by
  have H : (if (Go.bits .and .i32 a0 1) = a1 then (some (wrap32 (a0 + 1))) else (some a0)) = some r := h
  clear h
  by_cases c3 : (Go.bits .and .i32 a0 1) = a1
  · rw [if_pos c3] at H
    have c3b0 : ((Go.bits .and .i32 a0 1) == a1) = true := beq_iff_eq.mpr c3
    have c3b1 : ((Go.bits .and .i32 a0 1) != a1) = false := bne_eq_false_iff_eq.mpr c3
    clear c3
    obtain rfl := Option.some.inj H
    go_enter Tryd.func57, Tryd.ntmps57
    go_wp2
    go_ret
    exact ⟨by first | rfl | (simp; done) | (simp [*]; done), by repeat (first | exact Drawn0.refl _ | apply Drawn0.step)⟩
  · rw [if_neg c3] at H
    have c3b0 : ((Go.bits .and .i32 a0 1) == a1) = false := beq_eq_false_iff_ne.mpr c3
    have c3b1 : ((Go.bits .and .i32 a0 1) != a1) = true := bne_iff_ne.mpr c3
    obtain rfl := Option.some.inj H
    go_enter Tryd.func57, Tryd.ntmps57
    go_wp2
    go_ret
    exact ⟨by first | rfl | (simp; done) | (simp [*]; done), by repeat (first | exact Drawn0.refl _ | apply Drawn0.step)⟩

end Go.Proofs.YtgbphkckiekehaaDoor.QRef
