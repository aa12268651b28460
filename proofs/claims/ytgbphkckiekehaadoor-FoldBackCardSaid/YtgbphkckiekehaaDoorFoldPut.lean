/- fold.Put walked, and the classes of runes, at this translation. -/
import Derived.Test.YtgbphkckiekehaaDoorFoldFold
set_option linter.unusedVariables false
set_option linter.unusedSimpArgs false
namespace Go.Proofs.YtgbphkckiekehaaDoor.FoldP
open Go.RowKit Go.Shelf Go.Proofs.YtgbphkckiekehaaDoor.QFold Go.Proofs.YtgbphkckiekehaaDoorW.PrintWords Go.Proofs.FoldPlain Go.Proofs.FoldText Go.Proofs.YtgbphkckiekehaaDoor.FoldRef Go.Proofs.YtgbphkckiekehaaDoor.FoldW Go.Proofs.YtgbphkckiekehaaDoor.FoldF Go.Proofs.YtgbphkckiekehaaDoor.FoldBridge

theorem drawn_below {w w' : World} (h : Drawn0 w w') : Below w.heap.size w w' := by
  obtain ⟨n, rfl⟩ := h.out
  exact pw_below_drewN (Below.refl _ _) n
theorem letter_c (a : Int) (w : World) : Calls Tryd.prog 26 #[.int .i32 a] w fun e w' => e = .returned (.bool (letterD a)) ∧ Below w.heap.size w w' :=
  (fold_Letter.calls 6 a _ w (letter_f 0 a)).mono fun _ _ ⟨he, hw⟩ => ⟨he, drawn_below hw⟩
theorem digit_c (a : Int) (w : World) : Calls Tryd.prog 27 #[.int .i32 a] w fun e w' => e = .returned (.bool (digitD a)) ∧ Below w.heap.size w w' :=
  (fold_Digit.calls a _ w (digit_f a)).mono fun _ _ ⟨he, hw⟩ => ⟨he, drawn_below hw⟩
theorem mark_c (a : Int) (w : World) : Calls Tryd.prog 28 #[.int .i32 a] w fun e w' => e = .returned (.bool (markD a)) ∧ Below w.heap.size w w' :=
  (fold_Mark.calls 1 a _ w (mark_f 0 a)).mono fun _ _ ⟨he, hw⟩ => ⟨he, drawn_below hw⟩

/-- A rune's form as a text, and the number beside it. -/
def putS (a : Int) : ByteArray := if Lib.validRune a = true then strOf (Lib.encodeRune a) else ⟨#[]⟩
def putE (a : Int) : Int := if Lib.validRune a = true then 0 else 50

set_option maxHeartbeats 1000000 in
theorem put_yes (a : Int) (h0 : -2147483648 ≤ a) (h1 : a ≤ 2147483647) (hv : Lib.validRune a = true) (w : World) :
    Calls Tryd.prog 24 #[.int .i32 a] w fun e w' => e = .returned (.tuple #[.string (strOf (Lib.encodeRune a)), .int .i64 0]) ∧ Below w.heap.size w w' := by
  have hS : strOfNums (Lib.encodeRuneZ a) = strOf (Lib.encodeRune a) := by rw [encZ_encode, strOf_nums]
  have HS := Aside0.mk hS
  clear hS
  go_enter Tryd.func24, Tryd.ntmps24
  go_wp2_with (first
    | (go_at_call 54; refine (Tryd.utf8_ValidRune _ _).mono ?_; rintro e w' ⟨rfl, rfl⟩)
    | (go_at_call 55; refine (Tryd.utf8_AppendRune_plain w'.heap.size (.slice none 0 0) 0 [] a h0 h1 _ (World.ownsRow_nil _ _ _ _) (by omega) (Nat.le_refl _)).mono ?_; rintro e w1 ⟨v', rfl, ho, o, hg⟩; simp only [List.nil_append, Nat.zero_add] at ho; have hcv := own_string (P := Tryd.prog) (xs := Lib.encodeRuneZ a) Tryd.underlying61 Tryd.underlying5 Tryd.underlying9 ho; rw [HS.out] at hcv; have HG := Aside0.mk hg; clear ho hg))
  go_ret2
  exact ⟨rfl, pw_below_grown (below_alloc (Below.refl _ _) o) _ (by simp) HG.out (fun k e => by cases e)⟩

set_option maxHeartbeats 1000000 in
theorem put_no (a : Int) (hv : Lib.validRune a = false) (w : World) :
    Calls Tryd.prog 24 #[.int .i32 a] w fun e w' => e = .returned (.tuple #[.string ⟨#[]⟩, .int .i64 50]) ∧ Below w.heap.size w w' := by
  go_enter Tryd.func24, Tryd.ntmps24
  go_wp2_with (go_at_call 54; refine (Tryd.utf8_ValidRune _ _).mono ?_; rintro e w' ⟨rfl, rfl⟩)
  go_ret2
  exact ⟨rfl, Below.refl _ _⟩

theorem put_c (a : Int) (h0 : -2147483648 ≤ a) (h1 : a ≤ 2147483647) (w : World) :
    Calls Tryd.prog 24 #[.int .i32 a] w fun e w' => e = .returned (.tuple #[.string (putS a), .int .i64 (putE a)]) ∧ Below w.heap.size w w' := by
  unfold putS putE
  by_cases hv : Lib.validRune a = true
  · rw [if_pos hv, if_pos hv]; exact put_yes a h0 h1 hv w
  · rw [if_neg hv, if_neg hv]; exact put_no a (by simpa using hv) w

end Go.Proofs.YtgbphkckiekehaaDoor.FoldP
