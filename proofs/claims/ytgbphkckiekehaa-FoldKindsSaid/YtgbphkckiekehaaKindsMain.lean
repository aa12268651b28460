/- For every 32-bit number the program's form, lower case and classes of a rune (letter, digit, mark) are what the document's answer says; the number reads afterwards as before. No condition. -/
import Derived.Test.YtgbphkckiekehaaRows
import Derived.Test.YtgbphkckiekehaaFoldBridge
import Derived.Test.YtgbphkckiekehaaShelf
import Derived.WalkKit
import Derived.ProofKit
import Derived.OpenShut
import Derived.ShutString
import Derived.ChangeOld
import Derived.Below
import Derived.SizedLaws
namespace Go.Proofs.Ytgbphkckiekehaa.kinds
open Go.RowKit Go.Proofs.Ytgbphkckiekehaa.QKinds Go.Proofs.YtgbphkckiekehaaW.PrintWords Go.Proofs.YtgbphkckiekehaaW.PrintLast Go.Proofs.YtgbphkckiekehaaW.PrintMore Go.Proofs.FoldPlain Go.Proofs.Ytgbphkckiekehaa.FoldBridge
set_option linter.unusedVariables false
set_option linter.unusedSimpArgs false

theorem drawn_below {w w' : World} (h : Drawn0 w w') : Below w.heap.size w w' := by
  obtain ⟨n, rfl⟩ := h.out
  exact pw_below_drewN (Below.refl _ _) n

theorem lower_c (a : Int) (w : World) : Calls Try.prog 6 #[.int .i32 a] w fun e w' => e = .returned (.int .i32 (lowerD a)) ∧ Below w.heap.size w w' :=
  (fold_Lower.calls 7 a _ w (lower_f 0 a)).mono fun _ _ ⟨he, hw⟩ => ⟨he, drawn_below hw⟩
theorem letter_c (a : Int) (w : World) : Calls Try.prog 8 #[.int .i32 a] w fun e w' => e = .returned (.bool (letterD a)) ∧ Below w.heap.size w w' :=
  (fold_Letter.calls 6 a _ w (letter_f 0 a)).mono fun _ _ ⟨he, hw⟩ => ⟨he, drawn_below hw⟩
theorem digit_c (a : Int) (w : World) : Calls Try.prog 10 #[.int .i32 a] w fun e w' => e = .returned (.bool (digitD a)) ∧ Below w.heap.size w w' :=
  (fold_Digit.calls a _ w (digit_f a)).mono fun _ _ ⟨he, hw⟩ => ⟨he, drawn_below hw⟩
theorem mark_c (a : Int) (w : World) : Calls Try.prog 12 #[.int .i32 a] w fun e w' => e = .returned (.bool (markD a)) ∧ Below w.heap.size w w' :=
  (fold_Mark.calls 1 a _ w (mark_f 0 a)).mono fun _ _ ⟨he, hw⟩ => ⟨he, drawn_below hw⟩
theorem refLower_c (a : Int) (h0 : -2147483648 ≤ a) (h1 : a ≤ 2147483647) (w : World) : Calls Try.prog 7 #[.int .i32 a] w fun e w' => e = .returned (.int .i32 (lowerD a)) ∧ Below w.heap.size w w' :=
  lecternref05_Lower.calls 100 a _ w (refLower_f a h0 h1)
theorem refLetter_c (a : Int) (w : World) : Calls Try.prog 9 #[.int .i32 a] w fun e w' => e = .returned (.bool (letterD a)) ∧ Below w.heap.size w w' :=
  lecternref05_Letter.calls 100 a _ w (refLetter_f a)
theorem refDigit_c (a : Int) (w : World) : Calls Try.prog 11 #[.int .i32 a] w fun e w' => e = .returned (.bool (digitD a)) ∧ Below w.heap.size w w' :=
  lecternref05_Digit.calls 100 a _ w (refDigit_f a)
theorem refMark_c (a : Int) (w : World) : Calls Try.prog 13 #[.int .i32 a] w fun e w' => e = .returned (.bool (markD a)) ∧ Below w.heap.size w w' :=
  lecternref05_Mark.calls 100 a _ w (refMark_f a)
theorem refPut_c (a : Int) (w : World) : Calls Try.prog 5 #[.int .i32 a] w fun e w' => e = .returned (.tuple #[.string (putS a), .int .i64 (putE a)]) ∧ Below w.heap.size w w' :=
  lecternref05_Put.calls a _ _ w (refPut_f a)

set_option maxHeartbeats 1000000 in
theorem put_yes (a : Int) (h0 : -2147483648 ≤ a) (h1 : a ≤ 2147483647) (hv : Lib.validRune a = true) (w : World) :
    Calls Try.prog 4 #[.int .i32 a] w fun e w' => e = .returned (.tuple #[.string (strOfNums (Lib.encodeRuneZ a)), .int .i64 0]) ∧ Below w.heap.size w w' := by
  go_enter Try.func4, Try.ntmps4
  go_wp2_with (first
    | (go_at_call 14; refine (Try.utf8_ValidRune _ _).mono ?_; rintro e w' ⟨rfl, rfl⟩)
    | (go_at_call 15; refine (Try.utf8_AppendRune_plain w'.heap.size (.slice none 0 0) 0 [] a h0 h1 _ (World.ownsRow_nil _ _ _ _) (by omega) (Nat.le_refl _)).mono ?_; rintro e w1 ⟨v', rfl, ho, o, hg⟩; simp only [List.nil_append, Nat.zero_add] at ho; have hcv := own_string (P := Try.prog) (xs := Lib.encodeRuneZ a) Try.underlying29 Try.underlying5 Try.underlying9 ho; have HG := Aside0.mk hg; clear ho hg))
  go_ret2
  exact ⟨rfl, pw_below_grown (below_alloc (Below.refl _ _) o) _ (by simp) HG.out (fun k e => by cases e)⟩

set_option maxHeartbeats 1000000 in
theorem put_no (a : Int) (hv : Lib.validRune a = false) (w : World) :
    Calls Try.prog 4 #[.int .i32 a] w fun e w' => e = .returned (.tuple #[.string ⟨#[]⟩, .int .i64 50]) ∧ Below w.heap.size w w' := by
  go_enter Try.func4, Try.ntmps4
  go_wp2_with (go_at_call 14; refine (Try.utf8_ValidRune _ _).mono ?_; rintro e w' ⟨rfl, rfl⟩)
  go_ret2
  exact ⟨rfl, Below.refl _ _⟩

theorem put_c (a : Int) (h0 : -2147483648 ≤ a) (h1 : a ≤ 2147483647) (w : World) :
    Calls Try.prog 4 #[.int .i32 a] w fun e w' => e = .returned (.tuple #[.string (putS a), .int .i64 (putE a)]) ∧ Below w.heap.size w w' := by
  unfold putS putE
  by_cases hv : Lib.validRune a = true
  · rw [if_pos hv, if_pos hv]; exact put_yes a h0 h1 hv w
  · rw [if_neg hv, if_neg hv]; exact put_no a (by simpa using hv) w

set_option maxHeartbeats 2000000 in
theorem kinds_walk (a : Int) (h0 : -2147483648 ≤ a) (h1 : a ≤ 2147483647) (w : World) :
    Calls Try.prog 3 #[.int .i32 a] w fun e w' => e = .returned (.bool true) ∧ Below w.heap.size w w' := by
  have HB := Aside0.mk (Below.refl w.heap.size w)
  go_enter Try.func3, Try.ntmps3
  go_wp2_with (first
    | (go_at_call 4; refine (put_c a h0 h1 _).mono ?_; rintro e w1 ⟨rfl, hb⟩; have n0_ := Aside0.mk (below_step HB.out hb); clear HB hb; have HB := n0_; clear n0_)
    | (go_at_call 5; refine (refPut_c a _).mono ?_; rintro e w1 ⟨rfl, hb⟩; have n0_ := Aside0.mk (below_step HB.out hb); clear HB hb; have HB := n0_; clear n0_)
    | (go_at_call 6; refine (lower_c a _).mono ?_; rintro e w1 ⟨rfl, hb⟩; have n0_ := Aside0.mk (below_step HB.out hb); clear HB hb; have HB := n0_; clear n0_)
    | (go_at_call 7; refine (refLower_c a h0 h1 _).mono ?_; rintro e w1 ⟨rfl, hb⟩; have n0_ := Aside0.mk (below_step HB.out hb); clear HB hb; have HB := n0_; clear n0_)
    | (go_at_call 8; refine (letter_c a _).mono ?_; rintro e w1 ⟨rfl, hb⟩; have n0_ := Aside0.mk (below_step HB.out hb); clear HB hb; have HB := n0_; clear n0_)
    | (go_at_call 9; refine (refLetter_c a _).mono ?_; rintro e w1 ⟨rfl, hb⟩; have n0_ := Aside0.mk (below_step HB.out hb); clear HB hb; have HB := n0_; clear n0_)
    | (go_at_call 10; refine (digit_c a _).mono ?_; rintro e w1 ⟨rfl, hb⟩; have n0_ := Aside0.mk (below_step HB.out hb); clear HB hb; have HB := n0_; clear n0_)
    | (go_at_call 11; refine (refDigit_c a _).mono ?_; rintro e w1 ⟨rfl, hb⟩; have n0_ := Aside0.mk (below_step HB.out hb); clear HB hb; have HB := n0_; clear n0_)
    | (go_at_call 12; refine (mark_c a _).mono ?_; rintro e w1 ⟨rfl, hb⟩; have n0_ := Aside0.mk (below_step HB.out hb); clear HB hb; have HB := n0_; clear n0_)
    | (go_at_call 13; refine (refMark_c a _).mono ?_; rintro e w1 ⟨rfl, hb⟩; have n0_ := Aside0.mk (below_step HB.out hb); clear HB hb; have HB := n0_; clear n0_))
  go_ret
  exact ⟨rfl, HB.out⟩

open Go.ChangeShapes Go.WideShapes Go.ChangeAt
open Go.ChangeMaps (open_string shut_string)
theorem own : ownKnob Try.prog.godebug = none := by kernel_rfl
set_option maxRecDepth 100000 in
theorem lifted (os : Os) (started : os.Started) (H : Type) (enc : TypeId × Value → H) :
    ReturnsInHanded {} Try.checked os 3 .any (Rows.foldKindsSpec.pre6 enc Try.prog Try.f3 Rows.foldKindsRow.domain false) (Rows.foldKindsSpec.post enc Try.prog Try.f3 false true false false) := by
  refine returnsInHanded_of_change_sized (C := Try.checked) own started (by kernel_rfl) Try.func3
    (ChangeSpec.witness6 (enc := enc) (C := Try.checked) false ⟨#[], #[.int .i32 0], []⟩ 8 (by kernel_rfl) (by kernel_rfl) (by kernel_rfl) (by kernel_rfl)) ?_
  intro W base args ds gs before hval0 hW hcnd hsz0 _
  have hsz : (DataW.weightsEach Try.prog (Try.f3.params.toList ++ Rows.foldKindsSpec.plain.varTypes Try.prog) (ds ++ gs)).all (· ≤ reachBytes) = true := hsz0
  have hval : ∀ (j : Nat) t v, Try.f3.params[j]? = some t → args[j]? = some v → Value.okWide Try.prog W .any base t v := hval0
  have hW' := hW
  obtain ⟨p, q, hA0, hV, rfl, hfz, hnd⟩ := hW
  have hA : DataW.TrodAll enc Try.prog W 0 (fun _ => true) true Try.f3.params.toList args.toList ds p := hA0
  rw [Try.params3] at hA hval hsz
  obtain ⟨v0, vs0, d0, ds0, p0, q0, hargs, rfl, rfl, h0, r0⟩ := trodAll_cons hA
  obtain ⟨rfl, rfl, rfl⟩ := trodAll_nil r0
  obtain rfl : args = #[v0] := by cases args; simp_all
  obtain ⟨rfl, rfl⟩ := trodVars_none hV
  obtain ⟨a0, rfl, rfl, rfl, w0⟩ := open_int Try.underlying21 (hval 0 21 v0 rfl rfl) h0
  clear hA0 hval0 hsz0 hsz
  have hb := bounds_i32 w0
  refine (kinds_walk a0 (by omega) (by omega) W).mono fun e W' ⟨he, bel⟩ => ?_
  subst he
  exact ⟨_, rfl, _, _, _, [], _, [], hW', trodAll_mk1 (shut_bool Try.underlying4 _), (trodAll_cons_mk (shut_int Try.underlying21 w0) trodAll_mk0), rfl, bel.frame _, fun h => by cases h⟩
theorem over : Rows.foldKindsRow.holds Try.pinned (OpenSpec.ofChange Rows.foldKindsSpec) :=
  OpenClaim.holds_of_wide 3 Try.f3 rfl rfl rfl rfl rfl rfl rfl ⟨rfl, rfl, rfl, rfl, rfl⟩ rfl rfl rfl rfl rfl (by kernel_rfl) Try.func3 (by kernel_rfl)
    (of_decide_eq_true (by kernel_rfl)) (by unfold Func.isWrapper; first | (rw [if_pos (by decide +kernel)]; kernel_rfl) | (rw [if_neg (by decide +kernel)]; exact ⟨rfl, rfl⟩))
    (fun os started H enc _ => lifted os started H enc)
theorem proved : Rows.FoldKindsSaid := over
#print axioms proved
end Go.Proofs.Ytgbphkckiekehaa.kinds
namespace Go.Proofs.Ytgbphkckiekehaa
theorem foldKinds_holds : Rows.FoldKindsSaid := kinds.proved
end Go.Proofs.Ytgbphkckiekehaa
