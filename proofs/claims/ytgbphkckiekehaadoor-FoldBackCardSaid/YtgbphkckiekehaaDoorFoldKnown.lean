/- The answers that the document names: the function 'known' of the statements of layer 5. -/
import Derived.Test.YtgbphkckiekehaaDoorFoldPut
set_option linter.unusedVariables false
set_option linter.unusedSimpArgs false
namespace Go.Proofs.YtgbphkckiekehaaDoor.FoldK
open Go.RowKit Go.Shelf Go.Proofs.YtgbphkckiekehaaDoor.QFold Go.Proofs.YtgbphkckiekehaaDoorW.PrintWords Go.Proofs.FoldPlain Go.Proofs.FoldText Go.Proofs.YtgbphkckiekehaaDoor.FoldRef Go.Proofs.YtgbphkckiekehaaDoor.FoldW Go.Proofs.YtgbphkckiekehaaDoor.FoldF Go.Proofs.YtgbphkckiekehaaDoor.FoldBridge Go.Proofs.YtgbphkckiekehaaDoor.FoldP

theorem n1 (w : World) (ht : Tabs w) : Calls Tryd.prog 15 #[.string ⟨#[97, 195, 169]⟩, .int .i64 1] w fun e w' => e = .returned (.tuple #[.int .i32 233, .int .i64 2]) ∧ Below w.heap.size w w' := by
  have := next_c ⟨#[97, 195, 169]⟩ 1 (by decide) w ht
  rwa [show nextD (⟨#[97, 195, 169]⟩ : ByteArray).data.toList 1 = (233, 2) by kernel_rfl] at this
theorem n2 (w : World) (ht : Tabs w) : Calls Tryd.prog 15 #[.string ⟨#[237, 160, 128]⟩, .int .i64 0] w fun e w' => e = .returned (.tuple #[.int .i32 65533, .int .i64 1]) ∧ Below w.heap.size w w' := by
  have := next_c ⟨#[237, 160, 128]⟩ 0 (by decide) w ht
  rwa [show nextD (⟨#[237, 160, 128]⟩ : ByteArray).data.toList 0 = (65533, 1) by kernel_rfl] at this
theorem p1 (w : World) : Calls Tryd.prog 24 #[.int .i32 1114111] w fun e w' => e = .returned (.tuple #[.string ⟨#[244, 143, 191, 191]⟩, .int .i64 0]) ∧ Below w.heap.size w w' := by
  have := put_yes 1114111 (by decide) (by decide) (by decide) w
  rwa [show strOf (Lib.encodeRune 1114111) = ⟨#[244, 143, 191, 191]⟩ by kernel_rfl] at this
theorem p2 (w : World) : Calls Tryd.prog 24 #[.int .i32 55296] w fun e w' => e = .returned (.tuple #[.string ⟨#[]⟩, .int .i64 50]) ∧ Below w.heap.size w w' := put_no 55296 (by decide) w
theorem l1 (w : World) : Calls Tryd.prog 25 #[.int .i32 1046] w fun e w' => e = .returned (.int .i32 1078) ∧ Below w.heap.size w w' := lower_c 1046 w
theorem l2 (w : World) : Calls Tryd.prog 25 #[.int .i32 376] w fun e w' => e = .returned (.int .i32 255) ∧ Below w.heap.size w w' := lower_c 376 w
theorem t1 (w : World) : Calls Tryd.prog 26 #[.int .i32 20013] w fun e w' => e = .returned (.bool true) ∧ Below w.heap.size w w' := letter_c 20013 w
theorem t2 (w : World) : Calls Tryd.prog 26 #[.int .i32 53] w fun e w' => e = .returned (.bool false) ∧ Below w.heap.size w w' := letter_c 53 w
theorem g1 (w : World) : Calls Tryd.prog 27 #[.int .i32 1637] w fun e w' => e = .returned (.bool true) ∧ Below w.heap.size w w' := digit_c 1637 w
theorem m1 (w : World) : Calls Tryd.prog 28 #[.int .i32 769] w fun e w' => e = .returned (.bool true) ∧ Below w.heap.size w w' := mark_c 769 w
theorem f1 (w : World) (ht : Tabs w) : Calls Tryd.prog 21 #[.string ⟨#[195, 128, 66, 55, 33, 255]⟩] w fun e w' => e = .returned (.string ⟨#[195, 160, 98, 55, 33, 255]⟩) ∧ Below w.heap.size w w' := by
  have := fold_c ⟨#[195, 128, 66, 55, 33, 255]⟩ (by decide) w ht
  rwa [show strOf (foldD (⟨#[195, 128, 66, 55, 33, 255]⟩ : ByteArray).data.toList) = ⟨#[195, 160, 98, 55, 33, 255]⟩ by kernel_rfl] at this

set_option maxRecDepth 100000 in
set_option maxHeartbeats 2000000 in
theorem known_c (w : World) (ht : Tabs w) : Calls Tryd.prog 23 #[] w fun e w' => e = .returned (.bool true) ∧ Below w.heap.size w w' := by
  have HB := Aside0.mk (Below.refl w.heap.size w)
  go_enter Tryd.func23, Tryd.ntmps23
  go_wp2_with (first
    | (go_at_call 15; (first | (with_reducible refine (n1 _ (ht.step HB.out)).mono ?_) | (with_reducible refine (n2 _ (ht.step HB.out)).mono ?_)); rintro e w1 ⟨rfl, hb⟩; have n0_ := Aside0.mk (below_step HB.out hb); clear HB hb; have HB := n0_; clear n0_)
    | (go_at_call 24; (first | (with_reducible refine (p1 _).mono ?_) | (with_reducible refine (p2 _).mono ?_)); rintro e w1 ⟨rfl, hb⟩; have n0_ := Aside0.mk (below_step HB.out hb); clear HB hb; have HB := n0_; clear n0_)
    | (go_at_call 25; (first | (with_reducible refine (l1 _).mono ?_) | (with_reducible refine (l2 _).mono ?_)); rintro e w1 ⟨rfl, hb⟩; have n0_ := Aside0.mk (below_step HB.out hb); clear HB hb; have HB := n0_; clear n0_)
    | (go_at_call 26; (first | (with_reducible refine (t1 _).mono ?_) | (with_reducible refine (t2 _).mono ?_)); rintro e w1 ⟨rfl, hb⟩; have n0_ := Aside0.mk (below_step HB.out hb); clear HB hb; have HB := n0_; clear n0_)
    | (go_at_call 27; refine (g1 _).mono ?_; rintro e w1 ⟨rfl, hb⟩; have n0_ := Aside0.mk (below_step HB.out hb); clear HB hb; have HB := n0_; clear n0_)
    | (go_at_call 28; refine (m1 _).mono ?_; rintro e w1 ⟨rfl, hb⟩; have n0_ := Aside0.mk (below_step HB.out hb); clear HB hb; have HB := n0_; clear n0_)
    | (go_at_call 21; refine (f1 _ (ht.step HB.out)).mono ?_; rintro e w1 ⟨rfl, hb⟩; have n0_ := Aside0.mk (below_step HB.out hb); clear HB hb; have HB := n0_; clear n0_))
  go_ret
  exact ⟨rfl, HB.out⟩

end Go.Proofs.YtgbphkckiekehaaDoor.FoldK
