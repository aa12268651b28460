-- Written by the kit's print.py at this session's call, over functions of my choice (no statement's print; not a text of print.sh)
import Derived.Test.YtgbphkckiekehaaQKindsx0
import Derived.Test.YtgbphkckiekehaaQKindsx4
namespace Go.Proofs.Ytgbphkckiekehaa.QKinds
open Go.RowKit Go.Proofs.YtgbphkckiekehaaW.PrintWords Go.Proofs.YtgbphkckiekehaaW.PrintLast Go.Proofs.YtgbphkckiekehaaW.PrintMore
attribute [local go_sem] max2_int min2_int max_two min_two max_three min_three max_four min_four   -- for this text's walks alone
set_option linter.unusedVariables false
set_option linter.unusedSimpArgs false

/-! ### lecternref05_Letter: function 9 -/
def lecternref05_Letter.f (k : Nat) (a0 : Int) : Option (Bool) := (lecternref05_among.f k a0 (([65, 90, 97, 122, 170, 170, 181, 181, 186, 186, 192, 214, 216, 246, 248, 687, 880, 883, 886, 887, 891, 893, 895, 895, 902, 902, 904, 906, 908, 908, 910, 929, 931, 1013, 1015, 1153, 1162, 1327, 1488, 1514, 1568, 1610, 2308, 2361, 12353, 12438, 12449, 12538, 19968, 40959, 44032, 55203] : List Int))).bind fun t194 => (some t194)
theorem lecternref05_Letter.mono : ∀ a0 k, LeO (lecternref05_Letter.f k a0) (lecternref05_Letter.f (k + 1) a0) := by
  intro a0 k
  unfold lecternref05_Letter.f
  repeat' first
      | (with_reducible exact lecternref05_among.mono _ _ _)
      | (with_reducible exact LeO.refl _)
      | (with_reducible exact LeO.none _)
      | (with_reducible refine LeO.ite ?_ ?_)
      | (with_reducible refine LeO.bind ?_ (fun _ => ?_))
      | exact lecternref05_among.mono _ _ _
      | exact LeO.none _
      | refine LeO.ite ?_ ?_
      | refine LeO.bind ?_ (fun _ => ?_)
set_option maxHeartbeats 8000000 in
set_option maxRecDepth 100000 in
theorem lecternref05_Letter.calls (k : Nat) (a0 : Int) (r : Bool) (w : World) (h : lecternref05_Letter.f k a0 = some r) :
    Calls Try.prog 9 #[.int .i32 a0] w fun e w' => e = .returned (.bool r) ∧ Below w.heap.size w w' := by
  have HB := Aside0.mk (Below.refl w.heap.size w)
  have H : ((lecternref05_among.f k a0 (([65, 90, 97, 122, 170, 170, 181, 181, 186, 186, 192, 214, 216, 246, 248, 687, 880, 883, 886, 887, 891, 893, 895, 895, 902, 902, 904, 906, 908, 908, 910, 929, 931, 1013, 1015, 1153, 1162, 1327, 1488, 1514, 1568, 1610, 2308, 2361, 12353, 12438, 12449, 12538, 19968, 40959, 44032, 55203] : List Int))).bind fun t194 => (some t194)) = some r := h
  clear h
  obtain ⟨y191, hy191⟩ : ∃ y_ : List Int, y_ = (([65, 90, 97, 122, 170, 170, 181, 181, 186, 186, 192, 214, 216, 246, 248, 687, 880, 883, 886, 887, 891, 893, 895, 895, 902, 902, 904, 906, 908, 908, 910, 929, 931, 1013, 1015, 1153, 1162, 1327, 1488, 1514, 1568, 1610, 2308, 2361, 12353, 12438, 12449, 12538, 19968, 40959, 44032, 55203] : List Int)) := ⟨_, rfl⟩
  replace H : ((lecternref05_among.f k a0 y191).bind fun t194 => (some t194)) = some r := by first | (rw [hy191]; with_reducible exact H) | (have H2_ := (Option.bind_some _ _).symm.trans H; rw [hy191]; with_reducible exact H2_) | (have H2_ := (Option.bind_some _ _).symm.trans H; with_reducible exact H2_) | with_reducible exact H | (rw [hy191]; exact H) | exact H
  have Ny191 := Aside0.mk hy191
  clear hy191
  replace H := Option.bind_eq_some_iff.mp H
  obtain ⟨t194, A20, H⟩ := H
  replace H : (some t194) = some r := H
  have A2 := Aside0.mk A20
  clear A20
  obtain rfl := Option.some.inj H
  go_enter Try.func9, Try.ntmps9
  go_wp2_with (first | ((with_reducible refine gate_dst (N := 4) rfl ?_); refine Kd.R_lit (Kd.int .i32) _ 21 ?hg (N := 4) ?hd (xs := ([65, 90, 97, 122, 170, 170, 181, 181, 186, 186, 192, 214, 216, 246, 248, 687, 880, 883, 886, 887, 891, 893, 895, 895, 902, 902, 904, 906, 908, 908, 910, 929, 931, 1013, 1015, 1153, 1162, 1327, 1488, 1514, 1568, 1610, 2308, 2361, 12353, 12438, 12449, 12538, 19968, 40959, 44032, 55203] : List Int)) (inner := [.int .i32 65, .int .i32 90, .int .i32 97, .int .i32 122, .int .i32 170, .int .i32 170, .int .i32 181, .int .i32 181, .int .i32 186, .int .i32 186, .int .i32 192, .int .i32 214, .int .i32 216, .int .i32 246, .int .i32 248, .int .i32 687, .int .i32 880, .int .i32 883, .int .i32 886, .int .i32 887, .int .i32 891, .int .i32 893, .int .i32 895, .int .i32 895, .int .i32 902, .int .i32 902, .int .i32 904, .int .i32 906, .int .i32 908, .int .i32 908, .int .i32 910, .int .i32 929, .int .i32 931, .int .i32 1013, .int .i32 1015, .int .i32 1153, .int .i32 1162, .int .i32 1327, .int .i32 1488, .int .i32 1514, .int .i32 1568, .int .i32 1610, .int .i32 2308, .int .i32 2361, .int .i32 12353, .int .i32 12438, .int .i32 12449, .int .i32 12538, .int .i32 19968, .int .i32 40959, .int .i32 44032, .int .i32 55203]) (ok := fun _ => True) (okp := fun _ => True) ?hr ?hp (fun _ hk => hk) trivial (Below.refl _ _) (Nat.le_refl _) (by simp) ?_; (case hd => rfl); (case hg => rfl); (case hr => first | (go_simp; done) | (go_simp; rfl)); (case hp => exact (Reps.one (show Kd.M (Kd.int .i32) _ _ _ 65 [.int .i32 65] from rfl) (Reps.one (show Kd.M (Kd.int .i32) _ _ _ 90 [.int .i32 90] from rfl) (Reps.one (show Kd.M (Kd.int .i32) _ _ _ 97 [.int .i32 97] from rfl) (Reps.one (show Kd.M (Kd.int .i32) _ _ _ 122 [.int .i32 122] from rfl) (Reps.one (show Kd.M (Kd.int .i32) _ _ _ 170 [.int .i32 170] from rfl) (Reps.one (show Kd.M (Kd.int .i32) _ _ _ 170 [.int .i32 170] from rfl) (Reps.one (show Kd.M (Kd.int .i32) _ _ _ 181 [.int .i32 181] from rfl) (Reps.one (show Kd.M (Kd.int .i32) _ _ _ 181 [.int .i32 181] from rfl) (Reps.one (show Kd.M (Kd.int .i32) _ _ _ 186 [.int .i32 186] from rfl) (Reps.one (show Kd.M (Kd.int .i32) _ _ _ 186 [.int .i32 186] from rfl) (Reps.one (show Kd.M (Kd.int .i32) _ _ _ 192 [.int .i32 192] from rfl) (Reps.one (show Kd.M (Kd.int .i32) _ _ _ 214 [.int .i32 214] from rfl) (Reps.one (show Kd.M (Kd.int .i32) _ _ _ 216 [.int .i32 216] from rfl) (Reps.one (show Kd.M (Kd.int .i32) _ _ _ 246 [.int .i32 246] from rfl) (Reps.one (show Kd.M (Kd.int .i32) _ _ _ 248 [.int .i32 248] from rfl) (Reps.one (show Kd.M (Kd.int .i32) _ _ _ 687 [.int .i32 687] from rfl) (Reps.one (show Kd.M (Kd.int .i32) _ _ _ 880 [.int .i32 880] from rfl) (Reps.one (show Kd.M (Kd.int .i32) _ _ _ 883 [.int .i32 883] from rfl) (Reps.one (show Kd.M (Kd.int .i32) _ _ _ 886 [.int .i32 886] from rfl) (Reps.one (show Kd.M (Kd.int .i32) _ _ _ 887 [.int .i32 887] from rfl) (Reps.one (show Kd.M (Kd.int .i32) _ _ _ 891 [.int .i32 891] from rfl) (Reps.one (show Kd.M (Kd.int .i32) _ _ _ 893 [.int .i32 893] from rfl) (Reps.one (show Kd.M (Kd.int .i32) _ _ _ 895 [.int .i32 895] from rfl) (Reps.one (show Kd.M (Kd.int .i32) _ _ _ 895 [.int .i32 895] from rfl) (Reps.one (show Kd.M (Kd.int .i32) _ _ _ 902 [.int .i32 902] from rfl) (Reps.one (show Kd.M (Kd.int .i32) _ _ _ 902 [.int .i32 902] from rfl) (Reps.one (show Kd.M (Kd.int .i32) _ _ _ 904 [.int .i32 904] from rfl) (Reps.one (show Kd.M (Kd.int .i32) _ _ _ 906 [.int .i32 906] from rfl) (Reps.one (show Kd.M (Kd.int .i32) _ _ _ 908 [.int .i32 908] from rfl) (Reps.one (show Kd.M (Kd.int .i32) _ _ _ 908 [.int .i32 908] from rfl) (Reps.one (show Kd.M (Kd.int .i32) _ _ _ 910 [.int .i32 910] from rfl) (Reps.one (show Kd.M (Kd.int .i32) _ _ _ 929 [.int .i32 929] from rfl) (Reps.one (show Kd.M (Kd.int .i32) _ _ _ 931 [.int .i32 931] from rfl) (Reps.one (show Kd.M (Kd.int .i32) _ _ _ 1013 [.int .i32 1013] from rfl) (Reps.one (show Kd.M (Kd.int .i32) _ _ _ 1015 [.int .i32 1015] from rfl) (Reps.one (show Kd.M (Kd.int .i32) _ _ _ 1153 [.int .i32 1153] from rfl) (Reps.one (show Kd.M (Kd.int .i32) _ _ _ 1162 [.int .i32 1162] from rfl) (Reps.one (show Kd.M (Kd.int .i32) _ _ _ 1327 [.int .i32 1327] from rfl) (Reps.one (show Kd.M (Kd.int .i32) _ _ _ 1488 [.int .i32 1488] from rfl) (Reps.one (show Kd.M (Kd.int .i32) _ _ _ 1514 [.int .i32 1514] from rfl) (Reps.one (show Kd.M (Kd.int .i32) _ _ _ 1568 [.int .i32 1568] from rfl) (Reps.one (show Kd.M (Kd.int .i32) _ _ _ 1610 [.int .i32 1610] from rfl) (Reps.one (show Kd.M (Kd.int .i32) _ _ _ 2308 [.int .i32 2308] from rfl) (Reps.one (show Kd.M (Kd.int .i32) _ _ _ 2361 [.int .i32 2361] from rfl) (Reps.one (show Kd.M (Kd.int .i32) _ _ _ 12353 [.int .i32 12353] from rfl) (Reps.one (show Kd.M (Kd.int .i32) _ _ _ 12438 [.int .i32 12438] from rfl) (Reps.one (show Kd.M (Kd.int .i32) _ _ _ 12449 [.int .i32 12449] from rfl) (Reps.one (show Kd.M (Kd.int .i32) _ _ _ 12538 [.int .i32 12538] from rfl) (Reps.one (show Kd.M (Kd.int .i32) _ _ _ 19968 [.int .i32 19968] from rfl) (Reps.one (show Kd.M (Kd.int .i32) _ _ _ 40959 [.int .i32 40959] from rfl) (Reps.one (show Kd.M (Kd.int .i32) _ _ _ 44032 [.int .i32 44032] from rfl) (Reps.one (show Kd.M (Kd.int .i32) _ _ _ 55203 [.int .i32 55203] from rfl) (Reps.none _ _)))))))))))))))))))))))))))))))))))))))))))))))))))))); intro v192 w3 ho4 hb hg_ hnew_; clear hg_ hnew_; (first | rw [← Ny191.out] at ho4 | (simp only [Int.reduceToNat] at ho4; rw [← Ny191.out] at ho4)); have n0_ := Aside0.mk (Kd.R_lower ho4 (below_size (by repeat (first | (with_reducible first | exact HB.out | apply below_alloc | apply pw_below_drewN | apply below_drew1) | exact HB.out)))); have n1_ := Aside0.mk (below_step (by repeat (first | (with_reducible first | exact HB.out | apply below_alloc | apply pw_below_drewN | apply below_drew1) | exact HB.out)) hb); clear HB; have HO193 := n0_; have HB := n1_; clear n0_ n1_; clear hb ho4; obtain ⟨Ao5, co5, eo5⟩ := Kd.R_slice HO193.out; subst eo5) | ((with_reducible refine gate_callee (f := 20) rfl ?_); refine goesL_ (some 5) rfl rfl Try.func20 (by kernel_rfl) rfl #[.int .i32 a0, .slice Ao5 y191.length co5] rfl (by (try simp only [List.map_toArray, List.map_cons, List.map_nil]); first | done | rfl | (simp only [List.length_drop, List.length_take]; rfl)) ?_; (with_reducible refine (lecternref05_among.calls k a0 _ _ y191 t194 _ ?side1 ?side2 A2.out).mono ?_); (case side1 => repeat (first | exact (Kd.R_reads' HO193.out).2.2 | (with_reducible refine Kd.C_alloc ?_ _) | (with_reducible refine Kd.C_drewN ?_ _) | (with_reducible refine Kd.C_drew ?_))); (case side2 => exact (Kd.R_reads' HO193.out).2.1); rintro e w' ⟨rfl, ⟨nd, rfl⟩⟩; refine ⟨_, rfl, ?_⟩))
  go_ret
  exact ⟨by first | rfl | (simp [errW_none, errW_some] <;> rfl) | (simp [*, errW_none, errW_some] <;> rfl), by repeat (first | (with_reducible first | exact HB.out | apply below_alloc | apply pw_below_drewN | apply below_drew1) | exact HB.out)⟩

/-- THE ONE PURE STATEMENT of lecternref05_Letter: yours. -/
def lecternref05_Letter.Pure : Prop := ∀ (a0 : Int), (Lit.int .i32 a0).wf = true → ∃ k, lecternref05_Letter.f k a0 = some true
theorem lecternref05_Letter.walk (P : lecternref05_Letter.Pure) (a0 : Int) (w : World) (w0 : (Lit.int .i32 a0).wf = true) :
    Calls Try.prog 9 #[.int .i32 a0] w fun e w' => e = .returned (.bool true) ∧ Below w.heap.size w w' := by
  obtain ⟨k, h⟩ := P a0 w0
  refine (lecternref05_Letter.calls k a0 true w h).mono ?_
  rintro e w' ⟨rfl, hd⟩
  exact ⟨rfl, hd⟩

/-! ### lecternref05_Digit: function 11 -/
def lecternref05_Digit.f (k : Nat) (a0 : Int) : Option (Bool) := (lecternref05_among.f k a0 (([48, 57, 1632, 1641, 2406, 2415, 65296, 65305] : List Int))).bind fun t198 => (some t198)
theorem lecternref05_Digit.mono : ∀ a0 k, LeO (lecternref05_Digit.f k a0) (lecternref05_Digit.f (k + 1) a0) := by
  intro a0 k
  unfold lecternref05_Digit.f
  repeat' first
      | (with_reducible exact lecternref05_among.mono _ _ _)
      | (with_reducible exact LeO.refl _)
      | (with_reducible exact LeO.none _)
      | (with_reducible refine LeO.ite ?_ ?_)
      | (with_reducible refine LeO.bind ?_ (fun _ => ?_))
      | exact lecternref05_among.mono _ _ _
      | exact LeO.none _
      | refine LeO.ite ?_ ?_
      | refine LeO.bind ?_ (fun _ => ?_)
set_option maxHeartbeats 8000000 in
set_option maxRecDepth 100000 in
theorem lecternref05_Digit.calls (k : Nat) (a0 : Int) (r : Bool) (w : World) (h : lecternref05_Digit.f k a0 = some r) :
    Calls Try.prog 11 #[.int .i32 a0] w fun e w' => e = .returned (.bool r) ∧ Below w.heap.size w w' := by
  have HB := Aside0.mk (Below.refl w.heap.size w)
  have H : ((lecternref05_among.f k a0 (([48, 57, 1632, 1641, 2406, 2415, 65296, 65305] : List Int))).bind fun t198 => (some t198)) = some r := h
  clear h
  obtain ⟨y195, hy195⟩ : ∃ y_ : List Int, y_ = (([48, 57, 1632, 1641, 2406, 2415, 65296, 65305] : List Int)) := ⟨_, rfl⟩
  replace H : ((lecternref05_among.f k a0 y195).bind fun t198 => (some t198)) = some r := by first | (rw [hy195]; with_reducible exact H) | (have H2_ := (Option.bind_some _ _).symm.trans H; rw [hy195]; with_reducible exact H2_) | (have H2_ := (Option.bind_some _ _).symm.trans H; with_reducible exact H2_) | with_reducible exact H | (rw [hy195]; exact H) | exact H
  have Ny195 := Aside0.mk hy195
  clear hy195
  replace H := Option.bind_eq_some_iff.mp H
  obtain ⟨t198, A20, H⟩ := H
  replace H : (some t198) = some r := H
  have A2 := Aside0.mk A20
  clear A20
  obtain rfl := Option.some.inj H
  go_enter Try.func11, Try.ntmps11
  go_wp2_with (first | ((with_reducible refine gate_dst (N := 4) rfl ?_); refine Kd.R_lit (Kd.int .i32) _ 21 ?hg (N := 4) ?hd (xs := ([48, 57, 1632, 1641, 2406, 2415, 65296, 65305] : List Int)) (inner := [.int .i32 48, .int .i32 57, .int .i32 1632, .int .i32 1641, .int .i32 2406, .int .i32 2415, .int .i32 65296, .int .i32 65305]) (ok := fun _ => True) (okp := fun _ => True) ?hr ?hp (fun _ hk => hk) trivial (Below.refl _ _) (Nat.le_refl _) (by simp) ?_; (case hd => rfl); (case hg => rfl); (case hr => first | (go_simp; done) | (go_simp; rfl)); (case hp => exact (Reps.one (show Kd.M (Kd.int .i32) _ _ _ 48 [.int .i32 48] from rfl) (Reps.one (show Kd.M (Kd.int .i32) _ _ _ 57 [.int .i32 57] from rfl) (Reps.one (show Kd.M (Kd.int .i32) _ _ _ 1632 [.int .i32 1632] from rfl) (Reps.one (show Kd.M (Kd.int .i32) _ _ _ 1641 [.int .i32 1641] from rfl) (Reps.one (show Kd.M (Kd.int .i32) _ _ _ 2406 [.int .i32 2406] from rfl) (Reps.one (show Kd.M (Kd.int .i32) _ _ _ 2415 [.int .i32 2415] from rfl) (Reps.one (show Kd.M (Kd.int .i32) _ _ _ 65296 [.int .i32 65296] from rfl) (Reps.one (show Kd.M (Kd.int .i32) _ _ _ 65305 [.int .i32 65305] from rfl) (Reps.none _ _)))))))))); intro v196 w3 ho4 hb hg_ hnew_; clear hg_ hnew_; (first | rw [← Ny195.out] at ho4 | (simp only [Int.reduceToNat] at ho4; rw [← Ny195.out] at ho4)); have n0_ := Aside0.mk (Kd.R_lower ho4 (below_size (by repeat (first | (with_reducible first | exact HB.out | apply below_alloc | apply pw_below_drewN | apply below_drew1) | exact HB.out)))); have n1_ := Aside0.mk (below_step (by repeat (first | (with_reducible first | exact HB.out | apply below_alloc | apply pw_below_drewN | apply below_drew1) | exact HB.out)) hb); clear HB; have HO197 := n0_; have HB := n1_; clear n0_ n1_; clear hb ho4; obtain ⟨Ao5, co5, eo5⟩ := Kd.R_slice HO197.out; subst eo5) | ((with_reducible refine gate_callee (f := 20) rfl ?_); refine goesL_ (some 5) rfl rfl Try.func20 (by kernel_rfl) rfl #[.int .i32 a0, .slice Ao5 y195.length co5] rfl (by (try simp only [List.map_toArray, List.map_cons, List.map_nil]); first | done | rfl | (simp only [List.length_drop, List.length_take]; rfl)) ?_; (with_reducible refine (lecternref05_among.calls k a0 _ _ y195 t198 _ ?side1 ?side2 A2.out).mono ?_); (case side1 => repeat (first | exact (Kd.R_reads' HO197.out).2.2 | (with_reducible refine Kd.C_alloc ?_ _) | (with_reducible refine Kd.C_drewN ?_ _) | (with_reducible refine Kd.C_drew ?_))); (case side2 => exact (Kd.R_reads' HO197.out).2.1); rintro e w' ⟨rfl, ⟨nd, rfl⟩⟩; refine ⟨_, rfl, ?_⟩))
  go_ret
  exact ⟨by first | rfl | (simp [errW_none, errW_some] <;> rfl) | (simp [*, errW_none, errW_some] <;> rfl), by repeat (first | (with_reducible first | exact HB.out | apply below_alloc | apply pw_below_drewN | apply below_drew1) | exact HB.out)⟩

/-- THE ONE PURE STATEMENT of lecternref05_Digit: yours. -/
def lecternref05_Digit.Pure : Prop := ∀ (a0 : Int), (Lit.int .i32 a0).wf = true → ∃ k, lecternref05_Digit.f k a0 = some true
theorem lecternref05_Digit.walk (P : lecternref05_Digit.Pure) (a0 : Int) (w : World) (w0 : (Lit.int .i32 a0).wf = true) :
    Calls Try.prog 11 #[.int .i32 a0] w fun e w' => e = .returned (.bool true) ∧ Below w.heap.size w w' := by
  obtain ⟨k, h⟩ := P a0 w0
  refine (lecternref05_Digit.calls k a0 true w h).mono ?_
  rintro e w' ⟨rfl, hd⟩
  exact ⟨rfl, hd⟩

/-! ### lecternref05_Mark: function 13 -/
def lecternref05_Mark.f (k : Nat) (a0 : Int) : Option (Bool) := (lecternref05_among.f k a0 (([768, 879, 1155, 1161, 1425, 1469, 1611, 1631, 2364, 2364, 8400, 8432, 65056, 65071] : List Int))).bind fun t202 => (some t202)
theorem lecternref05_Mark.mono : ∀ a0 k, LeO (lecternref05_Mark.f k a0) (lecternref05_Mark.f (k + 1) a0) := by
  intro a0 k
  unfold lecternref05_Mark.f
  repeat' first
      | (with_reducible exact lecternref05_among.mono _ _ _)
      | (with_reducible exact LeO.refl _)
      | (with_reducible exact LeO.none _)
      | (with_reducible refine LeO.ite ?_ ?_)
      | (with_reducible refine LeO.bind ?_ (fun _ => ?_))
      | exact lecternref05_among.mono _ _ _
      | exact LeO.none _
      | refine LeO.ite ?_ ?_
      | refine LeO.bind ?_ (fun _ => ?_)
set_option maxHeartbeats 8000000 in
set_option maxRecDepth 100000 in
theorem lecternref05_Mark.calls (k : Nat) (a0 : Int) (r : Bool) (w : World) (h : lecternref05_Mark.f k a0 = some r) :
    Calls Try.prog 13 #[.int .i32 a0] w fun e w' => e = .returned (.bool r) ∧ Below w.heap.size w w' := by
  have HB := Aside0.mk (Below.refl w.heap.size w)
  have H : ((lecternref05_among.f k a0 (([768, 879, 1155, 1161, 1425, 1469, 1611, 1631, 2364, 2364, 8400, 8432, 65056, 65071] : List Int))).bind fun t202 => (some t202)) = some r := h
  clear h
  obtain ⟨y199, hy199⟩ : ∃ y_ : List Int, y_ = (([768, 879, 1155, 1161, 1425, 1469, 1611, 1631, 2364, 2364, 8400, 8432, 65056, 65071] : List Int)) := ⟨_, rfl⟩
  replace H : ((lecternref05_among.f k a0 y199).bind fun t202 => (some t202)) = some r := by first | (rw [hy199]; with_reducible exact H) | (have H2_ := (Option.bind_some _ _).symm.trans H; rw [hy199]; with_reducible exact H2_) | (have H2_ := (Option.bind_some _ _).symm.trans H; with_reducible exact H2_) | with_reducible exact H | (rw [hy199]; exact H) | exact H
  have Ny199 := Aside0.mk hy199
  clear hy199
  replace H := Option.bind_eq_some_iff.mp H
  obtain ⟨t202, A20, H⟩ := H
  replace H : (some t202) = some r := H
  have A2 := Aside0.mk A20
  clear A20
  obtain rfl := Option.some.inj H
  go_enter Try.func13, Try.ntmps13
  go_wp2_with (first | ((with_reducible refine gate_dst (N := 4) rfl ?_); refine Kd.R_lit (Kd.int .i32) _ 21 ?hg (N := 4) ?hd (xs := ([768, 879, 1155, 1161, 1425, 1469, 1611, 1631, 2364, 2364, 8400, 8432, 65056, 65071] : List Int)) (inner := [.int .i32 768, .int .i32 879, .int .i32 1155, .int .i32 1161, .int .i32 1425, .int .i32 1469, .int .i32 1611, .int .i32 1631, .int .i32 2364, .int .i32 2364, .int .i32 8400, .int .i32 8432, .int .i32 65056, .int .i32 65071]) (ok := fun _ => True) (okp := fun _ => True) ?hr ?hp (fun _ hk => hk) trivial (Below.refl _ _) (Nat.le_refl _) (by simp) ?_; (case hd => rfl); (case hg => rfl); (case hr => first | (go_simp; done) | (go_simp; rfl)); (case hp => exact (Reps.one (show Kd.M (Kd.int .i32) _ _ _ 768 [.int .i32 768] from rfl) (Reps.one (show Kd.M (Kd.int .i32) _ _ _ 879 [.int .i32 879] from rfl) (Reps.one (show Kd.M (Kd.int .i32) _ _ _ 1155 [.int .i32 1155] from rfl) (Reps.one (show Kd.M (Kd.int .i32) _ _ _ 1161 [.int .i32 1161] from rfl) (Reps.one (show Kd.M (Kd.int .i32) _ _ _ 1425 [.int .i32 1425] from rfl) (Reps.one (show Kd.M (Kd.int .i32) _ _ _ 1469 [.int .i32 1469] from rfl) (Reps.one (show Kd.M (Kd.int .i32) _ _ _ 1611 [.int .i32 1611] from rfl) (Reps.one (show Kd.M (Kd.int .i32) _ _ _ 1631 [.int .i32 1631] from rfl) (Reps.one (show Kd.M (Kd.int .i32) _ _ _ 2364 [.int .i32 2364] from rfl) (Reps.one (show Kd.M (Kd.int .i32) _ _ _ 2364 [.int .i32 2364] from rfl) (Reps.one (show Kd.M (Kd.int .i32) _ _ _ 8400 [.int .i32 8400] from rfl) (Reps.one (show Kd.M (Kd.int .i32) _ _ _ 8432 [.int .i32 8432] from rfl) (Reps.one (show Kd.M (Kd.int .i32) _ _ _ 65056 [.int .i32 65056] from rfl) (Reps.one (show Kd.M (Kd.int .i32) _ _ _ 65071 [.int .i32 65071] from rfl) (Reps.none _ _)))))))))))))))); intro v200 w3 ho4 hb hg_ hnew_; clear hg_ hnew_; (first | rw [← Ny199.out] at ho4 | (simp only [Int.reduceToNat] at ho4; rw [← Ny199.out] at ho4)); have n0_ := Aside0.mk (Kd.R_lower ho4 (below_size (by repeat (first | (with_reducible first | exact HB.out | apply below_alloc | apply pw_below_drewN | apply below_drew1) | exact HB.out)))); have n1_ := Aside0.mk (below_step (by repeat (first | (with_reducible first | exact HB.out | apply below_alloc | apply pw_below_drewN | apply below_drew1) | exact HB.out)) hb); clear HB; have HO201 := n0_; have HB := n1_; clear n0_ n1_; clear hb ho4; obtain ⟨Ao5, co5, eo5⟩ := Kd.R_slice HO201.out; subst eo5) | ((with_reducible refine gate_callee (f := 20) rfl ?_); refine goesL_ (some 5) rfl rfl Try.func20 (by kernel_rfl) rfl #[.int .i32 a0, .slice Ao5 y199.length co5] rfl (by (try simp only [List.map_toArray, List.map_cons, List.map_nil]); first | done | rfl | (simp only [List.length_drop, List.length_take]; rfl)) ?_; (with_reducible refine (lecternref05_among.calls k a0 _ _ y199 t202 _ ?side1 ?side2 A2.out).mono ?_); (case side1 => repeat (first | exact (Kd.R_reads' HO201.out).2.2 | (with_reducible refine Kd.C_alloc ?_ _) | (with_reducible refine Kd.C_drewN ?_ _) | (with_reducible refine Kd.C_drew ?_))); (case side2 => exact (Kd.R_reads' HO201.out).2.1); rintro e w' ⟨rfl, ⟨nd, rfl⟩⟩; refine ⟨_, rfl, ?_⟩))
  go_ret
  exact ⟨by first | rfl | (simp [errW_none, errW_some] <;> rfl) | (simp [*, errW_none, errW_some] <;> rfl), by repeat (first | (with_reducible first | exact HB.out | apply below_alloc | apply pw_below_drewN | apply below_drew1) | exact HB.out)⟩

/-- THE ONE PURE STATEMENT of lecternref05_Mark: yours. -/
def lecternref05_Mark.Pure : Prop := ∀ (a0 : Int), (Lit.int .i32 a0).wf = true → ∃ k, lecternref05_Mark.f k a0 = some true
theorem lecternref05_Mark.walk (P : lecternref05_Mark.Pure) (a0 : Int) (w : World) (w0 : (Lit.int .i32 a0).wf = true) :
    Calls Try.prog 13 #[.int .i32 a0] w fun e w' => e = .returned (.bool true) ∧ Below w.heap.size w w' := by
  obtain ⟨k, h⟩ := P a0 w0
  refine (lecternref05_Mark.calls k a0 true w h).mono ?_
  rintro e w' ⟨rfl, hd⟩
  exact ⟨rfl, hd⟩

end Go.Proofs.Ytgbphkckiekehaa.QKinds
