/- For every text, number and scale: package order's Decimal answers what the document's does, and its Text writes what the document's writes; some of the chapter's answers hold. Condition: the package-level variables listed in the row read as the program's text lays them (the card ties them). -/
import Derived.Test.YtkndegjjiimheaaDoorOrdLaid
import Derived.Test.YtkndegjjiimheaaDoorOrdAwake
set_option linter.unusedVariables false
set_option linter.unusedSimpArgs false
namespace Go.Proofs.YtkndegjjiimheaaDoor.decimalsLaw
open Go Go.RowKit Go.Shelf Go.Proofs.YtkndegjjiimheaaDoor.Ord Go.Proofs.OrdPlain Go.Proofs.YtkndegjjiimheaaDoorW.PrintWords
theorem size_data (s : ByteArray) : s.data.toList.length = s.size := by rw [Array.length_toList]; rfl
def textD (n : Int) (scale : Int) : ByteArray × Int := if 0 ≤ scale ∧ scale ≤ 9 then (txt (refText n scale.toNat), 0) else (⟨#[]⟩, 1)
theorem text_two (n scale : Int) : (if 0 ≤ scale ∧ scale ≤ 9 then #[Value.string (txt (refText n scale.toNat)), .int .i64 0] else #[.string ⟨#[]⟩, .int .i64 1]) = #[.string (textD n scale).1, .int .i64 (textD n scale).2] := by
  unfold textD; split <;> rfl
set_option maxRecDepth 100000 in
set_option maxHeartbeats 1000000 in
theorem walk (a0 : ByteArray) (a1 a2 : Int) (hs : a0.size ≤ reachBytes) (h0 : -9223372036854775808 ≤ a1) (h1 : a1 ≤ 9223372036854775807) (w : World) (hT : Tb w) :
    Calls Tryd.prog 3 #[.string a0, .int .i64 a1, .int .i64 a2] w fun e w' => e = .returned (.bool true) ∧ Below w.heap.size w w' := by
  obtain ⟨l, rfl⟩ : ∃ l, a0 = txt l := ⟨a0.data.toList, (txt_of a0).symm⟩
  have hl : l.length ≤ 140737488351232 := by rw [← txt_size l]; exact hs
  have h5 := fun W h => order_decimal l (by omega) a2 W h
  have h6 := fun W => ref_decimal l hl a2 W
  have h7 := fun W h => order_text a1 h0 h1 a2 W h
  have h8 := fun W => refText_c a1 h0 h1 a2 W
  rw [dec_same] at h5
  simp only [text_two] at h7 h8
  obtain ⟨X, hX⟩ : ∃ X, X = decD refShape l a2 := ⟨_, rfl⟩
  obtain ⟨Y, hY⟩ : ∃ Y, Y = textD a1 a2 := ⟨_, rfl⟩
  rw [← hX] at h5 h6
  rw [← hY] at h7 h8
  clear hX hY hs hl
  obtain ⟨x0, x1⟩ := X
  obtain ⟨y0, y1⟩ := Y
  have H5 : ∀ W, Tb W → Calls Tryd.prog 5 #[.string (txt l), .int .i64 a2] W fun e w' => e = .returned (.tuple #[.int .i64 x0, .int .i64 x1]) ∧ Below W.heap.size W w' := h5
  have H6 : ∀ W, Calls Tryd.prog 6 #[.string (txt l), .int .i64 a2] W fun e w' => e = .returned (.tuple #[.int .i64 x0, .int .i64 x1]) ∧ Below W.heap.size W w' := h6
  have H7 : ∀ W, Tb W → Calls Tryd.prog 7 #[.int .i64 a1, .int .i64 a2] W fun e w' => e = .returned (.tuple #[.string y0, .int .i64 y1]) ∧ Below W.heap.size W w' := h7
  have H8 : ∀ W, Calls Tryd.prog 8 #[.int .i64 a1, .int .i64 a2] W fun e w' => e = .returned (.tuple #[.string y0, .int .i64 y1]) ∧ Below W.heap.size W w' := h8
  clear h5 h6 h7 h8 h0 h1
  go_enter Tryd.func3, Tryd.ntmps3
  go_wp2_with (first
    | (go_at_call 5; (with_reducible refine (H5 _ hT).mono ?_); clear H5; rintro e w1 ⟨rfl, hb1⟩; have HB1 := Aside0.mk hb1; have HT1 := Aside0.mk (hT.kp hb1); clear hb1)
    | (go_at_call 6; (with_reducible refine (H6 _).mono ?_); clear H6; rintro e w2 ⟨rfl, hb2⟩; have HB2 := Aside0.mk (below_step HB1.out hb2); have HT2 := Aside0.mk (HT1.out.kp hb2); clear hb2)
    | (go_at_call 7; (with_reducible refine (H7 _ HT2.out).mono ?_); clear H7; rintro e w3 ⟨rfl, hb3⟩; have HB3 := Aside0.mk (below_step HB2.out hb3); have HT3 := Aside0.mk (HT2.out.kp hb3); clear hb3)
    | (go_at_call 8; (with_reducible refine (H8 _).mono ?_); clear H8; rintro e w4 ⟨rfl, hb4⟩; have HB4 := Aside0.mk (below_step HB3.out hb4); have HT4 := Aside0.mk (HT3.out.kp hb4); clear hb4)
    | (go_at_call 9; (with_reducible refine (awake_c _ HT4.out).mono ?_); rintro e w5 ⟨rfl, hb5⟩; have HB5 := Aside0.mk (below_step HB4.out hb5); clear hb5))
  go_ret
  exact ⟨rfl, HB5.out⟩
open Go.ChangeShapes Go.WideShapes Go.ChangeAt Go.Lib
open Go.ChangeMaps (open_string shut_string)
abbrev spec : OpenSpec := OpenSpec.ofChange Rows.orderDecimalsSpec
theorem witness (os : Os) {H : Type} (enc : TypeId × Value → H) :
    spec.preRow enc Tryd.prog Tryd.f3 Rows.orderDecimalsRow.domain false Rows.orderDecimalsRow.laid ((Laid.laidWorld os).forCall (fun _ _ => 0) ⟨#[], #[.string ⟨#[]⟩, .int .i64 0, .int .i64 0], []⟩).memory #[.string ⟨#[]⟩, .int .i64 0, .int .i64 0] := by
  have hw : (DataW.whole enc Tryd.prog ((Laid.laidWorld os).forCall (fun _ _ => 0) ⟨#[], #[.string ⟨#[]⟩, .int .i64 0, .int .i64 0], []⟩).memory Tryd.f3.params.toList spec.vars false #[Value.string ⟨#[]⟩, Value.int .i64 0, Value.int .i64 0].toList 8).map (fun x => (x.1, x.2.1)) =
      some ([.lit (.string []), .lit (.int .i64 0), .lit (.int .i64 0)], []) := by kernel_rfl
  obtain ⟨⟨x1, x2, x3⟩, hx, hx1⟩ := Option.map_eq_some_iff.1 hw
  simp only [Prod.mk.injEq] at hx1
  obtain ⟨rfl, rfl⟩ := hx1
  exact OpenSpec.preRow_of_cond 8 hx (by kernel_rfl) (fun k hk => by cases hk) (by kernel_rfl) (Laid.laid_met os _)
set_option maxRecDepth 100000 in
set_option maxHeartbeats 2000000 in
theorem lifted (os : Os) (started : os.Started) (H : Type) (enc : TypeId × Value → H) (F : Stop.Interp) :
    ReturnsInHanded {} Tryd.checked os 3 .any (spec.preRow enc Tryd.prog Tryd.f3 Rows.orderDecimalsRow.domain false Rows.orderDecimalsRow.laid) ((spec.at F).post enc Tryd.prog Tryd.f3 false true false false) := by
  refine returnsInHanded_of_row (C := Tryd.checked) (s := spec) Laid.own started (by kernel_rfl) Tryd.func3
    (witness_row_atRef (enc := enc) (C := Tryd.checked) false (Laid.laidWorld os) #[.string ⟨#[]⟩, .int .i64 0, .int .i64 0] rfl (by kernel_rfl) (by kernel_rfl) (by kernel_rfl) (witness os enc)) ?_
  intro W base args ds gs before hval0 hW _ hcond hsz0 hL _ _
  have hval : ∀ (j : Nat) t v, Tryd.f3.params[j]? = some t → args[j]? = some v → Value.okWide Tryd.prog W .any base t v := hval0
  have hsz : (DataW.weightsEach Tryd.prog (Tryd.f3.params.toList ++ spec.bare.plain.varTypes Tryd.prog) (ds ++ gs)).all (· ≤ reachBytes) = true := hsz0
  have hW' := hW
  obtain ⟨p, q, hA0, hV0, rfl, _, _⟩ := hW
  have hA : DataW.TrodAll enc Tryd.prog W 0 (fun _ => true) true Tryd.f3.params.toList args.toList ds p := hA0
  rw [Tryd.params3] at hA hval hsz
  obtain ⟨v0, vs0, d0, ds0, p0, q0, hargs, rfl, rfl, h0, r0⟩ := trodAll_cons hA
  obtain ⟨v1, vs1, d1, ds1, p1, q1, rfl, rfl, rfl, h1, r1⟩ := trodAll_cons r0
  obtain ⟨v2, vs2, d2, ds2, p2, q2, rfl, rfl, rfl, h2, r2⟩ := trodAll_cons r1
  obtain ⟨rfl, rfl, rfl⟩ := trodAll_nil r2
  obtain rfl : args = #[v0, v1, v2] := by cases args; simp_all
  obtain ⟨rfl, rfl⟩ := trodVars_none hV0
  obtain ⟨a0, rfl, rfl, rfl, w0⟩ := open_string Tryd.underlying9 (hval 0 9 v0 rfl rfl) h0
  have b0 : a0.data.toList.length ≤ reachBytes := sized_string hsz (j := 0) rfl rfl
  rw [size_data] at b0
  obtain ⟨a1, rfl, rfl, rfl, w1⟩ := open_int Tryd.underlying2 (hval 1 2 v1 rfl rfl) h1
  have c1 := bounds_i64 w1
  obtain ⟨a2, rfl, rfl, rfl, w2⟩ := open_int Tryd.underlying3 (hval 2 3 v2 rfl rfl) h2
  clear hA0 hV0 hval0 hsz0
  refine (walk a0 a1 a2 b0 c1.1 c1.2 W (Laid.tb hL)).mono ?_
  rintro e W' ⟨rfl, bel⟩
  have e1 : (spec.at F).fn H ([.lit (.string a0.data.toList), .lit (.int .i64 a1), .lit (.int .i64 a2)] ++ []) = { results := [.lit (.bool true)], args := [.lit (.string a0.data.toList), .lit (.int .i64 a1), .lit (.int .i64 a2)] } := rfl
  refine ⟨_, rfl, _, _, _, [], [], [], hW', ?_, ?_, ?_, bel.frame _, fun h => by cases h⟩
  · rw [e1]; exact trodAll_mk1 (shut_bool Tryd.underlying4 _)
  · rw [e1]; exact (trodAll_cons_mk (shut_string Tryd.underlying9 w0) (trodAll_cons_mk (shut_int Tryd.underlying2 w1) (trodAll_cons_mk (shut_int Tryd.underlying3 w2) trodAll_mk0)))
  · rw [e1]; rfl
theorem said : Rows.OrderDecimalsSaid :=
  OpenClaim.holds_of_cond 3 Tryd.f3 rfl rfl rfl rfl rfl rfl rfl ⟨rfl, rfl, rfl, rfl, rfl⟩ rfl rfl rfl rfl rfl (by kernel_rfl) Tryd.func3 (by kernel_rfl)
    (of_decide_eq_true (by kernel_rfl)) (by unfold Func.isWrapper; rw [if_neg (of_decide_eq_false (by kernel_rfl))]; exact ⟨rfl, rfl⟩)
    (fun os started H enc _ F0 => by rw [OpenClaim.pre_eq_preRow]; exact lifted os started H enc F0)
theorem plain (f : FuncId) (fn : Func) (hf : Tryd.pinned.checked.prog.funcNamed "lectern/lecternlaw07.OrderDecimals" = some f) (hfn : Tryd.pinned.checked.prog.funcs[f]? = some fn) :
    true = Tryd.pinned.checked.prog.looks [] ∧ ∀ (j : Nat) t, fn.params[j]? = some t → Tryd.pinned.checked.prog.wantsStandIn t = false := by
  obtain rfl : f = 3 := Option.some.inj ((show Tryd.prog.funcNamed "lectern/lecternlaw07.OrderDecimals" = some 3 by kernel_rfl).symm.trans hf) |>.symm
  obtain rfl : fn = Tryd.f3 := (Option.some.inj (Tryd.func3.symm.trans hfn)).symm
  refine ⟨by kernel_rfl, fun j t ht => ?_⟩
  rw [Tryd.params3] at ht
  have hm := Array.mem_of_getElem? ht
  simp only [List.mem_toArray, List.mem_cons, List.mem_nil_iff, or_false] at hm
  rcases hm with rfl | rfl | rfl
  · exact (show Tryd.prog.wantsStandIn 9 = false by kernel_rfl)
  · exact (show Tryd.prog.wantsStandIn 2 = false by kernel_rfl)
  · exact (show Tryd.prog.wantsStandIn 3 = false by kernel_rfl)
theorem card : Rows.OrderDecimalsCardSaid :=
  Claim7.holds_tied_plain_at .later [] _ _ _ _ said (fun _ h => by cases h) (by kernel_rfl) (fun _ h => by cases h) orderDecimals_row_tie rfl ⟨rfl, rfl⟩ (by kernel_rfl) rfl plain (by kernel_rfl)
end Go.Proofs.YtkndegjjiimheaaDoor.decimalsLaw
namespace Go.Proofs.YtkndegjjiimheaaDoor
theorem orderDecimals_holds : Rows.OrderDecimalsCardSaid := decimalsLaw.card
end Go.Proofs.YtkndegjjiimheaaDoor
