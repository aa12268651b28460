/- For every text and place of bulk at most 1048576 together: the program's cutting of a text into runes, at a place and whole, and its validity are what the document's answer says; the arguments read as before. Conditions: the bound on the bulk; the two tables of unicode/utf8 read as the program's text lays them (the card ties them). -/
import Derived.Test.YtgbphkckiekehaaDoorLaid
set_option linter.unusedVariables false
set_option linter.unusedSimpArgs false
namespace Go.Proofs.YtgbphkckiekehaaDoor.runesLaw
open Go.RowKit Go.Shelf Go.Proofs.YtgbphkckiekehaaDoor.QFold Go.Proofs.YtgbphkckiekehaaDoorW.PrintWords Go.Proofs.FoldPlain Go.Proofs.FoldText Go.Proofs.YtgbphkckiekehaaDoor.FoldRef Go.Proofs.YtgbphkckiekehaaDoor.Seq Go.Proofs.YtgbphkckiekehaaDoor.FoldW
attribute [local go_sem] Oper.semAt_some

theorem refNext_c (s : ByteArray) (p : Int) (hs : s.size ≤ 140737488355328) (w : World) :
    Calls Tryd.prog 16 #[.string s, .int .i64 p] w fun e w' => e = .returned (.tuple #[.int .i32 (nextD s.data.toList p).1, .int .i64 (nextD s.data.toList p).2]) ∧ Below w.heap.size w w' :=
  lecternref05_Next.calls 8 s p _ _ w (by rw [refNext_f 0 s p hs])
theorem refValid_c (s : ByteArray) (hs : s.size ≤ 140737488355328) (w : World) :
    Calls Tryd.prog 18 #[.string s] w fun e w' => e = .returned (.bool (Lib.validD s.data.toList)) ∧ Below w.heap.size w w' :=
  lecternref05_Valid.calls _ s _ w (refValid_f s hs)
theorem refRunes_c (s : ByteArray) (hs : s.size ≤ 17592186044416) (w : World) :
    Calls Tryd.prog 19 #[.string s] w fun e w' => ∃ A0 c0 A1 c1, e = .returned (.tuple #[.slice A0 (runes s.data.toList).length c0, .slice A1 (runes s.data.toList).length c1]) ∧ Row .i64 w' w.heap.size w'.heap.size A0 (placesZ (runes s.data.toList)) ∧ Row .i32 w' w.heap.size w'.heap.size A1 (runesZ (runes s.data.toList)) ∧ Below w.heap.size w w' := by
  refine (lecternref05_Runes.calls _ s _ _ w (refRunes_f s hs)).mono ?_
  rintro e w' ⟨v0, v1, rfl, h0, h1, hb⟩
  obtain ⟨A0, c0, rfl, r0⟩ := Row.of_own (Kd.own_of_R h0)
  obtain ⟨A1, c1, rfl, r1⟩ := Row.of_own (Kd.own_of_R h1)
  refine ⟨A0, c0, A1, c1, ?_, r0, r1, hb⟩
  simp [placesZ, runesZ]

set_option maxRecDepth 100000 in
set_option maxHeartbeats 4000000 in
theorem walk (s : ByteArray) (p : Int) (hs : s.size ≤ 17592186044416) (w : World) (ht : Tabs w) :
    Calls Tryd.prog 3 #[.string s, .int .i64 p] w fun e w' => e = .returned (.bool true) ∧ Below w.heap.size w w' := by
  have h2 := ht.size
  have hs' : s.size ≤ 140737488355328 := by omega
  refine (callsIn_wide (n := 20)).1 ?_
  refine callsIn_of_wp_marks Tryd.func3 rfl trivial ?_ rfl
  simp only [Tryd.ntmps3, List.size_toArray, List.length_cons, List.length_nil, Nat.reduceAdd, Nat.reduceSub, Array.replicate_succ, Array.replicate_zero, List.push_toArray, List.append_toArray, List.nil_append, List.cons_append]
  obtain ⟨wr, hwr⟩ : ∃ wr, wr = w.alloc (.cells #[.bool false] 4) := ⟨_, rfl⟩
  have hnil : ∀ (v : Value) (W : World), (binOp BinOp.eql 30 (Value.func (Fn.func 49) #[] #[v]) Value.nilFunc).run Tryd.prog W = .ok (.bool false) W := fun _ _ => by kernel_rfl
  have HB := Aside0.mk (Below.refl wr.heap.size wr)
  have HT : Aside0 (Tabs wr) := Aside0.mk (ht.step (by rw [hwr]; exact below_alloc (Below.refl _ _) _))
  have HZ := Aside0.mk hwr
  clear hwr ht
  gi_wp2_with (fail)
  rw [← HZ.out]
  gi_wp2_with (first
    | (refine ⟨trivial, ?_⟩; gi_at_call 15; refine (callsIn_wide.2 (next_c s p hs' _ (HT.out.step HB.out))).mono ?_; rintro e w1 ⟨rfl, hb⟩; have n0_ := Aside0.mk (below_step HB.out hb); clear HB hb; have HB := n0_; clear n0_)
    | (refine ⟨trivial, ?_⟩; gi_at_call 16; refine (callsIn_wide.2 (refNext_c s p hs' _)).mono ?_; rintro e w1 ⟨rfl, hb⟩; have n0_ := Aside0.mk (below_step HB.out hb); clear HB hb; have HB := n0_; clear n0_)
    | (refine ⟨trivial, ?_⟩; gi_at_call 17; refine (callsIn_wide.2 (valid_c s hs' _ (HT.out.step HB.out))).mono ?_; rintro e w1 ⟨rfl, hb⟩; have n0_ := Aside0.mk (below_step HB.out hb); clear HB hb; have HB := n0_; clear n0_)
    | (refine ⟨trivial, ?_⟩; gi_at_call 18; refine (callsIn_wide.2 (refValid_c s hs' _)).mono ?_; rintro e w1 ⟨rfl, hb⟩; have n0_ := Aside0.mk (below_step HB.out hb); clear HB hb; have HB := n0_; clear n0_)
    | (refine ⟨trivial, ?_⟩; gi_at_call 19; refine (callsIn_wide.2 (refRunes_c s hs _)).mono ?_; rintro e w1 ⟨A0, c0, A1, c1, rfl, hr0, hr1, hb⟩; have HR0 := Aside0.mk (hr0.lower HB.out.size); have HR1 := Aside0.mk (hr1.lower HB.out.size); clear hr0 hr1; have n0_ := Aside0.mk (below_step HB.out hb); clear HB hb; have HB := n0_; clear n0_)
    | (refine ⟨trivial, ?_⟩; gi_at_call 20; refine (callsIn_wide.2 (runes_c s _)).mono ?_; rintro e w2 ⟨rfl, rfl⟩))
  have hBw : Below w.heap.size w wr := by rw [HZ.out]; exact below_alloc (Below.refl _ _) _
  have hzr : wr.heap.size = w.heap.size + 1 := by rw [HZ.out, World.size_alloc]
  have hBr0 : Boxed wr w.heap.size 4 (.bool false) := by rw [HZ.out]; exact Boxed.new _ _ _
  obtain ⟨N, hN⟩ : ∃ N, N = (runes s.data.toList).length := ⟨_, rfl⟩
  obtain ⟨W0, hW0⟩ : ∃ W0, (((w1.alloc (.cells #[.slice A0 (runes s.data.toList).length c0] 25)).alloc (.cells #[.slice A1 (runes s.data.toList).length c1] 26)).alloc (.cells #[.int .i64 0] 3)).alloc (.cells #[.string s] 9) = W0 := ⟨_, rfl⟩
  rw [hW0]
  rw [← hN] at hW0 ⊢
  have hB1 := HB.out
  have hz1 : w.heap.size + 1 ≤ w1.heap.size := by have := hB1.size; omega
  have hb1 : Below w1.heap.size w1 W0 := by rw [← hW0]; exact below_alloc (below_alloc (below_alloc (below_alloc (Below.refl _ _) _) _) _) _
  have hsz : W0.heap.size = w1.heap.size + 4 := by rw [← hW0]; simp
  have b4 : Boxed W0 w.heap.size 4 (.bool false) := by
    have h1 : Boxed w1 w.heap.size 4 (.bool false) := hBr0.kept (grown_of_below hB1 none) (by simp)
    exact h1.kept (grown_of_below hb1 none) (by simp)
  have b9 : Boxed W0 w1.heap.size 25 (.slice A0 N c0) := by rw [← hW0]; exact (((Boxed.new _ _ _).alloc _).alloc _).alloc _
  have b10 : Boxed W0 (w1.heap.size + 1) 26 (.slice A1 N c1) := by
    have := ((Boxed.new (w1.alloc (.cells #[.slice A0 N c0] 25)) 26 (.slice A1 N c1)).alloc (.cells #[.int .i64 0] 3)).alloc (.cells #[.string s] 9)
    rw [World.size_alloc, hW0] at this; exact this
  have b11 : Boxed W0 (w1.heap.size + 1 + 1) 3 (.int .i64 0) := by
    have := (Boxed.new ((w1.alloc (.cells #[.slice A0 N c0] 25)).alloc (.cells #[.slice A1 N c1] 26)) 3 (.int .i64 0)).alloc (.cells #[.string s] 9)
    rw [World.size_alloc, World.size_alloc, hW0] at this; exact this
  have bS : Boxed W0 (w1.heap.size + 1 + 1 + 1) 9 (.string s) := by
    have := Boxed.new (((w1.alloc (.cells #[.slice A0 N c0] 25)).alloc (.cells #[.slice A1 N c1] 26)).alloc (.cells #[.int .i64 0] 3)) 9 (.string s)
    rw [World.size_alloc, World.size_alloc, World.size_alloc, hW0] at this; exact this
  have hT0 : Tabs W0 := (HT.out.step hB1).step hb1
  have r0 : Row .i64 W0 (w.heap.size + 1) w1.heap.size A0 (placesZ (runes s.data.toList)) := by
    rw [← hzr]; exact HR0.out.below hb1
  have r1 : Row .i32 W0 (w.heap.size + 1) w1.heap.size A1 (runesZ (runes s.data.toList)) := by
    rw [← hzr]; exact HR1.out.below hb1
  have hBW : Below w.heap.size w W0 := below_step (below_step hBw hB1) hb1
  refine range_known (F := Fence.wide) (n := 20) (xs := runes s.data.toList) rfl (by omega) (gf := 49) (lb := #[.pointer (some ⟨w1.heap.size + 1 + 1 + 1, 0, none⟩)]) rfl trivial (enters_of Tryd.func49 (by kernel_rfl) rfl)
    (runes_seq 19 (by omega) (w1.heap.size + 1 + 1 + 1) s hs' W0 bS.cell hT0) (fun h k => KpB.trans h k) (KpB.putObj (by omega) (by omega)) (Below.refl _ _) (fun _ => rfl)
    (fun pre W => (Boxed W (w1.heap.size + 1 + 1) 3 (.int .i64 pre.length) ∧ Boxed W w.heap.size 4 (.bool false) ∧ Boxed W w1.heap.size 25 (.slice A0 N c0) ∧ Boxed W (w1.heap.size + 1) 26 (.slice A1 N c1) ∧ Row .i64 W (w.heap.size + 1) w1.heap.size A0 (placesZ (runes s.data.toList)) ∧ Row .i32 W (w.heap.size + 1) w1.heap.size A1 (runesZ (runes s.data.toList))) ∧ Below w.heap.size w W)
    (fun _ _ _ => False)
    ?hI (fun _ _ _ _ _ hs _ _ => hs) ⟨⟨b11, b4, b9, b10, r0, r1⟩, hBW⟩ ?a1 ?assign ?body ?done ?stop
  case hI =>
    refine OwnFrom.and (Own.from ?_ _) (ownFrom_below (Nat.le_refl _) (by omega))
    exact fun q X Y row hs hg hr => ⟨boxed_own _ _ (fun pre : List (Nat × Nat) => .int .i64 pre.length) q X Y row hs.1 hg hr, boxed_own _ _ (fun _ : List (Nat × Nat) => .bool false) q X Y row hs.2.1 hg hr, boxed_own _ _ (fun _ : List (Nat × Nat) => .slice A0 N c0) q X Y row hs.2.2.1 hg hr, boxed_own _ _ (fun _ : List (Nat × Nat) => .slice A1 N c1) q X Y row hs.2.2.2.1 hg hr, Row.own _ _ _ _ _ q X Y row hs.2.2.2.2.1 hg hr, Row.own _ _ _ _ _ q X Y row hs.2.2.2.2.2 hg hr⟩
  case assign =>
    intro l x W K hK
    have HK := Aside0.mk hK
    clear hK
    unfold encR
    gi_wp2
    exact HK.out
  case body =>
    rintro l pre x rest W hxs ⟨⟨c11, c4, c9, c10, k0, k1⟩, hB⟩
    have hlen : (runes s.data.toList).length = pre.length + 1 + rest.length := by rw [hxs]; simp; omega
    have hi : pre.length < N := by omega
    have hNm : N ≤ s.size := by rw [hN, ← size_data]; exact runes_length _
    obtain ⟨g0, hA0, hg0, hg0', e0⟩ := k0 pre.length (by simp [placesZ]; omega)
    obtain ⟨g1, hA1, hg1, hg1', e1⟩ := k1 pre.length (by simp [runesZ]; omega)
    rw [placesZ_at hxs] at e0
    rw [runesZ_at hxs] at e1
    subst hA0 hA1
    have d9 := c9.cell
    have d10 := c10.cell
    have d11 := c11.cell
    have f11 := c11.frozen
    obtain ⟨W', hW'⟩ : ∃ W', W' = W.setCell ⟨w1.heap.size + 1 + 1, 0, none⟩ (.int .i64 ((pre ++ [x]).length : Int)) := ⟨_, rfl⟩
    have hk : Kept W W' (fun b => b = w1.heap.size + 1 + 1) := by rw [hW']; exact (Kept.refl W (fun b => b = w1.heap.size + 1 + 1)).setCell (p := ⟨w1.heap.size + 1 + 1, 0, none⟩) (.inl rfl) _
    have HI : Aside0 (KpB (w1.heap.size + 1 + 1 + 1) W W' ∧ (Boxed W' (w1.heap.size + 1 + 1) 3 (.int .i64 ((pre ++ [x]).length : Int)) ∧ Boxed W' w.heap.size 4 (.bool false) ∧ Boxed W' w1.heap.size 25 (.slice (some ⟨g0, 0, none⟩) N c0) ∧ Boxed W' (w1.heap.size + 1) 26 (.slice (some ⟨g1, 0, none⟩) N c1) ∧ Row .i64 W' (w.heap.size + 1) w1.heap.size (some ⟨g0, 0, none⟩) (placesZ (runes s.data.toList)) ∧ Row .i32 W' (w.heap.size + 1) w1.heap.size (some ⟨g1, 0, none⟩) (runesZ (runes s.data.toList))) ∧ Below w.heap.size w W') := by
      refine ⟨KpB.of_kept hk (fun b hb => by omega), ⟨?_, ?_, ?_, ?_, k0.kept hk (fun b hb => by omega), k1.kept hk (fun b hb => by omega)⟩, ?_⟩
      · rw [hW']; exact c11.set _
      · rw [hW']; exact c4.other (by omega) _
      · rw [hW']; exact c9.other (by omega) _
      · rw [hW']; exact c10.other (by omega) _
      · rw [hW']; exact hB.setCell (p := ⟨w1.heap.size + 1 + 1, 0, none⟩) (show w.heap.size ≤ w1.heap.size + 1 + 1 by omega) _
    rw [hW'] at HI
    clear hW' hk c11 c4 c9 c10 k0 k1 hB hW0 hxs hlen hb1 hBW hB1 hBw hBr0 b4 b9 b10 b11 bS hT0 r0 r1
    gi_wp2
    rw [show ((pre.length : Int) + 1) = ((pre ++ [x]).length : Int) by simp]
    exact ⟨KeepsOthers.setCell _ _ _, HI.out⟩
  case done =>
    rintro D W hD ⟨⟨c11, c4, c9, c10, k0, k1⟩, hB⟩ hK
    rw [← hN] at c11
    have d9 := c9.cell
    have d11 := c11.cell
    have d4 := c4.cell
    have f4 := c4.frozen
    clear hW0 hb1 hBW hB1 hBw hBr0 b4 b9 b10 b11 bS hT0 r0 r1 c11 c9 c10 k0 k1
    gi_wp2
    have hK' := (KeepsOthers.setCell W ⟨w.heap.size, 0, none⟩ (.bool true)).same D _ hK rfl
    refine ⟨by simp, .inl ⟨_, _, rfl, run_takeDeferred hK', ?_⟩⟩
    have hc5 := Go.cell_kept (World.cell?_setCell_same' W ⟨w.heap.size, 0, none⟩ (.bool true) (by rw [d4]; rfl)) (grownBy_putObj' _ D (.deferred none)) (fun r e => by cases e; exact ⟨_, hK', rfl⟩)
    refine ⟨.bool true, ?_, rfl, (hB.setCell (p := ⟨w.heap.size, 0, none⟩) (Nat.le_refl _) _).trans (belowK_b (w := w) (Nat.le_refl _) _ D _ _ (by omega) hK' rfl rfl)⟩
    simp [results, Tryd.f3, go_sem, hc5]
  case stop =>
    rintro D c pre W _ _ h _
    exact h.elim

open Go.ChangeShapes Go.WideShapes Go.ChangeAt Go.Lib
open Go.ChangeMaps (open_string shut_string)
abbrev spec : OpenSpec := Rows.OpenSpec.upto Rows.foldRunesSpec

theorem witness (os : Os) {H : Type} (enc : TypeId × Value → H) :
    spec.preRow enc Tryd.prog Tryd.f3 Rows.foldRunesUptoRow.domain false Rows.foldRunesUptoRow.laid ((Laid.laidWorld os).forCall (fun _ _ => 0) ⟨#[], #[.string ⟨#[]⟩, .int .i64 0], []⟩).memory #[.string ⟨#[]⟩, .int .i64 0] := by
  have hw : (DataW.whole enc Tryd.prog ((Laid.laidWorld os).forCall (fun _ _ => 0) ⟨#[], #[.string ⟨#[]⟩, .int .i64 0], []⟩).memory Tryd.f3.params.toList spec.vars false #[Value.string ⟨#[]⟩, Value.int .i64 0].toList 8).map (fun x => (x.1, x.2.1)) =
      some ([.lit (.string []), .lit (.int .i64 0)], []) := by kernel_rfl
  obtain ⟨⟨x1, x2, x3⟩, hx, hx1⟩ := Option.map_eq_some_iff.1 hw
  simp only [Prod.mk.injEq] at hx1
  obtain ⟨rfl, rfl⟩ := hx1
  exact OpenSpec.preRow_of_cond 8 hx (by kernel_rfl) (fun k hk => by cases hk; kernel_rfl) (by kernel_rfl) (Laid.laid_met os _)

set_option maxRecDepth 100000 in
set_option maxHeartbeats 2000000 in
theorem lifted (os : Os) (started : os.Started) (H : Type) (enc : TypeId × Value → H) (F : Stop.Interp) :
    ReturnsInHanded {} Tryd.checked os 3 .any (spec.preRow enc Tryd.prog Tryd.f3 Rows.foldRunesUptoRow.domain false Rows.foldRunesUptoRow.laid) ((spec.at F).post enc Tryd.prog Tryd.f3 false true false false) := by
  refine returnsInHanded_of_row (C := Tryd.checked) (s := spec) Laid.own started (by kernel_rfl) Tryd.func3
    (witness_row_atRef (enc := enc) (C := Tryd.checked) false (Laid.laidWorld os) #[.string ⟨#[]⟩, .int .i64 0] rfl (by kernel_rfl) (by kernel_rfl) (by kernel_rfl) (witness os enc)) ?_
  intro W base args ds gs before hval0 hW _ hcond _ hL _ _
  have hval : ∀ (j : Nat) t v, Tryd.f3.params[j]? = some t → args[j]? = some v → Value.okWide Tryd.prog W .any base t v := hval0
  have hW' := hW
  obtain ⟨p, q, hA0, hV0, rfl, _, _⟩ := hW
  have hA : DataW.TrodAll enc Tryd.prog W 0 (fun _ => true) true Tryd.f3.params.toList args.toList ds p := hA0
  rw [Tryd.params3] at hA hval
  obtain ⟨v0, v1, d0, d1, p0, p1, rfl, rfl, rfl, h0, h1⟩ := trodAll_two hA
  obtain ⟨rfl, rfl⟩ := trodVars_none hV0
  obtain ⟨s, rfl, rfl, rfl, ws⟩ := open_string Tryd.underlying9 (hval 0 9 v0 rfl rfl) h0
  obtain ⟨x, rfl, rfl, rfl, wx⟩ := open_int Tryd.underlying3 (hval 1 3 v1 rfl rfl) h1
  clear hA0 hV0 hval0
  have hk := of_decide_eq_true (hcond _ rfl)
  simp only [List.append_nil, Rows.uptoBulkAll, Rows.uptoBulk] at hk
  have hs : s.size ≤ 17592186044416 := by rw [← size_data]; omega
  refine (walk s x hs W (Laid.tabs hL)).mono ?_
  rintro e W' ⟨rfl, bel⟩
  have e1 : (spec.at F).fn H ([.lit (.string s.data.toList), .lit (.int .i64 x)] ++ []) = { results := [.lit (.bool true)], args := [.lit (.string s.data.toList), .lit (.int .i64 x)] } := rfl
  refine ⟨_, rfl, _, _, _, [], [], [], hW', ?_, ?_, ?_, bel.frame _, fun h => by cases h⟩
  · rw [e1]; exact trodAll_mk1 (shut_bool Tryd.underlying4 _)
  · rw [e1]; exact trodAll_mk2 (shut_string Tryd.underlying9 ws) (shut_int Tryd.underlying3 wx)
  · rw [e1]; rfl

theorem said : Rows.FoldRunesUptoSaid :=
  OpenClaim.holds_of_cond 3 Tryd.f3 rfl rfl rfl rfl rfl rfl rfl ⟨rfl, rfl, rfl, rfl, rfl⟩ rfl rfl rfl rfl rfl (by kernel_rfl) Tryd.func3 (by kernel_rfl)
    (of_decide_eq_true (by kernel_rfl)) (by unfold Func.isWrapper; rw [if_neg (of_decide_eq_false (by kernel_rfl))]; exact ⟨rfl, rfl⟩)
    (fun os started H enc _ F0 => by rw [OpenClaim.pre_eq_preRow]; exact lifted os started H enc F0)

theorem plain (f : FuncId) (fn : Func) (hf : Tryd.pinned.checked.prog.funcNamed "lectern/lecternlaw05.FoldRunes" = some f) (hfn : Tryd.pinned.checked.prog.funcs[f]? = some fn) :
    false = Tryd.pinned.checked.prog.looks [] ∧ ∀ (j : Nat) t, fn.params[j]? = some t → Tryd.pinned.checked.prog.wantsStandIn t = false := by
  obtain rfl : f = 3 := Option.some.inj ((show Tryd.prog.funcNamed "lectern/lecternlaw05.FoldRunes" = some 3 by kernel_rfl).symm.trans hf) |>.symm
  obtain rfl : fn = Tryd.f3 := (Option.some.inj (Tryd.func3.symm.trans hfn)).symm
  refine ⟨by kernel_rfl, fun j t ht => ?_⟩
  rw [Tryd.params3] at ht
  have hm := Array.mem_of_getElem? ht
  simp only [List.mem_toArray, List.mem_cons, List.mem_nil_iff, or_false] at hm
  rcases hm with rfl | rfl
  · exact (show Tryd.prog.wantsStandIn 9 = false by kernel_rfl)
  · exact (show Tryd.prog.wantsStandIn 3 = false by kernel_rfl)

theorem card : Rows.FoldRunesUptoCardSaid :=
  Claim7.holds_tied_plain_at .later [] _ _ _ _ said (fun _ h => by cases h) (by kernel_rfl) (fun _ h => by cases h) foldRunesUpto_row_tie rfl ⟨rfl, rfl⟩ (by kernel_rfl) rfl plain (by kernel_rfl)

end Go.Proofs.YtgbphkckiekehaaDoor.runesLaw
namespace Go.Proofs.YtgbphkckiekehaaDoor
theorem foldRunesUpto_holds : Rows.FoldRunesUptoCardSaid := runesLaw.card
end Go.Proofs.YtgbphkckiekehaaDoor
