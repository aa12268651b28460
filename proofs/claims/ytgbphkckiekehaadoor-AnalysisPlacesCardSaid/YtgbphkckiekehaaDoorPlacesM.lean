/- For every chain and every text: the answer that Run gives names tokens that come from places of the text, in its order; behind a single tokenizer they are the text's own bytes, numbered from 0; a refusal names none. Condition: the two tables of unicode/utf8 read as the program's text lays them (the card ties them). -/
import Derived.Test.YtgbphkckiekehaaDoorBL
import Derived.Test.YtgbphkckiekehaaDoorBG
import Derived.Carry
import Derived.ChangeSlices
import Derived.Deep.QuietTactic
import Derived.BigQuiet
set_option linter.unusedVariables false
set_option linter.unusedSimpArgs false
namespace Go.Proofs.YtgbphkckiekehaaDoor.Ana
open Go.RowKit Go.Shelf Go.Proofs.YtgbphkckiekehaaDoor.QOut Go.Proofs.YtgbphkckiekehaaDoor.FoldRef Go.Proofs.YtgbphkckiekehaaDoorW.PrintWords
open Go.ChangeShapes Go.WideShapes
theorem laidOut : laidOutB Tryd.prog = true := by kernel_rfl
theorem open_chain {H : Type} {enc : TypeId × Value → H} {W : World} {held : Bool} {a : Option Addr} {len cap : Nat} {d : DataW H} {ps : List MemPlace}
    (h : DataW.Trod enc Tryd.prog W 0 (fun _ => true) held 25 (.slice a len cap) d ps) :
    ∃ zs : List Int, zs.length = len ∧ len ≤ cap ∧ Kd.C (Kd.int .i64) W a len zs := by
  obtain ⟨fuel, hf⟩ := h
  rcases open_ints Tryd.underlying25 Tryd.underlying3 (by kernel_rfl) hf with ⟨hcs, _⟩ | ⟨x, l, c, zs, hcs, _, hl, hm, hz, _, hcell, hwz⟩
  · simp [Value.cells] at hcs
    obtain ⟨rfl, rfl, rfl⟩ := hcs
    exact ⟨[], rfl, Nat.le_refl _, rfl, by omega, fun h => by omega⟩
  · simp [Value.cells] at hcs
    obtain ⟨rfl, rfl, rfl⟩ := hcs
    have hz' : zs.length = cap := by simpa using hz
    have hml : cap ≤ 9223372036854775807 := by unfold maxLen at hm; omega
    have ht : ∀ j, j < len → (zs.take len).getD j 0 = zs.getD j 0 := fun j hj => by simp [List.getD_eq_getElem?_getD, hj]
    have hro : ReadsOf (Value.int .i64) (0 : Int) W (some x) len (zs.take len) := by
      refine ⟨by rw [List.length_take]; omega, by omega, fun _ => ⟨x, rfl, fun j hj => ?_⟩⟩
      rw [ht j hj]; exact hcell j (by omega)
    exact ⟨zs.take len, by rw [List.length_take]; omega, by omega, Kd.C_of_reads hro⟩
end Go.Proofs.YtgbphkckiekehaaDoor.Ana

set_option linter.unusedVariables false
set_option linter.unusedSimpArgs false
namespace Go.Proofs.YtgbphkckiekehaaDoor.placesLaw
open Go.RowKit Go.Shelf Go.Proofs.YtgbphkckiekehaaDoor.QOut Go.Proofs.YtgbphkckiekehaaDoorW.PrintWords Go.Proofs.YtgbphkckiekehaaDoorW.PrintLast Go.Proofs.FoldPlain Go.Proofs.FoldText Go.Proofs.YtgbphkckiekehaaDoor.FoldRef Go.Proofs.YtgbphkckiekehaaDoor.FoldW Go.Proofs.YtgbphkckiekehaaDoor.FoldF Go.Proofs.YtgbphkckiekehaaDoor.FoldP Go.Proofs.YtgbphkckiekehaaDoor.Ana

set_option maxRecDepth 100000 in
set_option maxHeartbeats 4000000 in
theorem walk (xs : List Int) (A : Option Addr) (cap : Nat) (s : ByteArray) (hcap : xs.length ≤ cap) (hss : s.size ≤ 140737488351232) (w : World) (ht : Tabs w) (hC : Kd.C (Kd.int .i64) w A xs.length xs) :
    Calls Tryd.prog 11 #[.slice A xs.length cap, .string s] w fun e w' => e = .returned (.bool true) ∧ Below w.heap.size w w' := by
  have hu58 := Tryd.underlying58
  have hru := fun W (h : Below w.heap.size w W) => run_c xs A cap hcap s (by omega) W (ht.step h) (Kd.C_below hC h)
  have hno := runD_no xs s
  have hpl := runD_places xs s
  have HT := Aside0.mk ht
  have hlx := hC.2.1
  clear ht hC
  generalize hlen : xs.length = nx at *
  generalize runD xs s = R at hru hno hpl
  obtain ⟨ts, ee⟩ := R
  dsimp only at hru hno hpl
  by_cases he : ee = 0
  · obtain ⟨hp1, hp2, hp3, hp4⟩ := hpl he
    subst he
    have HP1 := Aside0.mk hp1
    have HP2 := Aside0.mk hp2
    have HP4 := Aside0.mk hp4
    have HRU := Aside0.mk hru
    have hl4 : (ts.length : Int) ≤ 4096 := by omega
    clear hno hpl hp1 hp2 hp4 hlen hru
    go_enter Tryd.func11, Tryd.ntmps11
    go_wp2_with (first
      | (go_at_call 44; refine (known6_c _ HT.out).mono ?_; rintro e w1 ⟨rfl, hb1⟩; have hru := HRU.out w1 hb1)
      | (go_at_call 39; refine hru.mono ?_; clear hru; rintro e w2 ⟨⟨v, rfl, hr⟩, hb2⟩; obtain ⟨A2, c2, rfl, hc2, hC2⟩ := Kd.R_reads hr; have HC2 := Aside0.mk hC2; have HB2 := Aside0.mk (below_step hb1 hb2); clear hr hC2 hb1 hb2))
    go_loopw [7] (fun vi wr => ∃ k : Nat, k ≤ ts.length ∧ vi = .int .i64 k ∧ Hid (Below w2.heap.size w2 wr))
      (fun vi _ => ts.length - (intOf vi).toNat)
    case atStart => exact ⟨0, Nat.zero_le _, rfl, Lib.hid (Below.refl _ _)⟩
    case round =>
      obtain ⟨k, hk, rfl, hB⟩ := hrel
      by_cases hlt : k < ts.length
      · have hCk := Kd.C_below HC2.out hB.out
        have hlt' : (k : Int) < (ts.length : Int) := by omega
        obtain ⟨ad, rfl, c0, c1, c2, c3⟩ := at_T58 hCk (k : Int) (by omega) hlt'
        simp only [Int.toNat_natCast] at c0 c1 c2 c3
        obtain ⟨h1, h2, h3⟩ := HP1.out (rd_T58 ts (k : Int)) (by rw [rdT_get ts k hlt]; exact List.getElem_mem hlt)
        have H4 := Aside0.mk (fun (e : nx = 1) => (show (rd_T58 ts (k : Int)).f0 = s.extract (rd_T58 ts (k : Int)).f2.toNat (rd_T58 ts (k : Int)).f3.toNat ∧ (rd_T58 ts (k : Int)).f1 = (k : Int) by
          obtain ⟨x1, x2⟩ := HP4.out e
          rw [rdT_get ts k hlt]
          exact ⟨(x1 _ (List.getElem_mem hlt)).2.2.2, x2 k hlt⟩))
        have b1 : decide ((rd_T58 ts (k : Int)).f2 < 0) = false := decide_eq_false (by omega)
        have b2 : decide ((rd_T58 ts (k : Int)).f3 ≤ (rd_T58 ts (k : Int)).f2) = false := decide_eq_false (by omega)
        have b3 : decide ((s.size : Int) < (rd_T58 ts (k : Int)).f3) = false := decide_eq_false (by omega)
        have h2' : (rd_T58 ts (k : Int)).f2 ≤ (rd_T58 ts (k : Int)).f3 := by omega
        have h0' : 0 ≤ (rd_T58 ts (k : Int)).f3 := by omega
        cases k with
        | zero =>
          have had : ad.add (0 * 4) = ad := by rw [Nat.zero_mul]; unfold Addr.add; rw [if_pos rfl]
          rw [had] at c0 c1 c2 c3
          have hlt0 : (0 : Int) < (ts.length : Int) := by omega
          clear had hlt'
          rw [show ((0 : Nat) : Int) = 0 from rfl] at *
          generalize rd_T58 ts 0 = t at c0 c1 c2 c3 b1 b2 b3 h1 h2 h3 h2' h0' H4
          clear hCk
          have bi : decide ((0 : Int) < 0) = false := rfl
          by_cases hn : nx = 1
          · subst hn
            obtain ⟨t0, t1, t2, t3⟩ := t
            obtain ⟨e0, e1⟩ := H4.out rfl
            dsimp only at e0 e1 c0 c1 c2 c3 b1 b2 b3 h1 h2 h3 h2' h0'
            subst e0
            subst e1
            clear H4 h2
            go_wp2
            go_quiet (fail)
            go_wp2
            go_quiet (fail)
            go_wp2
            go_roundw
            case rel => exact ⟨1, by omega, rfl, Lib.hid (pw_below_drewN hB.out _)⟩
            case measure => simp [intOf]; omega
          · have hn1 : ((nx : Int) == 1) = false := beq_eq_false_iff_ne.2 (by omega)
            clear h1 h2 h3 H4
            go_wp2
            go_quiet (fail)
            go_wp2
            go_quiet (fail)
            go_wp2
            go_roundw
            case rel => exact ⟨1, by omega, rfl, Lib.hid (pw_below_drewN hB.out _)⟩
            case measure => simp [intOf]; omega
        | succ j =>
          have hltj : (j : Int) < (ts.length : Int) := by omega
          have ecast : ((j + 1 : Nat) : Int) = (j : Int) + 1 := by omega
          have hord := HP2.out
          unfold Asc at hord
          rw [List.pairwise_iff_getElem] at hord
          obtain ⟨o1, o2⟩ := hord j (j + 1) (by omega) hlt (by omega)
          obtain ⟨ad2, had2, d0, d1, d2, d3⟩ := at_T58 hCk (j : Int) (by omega) hltj
          injection had2 with had2
          subst had2
          simp only [Int.toNat_natCast] at d0 d1 d2 d3
          rw [← rdT_get ts j (by omega), ← rdT_get ts (j + 1) hlt] at o1 o2
          have bi : decide ((0 : Int) < (j : Int) + 1) = true := decide_eq_true (by omega)
          have i1 : (j : Int) + 1 < (ts.length : Int) := by omega
          have i2 : (0 : Int) ≤ (j : Int) + 1 := by omega
          have i3 : (0 : Int) ≤ (j : Int) := by omega
          have i4 : ((j : Int) + 1).toNat = j + 1 := by omega
          have w_1 : IntKind.i64.wrap ((j : Int) + 1 - 1) = (j : Int) := by rw [show (j : Int) + 1 - 1 = (j : Int) by omega]; exact wrap_small _ (by omega) (by omega)
          have w_2 : IntKind.i64.wrap (j : Int) = (j : Int) := wrap_small _ (by omega) (by omega)
          rw [ecast] at c0 c1 c2 c3 b1 b2 b3 h1 h2 h3 h2' h0' H4 o1 o2
          rw [ecast]
          clear hCk hlt' ecast hord
          generalize rd_T58 ts ((j : Int) + 1) = t at c0 c1 c2 c3 b1 b2 b3 h1 h2 h3 h2' h0' H4 o1 o2
          generalize rd_T58 ts (j : Int) = u at d0 d1 d2 d3 o1 o2
          have b4 : decide (t.f1 < u.f1) = false := decide_eq_false (by omega)
          have b5 : decide (t.f2 < u.f2) = false := decide_eq_false (by omega)
          clear o1 o2 d0 d3
          by_cases hn : nx = 1
          · subst hn
            obtain ⟨t0, t1, t2, t3⟩ := t
            obtain ⟨e0, e1⟩ := H4.out rfl
            dsimp only at e0 e1 c0 c1 c2 c3 b1 b2 b3 h1 h2 h3 h2' h0' b4 b5
            subst e0
            subst e1
            clear H4 h2
            go_wp2
            go_quiet (fail)
            go_wp2
            go_quiet (fail)
            go_wp2
            go_roundw
            case rel => exact ⟨j + 1 + 1, by omega, by go_num, Lib.hid (pw_below_drewN hB.out _)⟩
            case measure => simp [intOf]; omega
          · have hn1 : ((nx : Int) == 1) = false := beq_eq_false_iff_ne.2 (by omega)
            clear h1 h2 h3 H4
            go_wp2
            go_quiet (fail)
            go_wp2
            go_quiet (fail)
            go_wp2
            go_roundw
            case rel => exact ⟨j + 1 + 1, by omega, by go_num, Lib.hid (pw_below_drewN hB.out _)⟩
            case measure => simp [intOf]; omega
      · obtain rfl : k = ts.length := by omega
        have hlt' : ¬ ((ts.length : Nat) : Int) < (ts.length : Int) := by omega
        have hl5 : decide ((ts.length : Int) ≤ 4096) = true := decide_eq_true hl4
        go_wp2
        go_ret
        exact ⟨rfl, below_step HB2.out hB.out⟩
  · have hz := hno he
    subst hz
    have he1 : (ee == 0) = false := beq_eq_false_iff_ne.2 he
    have he2 : (ee != 0) = true := bne_iff_ne.2 he
    have HRU := Aside0.mk hru
    clear hno hpl hru
    go_enter Tryd.func11, Tryd.ntmps11
    go_wp2_with (first
      | (go_at_call 44; refine (known6_c _ HT.out).mono ?_; rintro e w1 ⟨rfl, hb1⟩; have hru := HRU.out w1 hb1)
      | (go_at_call 39; refine hru.mono ?_; clear hru; rintro e w2 ⟨⟨v, rfl, hr⟩, hb2⟩; obtain ⟨A2, c2, rfl, hc2, hC2⟩ := Kd.R_reads hr; have HB2 := Aside0.mk (below_step hb1 hb2); clear hr hC2 hb1 hb2))
    go_ret
    exact ⟨rfl, HB2.out⟩
end Go.Proofs.YtgbphkckiekehaaDoor.placesLaw

set_option linter.unusedVariables false
set_option linter.unusedSimpArgs false
namespace Go.Proofs.YtgbphkckiekehaaDoor.placesLaw
open Go.RowKit Go.Shelf Go.Proofs.YtgbphkckiekehaaDoor.FoldRef Go.Proofs.YtgbphkckiekehaaDoorW.PrintWords Go.Proofs.YtgbphkckiekehaaDoor.Ana
open Go.ChangeShapes Go.WideShapes
open Go.ChangeShapes Go.WideShapes Go.ChangeAt Go.Lib
open Go.ChangeMaps (open_string shut_string)
abbrev spec : OpenSpec := OpenSpec.ofChange Rows.analysisPlacesSpec
theorem witness (os : Os) {H : Type} (enc : TypeId × Value → H) :
    spec.preRow enc Tryd.prog Tryd.f11 Rows.analysisPlacesRow.domain false Rows.analysisPlacesRow.laid ((Laid.laidWorld os).forCall (fun _ _ => 0) ⟨#[], #[.slice none 0 0, .string ⟨#[]⟩], []⟩).memory #[.slice none 0 0, .string ⟨#[]⟩] := by
  have hw : (DataW.whole enc Tryd.prog ((Laid.laidWorld os).forCall (fun _ _ => 0) ⟨#[], #[.slice none 0 0, .string ⟨#[]⟩], []⟩).memory Tryd.f11.params.toList spec.vars false #[Value.slice none 0 0, Value.string ⟨#[]⟩].toList 8).map (fun x => (x.1, x.2.1)) =
      some ([.nil, .lit (.string [])], []) := by kernel_rfl
  obtain ⟨⟨x1, x2, x3⟩, hx, hx1⟩ := Option.map_eq_some_iff.1 hw
  simp only [Prod.mk.injEq] at hx1
  obtain ⟨rfl, rfl⟩ := hx1
  exact OpenSpec.preRow_of_cond 8 hx (by kernel_rfl) (fun k hk => by cases hk) (by kernel_rfl) (Laid.laid_met os _)
set_option maxRecDepth 100000 in
set_option maxHeartbeats 2000000 in
theorem lifted (os : Os) (started : os.Started) (H : Type) (enc : TypeId × Value → H) (F : Stop.Interp) :
    ReturnsInHanded {} Tryd.checked os 11 .any (spec.preRow enc Tryd.prog Tryd.f11 Rows.analysisPlacesRow.domain false Rows.analysisPlacesRow.laid) ((spec.at F).post enc Tryd.prog Tryd.f11 false true false false) := by
  refine returnsInHanded_of_row (C := Tryd.checked) (s := spec) Laid.own started (by kernel_rfl) Tryd.func11
    (witness_row_atRef (enc := enc) (C := Tryd.checked) false (Laid.laidWorld os) #[.slice none 0 0, .string ⟨#[]⟩] rfl (by kernel_rfl) (by kernel_rfl) (by kernel_rfl) (witness os enc)) ?_
  intro W base args ds gs before hval0 hW _ hcond hsz0 hL _ _
  have hval : ∀ (j : Nat) t v, Tryd.f11.params[j]? = some t → args[j]? = some v → Value.okWide Tryd.prog W .any base t v := hval0
  have hsz : (DataW.weightsEach Tryd.prog (Tryd.f11.params.toList ++ spec.bare.plain.varTypes Tryd.prog) (ds ++ gs)).all (· ≤ reachBytes) = true := hsz0
  have hW' := hW
  obtain ⟨p, q, hA0, hV0, rfl, _, _⟩ := hW
  have hA : DataW.TrodAll enc Tryd.prog W 0 (fun _ => true) true Tryd.f11.params.toList args.toList ds p := hA0
  rw [Tryd.params11] at hA hval hsz
  obtain ⟨v0, vs0, d0, ds0, p0, q0, hargs, rfl, rfl, h0, r0⟩ := trodAll_cons hA
  obtain ⟨v1, vs1, d1, ds1, p1, q1, rfl, rfl, rfl, h1, r1⟩ := trodAll_cons r0
  obtain ⟨rfl, rfl, rfl⟩ := trodAll_nil r1
  obtain rfl : args = #[v0, v1] := by cases args; simp_all
  obtain ⟨rfl, rfl⟩ := trodVars_none hV0
  obtain ⟨a0, len0, cap0, rfl⟩ := okWide_slice Tryd.underlying25 (hval 0 25 v0 rfl rfl)
  have k0 := h0
  have lt0 : ∀ x ∈ p0, x.block < W.heap.size := by obtain ⟨m, hm⟩ := k0; exact DataW.trod_lt m _ _ _ hm
  obtain ⟨z0, rfl, x0, g0⟩ := open_chain h0
  obtain ⟨a1, rfl, rfl, rfl, w1⟩ := open_string Tryd.underlying9 (hval 1 9 v1 rfl rfl) h1
  have b1 : a1.data.toList.length ≤ reachBytes := sized_string hsz (j := 1) rfl rfl
  rw [size_data] at b1
  clear hA0 hV0 hval0 hsz0
  refine (walk z0 a0 cap0 a1 x0 b1 W (Laid.tabs hL) g0).mono ?_
  rintro e W' ⟨rfl, bel⟩
  have e1 : (spec.at F).fn H ([d0, .lit (.string a1.data.toList)] ++ []) = { results := [.lit (.bool true)], args := [d0, .lit (.string a1.data.toList)] } := rfl
  refine ⟨_, rfl, _, _, _, [], (p0 ++ ([] ++ [])), [], hW', ?_, ?_, ?_, bel.frame _, fun h => by cases h⟩
  · rw [e1]; exact trodAll_mk1 (shut_bool Tryd.underlying4 _)
  · rw [e1]; exact (trodAll_cons_mk (Below.trod laidOut (by kernel_rfl) (of_decide_eq_true (by kernel_rfl)) k0 bel lt0) (trodAll_cons_mk (shut_string Tryd.underlying9 w1) trodAll_mk0))
  · rw [e1]; rfl
theorem said : Rows.AnalysisPlacesSaid :=
  OpenClaim.holds_of_cond 11 Tryd.f11 rfl rfl rfl rfl rfl rfl rfl ⟨rfl, rfl, rfl, rfl, rfl⟩ rfl rfl rfl rfl rfl (by kernel_rfl) Tryd.func11 (by kernel_rfl)
    (of_decide_eq_true (by kernel_rfl)) (by unfold Func.isWrapper; rw [if_neg (of_decide_eq_false (by kernel_rfl))]; exact ⟨rfl, rfl⟩)
    (fun os started H enc _ F0 => by rw [OpenClaim.pre_eq_preRow]; exact lifted os started H enc F0)
theorem plain (f : FuncId) (fn : Func) (hf : Tryd.pinned.checked.prog.funcNamed "lectern/lecternlaw06.AnalysisPlaces" = some f) (hfn : Tryd.pinned.checked.prog.funcs[f]? = some fn) :
    false = Tryd.pinned.checked.prog.looks [] ∧ ∀ (j : Nat) t, fn.params[j]? = some t → Tryd.pinned.checked.prog.wantsStandIn t = false := by
  obtain rfl : f = 11 := Option.some.inj ((show Tryd.prog.funcNamed "lectern/lecternlaw06.AnalysisPlaces" = some 11 by kernel_rfl).symm.trans hf) |>.symm
  obtain rfl : fn = Tryd.f11 := (Option.some.inj (Tryd.func11.symm.trans hfn)).symm
  refine ⟨by kernel_rfl, fun j t ht => ?_⟩
  rw [Tryd.params11] at ht
  have hm := Array.mem_of_getElem? ht
  simp only [List.mem_toArray, List.mem_cons, List.mem_nil_iff, or_false] at hm
  rcases hm with rfl | rfl
  · exact (show Tryd.prog.wantsStandIn 25 = false by kernel_rfl)
  · exact (show Tryd.prog.wantsStandIn 9 = false by kernel_rfl)
theorem card : Rows.AnalysisPlacesCardSaid :=
  Claim7.holds_tied_plain_at .later [] _ _ _ _ said (fun _ h => by cases h) (by kernel_rfl) (fun _ h => by cases h) analysisPlaces_row_tie rfl ⟨rfl, rfl⟩ (by kernel_rfl) rfl plain (by kernel_rfl)

end Go.Proofs.YtgbphkckiekehaaDoor.placesLaw
namespace Go.Proofs.YtgbphkckiekehaaDoor
theorem analysisPlaces_holds : Rows.AnalysisPlacesCardSaid := placesLaw.card
end Go.Proofs.YtgbphkckiekehaaDoor
