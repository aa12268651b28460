/- Law FoldEarly walked. -/
import Derived.Test.YtgbphkckiekehaaDoorFoldKnown
import Derived.Maps.AppendAt
import Derived.RangeFuncBox
set_option linter.unusedVariables false
set_option linter.unusedSimpArgs false
namespace Go.Proofs.YtgbphkckiekehaaDoor.earlyLaw
open Go.RowKit Go.Shelf Go.Proofs.YtgbphkckiekehaaDoor.QFold Go.Proofs.YtgbphkckiekehaaDoorW.PrintWords Go.Proofs.FoldPlain Go.Proofs.FoldText Go.Proofs.YtgbphkckiekehaaDoor.FoldRef Go.Proofs.YtgbphkckiekehaaDoor.Seq Go.Proofs.YtgbphkckiekehaaDoor.FoldW Go.Proofs.YtgbphkckiekehaaDoor.FoldF Go.Proofs.YtgbphkckiekehaaDoor.FoldK
attribute [local go_sem] Oper.semAt_some

theorem infoInt : (Tryd.prog.info? 3).map (fun i => (i.zero, i.size, i.bytes)) = some (some (.int .i64 0), 1, 8) := by kernel_rfl
theorem nums_snoc (k : IntKind) (pre : List (Nat × Nat)) (x : Nat × Nat) : nums k (placesZ (pre ++ [x])) = nums k (placesZ pre) ++ [.int k x.1] := by simp [nums, placesZ]
theorem nums_len (k : IntKind) (pre : List (Nat × Nat)) : (nums k (placesZ pre)).length = pre.length := by simp [nums, placesZ]
theorem holds_own {β : Type} (n₀ B : Nat) (k : β → Nat) (f : β → List Value) : Own (fun (s : β) W => ∃ v, Boxed W B 25 v ∧ W.ownsRow n₀ 3 1 v (k s) (f s)) := fun s X Y row hs hg hr => by
  obtain ⟨v, hb, ho⟩ := hs
  obtain ⟨v', h1, h2, _⟩ := holdsRow_own n₀ B 25 3 1 k f (fun _ _ => True) s X Y row ⟨v, hb, ho, trivial⟩ hg hr
  exact ⟨v', h1, h2⟩
theorem placesZ_take {rs pf pre rest : List (Nat × Nat)} {x : Nat × Nat} (hp : pf <+: rs) (h : rs = pre ++ x :: rest) (hl : pre.length < pf.length) : (placesZ pf).getD pre.length 0 = (x.1 : Int) := by
  obtain ⟨t, ht⟩ := hp
  have : pf[pre.length]? = some x := by
    have h1 : rs[pre.length]? = some x := by rw [h]; simp
    rw [← ht, List.getElem?_append_left hl] at h1
    exact h1
  simp [placesZ, List.getD_eq_getElem?_getD, this]

theorem kp_low {Bs B : Nat} {A C : World} (h : Below B A C) (h2 : 2 ≤ B) (hs : Bs < B) : KpB Bs A C := ⟨h.size, fun b hb _ => h.block b (by omega)⟩
theorem boxed_low {B b : Nat} {t : TypeId} {v : Value} {W W' : World} (h : Boxed W b t v) (hb : Below B W W') (hl : b < B) : Boxed W' b t v := (hb.block b hl).trans h
theorem own_slice {W : World} {base e size n : Nat} {v : Value} {xs : List Value} (h : W.ownsRow base e size v n xs) : ∃ A c, v = .slice A n c := by
  rcases h.2 with ⟨rfl, h0⟩ | ⟨g, cap, cur, rfl, _⟩
  · exact ⟨none, 0, by rw [h0]⟩
  · exact ⟨_, _, rfl⟩

set_option maxRecDepth 100000 in
set_option maxHeartbeats 4000000 in
theorem walk (s : ByteArray) (take : Int) (hs : s.size ≤ 17592186044416) (w : World) (ht : Tabs w) :
    Calls Tryd.prog 5 #[.string s, .int .i64 take] w fun e w' => e = .returned (.bool true) ∧ Below w.heap.size w w' := by
  have h2 := ht.size
  have hs' : s.size ≤ 140737488355328 := by omega
  obtain ⟨i0, hi, iz0, iz1, iz2⟩ := info_parts infoInt
  refine (callsIn_wide (n := 20)).1 ?_
  refine callsIn_of_wp_marks Tryd.func5 rfl trivial ?_ rfl
  simp only [Tryd.ntmps5, List.size_toArray, List.length_cons, List.length_nil, Nat.reduceAdd, Nat.reduceSub, Array.replicate_succ, Array.replicate_zero, List.push_toArray, List.append_toArray, List.nil_append, List.cons_append]
  obtain ⟨wr, hwr⟩ : ∃ wr, wr = (w.alloc (.cells #[.int .i64 take] 3)).alloc (.cells #[.bool false] 4) := ⟨_, rfl⟩
  have hBw : Below w.heap.size w wr := by rw [hwr]; exact below_alloc (below_alloc (Below.refl _ _) _) _
  have hzr : wr.heap.size = w.heap.size + 2 := by rw [hwr, World.size_alloc, World.size_alloc]
  have hBt0 : Boxed wr w.heap.size 3 (.int .i64 take) := by rw [hwr]; exact (Boxed.new _ _ _).alloc _
  have hBr0 : Boxed wr (w.heap.size + 1) 4 (.bool false) := by
    have := Boxed.new (w.alloc (.cells #[.int .i64 take] 3)) 4 (.bool false)
    rw [World.size_alloc] at this; rw [hwr]; exact this
  have HT : Aside0 (Tabs wr) := Aside0.mk (ht.step hBw)
  have HZ := Aside0.mk hwr
  clear hwr ht
  gi_wp2_with (fail)
  rw [← HZ.out]
  gi_wp2_with (first
    | (refine ⟨trivial, ?_⟩; gi_at_call 23; refine (callsIn_wide.2 (known_c _ HT.out)).mono ?_; rintro e w1 ⟨rfl, hb⟩)
    | (refine ⟨trivial, ?_⟩; gi_at_call 20; refine (callsIn_wide.2 (runes_c s _)).mono ?_; rintro e w2 ⟨rfl, rfl⟩))
  have hz1 : wr.heap.size ≤ w1.heap.size := hb.size
  obtain ⟨W0, hW0⟩ : ∃ W0, (w1.alloc (.cells #[.string s] 9)).alloc (.cells #[.slice none 0 0] 25) = W0 := ⟨_, rfl⟩
  rw [hW0]
  have hb1 : Below w1.heap.size w1 W0 := by rw [← hW0]; exact below_alloc (below_alloc (Below.refl _ _) _) _
  have hsz : W0.heap.size = w1.heap.size + 2 := by rw [← hW0]; simp
  have bt : Boxed W0 w.heap.size 3 (.int .i64 take) := boxed_below (boxed_below hBt0 hb) hb1
  have br : Boxed W0 (w.heap.size + 1) 4 (.bool false) := boxed_below (boxed_below hBr0 hb) hb1
  have bS : Boxed W0 w1.heap.size 9 (.string s) := by rw [← hW0]; exact (Boxed.new _ _ _).alloc _
  have bF : Boxed W0 (w1.heap.size + 1) 25 (.slice none 0 0) := by
    have := Boxed.new (w1.alloc (.cells #[.string s] 9)) 25 (.slice none 0 0)
    rw [World.size_alloc, hW0] at this; exact this
  have hT0 : Tabs W0 := (HT.out.step hb).step hb1
  have hBW : Below w.heap.size w W0 := below_step (below_step hBw hb) hb1
  have hrl := runes_length s.data.toList
  rw [size_data] at hrl
  clear hW0 hb1 hb HT HZ hBt0 hBr0 hBw
  refine range_known (F := Fence.wide) (n := 20) (xs := runes s.data.toList) rfl (by omega) (gf := 49) (lb := #[.pointer (some ⟨w1.heap.size, 0, none⟩)]) rfl trivial (enters_of Tryd.func49 (by kernel_rfl) rfl)
    (runes_seq 19 (by omega) w1.heap.size s hs' W0 bS.cell hT0) (fun h k => KpB.trans h k) (KpB.putObj (by omega) (by omega)) (Below.refl _ _) (fun _ => rfl)
    (fun pre W => (∃ v, Boxed W (w1.heap.size + 1) 25 v ∧ W.ownsRow (w1.heap.size + 1) 3 1 v pre.length (nums .i64 (placesZ pre))) ∧ Below (w1.heap.size + 1) W0 W)
    (fun c pre W => (∃ v, Boxed W (w1.heap.size + 1) 25 v ∧ W.ownsRow (w1.heap.size + 1) 3 1 v (pre.length - 1) (nums .i64 (placesZ pre.dropLast)) ∧ c = .exit 0) ∧ Below (w1.heap.size + 1) W0 W)
    ?hI ?hIx ⟨⟨_, bF, World.ownsRow_nil _ _ _ _⟩, Below.refl _ _⟩ ?a1 ?assign ?body ?done ?stop
  case hI =>
    exact OwnFrom.and (Own.from (holds_own _ _ _ _) _) (ownFrom_below (by omega) (by omega))
  case hIx =>
    intro c
    refine OwnFrom.and (Own.from (fun q X Y row hs hg hr => ?_) _) (ownFrom_below (by omega) (by omega))
    obtain ⟨v, h1, h2, h3⟩ := hs
    obtain ⟨v', h1', h2'⟩ := holds_own (w1.heap.size + 1) (w1.heap.size + 1) (fun pre : List (Nat × Nat) => pre.length - 1) (fun pre => nums .i64 (placesZ pre.dropLast)) q X Y row ⟨v, h1, h2⟩ hg hr
    exact ⟨v', h1', h2', h3⟩
  case assign =>
    intro l x W K hK
    have HK := Aside0.mk hK
    clear hK
    unfold encR
    gi_wp2
    exact HK.out
  case body =>
    rintro l pre x rest W hxs ⟨⟨v, hv, hrow⟩, hB⟩
    have hlen : (runes s.data.toList).length = pre.length + 1 + rest.length := by rw [hxs]; simp; omega
    obtain ⟨A, cap, rfl⟩ := own_slice hrow
    have hc := hv.cell
    have kt := (boxed_low bt hB (by omega)).cell
    have kS := boxed_low bS hB (by omega)
    by_cases hge : take ≤ (pre.length : Int)
    · gi_wp2
      exact ⟨KeepsOthers.refl _, ⟨_, hv, by simpa using hrow, rfl⟩, hB⟩
    · gi_wp2_with (gi_at_builtin; refine wpListIn_append_own _ rfl _ _ 25 rfl (w1.heap.size + 1) 3 i0 (.int .i64 0) 1 8 Tryd.underlying25 hi iz0 iz1 iz2 rfl (by decide) _ _ _ rfl (hrow.alloc _) ⟨W.heap.size, 0, none⟩ 1 1 [.int .i64 x.1] rfl rfl (cell_one_new _ _ _) (by simp [Value.oneCell']) (by unfold maxLen; omega) (by omega) (by have := hB.size; simp; omega) ?_; intro v' w1' hown' hgrow _; obtain ⟨g', cap', rfl⟩ := ownsRow_succ hown'; obtain ⟨hv1, hv2, hr2, hk2, hb2⟩ := hv.appended (by decide) hrow (by have := hB.size; omega) (Nat.le_refl _) hown' hgrow; have hc1 := hv1.cell; have hf1 := hv1.frozen)
      refine ⟨hk2, ?_, ⟨_, hv2, ?_⟩, hB.trans hb2⟩
      · exact kp_low hb2 (by omega) (by omega)
      · rw [nums_snoc]; simpa using hr2
  case done =>
    rintro D W hD ⟨⟨v, hv, hrow⟩, hB⟩ hK
    obtain ⟨pf, hpf, hpv⟩ : ∃ pf, pf <+: runes s.data.toList ∧ W.ownsRow (w1.heap.size + 1) 3 1 v pf.length (nums .i64 (placesZ pf)) := ⟨_, List.prefix_refl _, hrow⟩
    clear hrow
    obtain ⟨A, cap, hvs, hR⟩ := Row.of_own hpv
    subst hvs
    have hpl : (placesZ pf).length = pf.length := by simp [placesZ]
    rw [hpl] at hv
    have hF := hv.cell
    have hzW : W0.heap.size ≤ W.heap.size := hB.size
    have hDl : D < W.heap.size := (Array.getElem?_eq_some_iff.1 hK).1
    have hr0 := boxed_low br hB (by omega)
    have hS0 := boxed_low bS hB (by omega)
    have hT1 : Tabs W := hT0.below hB (by omega)
    have hBW1 : Below w.heap.size w W := hBW.trans (hB.mono (by omega))
    clear hpv hB bF bt br bS hT0 hBW
    gi_wp2
    obtain ⟨W2, hW2⟩ : ∃ W2, W.alloc (.cells #[.int .i64 0] 3) = W2 := ⟨_, rfl⟩
    rw [hW2]
    have hb2 : Below W.heap.size W W2 := by rw [← hW2]; exact below_alloc (Below.refl _ _) _
    have hsz2 : W2.heap.size = W.heap.size + 1 := by rw [← hW2]; simp
    have e8 : Boxed W2 W.heap.size 3 (.int .i64 0) := by rw [← hW2]; exact Boxed.new _ _ _
    have eF := boxed_below hv hb2
    have er := boxed_below hr0 hb2
    have eS := boxed_below hS0 hb2
    have eR := hR.below hb2
    have eK : W2.heap[D]? = some (.deferred (some [])) := (hb2.block D hDl).trans hK
    have eT := hT1.step hb2
    have eB := below_step hBW1 hb2
    clear hW2 hv hr0 hS0 hR hK hT1 hBW1 hb2 hF
    refine range_known (F := Fence.wide) (n := 20) (xs := runes s.data.toList) rfl (by omega) (gf := 49) (lb := #[.pointer (some ⟨w1.heap.size, 0, none⟩)]) rfl trivial (enters_of Tryd.func49 (by kernel_rfl) rfl)
      (runes_seq 19 (by omega) w1.heap.size s hs' W2 eS.cell eT) (fun h k => KpB.trans h k) (KpB.putObj (by omega) (by omega)) (Below.refl _ _) (fun _ => rfl)
      (fun pre X => (Boxed X W.heap.size 3 (.int .i64 pre.length) ∧ Boxed X (w1.heap.size + 1) 25 (.slice A pf.length cap) ∧ Boxed X (w.heap.size + 1) 4 (.bool false) ∧ Row .i64 X (w1.heap.size + 1) W.heap.size A (placesZ pf)) ∧ X.heap[D]? = some (.deferred (some [])) ∧ Below w.heap.size w X)
      (fun _ _ _ => False)
      ?hI2a (fun _ _ _ _ _ hs _ _ => hs) ⟨⟨e8, eF, er, eR⟩, eK, eB⟩ ?a2a ?assign2a ?body2a ?done2a ?stop2a
    case hI2a =>
      refine OwnFrom.and (Own.from ?_ _) (OwnFrom.and ?_ (ownFrom_below (Nat.le_refl _) (by omega)))
      · exact fun q X Y row hs hg hr => ⟨boxed_own _ _ (fun pre : List (Nat × Nat) => .int .i64 pre.length) q X Y row hs.1 hg hr, boxed_own _ _ (fun _ : List (Nat × Nat) => .slice A pf.length cap) q X Y row hs.2.1 hg hr, boxed_own _ _ (fun _ : List (Nat × Nat) => .bool false) q X Y row hs.2.2.1 hg hr, Row.own _ _ _ _ _ q X Y row hs.2.2.2 hg hr⟩
      · exact fun q X Y row hs hg hr => (hg.block D (Array.getElem?_eq_some_iff.1 hs).1 (fun e => by have := (hr D e.symm).1; omega)).trans hs
    case assign2a =>
      intro l x W' K hK
      have HK := Aside0.mk hK
      clear hK
      unfold encR
      gi_wp2
      exact HK.out
    case body2a =>
      rintro l pre x rest X hxs ⟨⟨c8, cF, cr, cR⟩, cK, cB⟩
      have hlen : (runes s.data.toList).length = pre.length + 1 + rest.length := by rw [hxs]; simp; omega
      obtain ⟨X', hX'⟩ : ∃ X', X' = X.setCell ⟨W.heap.size, 0, none⟩ (.int .i64 ((pre ++ [x]).length : Int)) := ⟨_, rfl⟩
      have hk : Kept X X' (fun b => b = W.heap.size) := by rw [hX']; exact (Kept.refl X (fun b => b = W.heap.size)).setCell (p := ⟨W.heap.size, 0, none⟩) (.inl rfl) _
      have HI : Aside0 (KpB w1.heap.size X X' ∧ (Boxed X' W.heap.size 3 (.int .i64 ((pre ++ [x]).length : Int)) ∧ Boxed X' (w1.heap.size + 1) 25 (.slice A pf.length cap) ∧ Boxed X' (w.heap.size + 1) 4 (.bool false) ∧ Row .i64 X' (w1.heap.size + 1) W.heap.size A (placesZ pf)) ∧ X'.heap[D]? = some (.deferred (some [])) ∧ Below w.heap.size w X') := by
        refine ⟨KpB.of_kept hk (fun b hb => by omega), ⟨?_, ?_, ?_, cR.kept hk (fun b hb => by omega)⟩, ?_, ?_⟩
        · rw [hX']; exact c8.set _
        · rw [hX']; exact cF.other (by omega) _
        · rw [hX']; exact cr.other (by omega) _
        · rw [hX']; exact (KeepsOthers.setCell _ _ _).same D _ cK rfl
        · rw [hX']; exact cB.setCell (p := ⟨W.heap.size, 0, none⟩) (show w.heap.size ≤ W.heap.size by omega) _
      rw [hX'] at HI
      have d8 := c8.cell
      have f8 := c8.frozen
      have dF := cF.cell
      clear hX' hk c8 cF cr cK cB e8 eF er eS eR eK eT eB
      by_cases hi : pre.length < pf.length
      · obtain ⟨g, hA, hg1, hg2, hcell⟩ := cR pre.length (by omega)
        rw [placesZ_take hpf hxs hi] at hcell
        subst hA
        clear hxs cR hpl hpf
        gi_wp2
        rw [show ((pre.length : Int) + 1) = ((pre ++ [x]).length : Int) by simp]
        exact ⟨KeepsOthers.setCell _ _ _, HI.out⟩
      · clear hxs cR hpl hpf
        gi_wp2
        rw [show ((pre.length : Int) + 1) = ((pre ++ [x]).length : Int) by simp]
        exact ⟨KeepsOthers.setCell _ _ _, HI.out⟩
    case done2a =>
      rintro D2 X hD2 ⟨⟨c8, cF, cr, cR⟩, cK, cB⟩ hK2
      have hle : pf.length ≤ (runes s.data.toList).length := hpf.length_le
      have d8 := c8.cell
      have dF := cF.cell
      have dr := cr.cell
      have fr := cr.frozen
      generalize (runes s.data.toList).length = N at d8 hle
      clear c8 cF cr cR e8 eF er eS eR eK eT eB hpl hpf
      gi_wp2
      have hKa := (KeepsOthers.setCell X ⟨w.heap.size + 1, 0, none⟩ (.bool true)).same D2 _ hK2 rfl
      have hKb := (KeepsOthers.setCell X ⟨w.heap.size + 1, 0, none⟩ (.bool true)).same D _ cK rfl
      have hne : D ≠ D2 := by omega
      refine ⟨by simp, .inl ⟨_, _, rfl, run_takeDeferred hKa, ?_⟩⟩
      have hKc : ((X.setCell ⟨w.heap.size + 1, 0, none⟩ (.bool true)).putObj D2 (.deferred none)).heap[D]? = some (.deferred (some [])) := (World.putObj_heap_other hne).trans hKb
      refine ⟨by simp, .inl ⟨_, _, rfl, run_takeDeferred hKc, ?_⟩⟩
      have hca := Go.cell_kept (World.cell?_setCell_same' X ⟨w.heap.size + 1, 0, none⟩ (.bool true) (by rw [dr]; rfl)) (grownBy_putObj' _ D2 (.deferred none)) (fun r e => by cases e; exact ⟨_, hKa, rfl⟩)
      have hcb := Go.cell_kept hca (grownBy_putObj' _ D (.deferred none)) (fun r e => by cases e; exact ⟨_, hKc, rfl⟩)
      refine ⟨.bool true, ?_, rfl, ((cB.setCell (p := ⟨w.heap.size + 1, 0, none⟩) (show w.heap.size ≤ w.heap.size + 1 by omega) _).trans (belowK_b (w := w) (Nat.le_refl _) _ D2 _ _ (by omega) hKa rfl rfl)).trans (belowK_b (w := w) (Nat.le_refl _) _ D _ _ (by omega) hKc rfl rfl)⟩
      simp [results, Tryd.f5, go_sem, hcb]
    case stop2a =>
      rintro D' c' pre' W' _ _ h _
      exact h.elim
  case stop =>
    rintro D c pre W hD hpre ⟨⟨v, hv, hrow, rfl⟩, hB⟩ hK
    obtain ⟨pf, hpf, hpv⟩ : ∃ pf, pf <+: runes s.data.toList ∧ W.ownsRow (w1.heap.size + 1) 3 1 v pf.length (nums .i64 (placesZ pf)) := ⟨_, (List.dropLast_prefix pre).trans hpre, by simpa using hrow⟩
    clear hrow hpre
    obtain ⟨A, cap, hvs, hR⟩ := Row.of_own hpv
    subst hvs
    have hpl : (placesZ pf).length = pf.length := by simp [placesZ]
    rw [hpl] at hv
    have hF := hv.cell
    have hzW : W0.heap.size ≤ W.heap.size := hB.size
    have hDl : D < W.heap.size := (Array.getElem?_eq_some_iff.1 hK).1
    have hr0 := boxed_low br hB (by omega)
    have hS0 := boxed_low bS hB (by omega)
    have hT1 : Tabs W := hT0.below hB (by omega)
    have hBW1 : Below w.heap.size w W := hBW.trans (hB.mono (by omega))
    clear hpv hB bF bt br bS hT0 hBW
    gi_wp2
    obtain ⟨W2, hW2⟩ : ∃ W2, W.alloc (.cells #[.int .i64 0] 3) = W2 := ⟨_, rfl⟩
    rw [hW2]
    have hb2 : Below W.heap.size W W2 := by rw [← hW2]; exact below_alloc (Below.refl _ _) _
    have hsz2 : W2.heap.size = W.heap.size + 1 := by rw [← hW2]; simp
    have e8 : Boxed W2 W.heap.size 3 (.int .i64 0) := by rw [← hW2]; exact Boxed.new _ _ _
    have eF := boxed_below hv hb2
    have er := boxed_below hr0 hb2
    have eS := boxed_below hS0 hb2
    have eR := hR.below hb2
    have eK : W2.heap[D]? = some (.deferred (some [])) := (hb2.block D hDl).trans hK
    have eT := hT1.step hb2
    have eB := below_step hBW1 hb2
    clear hW2 hv hr0 hS0 hR hK hT1 hBW1 hb2 hF
    refine range_known (F := Fence.wide) (n := 20) (xs := runes s.data.toList) rfl (by omega) (gf := 49) (lb := #[.pointer (some ⟨w1.heap.size, 0, none⟩)]) rfl trivial (enters_of Tryd.func49 (by kernel_rfl) rfl)
      (runes_seq 19 (by omega) w1.heap.size s hs' W2 eS.cell eT) (fun h k => KpB.trans h k) (KpB.putObj (by omega) (by omega)) (Below.refl _ _) (fun _ => rfl)
      (fun pre X => (Boxed X W.heap.size 3 (.int .i64 pre.length) ∧ Boxed X (w1.heap.size + 1) 25 (.slice A pf.length cap) ∧ Boxed X (w.heap.size + 1) 4 (.bool false) ∧ Row .i64 X (w1.heap.size + 1) W.heap.size A (placesZ pf)) ∧ X.heap[D]? = some (.deferred (some [])) ∧ Below w.heap.size w X)
      (fun _ _ _ => False)
      ?hI2b (fun _ _ _ _ _ hs _ _ => hs) ⟨⟨e8, eF, er, eR⟩, eK, eB⟩ ?a2b ?assign2b ?body2b ?done2b ?stop2b
    case hI2b =>
      refine OwnFrom.and (Own.from ?_ _) (OwnFrom.and ?_ (ownFrom_below (Nat.le_refl _) (by omega)))
      · exact fun q X Y row hs hg hr => ⟨boxed_own _ _ (fun pre : List (Nat × Nat) => .int .i64 pre.length) q X Y row hs.1 hg hr, boxed_own _ _ (fun _ : List (Nat × Nat) => .slice A pf.length cap) q X Y row hs.2.1 hg hr, boxed_own _ _ (fun _ : List (Nat × Nat) => .bool false) q X Y row hs.2.2.1 hg hr, Row.own _ _ _ _ _ q X Y row hs.2.2.2 hg hr⟩
      · exact fun q X Y row hs hg hr => (hg.block D (Array.getElem?_eq_some_iff.1 hs).1 (fun e => by have := (hr D e.symm).1; omega)).trans hs
    case assign2b =>
      intro l x W' K hK
      have HK := Aside0.mk hK
      clear hK
      unfold encR
      gi_wp2
      exact HK.out
    case body2b =>
      rintro l pre x rest X hxs ⟨⟨c8, cF, cr, cR⟩, cK, cB⟩
      have hlen : (runes s.data.toList).length = pre.length + 1 + rest.length := by rw [hxs]; simp; omega
      obtain ⟨X', hX'⟩ : ∃ X', X' = X.setCell ⟨W.heap.size, 0, none⟩ (.int .i64 ((pre ++ [x]).length : Int)) := ⟨_, rfl⟩
      have hk : Kept X X' (fun b => b = W.heap.size) := by rw [hX']; exact (Kept.refl X (fun b => b = W.heap.size)).setCell (p := ⟨W.heap.size, 0, none⟩) (.inl rfl) _
      have HI : Aside0 (KpB w1.heap.size X X' ∧ (Boxed X' W.heap.size 3 (.int .i64 ((pre ++ [x]).length : Int)) ∧ Boxed X' (w1.heap.size + 1) 25 (.slice A pf.length cap) ∧ Boxed X' (w.heap.size + 1) 4 (.bool false) ∧ Row .i64 X' (w1.heap.size + 1) W.heap.size A (placesZ pf)) ∧ X'.heap[D]? = some (.deferred (some [])) ∧ Below w.heap.size w X') := by
        refine ⟨KpB.of_kept hk (fun b hb => by omega), ⟨?_, ?_, ?_, cR.kept hk (fun b hb => by omega)⟩, ?_, ?_⟩
        · rw [hX']; exact c8.set _
        · rw [hX']; exact cF.other (by omega) _
        · rw [hX']; exact cr.other (by omega) _
        · rw [hX']; exact (KeepsOthers.setCell _ _ _).same D _ cK rfl
        · rw [hX']; exact cB.setCell (p := ⟨W.heap.size, 0, none⟩) (show w.heap.size ≤ W.heap.size by omega) _
      rw [hX'] at HI
      have d8 := c8.cell
      have f8 := c8.frozen
      have dF := cF.cell
      clear hX' hk c8 cF cr cK cB e8 eF er eS eR eK eT eB
      by_cases hi : pre.length < pf.length
      · obtain ⟨g, hA, hg1, hg2, hcell⟩ := cR pre.length (by omega)
        rw [placesZ_take hpf hxs hi] at hcell
        subst hA
        clear hxs cR hpl hpf
        gi_wp2
        rw [show ((pre.length : Int) + 1) = ((pre ++ [x]).length : Int) by simp]
        exact ⟨KeepsOthers.setCell _ _ _, HI.out⟩
      · clear hxs cR hpl hpf
        gi_wp2
        rw [show ((pre.length : Int) + 1) = ((pre ++ [x]).length : Int) by simp]
        exact ⟨KeepsOthers.setCell _ _ _, HI.out⟩
    case done2b =>
      rintro D2 X hD2 ⟨⟨c8, cF, cr, cR⟩, cK, cB⟩ hK2
      have hle : pf.length ≤ (runes s.data.toList).length := hpf.length_le
      have d8 := c8.cell
      have dF := cF.cell
      have dr := cr.cell
      have fr := cr.frozen
      generalize (runes s.data.toList).length = N at d8 hle
      clear c8 cF cr cR e8 eF er eS eR eK eT eB hpl hpf
      gi_wp2
      have hKa := (KeepsOthers.setCell X ⟨w.heap.size + 1, 0, none⟩ (.bool true)).same D2 _ hK2 rfl
      have hKb := (KeepsOthers.setCell X ⟨w.heap.size + 1, 0, none⟩ (.bool true)).same D _ cK rfl
      have hne : D ≠ D2 := by omega
      refine ⟨by simp, .inl ⟨_, _, rfl, run_takeDeferred hKa, ?_⟩⟩
      have hKc : ((X.setCell ⟨w.heap.size + 1, 0, none⟩ (.bool true)).putObj D2 (.deferred none)).heap[D]? = some (.deferred (some [])) := (World.putObj_heap_other hne).trans hKb
      refine ⟨by simp, .inl ⟨_, _, rfl, run_takeDeferred hKc, ?_⟩⟩
      have hca := Go.cell_kept (World.cell?_setCell_same' X ⟨w.heap.size + 1, 0, none⟩ (.bool true) (by rw [dr]; rfl)) (grownBy_putObj' _ D2 (.deferred none)) (fun r e => by cases e; exact ⟨_, hKa, rfl⟩)
      have hcb := Go.cell_kept hca (grownBy_putObj' _ D (.deferred none)) (fun r e => by cases e; exact ⟨_, hKc, rfl⟩)
      refine ⟨.bool true, ?_, rfl, ((cB.setCell (p := ⟨w.heap.size + 1, 0, none⟩) (show w.heap.size ≤ w.heap.size + 1 by omega) _).trans (belowK_b (w := w) (Nat.le_refl _) _ D2 _ _ (by omega) hKa rfl rfl)).trans (belowK_b (w := w) (Nat.le_refl _) _ D _ _ (by omega) hKc rfl rfl)⟩
      simp [results, Tryd.f5, go_sem, hcb]
    case stop2b =>
      rintro D' c' pre' W' _ _ h _
      exact h.elim

end Go.Proofs.YtgbphkckiekehaaDoor.earlyLaw
