/- Places, filters and links of analysis walked. -/
import Derived.Test.YtgbphkckiekehaaDoorBC
import Derived.Test.YtgbphkckiekehaaDoorBD
import Derived.Maps.AppendAt
import Derived.RangeFuncBox
import Derived.StillTailTactics
import Derived.BigRegion
import Derived.Deep.RegionWith
import Derived.Deep.RegionLaw
set_option linter.unusedVariables false
set_option linter.unusedSimpArgs false
namespace Go.Proofs.YtgbphkckiekehaaDoor.Ana
open Go.RowKit Go.Shelf Go.Proofs.YtgbphkckiekehaaDoor.QRef Go.Proofs.YtgbphkckiekehaaDoorW.PrintWords Go.Proofs.FoldPlain Go.Proofs.FoldText Go.Proofs.YtgbphkckiekehaaDoor.FoldRef Go.Proofs.YtgbphkckiekehaaDoor.Seq Go.Proofs.YtgbphkckiekehaaDoor.FoldW Go.Proofs.YtgbphkckiekehaaDoor.FoldF
attribute [local go_sem] Oper.semAt_some

theorem infoInt : (Tryd.prog.info? 3).map (fun i => (i.zero, i.size, i.bytes)) = some (some (.int .i64 0), 1, 8) := by kernel_rfl
theorem nums_snoc (k : IntKind) (pre : List (Nat × Nat)) (x : Nat × Nat) : nums k (placesZ (pre ++ [x])) = nums k (placesZ pre) ++ [.int k x.1] := by simp [nums, placesZ]
theorem holds_own {β : Type} (n₀ B : Nat) (k : β → Nat) (f : β → List Value) : Own (fun (s : β) W => ∃ v, Boxed W B 25 v ∧ W.ownsRow n₀ 3 1 v (k s) (f s)) := fun s X Y row hs hg hr => by
  obtain ⟨v, hb, ho⟩ := hs
  obtain ⟨v', h1, h2, _⟩ := holdsRow_own n₀ B 25 3 1 k f (fun _ _ => True) s X Y row ⟨v, hb, ho, trivial⟩ hg hr
  exact ⟨v', h1, h2⟩
theorem kp_boxed {B Bs : Nat} {t : TypeId} {v : Value} {W W' : World} (hb : Below B W W') (h2 : 2 ≤ B) (h : Boxed W Bs t v) (h' : Boxed W' Bs t v) : KpB Bs W W' :=
  ⟨hb.size, fun k hk hl => by
    rcases hk with hk | rfl
    · exact hb.block k (by omega)
    · exact (show W'.heap[k]? = _ from h').trans (show W.heap[k]? = _ from h).symm⟩
theorem own_slice {W : World} {base e size n : Nat} {v : Value} {xs : List Value} (h : W.ownsRow base e size v n xs) : ∃ A c, v = .slice A n c := by
  rcases h.2 with ⟨rfl, h0⟩ | ⟨g, cap, cur, rfl, _⟩
  · exact ⟨none, 0, by rw [h0]⟩
  · exact ⟨_, _, rfl⟩
theorem nums_app1 (k : IntKind) (xs : List Int) (x : Int) : nums k (xs ++ [x]) = nums k xs ++ [.int k x] := by simp [nums]

theorem grown_others {W w1 : World} {n₀ e size k : Nat} {v : Value} {xs : List Value} {tmp : Obj} (hrow : W.ownsRow n₀ e size v k xs) (hgrow : (W.alloc tmp).grownBy w1 v.ownBlock) : KeepsOthers W w1 :=
  (KeepsOthers.alloc W tmp).trans (KeepsOthers.of_grownBy hgrow fun j o ej hj => by
    rcases (hrow.alloc tmp).2 with ⟨rfl, _⟩ | ⟨g, cap, cur, rfl, _, hgb, _⟩
    · simp [Value.ownBlock] at ej
    · obtain rfl : g = j := by simpa [Value.ownBlock] using ej
      rw [hgb] at hj; cases hj; rfl)
theorem grown_below {W w1 : World} {n₀ e size k : Nat} {v : Value} {xs : List Value} {tmp : Obj} (hrow : W.ownsRow n₀ e size v k xs) (hn₀ : n₀ ≤ W.heap.size) (hgrow : (W.alloc tmp).grownBy w1 v.ownBlock) : Below n₀ W w1 :=
  ((Below.refl n₀ W).alloc hn₀ tmp).grown hgrow (by simp; omega) fun j ej => by
    rcases hrow.2 with ⟨rfl, _⟩ | ⟨g, cap, cur, rfl, hb, _, _⟩
    · simp [Value.ownBlock] at ej
    · obtain rfl : g = j := by simpa [Value.ownBlock] using ej
      exact hb
theorem own_putObj {W : World} {n₀ e size k D : Nat} {v : Value} {xs : List Value} (hrow : W.ownsRow n₀ e size v k xs) {o : Obj} (hD : W.heap[D]? = some o) (ho : o.isCells = false) (o' : Obj) : (W.putObj D o').ownsRow n₀ e size v k xs :=
  own_move hrow fun g hg => by
    obtain ⟨cells, hc⟩ := own_typed hrow g hg
    refine World.putObj_heap_other (fun e => ?_)
    subst e
    rw [hD] at hc; cases hc; simp [Obj.isCells] at ho

set_option maxRecDepth 100000 in
set_option maxHeartbeats 4000000 in
theorem places_c (s : ByteArray) (hs : s.size ≤ 17592186044415) (w : World) (ht : Tabs w) :
    Calls Tryd.prog 81 #[.string s] w fun e w' => (∃ v, e = .returned v ∧ w'.ownsRow w.heap.size 3 1 v (placesD s.data.toList).length (nums .i64 (placesD s.data.toList))) ∧ Below w.heap.size w w' := by
  have h2 := ht.size
  have hs' : s.size ≤ 140737488355328 := by omega
  obtain ⟨i0, hi, iz0, iz1, iz2⟩ := info_parts infoInt
  have hrl := runes_length s.data.toList
  rw [size_data] at hrl
  refine (callsIn_wide (n := 20)).1 ?_
  refine callsIn_of_wp_marks Tryd.func81 rfl trivial ?_ rfl
  simp only [Tryd.ntmps81, List.size_toArray, List.length_cons, List.length_nil, Nat.reduceAdd, Nat.reduceSub, Array.replicate_succ, Array.replicate_zero, List.push_toArray, List.append_toArray, List.nil_append, List.cons_append]
  gi_wp2_with (refine ⟨trivial, ?_⟩; gi_at_call 20; refine (callsIn_wide.2 (runes_c s _)).mono ?_; rintro e w2 ⟨rfl, rfl⟩)
  obtain ⟨W0, hW0⟩ : ∃ W0, (w.alloc (.cells #[.slice none 0 0] 25)).alloc (.cells #[.string s] 9) = W0 := ⟨_, rfl⟩
  rw [hW0]
  have hBW : Below w.heap.size w W0 := by rw [← hW0]; exact below_alloc (below_alloc (Below.refl _ _) _) _
  have hsz : W0.heap.size = w.heap.size + 2 := by rw [← hW0]; simp
  have bF : Boxed W0 w.heap.size 25 (.slice none 0 0) := by rw [← hW0]; exact (Boxed.new _ _ _).alloc _
  have bS : Boxed W0 (w.heap.size + 1) 9 (.string s) := by
    have := Boxed.new (w.alloc (.cells #[.slice none 0 0] 25)) 9 (.string s)
    rw [World.size_alloc, hW0] at this; exact this
  have hT0 : Tabs W0 := ht.step hBW
  clear hW0
  refine range_known (F := Fence.wide) (n := 20) (xs := runes s.data.toList) rfl (by omega) (gf := 49) (lb := #[.pointer (some ⟨w.heap.size + 1, 0, none⟩)]) rfl trivial (enters_of Tryd.func49 (by kernel_rfl) rfl)
    (runes_seq 19 (by omega) (w.heap.size + 1) s hs' W0 bS.cell hT0) (fun h k => KpB.trans h k) (KpB.putObj (by omega) (by omega)) (Below.refl _ _) (fun _ => rfl)
    (fun pre W => (∃ v, Boxed W w.heap.size 25 v ∧ W.ownsRow w.heap.size 3 1 v pre.length (nums .i64 (placesZ pre))) ∧ Boxed W (w.heap.size + 1) 9 (.string s) ∧ Below w.heap.size w W)
    (fun _ _ _ => False)
    ?hI (fun _ _ _ _ _ hs _ _ => hs) ⟨⟨_, bF, World.ownsRow_nil _ _ _ _⟩, bS, hBW⟩ ?a1 ?assign ?body ?done ?stop
  case hI =>
    refine OwnFrom.and (Own.from (holds_own _ _ _ _) _) (OwnFrom.and (Own.from (fun q X Y row hs hg hr => ?_) _) (ownFrom_below (by omega) (by omega)))
    exact boxed_own _ _ (fun _ : List (Nat × Nat) => .string s) q X Y row hs hg hr
  case assign =>
    intro l x W K hK
    have HK := Aside0.mk hK
    clear hK
    unfold encR
    gi_wp2
    exact HK.out
  case body =>
    rintro l pre x rest W hxs ⟨⟨v, hv, hrow⟩, kS, hB⟩
    have hlen : (runes s.data.toList).length = pre.length + 1 + rest.length := by rw [hxs]; simp; omega
    obtain ⟨A, cap, rfl⟩ := own_slice hrow
    have hc := hv.cell
    gi_wp2_with (gi_at_builtin; refine wpListIn_append_own _ rfl _ _ 25 rfl w.heap.size 3 i0 (.int .i64 0) 1 8 Tryd.underlying25 hi iz0 iz1 iz2 rfl (by decide) _ _ _ rfl (hrow.alloc _) ⟨W.heap.size, 0, none⟩ 1 1 [.int .i64 x.1] rfl rfl (cell_one_new _ _ _) (by simp [Value.oneCell']) (by unfold maxLen; omega) (by omega) (by have := hB.size; simp; omega) ?_; intro v' w1' hown' hgrow _; obtain ⟨g', cap', rfl⟩ := ownsRow_succ hown'; obtain ⟨hv1, hv2, hr2, hk2, hb2⟩ := hv.appended (by decide) hrow (by have := hB.size; omega) (Nat.le_refl _) hown' hgrow; have hS1 := (kS.alloc (.cells #[.int .i64 x.1] 3)).kept hgrow ((kS.alloc (.cells #[.int .i64 x.1] 3)).not_row (by decide) (hrow.alloc _)); have hc1 := hv1.cell; have hf1 := hv1.frozen)
    have hS2 := hS1.other (B' := w.heap.size) (by omega) (.slice (some ⟨g', 0, none⟩) (pre.length + 1) cap')
    refine ⟨hk2, kp_boxed hb2 (by omega) kS hS2, ⟨_, hv2, ?_⟩, hS2, hB.trans hb2⟩
    rw [nums_snoc]; simpa using hr2
  case done =>
    rintro D X hD ⟨⟨v, hv, hrow⟩, kS, hB⟩ hK
    have hDl : D < X.heap.size := (Array.getElem?_eq_some_iff.1 hK).1
    obtain ⟨A, cap, rfl⟩ := own_slice hrow
    have hc := hv.cell
    gi_wp2_with (gi_at_builtin; refine wpListIn_append_own _ rfl _ _ 25 rfl w.heap.size 3 i0 (.int .i64 0) 1 8 Tryd.underlying25 hi iz0 iz1 iz2 rfl (by decide) _ _ _ rfl (hrow.alloc _) ⟨X.heap.size, 0, none⟩ 1 1 [.int .i64 s.size] rfl rfl (cell_one_new _ _ _) (by simp [Value.oneCell']) (by unfold maxLen; omega) (by omega) (by have := hB.size; simp; omega) ?_; intro v' w1' hown' hgrow _)
    have hKa := (grown_others hrow hgrow).same D _ hK rfl
    have hBa := hB.trans (grown_below hrow (by have := hB.size; omega) hgrow)
    refine ⟨by simp, .inl ⟨_, _, rfl, run_takeDeferred hKa, ?_⟩⟩
    refine ⟨v', ?_, ⟨v', rfl, ?_⟩, hBa.trans (belowK_b (w := w) (Nat.le_refl _) _ D _ _ (by omega) hKa rfl rfl)⟩
    · simp [results, Tryd.f81, go_sem]
    · unfold placesD
      rw [List.length_append, placesZ_len, nums_app1, size_data]
      exact own_putObj hown' hKa rfl _
  case stop =>
    rintro D' c' pre' W' _ _ h _
    exact h.elim

end Go.Proofs.YtgbphkckiekehaaDoor.Ana

set_option linter.unusedVariables false
set_option linter.unusedSimpArgs false
namespace Go.Proofs.YtgbphkckiekehaaDoor.Ana
open Go.RowKit Go.Shelf Go.Proofs.YtgbphkckiekehaaDoor.QRef Go.Proofs.YtgbphkckiekehaaDoorW.PrintWords Go.Proofs.FoldPlain Go.Proofs.FoldText Go.Proofs.YtgbphkckiekehaaDoor.FoldRef Go.Proofs.YtgbphkckiekehaaDoor.FoldW

/-! ### one token in a row of its own -/
def cellsT1 (t : S58) : List Value := [.string t.f0, .int .i64 t.f1, .int .i64 t.f2, .int .i64 t.f3]
abbrev aggT (t : S58) : Value := .agg #[.string t.f0, .int .i64 t.f1, .int .i64 t.f2, .int .i64 t.f3]
abbrev TRow (w : World) (base : Nat) (v : Value) (ts : List S58) : Prop := Kd.R k58 58 w base (fun _ => True) v ts
theorem trow_one (W : World) (base : Nat) (hb : base ≤ W.heap.size) (t : S58) : TRow (W.alloc (.cells #[.string t.f0, .int .i64 t.f1, .int .i64 t.f2, .int .i64 t.f3] 58)) base (.slice (some ⟨W.heap.size, 0, none⟩) 1 1) [t] :=
  ⟨fun _ _ => trivial, OwnRow.lit (ps := [t]) (inner := cellsT1 t) W base ((Reps.none _ _).snoc (k58_mkM _ _ _ t) rfl) hb (by simp)⟩
end Go.Proofs.YtgbphkckiekehaaDoor.Ana

set_option linter.unusedVariables false
set_option linter.unusedSimpArgs false
namespace Go.Proofs.YtgbphkckiekehaaDoor.Ana
open Go.RowKit Go.Shelf Go.Proofs.YtgbphkckiekehaaDoor.QRef Go.Proofs.YtgbphkckiekehaaDoorW.PrintWords Go.Proofs.YtgbphkckiekehaaDoorW.PrintLast Go.Proofs.FoldPlain Go.Proofs.FoldText Go.Proofs.YtgbphkckiekehaaDoor.FoldRef Go.Proofs.YtgbphkckiekehaaDoor.FoldW Go.Proofs.YtgbphkckiekehaaDoor.FoldF Go.Proofs.YtgbphkckiekehaaDoor.FoldP

/-- A token in a cell of its own: what can be read there. -/
def TBox (W : World) (g : Nat) (t : S58) : Prop := W.heap[g]? = some (.cells #[.string t.f0, .int .i64 t.f1, .int .i64 t.f2, .int .i64 t.f3] 58 (0, 0))
theorem TBox.new (W : World) (t : S58) : TBox (W.alloc (.cells #[.string t.f0, .int .i64 t.f1, .int .i64 t.f2, .int .i64 t.f3] 58)) W.heap.size t := World.alloc_heap_new W _
theorem TBox.lt {W : World} {g : Nat} {t : S58} (h : TBox W g t) : g < W.heap.size := (Array.getElem?_eq_some_iff.1 h).1
theorem TBox.below {W W' : World} {g : Nat} {t : S58} (h : TBox W g t) (hb : Below W.heap.size W W') : TBox W' g t := (hb.block g h.lt).trans h
theorem TBox.c0 {W : World} {g : Nat} {t : S58} (h : TBox W g t) : W.cell? ⟨g, 0, none⟩ = some (.string t.f0) := (blk_cell h 0).trans rfl
theorem TBox.c1 {W : World} {g : Nat} {t : S58} (h : TBox W g t) : W.cell? ⟨g, 1, none⟩ = some (.int .i64 t.f1) := (blk_cell h 1).trans rfl
theorem TBox.c2 {W : World} {g : Nat} {t : S58} (h : TBox W g t) : W.cell? ⟨g, 2, none⟩ = some (.int .i64 t.f2) := (blk_cell h 2).trans rfl
theorem TBox.c3 {W : World} {g : Nat} {t : S58} (h : TBox W g t) : W.cell? ⟨g, 3, none⟩ = some (.int .i64 t.f3) := (blk_cell h 3).trans rfl
theorem TBox.set {W : World} {g : Nat} {t : S58} (h : TBox W g t) (u : ByteArray) : TBox (W.setCell ⟨g, 0, none⟩ (.string u)) g { t with f0 := u } := blk_put h 0 (.string u) rfl
theorem TBox.drew {W : World} {g : Nat} {t : S58} (h : TBox W g t) : TBox W.drew g t := h
theorem TBox.fr {W : World} {g : Nat} {t : S58} (h : TBox W g t) (j : Nat) : W.frozen? ⟨g, j, none⟩ = false := by simp [World.frozen?, show W.heap[g]? = _ from h]

set_option maxRecDepth 100000 in
set_option maxHeartbeats 2000000 in
theorem lowerF_c (t : S58) (hs : t.f0.size ≤ 140737488351232) (w : World) (ht : Tabs w) :
    Calls Tryd.prog 70 #[aggT t] w fun e w' => (∃ v, e = .returned v ∧ TRow w' w.heap.size v (lowerF t)) ∧ Below w.heap.size w w' := by
  have hu58 := Tryd.underlying58
  have hb0 : Below w.heap.size w (w.alloc (.cells #[.string t.f0, .int .i64 t.f1, .int .i64 t.f2, .int .i64 t.f3] 58)) := below_alloc (Below.refl _ _) _
  have hT := Aside0.mk (ht.step hb0)
  go_enter Tryd.func70, Tryd.ntmps70
  go_wp2_with (go_at_call 21; refine (fold_c t.f0 hs _ hT.out).mono ?_; rintro e w1 ⟨rfl, hb⟩; have hx := (TBox.new w t).below hb; have k0 := hx.c0; have k1 := hx.c1; have k2 := hx.c2; have k3 := hx.c3; have fr := hx.fr 0)
  go_ret
  refine ⟨⟨_, rfl, ?_⟩, ?_⟩
  · have h := trow_one (w1.setCell ⟨w.heap.size, 0, none⟩ (.string (strOf (foldD t.f0.data.toList)))) w.heap.size (by have := hx.lt; simp; omega) { t with f0 := strOf (foldD t.f0.data.toList) }
    simpa [lowerF] using h
  · exact ((below_step hb0 hb).setCell (p := ⟨w.heap.size, 0, none⟩) (Nat.le_refl _) _).alloc (by have := hx.lt; simp; omega) _

theorem wp_normal {P : Program} {c : Code} {Q : Exit → Act → World → Prop} {a : Act} {w : World} (h : c.wp P (Exit.then (Q .normal) (fun _ _ _ => False)) a w) : c.wp P Q a w :=
  wp_mono h (fun e a w h => by cases e <;> first | exact h | exact h.elim)
theorem places_own {w : World} {base n : Nat} {v : Value} {xs : List Int} (h : w.ownsRow base 3 1 v n (nums .i64 xs)) (hn : 0 < n) :
    ∃ g c, v = .slice (some ⟨g, 0, none⟩) n c ∧ base ≤ g ∧ g < w.heap.size ∧ xs.length = n ∧ ∀ i, i < n → w.cell? ⟨g, i, none⟩ = some (.int .i64 (xs.getD i 0)) := by
  have hl : xs.length = n := by have := h.1; simp [nums] at this; exact this
  obtain ⟨A, c, hv, hR⟩ := Row.of_own h
  subst hl
  obtain ⟨g, rfl, h1, h2, _⟩ := hR 0 hn
  refine ⟨g, c, hv, h1, h2, rfl, fun i hi => ?_⟩
  obtain ⟨g', hg, _, _, hc⟩ := hR i hi
  cases hg; exact hc

set_option maxRecDepth 100000 in
set_option maxHeartbeats 2000000 in
theorem shortF_c (t : S58) (hs : t.f0.size ≤ 17592186044415) (w : World) (ht : Tabs w) :
    Calls Tryd.prog 73 #[aggT t] w fun e w' => (∃ v, e = .returned v ∧ TRow w' w.heap.size v (shortF t)) ∧ Below w.heap.size w w' := by
  have hu58 := Tryd.underlying58
  have hm : Tryd.prog.follows .mixedOrders = true := by kernel_rfl
  have hb0 : Below w.heap.size w (w.alloc (.cells #[.string t.f0, .int .i64 t.f1, .int .i64 t.f2, .int .i64 t.f3] 58)) := below_alloc (Below.refl _ _) _
  have hT := Aside0.mk (ht.step hb0)
  have hbd := placesD_bounds t.f0.data.toList 16
  rw [size_data] at hbd
  obtain ⟨z, hz⟩ : ∃ z, z = (placesD t.f0.data.toList).getD 16 0 := ⟨_, rfl⟩
  rw [← hz] at hbd
  obtain ⟨z0, z1⟩ := hbd
  have HZ := Aside0.mk hz
  clear hz
  by_cases hlt : 17 < (placesD t.f0.data.toList).length
  · have hlt' : (17 : Int) < ((placesD t.f0.data.toList).length : Int) := by omega
    have hlt2 : (16 : Int) < ((placesD t.f0.data.toList).length : Int) := by omega
    go_enter Tryd.func73, Tryd.ntmps73
    go_wp2_with (go_at_call 81; refine (places_c t.f0 hs _ hT.out).mono ?_; rintro e w1 ⟨⟨v, rfl, hrow⟩, hb⟩; obtain ⟨g, c, rfl, hg1, hg2, _, hc⟩ := places_own hrow (by omega); have hc16 := hc 16 (by omega); rw [← HZ.out] at hc16; clear hc; have hx := (TBox.new w t).below hb; have k0 := hx.c0; have k1 := hx.c1; have k2 := hx.c2; have k3 := hx.c3; have fr := hx.fr 0)
    refine wp_normal ?_
    go_region
    go_wp2
    go_ret
    refine ⟨⟨_, rfl, ?_⟩, ?_⟩
    · rw [show shortF t = [tsub t 0 z] by unfold shortF pl; rw [if_pos hlt, ← HZ.out]]
      have h := trow_one (w1.setCell ⟨w.heap.size, 0, none⟩ (.string (t.f0.extract 0 z.toNat))) w.heap.size (by have := hx.lt; simp; omega) (tsub t 0 z)
      have h' := Kd.R_drew h
      simpa [tsub] using h'
    · exact below_drew1 (((below_step hb0 hb).setCell (p := ⟨w.heap.size, 0, none⟩) (Nat.le_refl _) _).alloc (by have := hx.lt; simp; omega) _)
  · have hlt' : ¬ (17 : Int) < ((placesD t.f0.data.toList).length : Int) := by omega
    go_enter Tryd.func73, Tryd.ntmps73
    go_wp2_with (go_at_call 81; refine (places_c t.f0 hs _ hT.out).mono ?_; rintro e w1 ⟨⟨v, rfl, hrow⟩, hb⟩; obtain ⟨g, c, rfl, hg1, hg2, _, hc⟩ := places_own hrow (by rw [placesD_len]; omega); have hx := (TBox.new w t).below hb; have k0 := hx.c0; have k1 := hx.c1; have k2 := hx.c2; have k3 := hx.c3; have fr := hx.fr 0)
    go_ret
    refine ⟨⟨_, rfl, ?_⟩, ?_⟩
    · have h := trow_one w1 w.heap.size (by have := hx.lt; omega) t
      simpa [shortF, pl, hlt] using h
    · exact (below_step hb0 hb).alloc (by have := hx.lt; omega) _

theorem info58' : (Tryd.prog.info? 58).map (fun i => (i.zero, i.size, i.bytes)) = some (some (.agg #[(.string ⟨#[]⟩), (.int .i64 0), (.int .i64 0), (.int .i64 0)]), k58.sz, 40) := by kernel_rfl
def gramsL (n : Nat) (t : S58) (k : Nat) : List S58 := (List.range k).map fun i => tsub t ((pl t).getD i 0) ((pl t).getD (i + n) 0)
theorem gramsL_succ (n : Nat) (t : S58) (k : Nat) : gramsL n t (k + 1) = gramsL n t k ++ [tsub t ((pl t).getD k 0) ((pl t).getD (k + n) 0)] := by simp [gramsL, List.range_succ]
theorem gramsL_len (n : Nat) (t : S58) (k : Nat) : (gramsL n t k).length = k := by simp [gramsL]

set_option maxRecDepth 100000 in
set_option maxHeartbeats 2000000 in
theorem gramsF_c (n : Nat) (hn1 : 1 ≤ n) (hn2 : n ≤ 16) (t : S58) (hs : t.f0.size ≤ 1099511627776) (gn : Nat) (w : World) (ht : Tabs w) (hgn : w.cell? ⟨gn, 0, none⟩ = some (.int .i64 n)) :
    Calls Tryd.prog 85 #[aggT t, .pointer (some ⟨gn, 0, none⟩)] w fun e w' => (∃ v, e = .returned v ∧ TRow w' w.heap.size v (gramsF n t)) ∧ Below w.heap.size w w' := by
  have hu58 := Tryd.underlying58
  have hb0 : Below w.heap.size w (w.alloc (.cells #[.string t.f0, .int .i64 t.f1, .int .i64 t.f2, .int .i64 t.f3] 58)) := below_alloc (Below.refl _ _) _
  have hT := Aside0.mk (ht.step hb0)
  have hpl := placesD_len t.f0.data.toList
  have hrl := runes_length t.f0.data.toList
  rw [size_data] at hrl
  have HPL := Aside0.mk hpl
  clear hpl
  have hlz : ((placesD t.f0.data.toList).length : Int) ≤ 1099511627777 := by have := HPL.out; omega
  have hl1 : (1 : Int) ≤ ((placesD t.f0.data.toList).length : Int) := by have := HPL.out; omega
  by_cases hle : (placesD t.f0.data.toList).length ≤ n + 1
  · have hle' : ((placesD t.f0.data.toList).length : Int) - 1 ≤ (n : Int) := by omega
    go_enter Tryd.func85, Tryd.ntmps85
    go_wp2_with (go_at_call 81; refine (places_c t.f0 (by omega) _ hT.out).mono ?_; rintro e w1 ⟨⟨v, rfl, hrow⟩, hb⟩; obtain ⟨g, c, rfl, hg1, hg2, _, hc⟩ := places_own hrow (by have := HPL.out; omega); have HC := Aside0.mk hc; clear hc; have hx := (TBox.new w t).below hb; have k0 := hx.c0; have k1 := hx.c1; have k2 := hx.c2; have k3 := hx.c3; have hn_ := pw_cell_below hb (pw_cell_below hb0 hgn))
    go_ret
    refine ⟨⟨_, rfl, ?_⟩, ?_⟩
    · rw [show gramsF n t = [t] by unfold gramsF pl; rw [if_pos hle]]
      exact trow_one w1 w.heap.size (by have := hx.lt; omega) t
    · exact (below_step hb0 hb).alloc (by have := hx.lt; omega) _
  · have hle' : ¬ ((placesD t.f0.data.toList).length : Int) - 1 ≤ (n : Int) := by omega
    go_enter Tryd.func85, Tryd.ntmps85
    go_wp2_with (go_at_call 81; refine (places_c t.f0 (by omega) _ hT.out).mono ?_; rintro e w1 ⟨⟨v, rfl, hrow⟩, hb⟩; obtain ⟨g, c, rfl, hg1, hg2, _, hc⟩ := places_own hrow (by have := HPL.out; omega); have HC := Aside0.mk hc; clear hc; have hx := (TBox.new w t).below hb; have k0 := hx.c0; have k1 := hx.c1; have k2 := hx.c2; have k3 := hx.c3; have hn_ := pw_cell_below hb (pw_cell_below hb0 hgn))
    have HL := Aside0.mk hle
    clear hle hle'
    have hmono := fun i j => placesD_le t.f0.data.toList i j
    have hbnd := fun i => placesD_bounds t.f0.data.toList i
    simp only [size_data] at hbnd
    generalize hp : placesD t.f0.data.toList = p at hrow HC HPL HL hlz hl1 hmono hbnd ⊢
    have HP := Aside0.mk hp
    clear hp
    go_loopw [5, 6] (fun v vi wr => ∃ k : Nat, k + n ≤ p.length ∧ vi = .int .i64 k ∧ Hid (TRow wr w1.heap.size v (gramsL n t k)) ∧ Hid (Below w1.heap.size w1 wr))
      (fun _ vi _ => p.length - (intOf vi).toNat)
    case atStart => exact ⟨0, by have := HL.out; omega, rfl, Lib.hid (Kd.R_nil _ _ _ _ _), Lib.hid (Below.refl _ _)⟩
    case round =>
      obtain ⟨k, hk, rfl, hrow2, hbw⟩ := hrel
      by_cases hlt : k + n < p.length
      · have hcz1 := pw_cell_below hbw.out (HC.out k (by omega))
        have hcz2 := pw_cell_below hbw.out (HC.out (k + n) (by omega))
        have hm := hmono k (k + n) (by omega) hlt
        have hz1 := (hbnd k).1
        have hz2 := (hbnd (k + n)).2
        have hxr := hx.below hbw.out
        have j0 := hxr.c0
        have j1 := hxr.c1
        have j2 := hxr.c2
        have j3 := hxr.c3
        have jn := pw_cell_below hbw.out hn_
        have HS := Aside0.mk (gramsL_succ n t k)
        rw [show pl t = p from HP.out] at HS
        generalize p.getD k 0 = z1 at hcz1 hm hz1 HS
        generalize p.getD (k + n) 0 = z2 at hcz2 hm hz2 HS
        have i1 : (k : Int) < (p.length : Int) := by omega
        have i2 : (k : Int) + (n : Int) < (p.length : Int) := by omega
        clear hmono hbnd k0 k1 k2 k3 hn_
        go_wp2
        obtain ⟨w2, hw2⟩ : ∃ w2, wr.alloc (.cells #[.string t.f0, .int .i64 t.f1, .int .i64 t.f2, .int .i64 t.f3] 58) = w2 := ⟨_, rfl⟩
        rw [hw2]
        have hb2 : Below wr.heap.size wr w2 := by rw [← hw2]; exact below_alloc (Below.refl _ _) _
        have hy : TBox w2 wr.heap.size t := by rw [← hw2]; exact TBox.new _ _
        have hsz : w2.heap.size = wr.heap.size + 1 := by rw [← hw2]; simp
        have HX := Aside0.mk (hxr.below hb2)
        have k0 := (hxr.below hb2).c0
        have y0 := hy.c0
        have y1 := hy.c1
        have y2 := hy.c2
        have y3 := hy.c3
        have yf := hy.fr 0
        have m1 := pw_cell_below hb2 hcz1
        have m2 := pw_cell_below hb2 hcz2
        have mn := pw_cell_below hb2 jn
        have hwz : w1.heap.size ≤ wr.heap.size := hbw.out.size
        have hR2 := Aside0.mk (Kd.R_drew (Kd.R_mono (ok' := fun _ => True) (Kd.R_far (p := ⟨wr.heap.size, 0, none⟩) (Kd.R_below (Kd.R_mono (ok' := fun k => k < wr.heap.size) (Kd.R_bound hrow2.out) (fun k hk => hk.2.2.1)) hb2) (fun k hk => by show k ≠ wr.heap.size; omega) (.string (t.f0.extract z1.toNat z2.toNat))) (fun _ _ => trivial)))
        have hB2 := Aside0.mk (below_drew1 ((hbw.out.trans (hb2.mono hwz)).setCell (p := ⟨wr.heap.size, 0, none⟩) hwz (.string (t.f0.extract z1.toNat z2.toNat))))
        clear hw2 hb2 hcz1 hcz2 jn j0 j1 j2 j3 hxr hrow2 hbw
        refine wp_normal ?_
        go_region
        obtain ⟨w3, hw3⟩ : ∃ w3, (w2.setCell ⟨wr.heap.size, 0, none⟩ (.string (t.f0.extract z1.toNat z2.toNat))).drew = w3 := ⟨_, rfl⟩
        rw [hw3]
        have hy3 : TBox w3 wr.heap.size (tsub t z1 z2) := by rw [← hw3]; exact (hy.set _).drew
        have hx3 : TBox w3 w.heap.size t := by rw [← hw3]; exact TBox.drew ((Below.heap_setCell w2 ⟨wr.heap.size, 0, none⟩ _ w.heap.size (by have := hx.lt; show w.heap.size ≠ wr.heap.size; omega)).trans HX.out)
        have hz3 : w3.heap.size = wr.heap.size + 1 := by rw [← hw3]; simp [hsz]
        rw [hw3] at hR2 hB2
        have q0 := hy3.c0
        have q1 := hy3.c1
        have q2 := hy3.c2
        have q3 := hy3.c3
        have HZ3 := Aside0.mk hz3
        clear hw3 y0 y1 y2 y3 yf m1 m2 mn k0 hz3 hsz
        go_wp2_with (((with_reducible refine gate_builtin (b := .append) (xs := #[.tmp 41, .tmp 43]) rfl ?_); at_builtin; refine Kd.R_append k58 (w0 := w1) w1.heap.size rfl (.tmp 41) (.tmp 43) 42 58 (.agg #[(.string ⟨#[]⟩), (.int .i64 0), (.int .i64 0), (.int .i64 0)]) 40 rfl Tryd.underlying42 info58' rfl (by decide) (by omega) u5 (gramsL n t k) (tsub t z1 z2) (cellsT1 (tsub t z1 z2)) (fun _ => True) (fun _ => False) rfl rfl (k58_mkM _ _ _ _) (fun _ h => h.elim) (fun _ _ => trivial) hR2.out hB2.out (by have := HZ3.out; omega) (by rw [gramsL_len]; omega) ?_; intro v4 w4 ho4 hb4 hg4 hat4))
        go_roundw
        case rel => exact ⟨k + 1, by omega, by go_num, Lib.hid (by rw [HS.out]; exact ho4), Lib.hid hb4⟩
        case measure => simp [intOf]; omega
      · obtain rfl : k = p.length - n := by omega
        have HF : gramsF n t = gramsL n t (p.length - n) := by
          unfold gramsF gramsL
          rw [show pl t = p from HP.out, if_neg HL.out]
        have i2 : ¬ ((p.length - n : Nat) : Int) + (n : Int) < (p.length : Int) := by omega
        have jn := pw_cell_below hbw.out hn_
        have hbb := hbw.out
        clear hmono hbnd k0 k1 k2 k3 hn_
        go_wp2
        go_ret
        refine ⟨⟨u5, rfl, ?_⟩, ?_⟩
        · exact Kd.R_lower hrow2.out (by have := hx.lt; omega)
        · exact (below_step hb0 hb).trans (hbb.mono (by have := hx.lt; omega))
end Go.Proofs.YtgbphkckiekehaaDoor.Ana

set_option linter.unusedVariables false
set_option linter.unusedSimpArgs false
namespace Go.Proofs.YtgbphkckiekehaaDoor.Ana
open Go.RowKit Go.Shelf Go.Proofs.YtgbphkckiekehaaDoor.QRef Go.Proofs.YtgbphkckiekehaaDoorW.PrintWords Go.Proofs.YtgbphkckiekehaaDoorW.PrintLast Go.Proofs.FoldPlain Go.Proofs.FoldText Go.Proofs.YtgbphkckiekehaaDoor.FoldRef Go.Proofs.YtgbphkckiekehaaDoor.FoldW Go.Proofs.YtgbphkckiekehaaDoor.FoldF Go.Proofs.YtgbphkckiekehaaDoor.FoldP

theorem runes_get (l : List UInt8) (k : Nat) (hk : k < (runes l).length) : ((runes l).getD k (0, 0)).1 < l.length ∧ ((runes l).getD k (0, 0)).2 = (dec (l.drop ((runes l).getD k (0, 0)).1)).1 := by
  have h : runes l = (runes l).take k ++ (runes l).getD k (0, 0) :: (runes l).drop (k + 1) := by
    have e : (runes l).getD k (0, 0) = (runes l)[k] := by simp [List.getD_eq_getElem?_getD, hk]
    rw [e, List.getElem_cons_drop, List.take_append_drop]
  obtain ⟨a, b, _⟩ := runes_split h
  exact ⟨a, b⟩

set_option maxRecDepth 100000 in
set_option maxHeartbeats 40000000 in
theorem marksF_c (t : S58) (hs : t.f0.size ≤ 1099511627776) (w : World) (ht : Tabs w) :
    Calls Tryd.prog 74 #[aggT t] w fun e w' => (∃ v, e = .returned v ∧ TRow w' w.heap.size v (marksF t)) ∧ Below w.heap.size w w' := by
  have hu58 := Tryd.underlying58
  have hm : Tryd.prog.follows .mixedOrders = true := by kernel_rfl
  have hpl := placesD_len t.f0.data.toList
  have hrl := runes_length t.f0.data.toList
  rw [size_data] at hrl
  have hlz : ((placesD t.f0.data.toList).length : Int) ≤ 1099511627777 := by omega
  have hl1 : (1 : Int) ≤ ((placesD t.f0.data.toList).length : Int) := by omega
  have HPL := Aside0.mk hpl
  clear hpl
  have hb0 : Below w.heap.size w ((w.alloc (.cells #[.string t.f0, .int .i64 t.f1, .int .i64 t.f2, .int .i64 t.f3] 58)).alloc (.cells #[.pointer none, .slice none 0 0] 66)) := below_alloc (below_alloc (Below.refl _ _) _) _
  have hT := Aside0.mk (ht.step hb0)
  have hxt := Aside0.mk (blk_alloc (TBox.new w t) (.cells #[.pointer none, .slice none 0 0] 66))
  have hI0 : Lib.IsBuilderF 66 5 (w.heap.size + 1) (w.heap.size + 1) [] ((w.alloc (.cells #[.string t.f0, .int .i64 t.f1, .int .i64 t.f2, .int .i64 t.f3] 58)).alloc (.cells #[.pointer none, .slice none 0 0] 66)) := by
    refine .inl ⟨Nat.le_refl _, .slice none 0 0, ?_, World.ownsRowF_nil _ _ _ _, by simp [Value.ownBlock]⟩
    have := World.alloc_heap_new (w.alloc (.cells #[.string t.f0, .int .i64 t.f1, .int .i64 t.f2, .int .i64 t.f3] 58)) (.cells #[.pointer none, .slice none 0 0] 66)
    rwa [World.size_alloc] at this
  have HI0 := Aside0.mk hI0
  clear hI0
  go_enter Tryd.func74, Tryd.ntmps74
  go_wp2_with (go_at_call 81; refine (places_c t.f0 (by omega) _ hT.out).mono ?_; rintro e w1 ⟨⟨v, rfl, hrow⟩, hb⟩; obtain ⟨g, c, rfl, hg1, hg2, _, hc⟩ := places_own hrow (by have := HPL.out; omega); have HC := Aside0.mk hc; clear hc; have HX := Aside0.mk (TBox.below hxt.out hb); have HI1 := Aside0.mk (builder_below HI0.out hb))
  obtain ⟨pc, hpc⟩ : ∃ pc, w1.heap[g]? = some (.cells pc 3 (0, 0)) := own_typed hrow g rfl
  have hpv : ∀ i, i < (placesD t.f0.data.toList).length → pc[i]? = some (.int .i64 ((placesD t.f0.data.toList).getD i 0)) := fun i hi => (blk_cell hpc i).symm.trans (HC.out i hi)
  have HPV := Aside0.mk hpv
  have HLT := Aside0.mk (fun i j => placesD_lt t.f0.data.toList i j)
  have HBN := Aside0.mk (fun i => placesD_bounds t.f0.data.toList i)
  have HAT := Aside0.mk (fun i => placesD_at t.f0.data.toList i)
  have HML := Aside0.mk (marksB_len t.f0.data.toList)
  have HB1 := Aside0.mk (below_step hb0 hb)
  have hzg : w.heap.size + 2 ≤ g := by simpa using hg1
  clear hpv hrow HC hb hg1 HI0 hb0 hT hxt
  go_loopw [14] (fun vi wr => ∃ k : Nat, k + 1 ≤ (placesD t.f0.data.toList).length ∧ vi = .int .i64 k ∧ Hid (Lib.IsBuilderF 66 5 (w.heap.size + 1) (w.heap.size + 1) (Lib.byteCells (marksB t.f0.data.toList k)) wr) ∧ Hid (TBox wr w.heap.size t) ∧ Hid (wr.heap[g]? = some (.cells pc 3 (0, 0))) ∧ Hid (Below w.heap.size w wr))
    (fun vi _ => (placesD t.f0.data.toList).length - (intOf vi).toNat)
  case atStart => exact ⟨0, by omega, rfl, Lib.hid HI1.out, Lib.hid HX.out, Lib.hid hpc, Lib.hid HB1.out⟩
  case round =>
    obtain ⟨k, hk, rfl, hI, hX, hP, hB⟩ := hrel
    clear hpc HX HI1 HB1
    by_cases hlt : k + 1 < (placesD t.f0.data.toList).length
    · have hkr : k < (runes t.f0.data.toList).length := by have := HPL.out; omega
      obtain ⟨hq1, hq2⟩ := runes_get t.f0.data.toList k hkr
      have e1 := HPV.out k (by omega)
      rw [HAT.out k hkr] at e1
      have e2 := HPV.out (k + 1) hlt
      have hl12 := HLT.out k (k + 1) (by omega) hlt
      rw [HAT.out k hkr] at hl12
      have hb2 := (HBN.out (k + 1)).2
      rw [size_data] at hb2 hq1
      have hml := HML.out k (by omega)
      rw [HAT.out k hkr] at hml
      have HS := Aside0.mk (marksB_succ t.f0.data.toList k)
      unfold markPiece at HS
      rw [HAT.out k hkr] at HS
      have hti := ht.step hB.out
      have htd : Tabs wr.drew := hti.step (below_drew1 (Below.refl _ _))
      have hnx := next_in t.f0 ((runes t.f0.data.toList).getD k (0, 0)).1 hq1 (by omega) wr.drew htd
      rw [← hq2] at hnx
      obtain ⟨_, d2, hd⟩ : ∃ d1 d2 : Nat, d2 = (dec (t.f0.data.toList.drop ((runes t.f0.data.toList).getD k (0, 0)).1)).2 := ⟨0, _, rfl⟩
      rw [← hd] at hnx
      clear hd hq2 hkr
      generalize (runes t.f0.data.toList).getD k (0, 0) = x at e1 hl12 hml HS hnx hq1
      obtain ⟨q, r⟩ := x
      dsimp only at e1 hl12 hml HS hnx hq1
      simp only [Int.toNat_natCast] at HS
      generalize (placesD t.f0.data.toList).getD (k + 1) 0 = z2 at e2 hl12 hb2 HS
      have i1 : (k : Int) < ((placesD t.f0.data.toList).length : Int) - 1 := by omega
      have i2 : (k : Int) < ((placesD t.f0.data.toList).length : Int) := by omega
      have i3 : (k : Int) + 1 < ((placesD t.f0.data.toList).length : Int) := by omega
      have HE1 := Aside0.mk (And.intro e1 e2)
      have i4 : (0 : Int) ≤ (k : Int) + 1 := by omega
      have i7 : (q : Int) ≤ z2 := by omega
      have i8 : (0 : Int) ≤ (q : Int) := by omega
      have i9 : 0 ≤ z2 := by omega
      have i6 : IntKind.i64.wrap ((k : Int) + 1) = (k : Int) + 1 := wrap_small _ (by omega) (by omega)
      have i5 : ((k : Int) + 1).toNat = k + 1 := by omega
      have c0 := hX.out.c0
      have c1 := (blk_cell hP.out k).trans e1
      have c2 := (blk_cell hP.out (k + 1)).trans e2
      clear HPV HLT HBN HAT HML e1 e2
      have HMl := Aside0.mk hml
      clear hml
      go_wp2
      go_cut [6, 7] from 17 to 26 (fun vr _ wx => vr = .int .i32 r ∧ Below wr.heap.size wr.drew wx)
      case first =>
        go_region_with (go_at_call 15; refine hnx.mono ?_; rintro e w2 ⟨rfl, hb⟩)
        all_goals
          go_wp2
          go_meet
          exact ⟨rfl, hb⟩
      case rest =>
        obtain ⟨rfl, hb⟩ := hcut
        have hbc : Below wr.heap.size wr wc := (below_drew1 (Below.refl _ _)).trans hb
        have kI := builder_below hI.out hbc
        have kX := hX.out.below hbc
        have kP := blk_below hP.out hbc
        have kB := below_step hB.out hbc
        clear hbc hb hI hX hP hB c0 c1 c2 hti htd hnx
        by_cases hmk : markD (r : Int) = true
        · have hmc : ∀ W, Calls Tryd.prog 28 #[.int .i32 r] W fun e w' => e = .returned (.bool true) ∧ Below W.heap.size W w' := fun W => by have := mark_c (r : Int) W; rwa [hmk] at this
          rw [if_pos hmk, List.append_nil] at HS
          clear hmk
          go_wp2_with (go_at_call 28; refine (hmc _).mono ?_; rintro e w3 ⟨rfl, hb3⟩)
          go_roundw
          case rel => exact ⟨k + 1, by omega, by go_num, Lib.hid (by rw [HS.out]; exact builder_below kI hb3), Lib.hid (kX.below hb3), Lib.hid (blk_below kP hb3), Lib.hid (below_step kB hb3)⟩
          case measure => simp [intOf]; omega
        · have hmc : ∀ W, Calls Tryd.prog 28 #[.int .i32 r] W fun e w' => e = .returned (.bool false) ∧ Below W.heap.size W w' := fun W => by have := mark_c (r : Int) W; rwa [show markD (r : Int) = false by simpa using hmk] at this
          rw [if_neg hmk] at HS
          clear hmk
          have hzn : z2.toNat ≤ t.f0.size := by omega
          have hsc : Lib.strCells (t.f0.extract q z2.toNat) = Lib.byteCells ((t.f0.data.toList.drop q).take (z2.toNat - q)) := strCells_of _ _ (by rw [extract_data _ _ _ hzn])
          have hesz : (t.f0.extract q z2.toNat).size ≤ t.f0.size := by rw [← size_data, extract_data _ _ _ hzn, List.length_take, List.length_drop, size_data]; omega
          have HE := Aside0.mk (And.intro hsc hesz)
          clear hsc hesz
          go_wp2_with (go_at_call 28; refine (hmc _).mono ?_; rintro e w3 ⟨rfl, hb3⟩; have nI := builder_below kI hb3; have nX := kX.below hb3; have nP := blk_below kP hb3; have nB := below_step kB hb3; have c0 := nX.c0; have c1 := (blk_cell nP k).trans HE1.out.1; have c2 := (blk_cell nP (k + 1)).trans HE1.out.2)
          have hzw : w.heap.size + 1 ≤ w3.heap.size := by have := builder_cells nI; obtain ⟨_, h⟩ := this; have := blk_lt h; omega
          have nI' := builder_below nI (below_drew1 (Below.refl w3.heap.size w3))
          refine wp_normal ?_
          go_region_with (go_at_call 51; refine (Build.writeString_k (w.heap.size + 1) (w.heap.size + 1) _ _ _ nI' (by rw [Lib.byteCells_length]; have := HE.out.2; have := HMl.out; omega) (by simpa using hzw)).mono ?_; rintro e w4 ⟨rfl, hI4, hb4, hk4⟩)
          all_goals
            go_wp2
            go_roundw
            case rel =>
              have hl1 := nX.lt
              exact ⟨k + 1, by omega, by go_num, Lib.hid (by rw [HS.out, Lib.byteCells_append, ← HE.out.1]; exact .inr hI4), Lib.hid (hk4 w.heap.size _ nX.drew (fun e => by injection e with e; omega) (fun c fz e => by cases e)), Lib.hid (hk4 g _ (blk_drew nP) (fun e => by injection e with e; omega) (fun c fz e => by cases e)), Lib.hid ((below_drew1 nB).trans (hb4.mono (by omega)))⟩
            case measure => simp [intOf]; omega
    · have hkR : k = (runes t.f0.data.toList).length := by have := HPL.out; omega
      have i1 : ¬ (k : Int) < ((placesD t.f0.data.toList).length : Int) - 1 := by omega
      have hI' := hI.out
      have hB' := hB.out
      have hX' := hX.out
      rw [hkR] at hI'
      obtain ⟨M, hM⟩ : ∃ M, M = marksB t.f0.data.toList (runes t.f0.data.toList).length := ⟨_, rfl⟩
      rw [← hM] at hI'
      have hzl := hX'.lt
      have HM := Aside0.mk (And.intro hM hkR)
      clear hM hI hB hX hP hkR HPV HLT HBN HAT HML
      have hbz : w.heap.size + 1 ≤ wr.heap.size := by omega
      by_cases hMe : M = []
      · have HF : Aside0 (marksF t = []) := Aside0.mk (by unfold marksF; rw [← HM.out.1, if_pos hMe])
        subst hMe
        go_wp2_with (go_at_call 52; refine (Tryd.Builder_String_any_k (w.heap.size + 1) (w.heap.size + 1) [] _ hI' hbz).mono ?_; rintro e w3 ⟨rfl, hI3, hb3, hk3⟩; have nX : TBox w3 w.heap.size t := hk3 w.heap.size _ hX' (fun e => by injection e with e; omega) (fun c fz e => by cases e); have k0 := nX.c0; have k1 := nX.c1; have k2 := nX.c2; have k3 := nX.c3; have fr := nX.fr 0)
        go_ret
        refine ⟨⟨_, rfl, by rw [HF.out]; exact Kd.R_nil _ _ _ _ _⟩, ?_⟩
        exact (hB'.trans (hb3.mono (by omega))).setCell (p := ⟨w.heap.size, 0, none⟩) (Nat.le_refl _) _
      · have HF : Aside0 (marksF t = [{ t with f0 := strOf M }]) := Aside0.mk (by unfold marksF; rw [← HM.out.1, if_neg hMe])
        have hst := Tryd.Builder_String_any_k (w.heap.size + 1) (w.heap.size + 1) M _ hI' hbz
        obtain ⟨S, hS⟩ : ∃ S : ByteArray, strOf M = S := ⟨_, rfl⟩
        have hSe : ¬ S = ByteArray.empty := by
          intro h; apply hMe
          have := congrArg (fun b => b.data.toList) (hS.trans h)
          simpa [strOf] using this
        rw [show (⟨⟨M⟩⟩ : ByteArray) = S from hS] at hst
        rw [hS] at HF
        have hSe2 : ¬ S = (⟨#[]⟩ : ByteArray) := hSe
        have hSe3 : ¬ S.data.toList = [] := by
          intro h; apply hMe; rw [← hS] at h; simpa [strOf] using h
        have hSe4 : S.toList.isEmpty = false := by
          rw [ByteArray.toList_eq]
          cases h : S.data.toList with
          | nil => exact absurd h hSe3
          | cons _ _ => rfl
        clear hS hMe
        go_wp2_with (go_at_call 52; refine hst.mono ?_; rintro e w3 ⟨rfl, hI3, hb3, hk3⟩; have nX : TBox w3 w.heap.size t := hk3 w.heap.size _ hX' (fun e => by injection e with e; omega) (fun c fz e => by cases e); have k0 := nX.c0; have k1 := nX.c1; have k2 := nX.c2; have k3 := nX.c3; have fr := nX.fr 0)
        go_ret
        refine ⟨⟨_, rfl, ?_⟩, ?_⟩
        · rw [HF.out]
          have h := trow_one (w3.setCell ⟨w.heap.size, 0, none⟩ (.string S)) w.heap.size (by have := nX.lt; simp; omega) { t with f0 := S }
          simpa using h
        · exact ((hB'.trans (hb3.mono (by omega))).setCell (p := ⟨w.heap.size, 0, none⟩) (Nat.le_refl _) _).alloc (by have := nX.lt; simp; omega) _
end Go.Proofs.YtgbphkckiekehaaDoor.Ana

set_option linter.unusedVariables false
set_option linter.unusedSimpArgs false
namespace Go.Proofs.YtgbphkckiekehaaDoor.Ana
open Go.RowKit Go.Shelf Go.Proofs.YtgbphkckiekehaaDoor.QRef Go.Proofs.YtgbphkckiekehaaDoorW.PrintWords Go.Proofs.YtgbphkckiekehaaDoorW.PrintLast Go.Proofs.FoldPlain Go.Proofs.FoldText Go.Proofs.YtgbphkckiekehaaDoor.FoldRef Go.Proofs.YtgbphkckiekehaaDoor.FoldW Go.Proofs.YtgbphkckiekehaaDoor.FoldF Go.Proofs.YtgbphkckiekehaaDoor.FoldP

theorem grams_mk (n : Int) (w : World) : Calls Tryd.prog 72 #[.int .i64 n] w fun e w' => e = .returned (.func (.func 85) #[] #[.pointer (some ⟨w.heap.size, 0, none⟩)]) ∧ w' = w.alloc (.cells #[.int .i64 n] 3) := by
  go_enter Tryd.func72, Tryd.ntmps72
  go_wp2
  go_ret
  exact ⟨rfl, rfl⟩

/-- The functions that find hands back, by their numbers. -/
def findV (number : Int) (w : World) : Value :=
  if number = 10 then .func (.func 70) #[] #[] else if number = 11 then .func (.func 71) #[] #[] else if number = 12 then .func (.func 85) #[] #[.pointer (some ⟨w.heap.size, 0, none⟩)]
  else if number = 13 then .func (.func 85) #[] #[.pointer (some ⟨w.heap.size, 0, none⟩)] else if number = 14 then .func (.func 73) #[] #[] else if number = 15 then .func (.func 74) #[] #[] else .nilFunc
def findW (number : Int) (w : World) : World :=
  if number = 12 then w.alloc (.cells #[.int .i64 2] 3) else if number = 13 then w.alloc (.cells #[.int .i64 3] 3) else w

set_option maxHeartbeats 2000000 in
theorem find_c (number : Int) (w : World) : Calls Tryd.prog 58 #[.int .i64 number] w fun e w' => e = .returned (findV number w) ∧ w' = findW number w := by
  unfold findV findW
  by_cases h0 : number = 10
  · subst h0
    go_enter Tryd.func58, Tryd.ntmps58
    go_wp2_with (fail)
    go_ret
    exact ⟨rfl, rfl⟩
  by_cases h1 : number = 11
  · subst h1
    go_enter Tryd.func58, Tryd.ntmps58
    go_wp2_with (fail)
    go_ret
    exact ⟨rfl, rfl⟩
  by_cases h2 : number = 12
  · subst h2
    go_enter Tryd.func58, Tryd.ntmps58
    go_wp2_with (go_at_call 72; refine (grams_mk 2 _).mono ?_; rintro e w1 ⟨rfl, rfl⟩)
    go_ret
    exact ⟨rfl, rfl⟩
  by_cases h3 : number = 13
  · subst h3
    go_enter Tryd.func58, Tryd.ntmps58
    go_wp2_with (go_at_call 72; refine (grams_mk 3 _).mono ?_; rintro e w1 ⟨rfl, rfl⟩)
    go_ret
    exact ⟨rfl, rfl⟩
  by_cases h4 : number = 14
  · subst h4
    go_enter Tryd.func58, Tryd.ntmps58
    go_wp2_with (fail)
    go_ret
    exact ⟨rfl, rfl⟩
  by_cases h5 : number = 15
  · subst h5
    go_enter Tryd.func58, Tryd.ntmps58
    go_wp2_with (fail)
    go_ret
    exact ⟨rfl, rfl⟩
  rw [if_neg h0, if_neg h1, if_neg h2, if_neg h3, if_neg h4, if_neg h5, if_neg h2, if_neg h3]
  go_enter Tryd.func58, Tryd.ntmps58
  go_wp2_with (fail)
  go_ret
  exact ⟨rfl, rfl⟩

theorem eqIn_func (d : Nat) (w : World) (fid : FuncId) (lb : Array Value) : (Op.equalIn (d + 1) 77 (.func (.func fid) #[] lb) .nilFunc).run Tryd.prog w = .ok false w := by
  have hu77 := Tryd.underlying77
  rw [Op.equalIn.eq_def]
  simp [go_sem, hu77]
theorem eqIn_nil (d : Nat) (w : World) : (Op.equalIn (d + 1) 77 .nilFunc .nilFunc).run Tryd.prog w = .ok true w := by
  have hu77 := Tryd.underlying77
  rw [Op.equalIn.eq_def]
  simp [go_sem, hu77]
theorem eq_func (fid : FuncId) (lb : Array Value) (w : World) : (binOp .eql 77 (.func (.func fid) #[] lb) .nilFunc).run Tryd.prog w = .ok (.bool false) w := by
  unfold binOp Op.equal
  simp [go_sem]
  rw [show Op.maxDepth = 9999 + 1 from rfl, eqIn_func]; rfl
theorem eq_nil (w : World) : (binOp .eql 77 .nilFunc .nilFunc).run Tryd.prog w = .ok (.bool true) w := by
  unfold binOp Op.equal
  simp [go_sem]
  rw [show Op.maxDepth = 9999 + 1 from rfl, eqIn_nil]; rfl
theorem linkGo_drop (f : S58 → List S58) (ts : List S58) (k : Nat) (hk : k < ts.length) (out : List S58) :
    linkGo f (ts.drop k) out = if 4096 < (out ++ f (ts.getD k z58)).length then none else linkGo f (ts.drop (k + 1)) (out ++ f (ts.getD k z58)) := by
  rw [List.drop_eq_getElem_cons hk]
  have : ts.getD k z58 = ts[k] := by simp [List.getD_eq_getElem?_getD, hk]
  rw [this]; rfl
/-- What Link answers with a filter f. -/
def linkR (f : S58 → List S58) (ts : List S58) : List S58 × Int := match linkGo f ts [] with | none => ([], 84) | some out => (out, 0)

set_option maxRecDepth 100000 in
set_option maxHeartbeats 4000000 in
theorem link_with (number : Int) (fid : FuncId) (lb : Array Value) (f : S58 → List S58) (OK : World → Prop) (w : World) (ht : Tabs w) (ts : List S58) (A : Option Addr) (cap : Nat)
    (hR : Kd.C k58 w A ts.length ts) (hsz : ∀ t ∈ ts, t.f0.size ≤ 1099511627776) (hfl : ∀ t ∈ ts, (f t).length ≤ 1099511627777)
    (hfind : Calls Tryd.prog 58 #[.int .i64 number] w fun e w' => e = .returned (.func (.func fid) #[] lb) ∧ Below w.heap.size w w' ∧ OK w')
    (eg : ∀ args w, (callFunc fid args).run Tryd.prog w = .ok (.enter fid args) w)
    (hf : ∀ W t, OK W → Tabs W → t.f0.size ≤ 1099511627776 → Calls Tryd.prog fid (#[aggT t] ++ lb) W fun e w' => (∃ v, e = .returned v ∧ TRow w' W.heap.size v (f t)) ∧ Below W.heap.size W w')
    (hOK : ∀ W W', OK W → Below W.heap.size W W' → OK W') :
    Calls Tryd.prog 30 #[.int .i64 number, .slice A ts.length cap] w fun e w' => (∃ v, e = .returned (.tuple #[v, .int .i64 (linkR f ts).2]) ∧ TRow w' w.heap.size v (linkR f ts).1) ∧ Below w.heap.size w w' := by
  have hu58 := Tryd.underlying58
  have hq := eq_func fid lb
  go_enter Tryd.func30, Tryd.ntmps30
  go_wp2_with (go_at_call 58; refine hfind.mono ?_; rintro e w1 ⟨rfl, hb1, ok1⟩)
  have hlen : (ts.length : Int) ≤ 9223372036854775807 := by have := hR.2.1; omega
  have HRR := Aside0.mk hR
  have HOK1 := Aside0.mk ok1
  have HB1 := Aside0.mk hb1
  have HTW := Aside0.mk ht
  clear hR ok1 hb1 hfind
  go_loopw [7, 16] (fun v vi wr => ∃ (k : Nat) (out : List S58), k ≤ ts.length ∧ vi = .int .i64 k ∧ Hid (linkGo f ts [] = linkGo f (ts.drop k) out ∧ out.length ≤ 4096) ∧ Hid (TRow wr w1.heap.size v out) ∧ Hid (Below w1.heap.size w1 wr))
    (fun _ vi _ => ts.length - (intOf vi).toNat)
  case atStart => exact ⟨0, [], Nat.zero_le _, rfl, Lib.hid ⟨rfl, by simp⟩, Lib.hid (Kd.R_nil _ _ _ _ _), Lib.hid (Below.refl _ _)⟩
  case round =>
    obtain ⟨k, out, hk, rfl, hgo, hrow, hbw⟩ := hrel
    by_cases hlt : k < ts.length
    · have hbr := below_step HB1.out hbw.out
      have hR' := Kd.C_below HRR.out hbr
      have hlt' : (k : Int) < (ts.length : Int) := by omega
      obtain ⟨ad, rfl, c0, c1, c2, c3⟩ := at_T58 hR' (k : Int) (by omega) hlt'
      simp only [Int.toNat_natCast] at c0 c1 c2 c3
      have hrd : rd_T58 ts (k : Int) = ts.getD k z58 := rfl
      have htm : rd_T58 ts (k : Int) ∈ ts := by rw [hrd]; simp [List.getD_eq_getElem?_getD, hlt]
      have hts := hsz _ htm
      have htl := hfl _ htm
      have HGO := Aside0.mk (linkGo_drop f ts k hlt out)
      rw [← hrd] at HGO
      clear htm hrd
      generalize rd_T58 ts (k : Int) = t at c0 c1 c2 c3 hts htl HGO
      have hzw : w1.heap.size ≤ wr.heap.size := hbw.out.size
      have hokW : ∀ W, Below w1.heap.size w1 W → OK W := fun W h => hOK _ _ HOK1.out h
      have htW : ∀ W, Below w.heap.size w W → Tabs W := fun W h => HTW.out.step h
      have hfW := fun W h1 h2 => hf W t (hokW W h1) (htW W h2) hts
      have hbA : Below w1.heap.size w1 (wr.alloc (.cells #[.string t.f0, .int .i64 t.f1, .int .i64 t.f2, .int .i64 t.f3] 58)) := hbw.out.alloc hzw _
      have hbA2 : Below w.heap.size w (wr.alloc (.cells #[.string t.f0, .int .i64 t.f1, .int .i64 t.f2, .int .i64 t.f3] 58)) := below_step HB1.out hbA
      have HA := Aside0.mk (And.intro hbA hbA2)
      clear hbA hbA2 hokW htW
      by_cases hgt : 4096 < (out ++ f t).length
      · have hres : Aside0 (linkR f ts = ([], 84)) := Aside0.mk (by unfold linkR; rw [hgo.out.1, HGO.out, if_pos hgt])
        have hgt' : (4096 : Int) < (out.length : Int) + ((f t).length : Int) := by have h := hgt; rw [List.length_append] at h; omega
        go_wp2_with (first
          | (refine (hfW _ HA.out.1 HA.out.2).mono ?_; rintro e w2 ⟨⟨v2, rfl, hr2⟩, hb2⟩; obtain ⟨A2, c2', rfl, hle2, hC2⟩ := Kd.R_reads hr2; have HC2 := Aside0.mk hC2; have HB2 := Aside0.mk hb2; clear hr2 hC2 hb2)
          | ((with_reducible refine gate_builtin (b := .append) (xs := #[.tmp 20, .tmp 23]) rfl ?_); at_builtin; refine Kd.R_append_rows k58 (w0 := w1) w1.heap.size rfl (.tmp 20) (.tmp 23) 42 58 (.agg #[(.string ⟨#[]⟩), (.int .i64 0), (.int .i64 0), (.int .i64 0)]) 40 rfl Tryd.underlying42 info58' rfl (by decide) (by omega) u7 out (f t) A2 _ c2' (fun _ => True) (fun _ => False) rfl rfl (Kd.R_below (Kd.R_alloc hrow.out _) HB2.out) HC2.out (fun _ _ h => h) (fun _ h => h.elim) (fun _ _ => trivial) (HA.out.1.trans (HB2.out.mono (by simp; omega))) (by have := HB2.out.size; simp at this; omega) (by have := hgo.out.2; omega) ?_; intro v3 w3 ho3 hb3 hg3 hat3; obtain ⟨A3, c3', rfl⟩ := Kd.R_slice ho3; have HO3 := Aside0.mk ho3; have HB3 := Aside0.mk hb3; clear ho3 hb3 hg3 hat3))
        go_ret2
        refine ⟨⟨.slice none 0 0, by rw [hres.out]; rfl, by rw [hres.out]; exact Kd.R_nil _ _ _ _ _⟩, below_step HB1.out HB3.out⟩
      · have hgl : (out ++ f t).length ≤ 4096 := by omega
        have hgt3 : (out.length : Int) + ((f t).length : Int) ≤ 4096 := by rw [List.length_append] at hgl; omega
        have hgt' : ¬ (4096 : Int) < (out.length : Int) + ((f t).length : Int) := by rw [List.length_append] at hgl; omega
        go_wp2_with (first
          | (refine (hfW _ HA.out.1 HA.out.2).mono ?_; rintro e w2 ⟨⟨v2, rfl, hr2⟩, hb2⟩; obtain ⟨A2, c2', rfl, hle2, hC2⟩ := Kd.R_reads hr2; have HC2 := Aside0.mk hC2; have HB2 := Aside0.mk hb2; clear hr2 hC2 hb2)
          | ((with_reducible refine gate_builtin (b := .append) (xs := #[.tmp 20, .tmp 23]) rfl ?_); at_builtin; refine Kd.R_append_rows k58 (w0 := w1) w1.heap.size rfl (.tmp 20) (.tmp 23) 42 58 (.agg #[(.string ⟨#[]⟩), (.int .i64 0), (.int .i64 0), (.int .i64 0)]) 40 rfl Tryd.underlying42 info58' rfl (by decide) (by omega) u7 out (f t) A2 _ c2' (fun _ => True) (fun _ => False) rfl rfl (Kd.R_below (Kd.R_alloc hrow.out _) HB2.out) HC2.out (fun _ _ h => h) (fun _ h => h.elim) (fun _ _ => trivial) (HA.out.1.trans (HB2.out.mono (by simp; omega))) (by have := HB2.out.size; simp at this; omega) (by have := hgo.out.2; omega) ?_; intro v3 w3 ho3 hb3 hg3 hat3; obtain ⟨A3, c3', rfl⟩ := Kd.R_slice ho3; have HO3 := Aside0.mk ho3; have HB3 := Aside0.mk hb3; clear ho3 hb3 hg3 hat3))
        go_roundw
        case rel =>
          have ho := HO3.out
          rw [List.length_append] at ho
          exact ⟨k + 1, out ++ f t, by omega, by go_num, Lib.hid ⟨by rw [hgo.out.1, HGO.out, if_neg hgt], hgl⟩, Lib.hid ho, Lib.hid HB3.out⟩
        case measure => simp [intOf]; omega
    · obtain rfl : k = ts.length := by omega
      have hres : Aside0 (linkR f ts = (out, 0)) := Aside0.mk (by unfold linkR; rw [hgo.out.1, List.drop_length]; rfl)
      have hrow' := hrow.out
      have hbb := hbw.out
      have hlt' : ¬ ((ts.length : Nat) : Int) < (ts.length : Int) := by omega
      clear hgo hrow hbw
      go_wp2
      go_ret2
      refine ⟨⟨u7, by rw [hres.out]; rfl, by rw [hres.out]; exact Kd.R_lower hrow' HB1.out.size⟩, below_step HB1.out hbb⟩

theorem ite_some {p : Prop} [Decidable p] {x : Option Bool} (h : ∃ b, x = some b) : ∃ b, (if p then some true else x) = some b := by
  by_cases hp : p
  · rw [if_pos hp]; exact ⟨_, rfl⟩
  · rw [if_neg hp]; exact h
theorem stop_total (s : ByteArray) : ∃ b, analysis_Stop.f s = some b := by
  unfold analysis_Stop.f
  repeat refine ite_some ?_
  exact ⟨_, rfl⟩
theorem stopF_f (t : S58) : analysis_stop.f t.f0 t.f1 t.f2 t.f3 = some (stopF t) := by
  obtain ⟨b, hb⟩ := stop_total t.f0
  unfold analysis_stop.f stopF stopB
  rw [hb]
  cases b <;> rfl
theorem stopF_c (t : S58) (w : World) : Calls Tryd.prog 71 #[aggT t] w fun e w' => (∃ v, e = .returned v ∧ TRow w' w.heap.size v (stopF t)) ∧ Below w.heap.size w w' :=
  (analysis_stop.calls t.f0 t.f1 t.f2 t.f3 _ w (stopF_f t)).mono fun _ _ ⟨v, he, hr, hb⟩ => ⟨⟨v, he, hr⟩, hb⟩
theorem lowerF_len (t : S58) : (lowerF t).length = 1 := rfl
theorem stopF_len (t : S58) : (stopF t).length ≤ 1 := by unfold stopF; split <;> simp
theorem shortF_len (t : S58) : (shortF t).length = 1 := by unfold shortF; split <;> rfl
theorem marksF_len (t : S58) : (marksF t).length ≤ 1 := by unfold marksF; split <;> simp
theorem gramsF_len (n : Nat) (t : S58) (h : t.f0.size ≤ 1099511627776) : (gramsF n t).length ≤ 1099511627777 := by
  unfold gramsF; split
  · simp
  · rw [List.length_map, List.length_range]
    have h1 : (pl t).length = (runes t.f0.data.toList).length + 1 := placesD_len _
    have h2 := runes_length t.f0.data.toList
    rw [size_data] at h2
    omega

theorem link_c (number : Int) (w : World) (ht : Tabs w) (ts : List S58) (A : Option Addr) (cap : Nat) (hR : Kd.C k58 w A ts.length ts) (hsz : ∀ t ∈ ts, t.f0.size ≤ 1099511627776) :
    Calls Tryd.prog 30 #[.int .i64 number, .slice A ts.length cap] w fun e w' => (∃ v, e = .returned (.tuple #[v, .int .i64 (linkD number ts).2]) ∧ TRow w' w.heap.size v (linkD number ts).1) ∧ Below w.heap.size w w' := by
  have hD : ∀ f, filtF number = some f → linkD number ts = linkR f ts := fun f h => by unfold linkD; rw [h]; rfl
  have hfc := find_c number w
  unfold findV findW at hfc
  by_cases h0 : number = 10
  · rw [hD lowerF (by unfold filtF; rw [if_pos h0])]
    rw [if_pos h0, if_neg (by omega), if_neg (by omega)] at hfc
    exact link_with number 70 #[] lowerF (fun _ => True) w ht ts A cap hR hsz (fun t _ => by rw [lowerF_len]; omega) (hfc.mono fun _ _ ⟨h1, h2⟩ => ⟨h1, by subst h2; exact Below.refl _ _, trivial⟩) (enters_of Tryd.func70 (by kernel_rfl) rfl) (fun W t _ hT hs => lowerF_c t (by omega) W hT) (fun _ _ _ _ => trivial)
  by_cases h1 : number = 11
  · rw [hD stopF (by unfold filtF; rw [if_neg h0, if_pos h1])]
    rw [if_neg h0, if_pos h1, if_neg (by omega), if_neg (by omega)] at hfc
    exact link_with number 71 #[] stopF (fun _ => True) w ht ts A cap hR hsz (fun t _ => by have := stopF_len t; omega) (hfc.mono fun _ _ ⟨h1, h2⟩ => ⟨h1, by subst h2; exact Below.refl _ _, trivial⟩) (enters_of Tryd.func71 (by kernel_rfl) rfl) (fun W t _ hT hs => stopF_c t W) (fun _ _ _ _ => trivial)
  by_cases h2 : number = 12
  · rw [hD (gramsF 2) (by unfold filtF; rw [if_neg h0, if_neg h1, if_pos h2])]
    rw [if_neg h0, if_neg h1, if_pos h2, if_pos h2] at hfc
    exact link_with number 85 #[.pointer (some ⟨w.heap.size, 0, none⟩)] (gramsF 2) (fun W => W.cell? ⟨w.heap.size, 0, none⟩ = some (.int .i64 2)) w ht ts A cap hR hsz (fun t h => gramsF_len 2 t (hsz t h)) (hfc.mono fun _ _ ⟨h1, h2⟩ => ⟨h1, by subst h2; exact below_alloc (Below.refl _ _) _, by subst h2; exact (Boxed.new _ _ _).cell⟩) (enters_of Tryd.func85 (by kernel_rfl) rfl) (fun W t hok hT hs => gramsF_c 2 (by omega) (by omega) t hs w.heap.size W hT hok) (fun _ _ hok hb => pw_cell_below hb hok)
  by_cases h3 : number = 13
  · rw [hD (gramsF 3) (by unfold filtF; rw [if_neg h0, if_neg h1, if_neg h2, if_pos h3])]
    rw [if_neg h0, if_neg h1, if_neg h2, if_pos h3, if_neg h2, if_pos h3] at hfc
    exact link_with number 85 #[.pointer (some ⟨w.heap.size, 0, none⟩)] (gramsF 3) (fun W => W.cell? ⟨w.heap.size, 0, none⟩ = some (.int .i64 3)) w ht ts A cap hR hsz (fun t h => gramsF_len 3 t (hsz t h)) (hfc.mono fun _ _ ⟨h1, h2⟩ => ⟨h1, by subst h2; exact below_alloc (Below.refl _ _) _, by subst h2; exact (Boxed.new _ _ _).cell⟩) (enters_of Tryd.func85 (by kernel_rfl) rfl) (fun W t hok hT hs => gramsF_c 3 (by omega) (by omega) t hs w.heap.size W hT hok) (fun _ _ hok hb => pw_cell_below hb hok)
  by_cases h4 : number = 14
  · rw [hD shortF (by unfold filtF; rw [if_neg h0, if_neg h1, if_neg h2, if_neg h3, if_pos h4])]
    rw [if_neg h0, if_neg h1, if_neg h2, if_neg h3, if_pos h4, if_neg h2, if_neg h3] at hfc
    exact link_with number 73 #[] shortF (fun _ => True) w ht ts A cap hR hsz (fun t _ => by rw [shortF_len]; omega) (hfc.mono fun _ _ ⟨h1, h2⟩ => ⟨h1, by subst h2; exact Below.refl _ _, trivial⟩) (enters_of Tryd.func73 (by kernel_rfl) rfl) (fun W t _ hT hs => shortF_c t (by omega) W hT) (fun _ _ _ _ => trivial)
  by_cases h5 : number = 15
  · rw [hD marksF (by unfold filtF; rw [if_neg h0, if_neg h1, if_neg h2, if_neg h3, if_neg h4, if_pos h5])]
    rw [if_neg h0, if_neg h1, if_neg h2, if_neg h3, if_neg h4, if_pos h5, if_neg h2, if_neg h3] at hfc
    exact link_with number 74 #[] marksF (fun _ => True) w ht ts A cap hR hsz (fun t _ => by have := marksF_len t; omega) (hfc.mono fun _ _ ⟨h1, h2⟩ => ⟨h1, by subst h2; exact Below.refl _ _, trivial⟩) (enters_of Tryd.func74 (by kernel_rfl) rfl) (fun W t _ hT hs => marksF_c t hs W hT) (fun _ _ _ _ => trivial)
  have hN : linkD number ts = ([], 60) := by unfold linkD filtF; rw [if_neg h0, if_neg h1, if_neg h2, if_neg h3, if_neg h4, if_neg h5]
  rw [hN]
  rw [if_neg h0, if_neg h1, if_neg h2, if_neg h3, if_neg h4, if_neg h5, if_neg h2, if_neg h3] at hfc
  have hq := eq_nil
  clear hN hD hsz
  go_enter Tryd.func30, Tryd.ntmps30
  go_wp2_with (go_at_call 58; refine hfc.mono ?_; rintro e w1 ⟨rfl, rfl⟩)
  go_ret2
  exact ⟨⟨_, rfl, Kd.R_nil _ _ _ _ _⟩, Below.refl _ _⟩
end Go.Proofs.YtgbphkckiekehaaDoor.Ana
