/- Law FoldBack walked. -/
import Derived.Test.YtgbphkckiekehaaDoorFoldKnown
import Derived.Test.YtgbphkckiekehaaDoorBackFacts
import Derived.Maps.AppendAt
import Derived.RangeFuncBox
import Derived.Deep.RegionLaw
set_option linter.unusedVariables false
set_option linter.unusedSimpArgs false
namespace Go
theorem step_append_own {P : Program} {ops : Array Oper} {o : Oper} {a : Act} {w : World} {K : Act → World → Prop} {Q : Exit → Act → World → Prop} {E : Prop}
    (hg : o.guard = none) (s x : Operand) (t : TypeId) (hop : o.op = Op.call { callee := Callee.builtin Builtin.append, args := #[s, x], argTypes := #[t, t] })
    (base : Nat) (e : TypeId) (i : TypeInfo) (z : Value) (size bytes : Nat) (h1 : P.underlying t = some (.slice e)) (h2 : P.info? e = some i) (h3 : i.zero = some z) (h4 : i.size = size) (h5 : i.bytes = bytes) (h6 : z.cells.size = size) (h7 : 0 < size)
    (v : Value) (k : Nat) (xs : List Value) (hs : a.eval s = v) (hown : w.ownsRow base e size v k xs) (ad : Addr) (m c : Nat) (news : List Value) (hx : a.eval x = .slice (some ad) m c) (hn : news.length = m * size)
    (hc : ∀ j u, news[j]? = some u → w.cell? (ad.add j) = some u) (h1c : ∀ u ∈ news, u.oneCell' = true) (b1 : k + m ≤ maxLen) (b2 : (k + m) * bytes ≤ 140737488355328) (b3 : base ≤ w.heap.size)
    (hK : ∀ v' w', w'.ownsRow base e size v' (k + m) (xs ++ news) → w.grownBy w' v.ownBlock → K (a.put o.dst v') w') :
    if Region.wanted o (yielded ops a.tmps) = true then Oper.wp P o a w K Q else E := by
  have hw : Region.wanted o (yielded ops a.tmps) = true := by simp [Region.wanted, hg]
  rw [if_pos hw]
  obtain ⟨v', w', hrun, r1, r2, r3⟩ := run_append_own (P := P) w base t o.type e i z size bytes h1 h2 h3 h4 h5 h6 h7 v k xs hown ad m c news hn hc h1c b1 b2 b3
  unfold Oper.wp
  simp [execOp, hop, resolve, invoke, builtin, hs, hx, hrun, Result.andThen]
  exact hK v' w' r1 r2
end Go
namespace Go.Proofs.YtgbphkckiekehaaDoor.backLaw
open Go.RowKit Go.Shelf Go.Proofs.YtgbphkckiekehaaDoor.QFold Go.Proofs.YtgbphkckiekehaaDoorW.PrintWords Go.Proofs.FoldPlain Go.Proofs.FoldText Go.Proofs.YtgbphkckiekehaaDoor.FoldRef Go.Proofs.YtgbphkckiekehaaDoor.Seq Go.Proofs.YtgbphkckiekehaaDoor.FoldW Go.Proofs.YtgbphkckiekehaaDoor.FoldF Go.Proofs.YtgbphkckiekehaaDoor.FoldK Go.Proofs.YtgbphkckiekehaaDoor.FoldP
attribute [local go_sem] Oper.semAt_some

theorem infoRune : (Tryd.prog.info? 21).map (fun i => (i.zero, i.size, i.bytes)) = some (some (.int .i32 0), 1, 4) := by kernel_rfl

theorem ownsRow_drew {W : World} {base n : Nat} {e : TypeId} {size : Nat} {v : Value} {xs : List Value} (h : W.ownsRow base e size v n xs) : W.drew.ownsRow base e size v n xs := h
theorem one_new_drew (W : World) (u : Value) (t : TypeId) : ∀ j y, [u][j]? = some y → ((W.alloc (.cells #[u] t)).drew).cell? ((⟨W.heap.size, 0, none⟩ : Addr).add j) = some y := fun j y h => by
  rw [World.cell?_drew]; exact cell_one_new _ _ _ j y h
theorem grown_undrew {W W' : World} {r : Option Nat} (h : W.drew.grownBy W' r) : W.grownBy W' r := ⟨h.os, h.tape, h.output, h.size, h.block⟩
theorem wp_normal {P : Program} {c : Code} {Q : Exit → Act → World → Prop} {a : Act} {w : World} (h : c.wp P (Exit.then (Q .normal) (fun _ _ _ => False)) a w) : c.wp P Q a w :=
  wp_mono h (fun e a w h => by cases e <;> first | exact h | exact h.elim)
abbrev cellsI (l : List Int) : List Value := l.map (Value.int .i32)
/-- What the first loop carries. -/
def Inv1 (zs : List Int) (bW : Nat) (W0 : World) (k : Nat) (W : World) : Prop :=
  (∃ A c, Boxed W bW 26 (.slice A (kept (zs.take k)).length c) ∧ W.ownsRow bW 21 1 (.slice A (kept (zs.take k)).length c) (kept (zs.take k)).length (cellsI (kept (zs.take k)))) ∧ Below bW W0 W

theorem boxed_low {B b : Nat} {t : TypeId} {v : Value} {W W' : World} (h : Boxed W b t v) (hb : Below B W W') (hl : b < B) : Boxed W' b t v := (hb.block b hl).trans h
theorem own_slice {W : World} {base e size n : Nat} {v : Value} {xs : List Value} (h : W.ownsRow base e size v n xs) : ∃ A c, v = .slice A n c := by
  rcases h.2 with ⟨rfl, h0⟩ | ⟨g, cap, cur, rfl, _⟩
  · exact ⟨none, 0, by rw [h0]⟩
  · exact ⟨_, _, rfl⟩

set_option maxRecDepth 100000 in
set_option maxHeartbeats 4000000 in
theorem walk (zs : List Int) (A : Option Addr) (cap : Nat) (hz : zs.length ≤ 35184372088832) (h32 : ∀ k, -2147483648 ≤ zs.getD k 0 ∧ zs.getD k 0 ≤ 2147483647) (w : World) (ht : Tabs w) (hR : ReadsOf (Value.int .i32) 0 w A zs.length zs) :
    Calls Tryd.prog 8 #[.slice A zs.length cap] w fun e w' => e = .returned (.bool true) ∧ Below w.heap.size w w' := by
  have h2 := ht.size
  obtain ⟨i0, hi, iz0, iz1, iz2⟩ := info_parts infoRune
  refine (callsIn_wide (n := 20)).1 ?_
  refine callsIn_of_wp_marks Tryd.func8 rfl trivial ?_ rfl
  simp only [Tryd.ntmps8, List.size_toArray, List.length_cons, List.length_nil, Nat.reduceAdd, Nat.reduceSub, Array.replicate_succ, Array.replicate_zero, List.push_toArray, List.append_toArray, List.nil_append, List.cons_append]
  have hBw : Below w.heap.size w (w.alloc (.cells #[.bool false] 4)) := below_alloc (Below.refl _ _) _
  have hBr0 : Boxed (w.alloc (.cells #[.bool false] 4)) w.heap.size 4 (.bool false) := Boxed.new _ _ _
  have HT : Aside0 (Tabs (w.alloc (.cells #[.bool false] 4))) := Aside0.mk (ht.step hBw)
  gi_wp2_with (refine ⟨trivial, ?_⟩; gi_at_call 23; refine (callsIn_wide.2 (known_c _ HT.out)).mono ?_; rintro e w1 ⟨rfl, hb⟩)
  obtain ⟨W0, hW0⟩ : ∃ W0, w1.alloc (.cells #[.slice none 0 0] 26) = W0 := ⟨_, rfl⟩
  rw [hW0]
  have hz1 : w.heap.size + 1 ≤ w1.heap.size := by have := hb.size; simpa using this
  have hb1 : Below w1.heap.size w1 W0 := by rw [← hW0]; exact below_alloc (Below.refl _ _) _
  have br : Boxed W0 w.heap.size 4 (.bool false) := boxed_below (boxed_below hBr0 hb) hb1
  have bw : Boxed W0 w1.heap.size 26 (.slice none 0 0) := by rw [← hW0]; exact Boxed.new _ _ _
  have hT0 : Tabs W0 := (HT.out.step hb).step hb1
  have hBW : Below w.heap.size w W0 := below_step (below_step hBw hb) hb1
  have hsz : W0.heap.size = w1.heap.size + 1 := by rw [← hW0]; simp
  have hR0 := hR.below hBW
  clear hW0 hb1 hb HT hBr0 hBw
  refine wpIn_wide.2 ?_
  go_wp2
  go_loopw [3, 5] (fun vs vi wr => ∃ k : Nat, k ≤ zs.length ∧ vi = .int .i64 k ∧ vs = .string (strOf (flatI (kept (zs.take k)))) ∧ Hid (Inv1 zs w1.heap.size W0 k wr))
    (fun _ vi _ => zs.length - (intOf vi).toNat)
  case atStart => exact ⟨0, Nat.zero_le _, rfl, rfl, Lib.hid ⟨⟨none, 0, bw, World.ownsRow_nil _ _ _ _⟩, Below.refl _ _⟩⟩
  case round =>
    obtain ⟨k, hk, rfl, rfl, hI⟩ := hrel
    obtain ⟨⟨A', c', hv, hrow⟩, hB⟩ := hI.out
    have hBr : Below w.heap.size w wr := hBW.trans (hB.mono (by omega))
    by_cases hlt : k < zs.length
    · obtain ⟨ad, hA, hrd⟩ := hR.2.2 (by omega)
      subst hA
      have hlt' : (k : Int) < (zs.length : Int) := by omega
      have hky := kept_yes zs k hlt
      have hkn := kept_no zs k hlt
      have hkl := kept_len zs k
      have hcat := cat_size zs k (zs.getD k 0) (by omega)
      have hc : wr.cell? (ad.add k) = some (.int .i32 (zs.getD k 0)) := pw_cell_below hBr (hrd k hlt)
      obtain ⟨x0, x1⟩ := h32 k
      generalize zs.getD k 0 = x at hky hkn hc x0 x1 hcat
      have HX := Aside0.mk (And.intro hky hkn)
      have HV := Aside0.mk (And.intro hv (And.intro hrow (And.intro hB hI)))
      clear hky hkn hv hrow hB hI hrd hR hR0 hBr bw br
      by_cases hvx : Lib.validRune x = true
      · have hput := put_yes x x0 x1 hvx wr
        have hvx' := (valid_iff x).1 hvx
        have y0 : 0 ≤ x := by omega
        have y1 : x ≤ 1114111 := by omega
        rcases hvx' with ⟨_, y2⟩ | ⟨y2, _⟩
        · go_wp2_with (go_at_call 24; refine hput.mono ?_; clear hput; rintro e w2 ⟨rfl, hb⟩; have hc2 := pw_cell_below hb hc; have hv2 := boxed_below HV.out.1 hb; have hcw2 := hv2.cell; have hcw3 := (hv2.alloc (.cells #[.int .i32 x] 21)).cell; have HR2 := Aside0.mk (pw_own_below HV.out.2.1 hb); have hzw : w1.heap.size ≤ w2.heap.size := (by have g1 := hb.size; have g2 := HV.out.2.2.1.size; omega))
          refine wp_normal ?_
          go_region_law (refine step_append_own rfl _ _ 26 rfl w1.heap.size 21 i0 (.int .i32 0) 1 4 Tryd.underlying26 hi iz0 iz1 iz2 rfl (by decide) _ _ _ rfl (ownsRow_drew (HR2.out.alloc (.cells #[.int .i32 x] 21))) ⟨w2.heap.size, 0, none⟩ 1 1 [.int .i32 x] rfl rfl (one_new_drew _ _ _) (by simp [Value.oneCell']) (by unfold maxLen; omega) (by omega) (by simp; omega) ?_; intro v' w1' hown' hgrow; obtain ⟨g', cap', rfl⟩ := ownsRow_succ hown'; obtain ⟨hv1, hva, hra, hka, hba⟩ := hv2.appended (by decide) HR2.out (by omega) (Nat.le_refl _) hown' (grown_undrew hgrow); have hc1 := hv1.cell; have hf1 := hv1.frozen)
          all_goals
            go_wp2
            go_roundw
            case rel =>
              have hwr : w1.heap.size ≤ wr.heap.size := by have g2 := HV.out.2.2.1.size; omega
              refine ⟨k + 1, by omega, by go_num, ?_, Lib.hid ⟨⟨some ⟨g', 0, none⟩, cap', ?_, ?_⟩, (HV.out.2.2.1.trans (hb.mono hwr)).trans hba⟩⟩
              · rw [HX.out.1 hvx, cat_is]
              · rw [HX.out.1 hvx, List.length_append]; exact hva
              · rw [HX.out.1 hvx, List.length_append, cellsI, List.map_append]; exact hra
            case measure => simp [intOf]; omega
        · go_wp2_with (go_at_call 24; refine hput.mono ?_; clear hput; rintro e w2 ⟨rfl, hb⟩; have hc2 := pw_cell_below hb hc; have hv2 := boxed_below HV.out.1 hb; have hcw2 := hv2.cell; have hcw3 := (hv2.alloc (.cells #[.int .i32 x] 21)).cell; have HR2 := Aside0.mk (pw_own_below HV.out.2.1 hb); have hzw : w1.heap.size ≤ w2.heap.size := (by have g1 := hb.size; have g2 := HV.out.2.2.1.size; omega))
          refine wp_normal ?_
          go_region_law (refine step_append_own rfl _ _ 26 rfl w1.heap.size 21 i0 (.int .i32 0) 1 4 Tryd.underlying26 hi iz0 iz1 iz2 rfl (by decide) _ _ _ rfl (ownsRow_drew (HR2.out.alloc (.cells #[.int .i32 x] 21))) ⟨w2.heap.size, 0, none⟩ 1 1 [.int .i32 x] rfl rfl (one_new_drew _ _ _) (by simp [Value.oneCell']) (by unfold maxLen; omega) (by omega) (by simp; omega) ?_; intro v' w1' hown' hgrow; obtain ⟨g', cap', rfl⟩ := ownsRow_succ hown'; obtain ⟨hv1, hva, hra, hka, hba⟩ := hv2.appended (by decide) HR2.out (by omega) (Nat.le_refl _) hown' (grown_undrew hgrow); have hc1 := hv1.cell; have hf1 := hv1.frozen)
          all_goals
            go_wp2
            go_roundw
            case rel =>
              have hwr : w1.heap.size ≤ wr.heap.size := by have g2 := HV.out.2.2.1.size; omega
              refine ⟨k + 1, by omega, by go_num, ?_, Lib.hid ⟨⟨some ⟨g', 0, none⟩, cap', ?_, ?_⟩, (HV.out.2.2.1.trans (hb.mono hwr)).trans hba⟩⟩
              · rw [HX.out.1 hvx, cat_is]
              · rw [HX.out.1 hvx, List.length_append]; exact hva
              · rw [HX.out.1 hvx, List.length_append, cellsI, List.map_append]; exact hra
            case measure => simp [intOf]; omega
      · have hvx' : Lib.validRune x = false := by simpa using hvx
        have hput := put_no x hvx' wr
        rw [valid_iff] at hvx
        by_cases y0 : 0 ≤ x
        · by_cases y1 : x ≤ 1114111
          · have y2 : ¬ x < 55296 := by omega
            have y3 : ¬ 57343 < x := by omega
            go_wp2_with (go_at_call 24; refine hput.mono ?_; clear hput; rintro e w2 ⟨rfl, hb⟩; have hc2 := pw_cell_below hb hc; have hv2 := boxed_below HV.out.1 hb; have HR2 := Aside0.mk (pw_own_below HV.out.2.1 hb))
            go_roundw
            case rel =>
              have hwr : w1.heap.size ≤ wr.heap.size := by have g2 := HV.out.2.2.1.size; omega
              have hkn := HX.out.2 hvx'
              refine ⟨k + 1, by omega, by go_num, ?_, Lib.hid ⟨⟨A', c', ?_, ?_⟩, HV.out.2.2.1.trans (hb.mono hwr)⟩⟩
              · rw [hkn]
              · rw [hkn]; exact hv2
              · rw [hkn]; exact HR2.out
            case measure => simp [intOf]; omega
          · go_wp2_with (go_at_call 24; refine hput.mono ?_; clear hput; rintro e w2 ⟨rfl, hb⟩; have hc2 := pw_cell_below hb hc; have hv2 := boxed_below HV.out.1 hb; have HR2 := Aside0.mk (pw_own_below HV.out.2.1 hb))
            go_roundw
            case rel =>
              have hwr : w1.heap.size ≤ wr.heap.size := by have g2 := HV.out.2.2.1.size; omega
              have hkn := HX.out.2 hvx'
              refine ⟨k + 1, by omega, by go_num, ?_, Lib.hid ⟨⟨A', c', ?_, ?_⟩, HV.out.2.2.1.trans (hb.mono hwr)⟩⟩
              · rw [hkn]
              · rw [hkn]; exact hv2
              · rw [hkn]; exact HR2.out
            case measure => simp [intOf]; omega
        · go_wp2_with (go_at_call 24; refine hput.mono ?_; clear hput; rintro e w2 ⟨rfl, hb⟩; have hc2 := pw_cell_below hb hc; have hv2 := boxed_below HV.out.1 hb; have HR2 := Aside0.mk (pw_own_below HV.out.2.1 hb))
          go_roundw
          case rel =>
            have hwr : w1.heap.size ≤ wr.heap.size := by have g2 := HV.out.2.2.1.size; omega
            have hkn := HX.out.2 hvx'
            refine ⟨k + 1, by omega, by go_num, ?_, Lib.hid ⟨⟨A', c', ?_, ?_⟩, HV.out.2.2.1.trans (hb.mono hwr)⟩⟩
            · rw [hkn]
            · rw [hkn]; exact hv2
            · rw [hkn]; exact HR2.out
          case measure => simp [intOf]; omega
    · obtain rfl : k = zs.length := by omega
      rw [List.take_length] at hv hrow
      have hT1 : Tabs wr := hT0.below hB (by omega)
      have br1 := boxed_low br hB (by omega)
      have hzr : W0.heap.size ≤ wr.heap.size := hB.size
      have hkl : (kept zs).length ≤ 35184372088832 := by have := kept_len zs zs.length; rw [List.take_length] at this; omega
      have hrc := runes_count zs
      have hrm := fun (pre rest : List (Nat × Nat)) (x : Nat × Nat) => runes_mid zs (pre := pre) (rest := rest) (x := x)
      have hvd := (runes_kept zs).2
      obtain ⟨S, hS⟩ : ∃ S, S = strOf (flatI (kept zs)) := ⟨_, rfl⟩
      have hSd : S.data.toList = flatI (kept zs) := by rw [hS]; simp [strOf]
      have hs' : S.size ≤ 140737488355328 := by rw [← size_data, hSd]; have := flatI_len (kept zs); omega
      simp only [List.take_length]
      rw [← hS]
      rw [← hSd] at hrc hrm hvd
      have hval : ∀ W, Tabs W → Calls Tryd.prog 17 #[.string S] W fun e w' => e = .returned (.bool true) ∧ Below W.heap.size W w' := fun W hW => by
        have h := valid_c S hs' W hW; rwa [hvd] at h
      have hRw : ∃ A c, (Value.slice A' (kept zs).length c') = .slice A (kept zs).length c ∧ Row .i32 wr w1.heap.size wr.heap.size A (kept zs) := Row.of_own hrow
      obtain ⟨A2, c2, hAc, hRow⟩ := hRw
      obtain ⟨rfl, -, rfl⟩ := Value.slice.inj hAc
      generalize kept zs = L at hv hRow hkl hrc hrm
      clear hI hrow hB bw br hT0 hBW hS hSd hvd hAc hR0 hR
      go_wp2
      gi_wp2_with (refine ⟨trivial, ?_⟩; gi_at_call 20; refine (callsIn_wide.2 (runes_c S _)).mono ?_; rintro e w3 ⟨rfl, rfl⟩)
      obtain ⟨W2, hW2⟩ : ∃ W2, (wr.alloc (.cells #[.int .i64 0] 3)).alloc (.cells #[.string S] 9) = W2 := ⟨_, rfl⟩
      rw [hW2]
      have hb2 : Below wr.heap.size wr W2 := by rw [← hW2]; exact below_alloc (below_alloc (Below.refl _ _) _) _
      have hsz2 : W2.heap.size = wr.heap.size + 2 := by rw [← hW2]; simp
      have e9 : Boxed W2 wr.heap.size 3 (.int .i64 0) := by rw [← hW2]; exact (Boxed.new _ _ _).alloc _
      have eS : Boxed W2 (wr.heap.size + 1) 9 (.string S) := by
        have := Boxed.new (wr.alloc (.cells #[.int .i64 0] 3)) 9 (.string S)
        rw [World.size_alloc, hW2] at this; exact this
      have eF := boxed_below hv hb2
      have er := boxed_below br1 hb2
      have eR := hRow.below hb2
      have eT := hT1.step hb2
      have eB := below_step hBr hb2
      clear hW2 hb2 hv hRow br1 hT1 hBr
      refine range_known (F := Fence.wide) (n := 20) (xs := runes S.data.toList) rfl (by omega) (gf := 49) (lb := #[.pointer (some ⟨wr.heap.size + 1, 0, none⟩)]) rfl trivial (enters_of Tryd.func49 (by kernel_rfl) rfl)
        (runes_seq 19 (by omega) (wr.heap.size + 1) S hs' W2 eS.cell eT) (fun h k => KpB.trans h k) (KpB.putObj (by omega) (by omega)) (Below.refl _ _) (fun _ => rfl)
        (fun pre X => (Boxed X wr.heap.size 3 (.int .i64 pre.length) ∧ Boxed X w1.heap.size 26 (.slice A' L.length c') ∧ Boxed X w.heap.size 4 (.bool false) ∧ Row .i32 X w1.heap.size wr.heap.size A' L) ∧ Below w.heap.size w X)
        (fun _ _ _ => False)
        ?hI (fun _ _ _ _ _ hs _ _ => hs) ⟨⟨e9, eF, er, eR⟩, eB⟩ ?a1 ?assign ?body ?done ?stop
      case hI =>
        refine OwnFrom.and (Own.from ?_ _) (ownFrom_below (Nat.le_refl _) (by omega))
        exact fun q X Y row hs hg hr => ⟨boxed_own _ _ (fun pre : List (Nat × Nat) => .int .i64 pre.length) q X Y row hs.1 hg hr, boxed_own _ _ (fun _ : List (Nat × Nat) => .slice A' L.length c') q X Y row hs.2.1 hg hr, boxed_own _ _ (fun _ : List (Nat × Nat) => .bool false) q X Y row hs.2.2.1 hg hr, Row.own _ _ _ _ _ q X Y row hs.2.2.2 hg hr⟩
      case assign =>
        intro l x W' K hK
        have HK := Aside0.mk hK
        clear hK
        unfold encR
        gi_wp2
        exact HK.out
      case body =>
        rintro l pre x rest X hxs ⟨⟨c9, cF, cr, cR⟩, cB⟩
        obtain ⟨hp, hx⟩ := hrm pre rest x hxs
        obtain ⟨X', hX'⟩ : ∃ X', X' = X.setCell ⟨wr.heap.size, 0, none⟩ (.int .i64 ((pre ++ [x]).length : Int)) := ⟨_, rfl⟩
        have hk : Kept X X' (fun b => b = wr.heap.size) := by rw [hX']; exact (Kept.refl X (fun b => b = wr.heap.size)).setCell (p := ⟨wr.heap.size, 0, none⟩) (.inl rfl) _
        have HI : Aside0 (KpB (wr.heap.size + 1) X X' ∧ (Boxed X' wr.heap.size 3 (.int .i64 ((pre ++ [x]).length : Int)) ∧ Boxed X' w1.heap.size 26 (.slice A' L.length c') ∧ Boxed X' w.heap.size 4 (.bool false) ∧ Row .i32 X' w1.heap.size wr.heap.size A' L) ∧ Below w.heap.size w X') := by
          refine ⟨KpB.of_kept hk (fun b hb => by omega), ⟨?_, ?_, ?_, cR.kept hk (fun b hb => by omega)⟩, ?_⟩
          · rw [hX']; exact c9.set _
          · rw [hX']; exact cF.other (by omega) _
          · rw [hX']; exact cr.other (by omega) _
          · rw [hX']; exact cB.setCell (p := ⟨wr.heap.size, 0, none⟩) (show w.heap.size ≤ wr.heap.size by omega) _
        rw [hX'] at HI
        have d9 := c9.cell
        have f9 := c9.frozen
        have dF := cF.cell
        obtain ⟨g, hA, hg1, hg2, hcell⟩ := cR pre.length (by omega)
        rw [hx] at hcell
        subst hA
        clear hX' hk c9 cF cr cR cB e9 eF er eS eR eT eB hxs hrm hrc hx hval
        gi_wp2
        rw [show ((pre.length : Int) + 1) = ((pre ++ [x]).length : Int) by simp]
        exact ⟨KeepsOthers.setCell _ _ _, HI.out⟩
      case done =>
        rintro D X hD ⟨⟨c9, cF, cr, cR⟩, cB⟩ hK
        have hDl : D < X.heap.size := (Array.getElem?_eq_some_iff.1 hK).1
        have hTX : Tabs X := ht.step cB
        rw [hrc] at c9
        have d9 := c9.cell
        have dF := cF.cell
        clear c9 cF cR e9 eF er eS eR eT eB hrc hrm
        gi_wp2_with (refine ⟨trivial, ?_⟩; gi_at_call 17; refine (callsIn_wide.2 (hval _ hTX)).mono ?_; rintro e X2 ⟨rfl, hb⟩; have cr2 := boxed_below cr hb; have dr := cr2.cell; have fr := cr2.frozen)
        have hKx := (hb.block D hDl).trans hK
        have hKa := (KeepsOthers.setCell X2 ⟨w.heap.size, 0, none⟩ (.bool true)).same D _ hKx rfl
        refine ⟨by simp, .inl ⟨_, _, rfl, run_takeDeferred hKa, ?_⟩⟩
        have hca := Go.cell_kept (World.cell?_setCell_same' X2 ⟨w.heap.size, 0, none⟩ (.bool true) (by rw [dr]; rfl)) (grownBy_putObj' _ D (.deferred none)) (fun r e => by cases e; exact ⟨_, hKa, rfl⟩)
        refine ⟨.bool true, ?_, rfl, ((below_step cB hb).setCell (p := ⟨w.heap.size, 0, none⟩) (show w.heap.size ≤ w.heap.size by omega) _).trans (belowK_b (w := w) (Nat.le_refl _) _ D _ _ (by omega) hKa rfl rfl)⟩
        simp [results, Tryd.f8, go_sem, hca]
      case stop =>
        rintro D' c' pre' W' _ _ h _
        exact h.elim

end Go.Proofs.YtgbphkckiekehaaDoor.backLaw
