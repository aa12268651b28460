/- For every chain and every text: Run answers the tokens or the refusal that the document's Run answers, Check answers as the document's does, and the numbers handed in are left as they were. Condition: the two tables of unicode/utf8 read as the program's text lays them (the card ties them). -/
import Derived.Test.YtgbphkckiekehaaDoorBL
import Derived.Test.YtgbphkckiekehaaDoorBG
import Derived.Carry
import Derived.ChangeSlices
import Derived.Test.YtgbphkckiekehaaDoorBT
import Derived.Test.YtgbphkckiekehaaDoorBD
import Derived.Test.YtgbphkckiekehaaDoorWSized
set_option linter.unusedVariables false
set_option linter.unusedSimpArgs false
namespace Go.Proofs.YtgbphkckiekehaaDoor.Ana
open Go.RowKit Go.Shelf Go.Proofs.YtgbphkckiekehaaDoor.QRef Go.Proofs.YtgbphkckiekehaaDoor.FoldRef Go.Proofs.YtgbphkckiekehaaDoorW.PrintWords
open Go.ChangeShapes Go.WideShapes
theorem laidOut : laidOutB Tryd.prog = true := by kernel_rfl
theorem open_chain {H : Type} {enc : TypeId × Value → H} {W : World} {held : Bool} {a : Option Addr} {len cap : Nat} {d : DataW H} {ps : List MemPlace}
    (h : DataW.Trod enc Tryd.prog W 0 (fun _ => true) held 25 (.slice a len cap) d ps) :
    ∃ zs : List Int, zs.length = len ∧ len ≤ cap ∧ Kd.C (Kd.int .i64) W a len zs := by
  obtain ⟨fuel, hf⟩ := h
  rcases open_ints Tryd.underlying25 Tryd.underlying3 (by kernel_rfl) hf with ⟨hcs, _⟩ | ⟨x, l, c, zs, hcs, _, hl, hm, hz, _, hcell, hwz⟩
  · simp [Value.cells] at hcs
    obtain ⟨rfl, rfl, rfl⟩ := hcs
    exact ⟨[], rfl, Nat.le_refl _, rfl, by omega, fun h => by omega⟩
  · simp [Value.cells] at hcs
    obtain ⟨rfl, rfl, rfl⟩ := hcs
    have hz' : zs.length = cap := by simpa using hz
    have hml : cap ≤ 9223372036854775807 := by unfold maxLen at hm; omega
    have ht : ∀ j, j < len → (zs.take len).getD j 0 = zs.getD j 0 := fun j hj => by simp [List.getD_eq_getElem?_getD, hj]
    have hro : ReadsOf (Value.int .i64) (0 : Int) W (some x) len (zs.take len) := by
      refine ⟨by rw [List.length_take]; omega, by omega, fun _ => ⟨x, rfl, fun j hj => ?_⟩⟩
      rw [ht j hj]; exact hcell j (by omega)
    exact ⟨zs.take len, by rw [List.length_take]; omega, by omega, Kd.C_of_reads hro⟩
end Go.Proofs.YtgbphkckiekehaaDoor.Ana

set_option linter.unusedVariables false
set_option linter.unusedSimpArgs false
namespace Go.Proofs.YtgbphkckiekehaaDoor.runsLaw
open Go.RowKit Go.Shelf Go.Proofs.YtgbphkckiekehaaDoor.QRef Go.Proofs.YtgbphkckiekehaaDoorW.PrintWords Go.Proofs.YtgbphkckiekehaaDoorW.PrintLast Go.Proofs.FoldPlain Go.Proofs.FoldText Go.Proofs.YtgbphkckiekehaaDoor.FoldRef Go.Proofs.YtgbphkckiekehaaDoor.FoldW Go.Proofs.YtgbphkckiekehaaDoor.FoldF Go.Proofs.YtgbphkckiekehaaDoor.FoldP Go.Proofs.YtgbphkckiekehaaDoor.Ana

theorem same_k (l : List S58) (hl : l.length ≤ 1152921504606846976) (A0 A1 : Option Addr) (c0 c1 : Nat) (hc0 : l.length ≤ c0) (hc1 : l.length ≤ c1) (W : World) (h0 : Kd.C k58 W A0 l.length l) (h1 : Kd.C k58 W A1 l.length l) :
    Calls Tryd.prog 32 #[.slice A0 l.length c0, .slice A1 l.length c1] W fun e w' => e = .returned (.bool true) ∧ Below W.heap.size W w' :=
  (lecternkit_Tokens.calls _ A0 c0 l A1 c1 l true W h0 hc0 h1 hc1 (tokens_same l hl)).mono fun _ _ ⟨a, b⟩ => ⟨a, drawn_below b⟩
theorem same_i (l : List Int) (hl : l.length ≤ 1152921504606846976) (A0 A1 : Option Addr) (c0 c1 : Nat) (hc0 : l.length ≤ c0) (hc1 : l.length ≤ c1) (W : World) (h0 : Kd.C (Kd.int .i64) W A0 l.length l) (h1 : Kd.C (Kd.int .i64) W A1 l.length l) :
    Calls Tryd.prog 64 #[.slice A0 l.length c0, .slice A1 l.length c1] W fun e w' => e = .returned (.bool true) ∧ Below W.heap.size W w' :=
  (lecternkit_Ints.calls _ A0 c0 l A1 c1 l true W h0 hc0 h1 hc1 (by rw [ints_f l l hl]; simp)).mono fun _ _ ⟨a, b⟩ => ⟨a, drawn_below b⟩
section
variable {P : Program}
/-- A slice cut beyond its length, within its room. -/
theorem cut_over (t e : TypeId) (kh : IntKind) {i : TypeInfo} (ht : P.underlying t = some (.slice e)) (hi : P.info? e = some i) (A : Option Addr) (n c : Nat) (j : Int) (h0 : 0 ≤ j) (hc : j ≤ c) :
    ∀ W : World, (Instr.slice t (.slice A n c) none (some (.int kh j)) none).run P W = .ok (.slice A j.toNat c) W := by
  intro W
  have hel : P.elem t = e := by simp [Program.elem, ht]
  have hu : P.underlying t = some (.slice (P.elem t)) := by rw [hel]; exact ht
  have ha : (A.map fun x => x.add 0) = A := by cases A <;> simp [Addr.add]
  rw [run_slice_h W t A n c hu kh j h0 hc, hel]
  simp [sizeOf, typeInfo, hi, sliced, Result.andThen, ha]
end

set_option maxRecDepth 100000 in
set_option maxHeartbeats 4000000 in
/-- Numbers in memory of their own, with a mark behind them. -/
theorem lent_c (zs : List Int) (A : Option Addr) (cap : Nat) (hl : zs.length * 8 ≤ 140737488351232) (w : World) (hC : Kd.C (Kd.int .i64) w A zs.length zs) :
    Calls Tryd.prog 38 #[.slice A zs.length cap] w fun e w' => (∃ A2 c2, e = .returned (.slice A2 zs.length c2) ∧ Kd.R (Kd.int .i64) 3 w' w.heap.size (fun _ => True) (.slice A2 (zs.length + 1) c2) (zs ++ [-7171])) ∧ Below w.heap.size w w' := by
  obtain ⟨i3, hi3, _⟩ := infoInt3
  have HI := Aside0.mk hi3
  have HC := Aside0.mk hC
  clear hC hi3
  go_enter Tryd.func38, Tryd.ntmps38
  go_wp2_with (first
    | ((with_reducible refine gate_builtin (b := .append) (xs := #[.tmp 4, .tmp 5]) rfl ?_); at_builtin; refine Kd.R_append_rows (Kd.int .i64) (w0 := w) w.heap.size rfl (.tmp 4) (.tmp 5) 25 3 (.int .i64 0) 8 rfl Tryd.underlying25 infoI rfl (by decide) (by omega) (.slice none 0 0) [] zs A _ cap (fun _ => True) (fun _ => False) rfl rfl (Kd.R_nil _ _ _ _ _) HC.out (fun _ _ h => h) (fun _ h => h.elim) (fun _ _ => trivial) (Below.refl _ _) (Nat.le_refl _) (by simp; omega) ?_; intro v1 w1 ho1 hb1 hg1 hat1; obtain ⟨A1, c1, rfl⟩ := Kd.R_slice ho1; have HO1 := Aside0.mk ho1; have HB1 := Aside0.mk hb1; clear ho1 hb1 hg1 hat1)
    | ((with_reducible refine gate_builtin (b := .append) (xs := #[.tmp 7, .tmp 8]) rfl ?_); at_builtin; refine Kd.R_append (Kd.int .i64) (w0 := w) w.heap.size rfl (.tmp 7) (.tmp 8) 25 3 (.int .i64 0) 8 rfl Tryd.underlying25 infoI rfl (by decide) (by omega) (.slice A1 ([] ++ zs).length c1) ([] ++ zs) (-7171 : Int) [.int .i64 (-7171)] (fun _ => True) (fun _ => False) (by rfl) (by rfl) rfl (fun _ h => h.elim) (fun _ _ => trivial) HO1.out HB1.out HB1.out.size (by simp; omega) ?_; intro v2 w2 ho2 hb2 hg2 hat2; rw [List.nil_append] at ho2; obtain ⟨A2, c2, rfl⟩ := Kd.R_slice ho2; rw [show (zs ++ [(-7171 : Int)]).length = zs.length + 1 by simp] at ho2 ⊢; have hlc := (Kd.R_reads' ho2).2.1; have hct := cut_to (P := Tryd.prog) 25 3 .i64 Tryd.underlying25 HI.out A2 (zs.length + 1) c2 (zs.length : Int) (by omega) (by omega) hlc; rw [Int.toNat_natCast] at hct; have HO2 := Aside0.mk ho2; have HB2 := Aside0.mk hb2; clear ho2 hb2 hg2 hat2))
  go_ret
  exact ⟨⟨A2, c2, rfl, HO2.out⟩, HB2.out⟩

set_option maxRecDepth 100000 in
set_option maxHeartbeats 4000000 in
/-- Are they as they were? -/
theorem kept_c (zs : List Int) (A A1 : Option Addr) (cap c1 : Nat) (hl : zs.length * 8 ≤ 140737488351232) (hcap : zs.length ≤ cap) (hc1 : zs.length + 1 ≤ c1) (w : World) (h0 : Kd.C (Kd.int .i64) w A1 (zs ++ [-7171]).length (zs ++ [-7171])) (h1 : Kd.C (Kd.int .i64) w A zs.length zs) :
    Calls Tryd.prog 43 #[.slice A1 zs.length c1, .slice A zs.length cap] w fun e w' => e = .returned (.bool true) ∧ Below w.heap.size w w' := by
  obtain ⟨i3, hi3, _⟩ := infoInt3
  have h2 := Kd.C_take (m := zs.length) h0 (by simp)
  rw [show (zs ++ [(-7171 : Int)]).take zs.length = zs by simp] at h2
  have hsm := same_i zs (by omega) A1 A c1 cap (by omega) hcap w h2 h1
  obtain ⟨ad, rfl, c0⟩ := Kd.at_int h0 (zs.length : Int) (by omega) (by simp; omega)
  rw [rd_get _ zs.length (by simp), show (zs ++ [(-7171 : Int)])[zs.length]'(by simp) = -7171 by simp, Int.toNat_natCast] at c0
  have hct := cut_over (P := Tryd.prog) 25 3 .i64 Tryd.underlying25 hi3 (some ad) zs.length c1 ((zs.length : Int) + 1) (by omega) (by omega)
  rw [show ((zs.length : Int) + 1).toNat = zs.length + 1 by omega] at hct
  have CM := Aside0.mk c0
  have w1 : IntKind.i64.wrap ((zs.length : Int) + 1) = (zs.length : Int) + 1 := wrap_small _ (by omega) (by omega)
  clear h0 h1 h2 c0 hi3
  go_enter Tryd.func43, Tryd.ntmps43
  go_wp2_with (go_at_call 64; refine hsm.mono ?_; clear hsm; rintro e w2 ⟨rfl, hb2⟩; have cm2 := pw_cell_below hb2 CM.out)
  go_ret
  exact ⟨rfl, hb2⟩

set_option maxRecDepth 100000 in
set_option maxHeartbeats 4000000 in
theorem walk (zs : List Int) (A : Option Addr) (cap : Nat) (s : ByteArray) (hcap : zs.length ≤ cap) (hlen : zs.length * 8 ≤ 140737488351232) (hs : s.size ≤ 140737488351232) (w : World) (ht : Tabs w) (hC : Kd.C (Kd.int .i64) w A zs.length zs) :
    Calls Tryd.prog 10 #[.slice A zs.length cap, .string s] w fun e w' => e = .returned (.bool true) ∧ Below w.heap.size w w' := by
  have hle := lent_c zs A cap hlen w hC
  have hll : (runD zs s).1.length ≤ 1152921504606846976 := by
    by_cases h0 : (runD zs s).2 = 0
    · have := (runD_places zs s h0).2.2.1; omega
    · rw [runD_no zs s h0]; simp
  have HLL := Aside0.mk hll
  have HC := Aside0.mk hC
  have HRN := Aside0.mk (fun W (h : Below w.heap.size w W) A2 c2 (h2 : Kd.C (Kd.int .i64) W A2 zs.length zs) (hc : zs.length ≤ c2) => run_c zs A2 c2 hc s (by omega) W (ht.step h) h2)
  have HRR := Aside0.mk (fun W (h : Below w.heap.size w W) => refRun_c zs A cap hcap s (by omega) W (Kd.C_below hC h))
  have HCK := Aside0.mk (fun W A2 c2 (h2 : Kd.C (Kd.int .i64) W A2 zs.length zs) (hc : zs.length ≤ c2) => check_c zs A2 c2 hc W h2)
  have HCR := Aside0.mk (fun W (h : Below w.heap.size w W) => refCheck_c zs A cap hcap W (Kd.C_below hC h))
  have HKP := Aside0.mk (fun W A1 c1 hc1 h0 h1 => kept_c zs A A1 cap c1 hlen hcap hc1 W h0 h1)
  clear hll ht hC hs hlen
  generalize runD zs s = L at HRN HRR HLL
  generalize checkD zs = ck at HCK HCR
  obtain ⟨ls, le⟩ := L
  dsimp only at HRN HRR HLL
  go_enter Tryd.func10, Tryd.ntmps10
  go_wp2_with (first
    | (go_at_call 38; refine hle.mono ?_; clear hle; rintro e w1 ⟨⟨A2, c2, rfl, hr⟩, hb⟩; have hrd := Kd.R_reads' hr; have h2 := Kd.C_take (m := zs.length) hrd.2.2 (by simp); rw [show (zs ++ [(-7171 : Int)]).take zs.length = zs by simp] at h2; have HM1 := Aside0.mk hrd; have HB1 := Aside0.mk hb; have HZ1 := Aside0.mk h2; have hrn := HRN.out w1 hb A2 c2 h2 (by have := hrd.2.1; omega); clear hr hrd h2 hb)
    | (go_at_call 39; refine hrn.mono ?_; clear hrn; rintro e w2 ⟨⟨v2, rfl, hr⟩, hb⟩; obtain ⟨A3, c3, rfl, hc3, hC3⟩ := Kd.R_reads hr; have HC3 := Aside0.mk hC3; have HK3 := Aside0.mk hc3; have HB2 := Aside0.mk (below_step HB1.out hb); have HM2 := Aside0.mk (Kd.C_below HM1.out.2.2 hb); have HZ2 := Aside0.mk (Kd.C_below HZ1.out hb); have hrr := HRR.out w2 HB2.out; clear hr hC3 hc3 hb)
    | (go_at_call 40; refine hrr.mono ?_; clear hrr; rintro e w3 ⟨⟨v3, rfl, hr⟩, hb⟩; obtain ⟨A4, c4, rfl, hc4, hC4⟩ := Kd.R_reads hr; have HB3 := Aside0.mk (below_step HB2.out hb); have HM3 := Aside0.mk (Kd.C_below HM2.out hb); have HZ3 := Aside0.mk (Kd.C_below HZ2.out hb); have hsm := same_k ls HLL.out A3 A4 c3 c4 HK3.out hc4 w3 (Kd.C_below HC3.out hb) hC4; clear hr hC4 hc4 hb)
    | (go_at_call 32; refine hsm.mono ?_; clear hsm; rintro e w4 ⟨rfl, hb⟩; have HB4 := Aside0.mk (below_step HB3.out hb); have HM4 := Aside0.mk (Kd.C_below HM3.out hb); have HZ4 := Aside0.mk (Kd.C_below HZ3.out hb); have hck := HCK.out w4 A2 c2 HZ4.out (by have := HM1.out.2.1; omega); clear hb)
    | (go_at_call 41; refine hck.mono ?_; clear hck; rintro e w5 ⟨rfl, hb⟩; have HB5 := Aside0.mk (below_step HB4.out hb); have HM5 := Aside0.mk (Kd.C_below HM4.out hb); have hcr := HCR.out w5 HB5.out; clear hb)
    | (go_at_call 42; refine hcr.mono ?_; clear hcr; rintro e w6 ⟨rfl, hb⟩; have HB6 := Aside0.mk (below_step HB5.out hb); have HM6 := Aside0.mk (Kd.C_below HM5.out hb); have hkp := HKP.out w6 A2 c2 (by have := HM1.out.2.1; omega) HM6.out (Kd.C_below HC.out HB6.out); clear hb)
    | (go_at_call 43; refine hkp.mono ?_; clear hkp; rintro e w7 ⟨rfl, hb⟩; have HB7 := Aside0.mk (below_step HB6.out hb); clear hb))
  go_ret
  exact ⟨rfl, HB7.out⟩
end Go.Proofs.YtgbphkckiekehaaDoor.runsLaw

set_option linter.unusedVariables false
set_option linter.unusedSimpArgs false
namespace Go.Proofs.YtgbphkckiekehaaDoor.runsLaw
open Go.RowKit Go.Shelf Go.Proofs.YtgbphkckiekehaaDoor.FoldRef Go.Proofs.YtgbphkckiekehaaDoorW.PrintWords Go.Proofs.YtgbphkckiekehaaDoor.Ana
open Go.ChangeShapes Go.WideShapes
open Go.ChangeShapes Go.WideShapes Go.ChangeAt Go.Lib
open Go.ChangeMaps (open_string shut_string)
abbrev spec : OpenSpec := OpenSpec.ofChange Rows.analysisRunsSpec
theorem witness (os : Os) {H : Type} (enc : TypeId × Value → H) :
    spec.preRow enc Tryd.prog Tryd.f10 Rows.analysisRunsRow.domain false Rows.analysisRunsRow.laid ((Laid.laidWorld os).forCall (fun _ _ => 0) ⟨#[], #[.slice none 0 0, .string ⟨#[]⟩], []⟩).memory #[.slice none 0 0, .string ⟨#[]⟩] := by
  have hw : (DataW.whole enc Tryd.prog ((Laid.laidWorld os).forCall (fun _ _ => 0) ⟨#[], #[.slice none 0 0, .string ⟨#[]⟩], []⟩).memory Tryd.f10.params.toList spec.vars false #[Value.slice none 0 0, Value.string ⟨#[]⟩].toList 8).map (fun x => (x.1, x.2.1)) =
      some ([.nil, .lit (.string [])], []) := by kernel_rfl
  obtain ⟨⟨x1, x2, x3⟩, hx, hx1⟩ := Option.map_eq_some_iff.1 hw
  simp only [Prod.mk.injEq] at hx1
  obtain ⟨rfl, rfl⟩ := hx1
  exact OpenSpec.preRow_of_cond 8 hx (by kernel_rfl) (fun k hk => by cases hk) (by kernel_rfl) (Laid.laid_met os _)
set_option maxRecDepth 100000 in
set_option maxHeartbeats 2000000 in
theorem lifted (os : Os) (started : os.Started) (H : Type) (enc : TypeId × Value → H) (F : Stop.Interp) :
    ReturnsInHanded {} Tryd.checked os 10 .any (spec.preRow enc Tryd.prog Tryd.f10 Rows.analysisRunsRow.domain false Rows.analysisRunsRow.laid) ((spec.at F).post enc Tryd.prog Tryd.f10 false true false false) := by
  refine returnsInHanded_of_row (C := Tryd.checked) (s := spec) Laid.own started (by kernel_rfl) Tryd.func10
    (witness_row_atRef (enc := enc) (C := Tryd.checked) false (Laid.laidWorld os) #[.slice none 0 0, .string ⟨#[]⟩] rfl (by kernel_rfl) (by kernel_rfl) (by kernel_rfl) (witness os enc)) ?_
  intro W base args ds gs before hval0 hW _ hcond hsz0 hL _ _
  have hval : ∀ (j : Nat) t v, Tryd.f10.params[j]? = some t → args[j]? = some v → Value.okWide Tryd.prog W .any base t v := hval0
  have hsz : (DataW.weightsEach Tryd.prog (Tryd.f10.params.toList ++ spec.bare.plain.varTypes Tryd.prog) (ds ++ gs)).all (· ≤ reachBytes) = true := hsz0
  have hW' := hW
  obtain ⟨p, q, hA0, hV0, rfl, _, _⟩ := hW
  have hA : DataW.TrodAll enc Tryd.prog W 0 (fun _ => true) true Tryd.f10.params.toList args.toList ds p := hA0
  rw [Tryd.params10] at hA hval hsz
  obtain ⟨v0, vs0, d0, ds0, p0, q0, hargs, rfl, rfl, h0, r0⟩ := trodAll_cons hA
  obtain ⟨v1, vs1, d1, ds1, p1, q1, rfl, rfl, rfl, h1, r1⟩ := trodAll_cons r0
  obtain ⟨rfl, rfl, rfl⟩ := trodAll_nil r1
  obtain rfl : args = #[v0, v1] := by cases args; simp_all
  obtain ⟨rfl, rfl⟩ := trodVars_none hV0
  obtain ⟨a0, len0, cap0, rfl⟩ := okWide_slice Tryd.underlying25 (hval 0 25 v0 rfl rfl)
  have k0 := h0
  have lt0 : ∀ x ∈ p0, x.block < W.heap.size := by obtain ⟨m, hm⟩ := k0; exact DataW.trod_lt m _ _ _ hm
  have y0 : len0 * 8 ≤ 140737488351232 := sized_ints hsz (j := 0) (t := 25) rfl rfl Tryd.underlying25 Tryd.underlying3 (by kernel_rfl) (by kernel_rfl) h0
  obtain ⟨z0, rfl, x0, g0⟩ := open_chain h0
  obtain ⟨a1, rfl, rfl, rfl, w1⟩ := open_string Tryd.underlying9 (hval 1 9 v1 rfl rfl) h1
  have b1 : a1.data.toList.length ≤ reachBytes := sized_string hsz (j := 1) rfl rfl
  rw [size_data] at b1
  clear hA0 hV0 hval0 hsz0
  refine (walk z0 a0 cap0 a1 x0 (by omega) b1 W (Laid.tabs hL) g0).mono ?_
  rintro e W' ⟨rfl, bel⟩
  have e1 : (spec.at F).fn H ([d0, .lit (.string a1.data.toList)] ++ []) = { results := [.lit (.bool true)], args := [d0, .lit (.string a1.data.toList)] } := rfl
  refine ⟨_, rfl, _, _, _, [], (p0 ++ ([] ++ [])), [], hW', ?_, ?_, ?_, bel.frame _, fun h => by cases h⟩
  · rw [e1]; exact trodAll_mk1 (shut_bool Tryd.underlying4 _)
  · rw [e1]; exact (trodAll_cons_mk (Below.trod laidOut (by kernel_rfl) (of_decide_eq_true (by kernel_rfl)) k0 bel lt0) (trodAll_cons_mk (shut_string Tryd.underlying9 w1) trodAll_mk0))
  · rw [e1]; rfl
theorem said : Rows.AnalysisRunsSaid :=
  OpenClaim.holds_of_cond 10 Tryd.f10 rfl rfl rfl rfl rfl rfl rfl ⟨rfl, rfl, rfl, rfl, rfl⟩ rfl rfl rfl rfl rfl (by kernel_rfl) Tryd.func10 (by kernel_rfl)
    (of_decide_eq_true (by kernel_rfl)) (by unfold Func.isWrapper; rw [if_neg (of_decide_eq_false (by kernel_rfl))]; exact ⟨rfl, rfl⟩)
    (fun os started H enc _ F0 => by rw [OpenClaim.pre_eq_preRow]; exact lifted os started H enc F0)
theorem plain (f : FuncId) (fn : Func) (hf : Tryd.pinned.checked.prog.funcNamed "lectern/lecternlaw06.AnalysisRuns" = some f) (hfn : Tryd.pinned.checked.prog.funcs[f]? = some fn) :
    false = Tryd.pinned.checked.prog.looks [] ∧ ∀ (j : Nat) t, fn.params[j]? = some t → Tryd.pinned.checked.prog.wantsStandIn t = false := by
  obtain rfl : f = 10 := Option.some.inj ((show Tryd.prog.funcNamed "lectern/lecternlaw06.AnalysisRuns" = some 10 by kernel_rfl).symm.trans hf) |>.symm
  obtain rfl : fn = Tryd.f10 := (Option.some.inj (Tryd.func10.symm.trans hfn)).symm
  refine ⟨by kernel_rfl, fun j t ht => ?_⟩
  rw [Tryd.params10] at ht
  have hm := Array.mem_of_getElem? ht
  simp only [List.mem_toArray, List.mem_cons, List.mem_nil_iff, or_false] at hm
  rcases hm with rfl | rfl
  · exact (show Tryd.prog.wantsStandIn 25 = false by kernel_rfl)
  · exact (show Tryd.prog.wantsStandIn 9 = false by kernel_rfl)
theorem card : Rows.AnalysisRunsCardSaid :=
  Claim7.holds_tied_plain_at .later [] _ _ _ _ said (fun _ h => by cases h) (by kernel_rfl) (fun _ h => by cases h) analysisRuns_row_tie rfl ⟨rfl, rfl⟩ (by kernel_rfl) rfl plain (by kernel_rfl)

end Go.Proofs.YtgbphkckiekehaaDoor.runsLaw
namespace Go.Proofs.YtgbphkckiekehaaDoor
theorem analysisRuns_holds : Rows.AnalysisRunsCardSaid := runsLaw.card
end Go.Proofs.YtgbphkckiekehaaDoor
