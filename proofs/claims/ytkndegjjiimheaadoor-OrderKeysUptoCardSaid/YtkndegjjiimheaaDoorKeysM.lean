/- For every two rows of keys and every text of the row's bulk: package order's Right, Compare, Rows, Bytes and Keys answer what the document's do, nothing that was lent is changed, and what Keys hands out is the caller's own. Condition: the package-level variables listed in the row read as the program's text lays them (the card ties them). -/
import Derived.Test.YtkndegjjiimheaaDoorOrdLaid
import Derived.Test.YtkndegjjiimheaaDoorWSized
import Derived.Test.YtkndegjjiimheaaDoorOrdKeysLaw
import Derived.Carry
import Derived.ChangeSlices
import Derived.Deep.Slices
import Derived.Lib.SmallJoins
import Derived.Deep.Strs
set_option linter.unusedVariables false
set_option linter.unusedSimpArgs false
namespace Go.Proofs.YtkndegjjiimheaaDoor.Ord
open Go Go.RowKit Go.Shelf Go.Proofs.YtkndegjjiimheaaDoor.QKey Go.Proofs.YtkndegjjiimheaaDoorW.PrintWords
open Go.ChangeShapes Go.WideShapes
theorem laidOut : laidOutB Tryd.prog = true := by kernel_rfl
/-- A key's datum. -/
def dT {H : Type} (t : S45) : DataW H := .agg [.lit (.int .i64 t.f0), .lit (.int .i64 t.f1), .lit (.string t.f2.data.toList)]
set_option maxRecDepth 100000 in
theorem open_tok {H : Type} {enc : TypeId × Value → H} {W : World} {held : Bool} {n : Nat} {cs : List Value} {d : DataW H} {p : List MemPlace}
    (h : DataW.trod enc Tryd.prog W 0 (fun _ => true) held n 45 cs = some (d, p)) : ∃ t : S45, cs = [.int .i64 t.f0, .int .i64 t.f1, .string t.f2] ∧ d = dT t := by
  obtain ⟨y0, y1, y2, m, hx, hl, h0, h1, h2⟩ := Go.Deep.trod_struct3 Tryd.underlying45 h
  rw [show Tryd.prog.cellsOf 45 = 3 by kernel_rfl] at hl
  match cs, hl with
  | [a0, a1, a2], _ =>
    have k9 : Tryd.prog.cellsOf 9 = 1 := by kernel_rfl
    have k3 : Tryd.prog.cellsOf 3 = 1 := by kernel_rfl
    have k2 : Tryd.prog.cellsOf 2 = 1 := by kernel_rfl
    dsimp only at h0 h1 h2
    rw [k3] at h0
    rw [k2] at h1
    rw [k9] at h2
    obtain ⟨n0, e0, x0, _⟩ := DataW.trod_int Tryd.underlying3 h0
    obtain ⟨n1, e1, x1, _⟩ := DataW.trod_int Tryd.underlying2 h1
    obtain ⟨s, e2, x2, _⟩ := DataW.trod_string Tryd.underlying9 h2
    simp at e0 e1 e2
    subst e0 e1 e2 x0 x1 x2
    simp only [Prod.mk.injEq] at hx
    exact ⟨⟨n0, n1, s⟩, rfl, hx.1⟩
set_option maxRecDepth 100000 in
theorem open_keys {H : Type} {enc : TypeId × Value → H} {W : World} {held : Bool} {a : Option Addr} {len cap : Nat} {d : DataW H} {ps : List MemPlace}
    (h : DataW.Trod enc Tryd.prog W 0 (fun _ => true) held 33 (.slice a len cap) d ps) :
    ∃ ts : List S45, ts.length = len ∧ len ≤ cap ∧ Kd.C k45 W a len ts ∧ (d = .nil ∧ ts = [] ∨ ∃ sp, d = .slice (ts.map dT) sp) := by
  obtain ⟨fuel, hf⟩ := h
  rcases Go.Deep.open_slice Tryd.underlying33 hf with ⟨hcs, hx⟩ | ⟨x, l, c, m, n, D, Pl, hcs, _, hl, hm, hmm, hx, hi⟩
  · simp [Value.cells] at hcs
    obtain ⟨rfl, rfl, rfl⟩ := hcs
    injection hx with hx _
    exact ⟨[], rfl, Nat.le_refl _, ⟨rfl, by omega, fun h => by omega⟩, .inl ⟨hx, rfl⟩⟩
  · simp [Value.cells] at hcs
    obtain ⟨rfl, rfl, rfl⟩ := hcs
    have hml : cap ≤ 9223372036854775807 := by unfold maxLen at hm; omega
    have hmc : m = cap := by simpa using hmm
    have k45' : Tryd.prog.cellsOf 45 = 3 := by kernel_rfl
    have key : ∀ i, i < len → ∃ t : S45, (∀ j u, [Value.int .i64 t.f0, .int .i64 t.f1, .string t.f2][j]? = some u → W.cell? (x.add (i * 3 + j)) = some u) ∧ D i = dT t := by
      intro i hil
      obtain ⟨cs', hc, ht⟩ := hi i (by omega)
      rw [k45'] at hc
      obtain ⟨t, e, hd⟩ := open_tok ht
      obtain ⟨_, hcl, hat⟩ := World.cells?_some hc
      refine ⟨t, fun j u hj => ?_, hd⟩
      have hj4 : j < 3 := (List.getElem?_eq_some_iff.1 hj).1
      have := hat j hj4
      rw [Go.Deep.add_add, e, hj] at this
      exact this
    obtain ⟨ts, hts⟩ : ∃ ts : List S45, ts = (List.range len).map fun i => if h : i < len then Classical.choose (key i h) else z45 := ⟨_, rfl⟩
    have hl : ts.length = len := by rw [hts]; simp
    have hC : Kd.C k45 W (some x) len ts := by
      refine ⟨hl, by omega, fun _ => ⟨x, rfl, fun j p hj => ?_⟩⟩
      have hjl : j < len := by have := (List.getElem?_eq_some_iff.1 hj).1; omega
      obtain ⟨e1, e2⟩ := Classical.choose_spec (key j hjl)
      have hp : p = Classical.choose (key j hjl) := by
        rw [hts, List.getElem?_map, List.getElem?_range hjl] at hj
        simp only [Option.map_some, Option.some.injEq] at hj
        rw [← hj, dif_pos hjl]
      rw [← hp] at e1
      exact ⟨[.int .i64 p.f0, .int .i64 p.f1, .string p.f2], rfl, k45_mk W p, e1⟩
    refine ⟨ts, hl, by omega, hC, .inr ⟨(List.range (m - len)).map fun j => D (len + j), ?_⟩⟩
    rw [hts]
    simp only [Prod.mk.injEq] at hx
    · rw [hx.1, List.map_map]
      congr 1
      refine List.map_congr_left (fun i hi => ?_)
      have hil : i < len := by simpa using hi
      show D i = dT (if h : i < len then _ else _)
      rw [dif_pos hil]
      exact (Classical.choose_spec (key i hil)).2
theorem size_data45 (s : ByteArray) : s.data.toList.length = s.size := by rw [Array.length_toList]; rfl
theorem bulk_tok {H : Type} (t : S45) : t.f2.size + 1 ≤ Rows.uptoBulk (dT (H := H) t) := by
  unfold dT
  simp only [Rows.uptoBulk, Rows.uptoBulkAll]
  rw [← size_data45]; omega
theorem bulk_toks {H : Type} : ∀ (ts : List S45), ts.length ≤ Rows.uptoBulkAll (ts.map (dT (H := H))) ∧ ∀ t ∈ ts, t.f2.size ≤ Rows.uptoBulkAll (ts.map (dT (H := H)))
  | [] => ⟨Nat.zero_le _, fun t h => by cases h⟩
  | t :: ts => by
    obtain ⟨h1, h2⟩ := bulk_toks (H := H) ts
    have h3 := bulk_tok (H := H) t
    rw [List.map_cons, Rows.uptoBulkAll]
    refine ⟨by simp only [List.length_cons]; omega, fun u hu => ?_⟩
    rcases List.mem_cons.1 hu with rfl | hu
    · omega
    · have := h2 u hu; omega
theorem bulk_of {H : Type} {d : DataW H} {ts : List S45} (y : d = .nil ∧ ts = [] ∨ ∃ sp, d = .slice (ts.map dT) sp) : ts.length ≤ Rows.uptoBulk d ∧ ∀ t ∈ ts, t.f2.size ≤ Rows.uptoBulk d := by
  rcases y with ⟨_, rfl⟩ | ⟨sp, rfl⟩
  · exact ⟨Nat.zero_le _, fun t h => by cases h⟩
  · obtain ⟨h1, h2⟩ := bulk_toks (H := H) ts
    rw [Rows.uptoBulk]
    exact ⟨by omega, fun t h => by have := h2 t h; omega⟩
end Go.Proofs.YtkndegjjiimheaaDoor.Ord

set_option linter.unusedVariables false
set_option linter.unusedSimpArgs false
namespace Go.Proofs.YtkndegjjiimheaaDoor.keysLaw
open Go Go.RowKit Go.Shelf Go.Proofs.YtkndegjjiimheaaDoor.Ord Go.Proofs.OrdPlain Go.Proofs.YtkndegjjiimheaaDoorW.PrintWords Go.Proofs.YtkndegjjiimheaaDoor.QKey
theorem size_data (s : ByteArray) : s.data.toList.length = s.size := by rw [Array.length_toList]; rfl
theorem tot_le (m : Nat) : ∀ ks : List S45, (∀ x ∈ ks, x.f2.size ≤ m) → totZ ks ≤ ks.length * (12 + 2 * m)
  | [], _ => Nat.zero_le _
  | k :: ks, h => by
    have h1 := tot_le m ks (fun x hx => h x (List.mem_cons_of_mem _ hx))
    have h2 := h k List.mem_cons_self
    rw [totZ, List.length_cons, Nat.add_mul, Nat.one_mul]; omega
theorem walk (k1 : List S45) (A1 : Option Addr) (c1 : Nat) (k2 : List S45) (A2 : Option Addr) (c2 : Nat) (s : ByteArray) (hc1 : k1.length ≤ c1) (hk1 : k1.length ≤ 1048576) (ht1 : ∀ x ∈ k1, x.f2.size ≤ 1048576)
    (hc2 : k2.length ≤ c2) (hk2 : k2.length ≤ 1048576) (ht2 : ∀ x ∈ k2, x.f2.size ≤ 1048576) (hs : s.size ≤ 1048576) (w : World) (hT : Tb w) (hC1 : Kd.C k45 w A1 k1.length k1) (hC2 : Kd.C k45 w A2 k2.length k2) :
    Calls Tryd.prog 4 #[.slice A1 k1.length c1, .slice A2 k2.length c2, .string s] w fun e w' => e = .returned (.bool true) ∧ Below w.heap.size w w' := by
  refine keys_walk k1 k2 A1 A2 c1 c2 s hc1 hc2 hk1 hk2 ht1 ?_ hs w hT hC1 hC2
  have h1 := tot_le 1048576 k1 ht1
  have h2 : k1.length * (12 + 2 * 1048576) ≤ 1048576 * (12 + 2 * 1048576) := Nat.mul_le_mul_right _ hk1
  omega
open Go.ChangeShapes Go.WideShapes Go.ChangeAt Go.Lib
open Go.ChangeMaps (open_string shut_string)
abbrev spec : OpenSpec := Rows.OpenSpec.upto Rows.orderKeysSpec
theorem witness (os : Os) {H : Type} (enc : TypeId × Value → H) :
    spec.preRow enc Tryd.prog Tryd.f4 Rows.orderKeysUptoRow.domain false Rows.orderKeysUptoRow.laid ((Laid.laidWorld os).forCall (fun _ _ => 0) ⟨#[], #[.slice none 0 0, .slice none 0 0, .string ⟨#[]⟩], []⟩).memory #[.slice none 0 0, .slice none 0 0, .string ⟨#[]⟩] := by
  have hw : (DataW.whole enc Tryd.prog ((Laid.laidWorld os).forCall (fun _ _ => 0) ⟨#[], #[.slice none 0 0, .slice none 0 0, .string ⟨#[]⟩], []⟩).memory Tryd.f4.params.toList spec.vars false #[Value.slice none 0 0, Value.slice none 0 0, Value.string ⟨#[]⟩].toList 8).map (fun x => (x.1, x.2.1)) =
      some ([.nil, .nil, .lit (.string [])], []) := by kernel_rfl
  obtain ⟨⟨x1, x2, x3⟩, hx, hx1⟩ := Option.map_eq_some_iff.1 hw
  simp only [Prod.mk.injEq] at hx1
  obtain ⟨rfl, rfl⟩ := hx1
  exact OpenSpec.preRow_of_cond 8 hx (by kernel_rfl) (fun k hk => by cases hk; kernel_rfl) (by kernel_rfl) (Laid.laid_met os _)
set_option maxRecDepth 100000 in
set_option maxHeartbeats 2000000 in
theorem lifted (os : Os) (started : os.Started) (H : Type) (enc : TypeId × Value → H) (F : Stop.Interp) :
    ReturnsInHanded {} Tryd.checked os 4 .any (spec.preRow enc Tryd.prog Tryd.f4 Rows.orderKeysUptoRow.domain false Rows.orderKeysUptoRow.laid) ((spec.at F).post enc Tryd.prog Tryd.f4 false true false false) := by
  refine returnsInHanded_of_row (C := Tryd.checked) (s := spec) Laid.own started (by kernel_rfl) Tryd.func4
    (witness_row_atRef (enc := enc) (C := Tryd.checked) false (Laid.laidWorld os) #[.slice none 0 0, .slice none 0 0, .string ⟨#[]⟩] rfl (by kernel_rfl) (by kernel_rfl) (by kernel_rfl) (witness os enc)) ?_
  intro W base args ds gs before hval0 hW _ hcond hsz0 hL _ _
  have hval : ∀ (j : Nat) t v, Tryd.f4.params[j]? = some t → args[j]? = some v → Value.okWide Tryd.prog W .any base t v := hval0
  have hsz : (DataW.weightsEach Tryd.prog (Tryd.f4.params.toList ++ spec.bare.plain.varTypes Tryd.prog) (ds ++ gs)).all (· ≤ reachBytes) = true := hsz0
  have hW' := hW
  obtain ⟨p, q, hA0, hV0, rfl, _, _⟩ := hW
  have hA : DataW.TrodAll enc Tryd.prog W 0 (fun _ => true) true Tryd.f4.params.toList args.toList ds p := hA0
  rw [Tryd.params4] at hA hval hsz
  obtain ⟨v0, vs0, d0, ds0, p0, q0, hargs, rfl, rfl, h0, r0⟩ := trodAll_cons hA
  obtain ⟨v1, vs1, d1, ds1, p1, q1, rfl, rfl, rfl, h1, r1⟩ := trodAll_cons r0
  obtain ⟨v2, vs2, d2, ds2, p2, q2, rfl, rfl, rfl, h2, r2⟩ := trodAll_cons r1
  obtain ⟨rfl, rfl, rfl⟩ := trodAll_nil r2
  obtain rfl : args = #[v0, v1, v2] := by cases args; simp_all
  obtain ⟨rfl, rfl⟩ := trodVars_none hV0
  obtain ⟨a0, len0, cap0, rfl⟩ := okWide_slice Tryd.underlying33 (hval 0 33 v0 rfl rfl)
  have k0 := h0
  have lt0 : ∀ x ∈ p0, x.block < W.heap.size := by obtain ⟨m, hm⟩ := k0; exact DataW.trod_lt m _ _ _ hm
  obtain ⟨z0, rfl, x0, g0, y0⟩ := open_keys h0
  obtain ⟨a1, len1, cap1, rfl⟩ := okWide_slice Tryd.underlying33 (hval 1 33 v1 rfl rfl)
  have k1 := h1
  have lt1 : ∀ x ∈ p1, x.block < W.heap.size := by obtain ⟨m, hm⟩ := k1; exact DataW.trod_lt m _ _ _ hm
  obtain ⟨z1, rfl, x1, g1, y1⟩ := open_keys h1
  obtain ⟨a2, rfl, rfl, rfl, w2⟩ := open_string Tryd.underlying9 (hval 2 9 v2 rfl rfl) h2
  clear hA0 hV0 hval0 hsz0
  have hk := of_decide_eq_true (hcond _ rfl)
  simp only [List.append_nil, List.nil_append, List.cons_append, Rows.uptoBulkAll, Rows.uptoBulk] at hk
  refine (walk z0 a0 cap0 z1 a1 cap1 a2 x0 (by have := (bulk_of y0).1; omega) (fun t h => by have := (bulk_of y0).2 t h; omega) x1 (by have := (bulk_of y1).1; omega) (fun t h => by have := (bulk_of y1).2 t h; omega) (by rw [← size_data]; omega) W (Laid.tb hL) g0 g1).mono ?_
  rintro e W' ⟨rfl, bel⟩
  have e1 : (spec.at F).fn H ([d0, d1, .lit (.string a2.data.toList)] ++ []) = { results := [.lit (.bool true)], args := [d0, d1, .lit (.string a2.data.toList)] } := rfl
  refine ⟨_, rfl, _, _, _, [], (p0 ++ (p1 ++ ([] ++ []))), [], hW', ?_, ?_, ?_, bel.frame _, fun h => by cases h⟩
  · rw [e1]; exact trodAll_mk1 (shut_bool Tryd.underlying4 _)
  · rw [e1]; exact (trodAll_cons_mk (Below.trod laidOut (by kernel_rfl) (of_decide_eq_true (by kernel_rfl)) k0 bel lt0) (trodAll_cons_mk (Below.trod laidOut (by kernel_rfl) (of_decide_eq_true (by kernel_rfl)) k1 bel lt1) (trodAll_cons_mk (shut_string Tryd.underlying9 w2) trodAll_mk0)))
  · rw [e1]; rfl
theorem said : Rows.OrderKeysUptoSaid :=
  OpenClaim.holds_of_cond 4 Tryd.f4 rfl rfl rfl rfl rfl rfl rfl ⟨rfl, rfl, rfl, rfl, rfl⟩ rfl rfl rfl rfl rfl (by kernel_rfl) Tryd.func4 (by kernel_rfl)
    (of_decide_eq_true (by kernel_rfl)) (by unfold Func.isWrapper; rw [if_neg (of_decide_eq_false (by kernel_rfl))]; exact ⟨rfl, rfl⟩)
    (fun os started H enc _ F0 => by rw [OpenClaim.pre_eq_preRow]; exact lifted os started H enc F0)
theorem plain (f : FuncId) (fn : Func) (hf : Tryd.pinned.checked.prog.funcNamed "lectern/lecternlaw07.OrderKeys" = some f) (hfn : Tryd.pinned.checked.prog.funcs[f]? = some fn) :
    true = Tryd.pinned.checked.prog.looks [] ∧ ∀ (j : Nat) t, fn.params[j]? = some t → Tryd.pinned.checked.prog.wantsStandIn t = false := by
  obtain rfl : f = 4 := Option.some.inj ((show Tryd.prog.funcNamed "lectern/lecternlaw07.OrderKeys" = some 4 by kernel_rfl).symm.trans hf) |>.symm
  obtain rfl : fn = Tryd.f4 := (Option.some.inj (Tryd.func4.symm.trans hfn)).symm
  refine ⟨by kernel_rfl, fun j t ht => ?_⟩
  rw [Tryd.params4] at ht
  have hm := Array.mem_of_getElem? ht
  simp only [List.mem_toArray, List.mem_cons, List.mem_nil_iff, or_false] at hm
  rcases hm with rfl | rfl | rfl
  · exact (show Tryd.prog.wantsStandIn 33 = false by kernel_rfl)
  · exact (show Tryd.prog.wantsStandIn 33 = false by kernel_rfl)
  · exact (show Tryd.prog.wantsStandIn 9 = false by kernel_rfl)
theorem card : Rows.OrderKeysUptoCardSaid :=
  Claim7.holds_tied_plain_at .later [] _ _ _ _ said (fun _ h => by cases h) (by kernel_rfl) (fun _ h => by cases h) orderKeysUpto_row_tie rfl ⟨rfl, rfl⟩ (by kernel_rfl) rfl plain (by kernel_rfl)
end Go.Proofs.YtkndegjjiimheaaDoor.keysLaw
namespace Go.Proofs.YtkndegjjiimheaaDoor
theorem orderKeysUpto_holds : Rows.OrderKeysUptoCardSaid := keysLaw.card
end Go.Proofs.YtkndegjjiimheaaDoor
