/- The document's filters walked. -/
import Derived.Test.YtgbphkckiekehaaDoorBE
import Derived.Test.YtgbphkckiekehaaDoorBR
set_option linter.unusedVariables false
set_option linter.unusedSimpArgs false
namespace Go.Proofs.YtgbphkckiekehaaDoor.Ana
open Go.RowKit Go.Shelf Go.Proofs.YtgbphkckiekehaaDoor.QRef Go.Proofs.YtgbphkckiekehaaDoorW.PrintWords Go.Proofs.YtgbphkckiekehaaDoorW.PrintLast Go.Proofs.FoldPlain Go.Proofs.FoldText Go.Proofs.YtgbphkckiekehaaDoor.FoldRef Go.Proofs.YtgbphkckiekehaaDoor.FoldW Go.Proofs.YtgbphkckiekehaaDoor.FoldF Go.Proofs.YtgbphkckiekehaaDoor.FoldP

/-- The stop words. -/
def stopL : List ByteArray := [⟨#[97]⟩, ⟨#[97, 110]⟩, ⟨#[97, 110, 100]⟩, ⟨#[97, 114, 101]⟩, ⟨#[97, 115]⟩, ⟨#[97, 116]⟩, ⟨#[98, 101]⟩, ⟨#[98, 117, 116]⟩, ⟨#[98, 121]⟩, ⟨#[102, 111, 114]⟩, ⟨#[105, 102]⟩, ⟨#[105, 110]⟩, ⟨#[105, 110, 116, 111]⟩, ⟨#[105, 115]⟩, ⟨#[105, 116]⟩, ⟨#[110, 111]⟩, ⟨#[110, 111, 116]⟩, ⟨#[111, 102]⟩, ⟨#[111, 110]⟩, ⟨#[111, 114]⟩, ⟨#[115, 117, 99, 104]⟩, ⟨#[116, 104, 97, 116]⟩, ⟨#[116, 104, 101]⟩, ⟨#[116, 104, 101, 105, 114]⟩, ⟨#[116, 104, 101, 110]⟩, ⟨#[116, 104, 101, 114, 101]⟩, ⟨#[116, 104, 101, 115, 101]⟩, ⟨#[116, 104, 101, 121]⟩, ⟨#[116, 104, 105, 115]⟩, ⟨#[116, 111]⟩, ⟨#[119, 97, 115]⟩, ⟨#[119, 105, 108, 108]⟩, ⟨#[119, 105, 116, 104]⟩]
theorem toList_iff (s : ByteArray) (l : List UInt8) : s.toList = l ↔ (⟨l.toArray⟩ : ByteArray) = s := by
  rw [ByteArray.toList_eq]
  constructor
  · intro h; subst h; cases s; rfl
  · intro h; subst h; rfl
theorem ite_some_or {p : Prop} [Decidable p] (b : Bool) : (if p then some true else some b) = some (decide p || b) := by by_cases h : p <;> simp [h]
set_option maxHeartbeats 2000000 in
theorem stop_f (s : ByteArray) : analysis_Stop.f s = some (stopL.any fun x => decide (x = s)) := by
  unfold analysis_Stop.f stopL
  simp only [toList_iff, ite_some_or, List.any_cons, List.any_nil]
theorem stopB_eq (s : ByteArray) : stopB s = stopL.any fun x => decide (x = s) := by unfold stopB; rw [stop_f]; rfl
theorem refStop_f (s : ByteArray) : lecternref06_Stop.f 34 s = some (stopB s) := by
  rw [stopB_eq]
  exact stop_l0 s stopL (by decide) 33 0 rfl
theorem refStop_c (s : ByteArray) (w : World) : Calls Tryd.prog 35 #[.string s] w fun e w' => e = .returned (.bool (stopB s)) ∧ Below w.heap.size w w' :=
  (lecternref06_Stop.calls 34 s _ w (refStop_f s)).mono fun _ _ h => ⟨h.1, by first | exact h.2 | exact drawn_below h.2⟩

/-- Texts in a row of their own. -/
abbrev SRow (w : World) (base : Nat) (v : Value) (ss : List ByteArray) : Prop := Kd.R Kd.string 9 w base (fun _ => True) v ss
theorem strs_new (W : World) (ss : List ByteArray) (h : ss.length ≤ 9223372036854775807) : SRow (W.alloc (.cells (ss.map Value.string).toArray 9)) W.heap.size (.slice (some ⟨W.heap.size, 0, none⟩) ss.length ss.length) ss :=
  ⟨fun _ _ => trivial, OwnRow.lit W W.heap.size (Kd.reps_scalar (enc := Value.string) ss) (Nat.le_refl _) h⟩
theorem str_one (W : World) (s : ByteArray) : SRow (W.alloc (.cells #[.string s] 9)) W.heap.size (.slice (some ⟨W.heap.size, 0, none⟩) 1 1) [s] := strs_new W [s] (by simp)
/-- Two rows of different elements. -/
theorem row_apart {α β : Type} {d : Kd α} {d' : Kd β} {e e' : Nat} {W W' : World} {base base' : Nat} {ok' : Nat → Prop} {u v : Value} {xs : List α} {ys : List β} (h : d.R e W base (fun _ => True) u xs) (hd : d.E = []) (h' : d'.R e' W base' ok' v ys) (hne : e ≠ e') (hg : W.grownBy W' v.ownBlock) : d.R e W' base (fun _ => True) u xs := by
  refine Kd.R_mono (Kd.R_step (Kd.R_bound h) (fun k hk hlt => hg.block k hlt (fun he => ?_))) (fun _ _ => trivial)
  obtain ⟨_, _, _, q, hq, cells, hc⟩ := hk
  obtain ⟨inner, ho⟩ := Kd.R_own h'
  obtain ⟨cells', hc'⟩ := own_typed ho k he.symm
  rw [hd] at hq
  simp only [List.mem_cons, List.not_mem_nil, or_false] at hq
  subst hq
  rw [hc] at hc'
  injection hc' with hc'
  injection hc' with _ hc'
  exact hne hc'
theorem refRunes_c (s : ByteArray) (hs : s.size ≤ 1099511627776) (w : World) : Calls Tryd.prog 19 #[.string s] w fun e w' => ∃ v0 v1 : Value, e = .returned (.tuple #[v0, v1]) ∧ Kd.R (Kd.int .i64) 3 w' w.heap.size (fun _ => True) v0 (placesZ (runes s.data.toList)) ∧ Kd.R (Kd.int .i32) 21 w' w.heap.size (fun _ => True) v1 (runesZ (runes s.data.toList)) ∧ Below w.heap.size w w' :=
  lecternref05_Runes.calls _ s _ _ w (refRunes_f s (by omega))
theorem runesZ_len (rs : List (Nat × Nat)) : (runesZ rs).length = rs.length := by simp [runesZ]
theorem infoI : (Tryd.prog.info? 3).map (fun i => (i.zero, i.size, i.bytes)) = some (some (.int .i64 0), (Kd.int .i64).sz, 8) := by kernel_rfl

set_option maxRecDepth 100000 in
set_option maxHeartbeats 4000000 in
theorem one10 (s : ByteArray) (hs : s.size ≤ 1099511627776) (w : World) :
    Calls Tryd.prog 60 #[.int .i64 10, .string s] w fun e w' => (∃ v, e = .returned v ∧ SRow w' w.heap.size v [strOf (foldD s.data.toList)]) ∧ Below w.heap.size w w' := by
  have hrc := refRunes_c s hs
  have hrl := runes_length s.data.toList
  rw [size_data] at hrl
  have hfo := fun W => lecternref05_Fold.calls _ s _ W (refFold_f s (by omega))
  have HPZ := Aside0.mk (show (placesZ (runes s.data.toList)).length ≤ s.size ∧ (runesZ (runes s.data.toList)).length ≤ s.size by rw [placesZ_len, runesZ_len]; omega)
  clear hrl
  generalize placesZ (runes s.data.toList) = pz at hrc HPZ
  generalize runesZ (runes s.data.toList) = rz at hrc HPZ
  generalize strOf (foldD s.data.toList) = fs at hfo ⊢
  go_enter Tryd.func60, Tryd.ntmps60
  go_wp2_with (first
    | (go_at_call 19; refine (hrc _).mono ?_; clear hrc; rintro e w1 ⟨v0, v1, rfl, hr0, hr1, hb⟩; obtain ⟨A0, c0, rfl⟩ := Kd.R_slice hr0; obtain ⟨A1, c1, rfl⟩ := Kd.R_slice hr1; have HR0 := Aside0.mk hr0; have HR1 := Aside0.mk hr1; have HB1 := Aside0.mk hb; clear hr0 hr1 hb)
    | ((with_reducible refine gate_builtin (b := .append) (xs := #[.tmp 18, .tmp 21]) rfl ?_); at_builtin; refine Kd.R_append (Kd.int .i64) (w0 := w) w.heap.size rfl (.tmp 18) (.tmp 21) 25 3 (.int .i64 0) 8 rfl Tryd.underlying25 infoI rfl (by decide) (by omega) (.slice A0 pz.length c0) pz ((s.size : Nat) : Int) [.int .i64 s.size] (fun _ => True) (fun _ => False) (by rfl) (by rfl) rfl (fun _ h => h.elim) (fun _ _ => trivial) HR0.out HB1.out HB1.out.size (by have := HPZ.out.1; omega) ?_; intro v2 w2 ho2 hb2 hg2 hat2; have HB2 := Aside0.mk hb2; clear ho2 hb2 hg2 hat2)
    | (go_at_call 22; refine (hfo _).mono ?_; clear hfo; rintro e w3 ⟨rfl, hb⟩; have HB3 := Aside0.mk (below_step HB2.out hb); clear hb))
  go_ret
  exact ⟨⟨_, rfl, Kd.R_lower (str_one _ fs) HB3.out.size⟩, HB3.out.alloc HB3.out.size _⟩

set_option maxRecDepth 100000 in
set_option maxHeartbeats 4000000 in
theorem one11 (s : ByteArray) (hs : s.size ≤ 1099511627776) (w : World) :
    Calls Tryd.prog 60 #[.int .i64 11, .string s] w fun e w' => (∃ v, e = .returned v ∧ SRow w' w.heap.size v (if stopB s = true then [] else [s])) ∧ Below w.heap.size w w' := by
  have hrc := refRunes_c s hs
  have hrl := runes_length s.data.toList
  rw [size_data] at hrl
  have hst := refStop_c s
  have HPZ := Aside0.mk (show (placesZ (runes s.data.toList)).length ≤ s.size ∧ (runesZ (runes s.data.toList)).length ≤ s.size by rw [placesZ_len, runesZ_len]; omega)
  clear hrl
  generalize placesZ (runes s.data.toList) = pz at hrc HPZ
  generalize runesZ (runes s.data.toList) = rz at hrc HPZ
  generalize stopB s = B at hst ⊢
  cases B
  · rw [if_neg (by decide)]
    go_enter Tryd.func60, Tryd.ntmps60
    go_wp2_with (first
    | (go_at_call 19; refine (hrc _).mono ?_; clear hrc; rintro e w1 ⟨v0, v1, rfl, hr0, hr1, hb⟩; obtain ⟨A0, c0, rfl⟩ := Kd.R_slice hr0; obtain ⟨A1, c1, rfl⟩ := Kd.R_slice hr1; have HR0 := Aside0.mk hr0; have HR1 := Aside0.mk hr1; have HB1 := Aside0.mk hb; clear hr0 hr1 hb)
    | ((with_reducible refine gate_builtin (b := .append) (xs := #[.tmp 18, .tmp 21]) rfl ?_); at_builtin; refine Kd.R_append (Kd.int .i64) (w0 := w) w.heap.size rfl (.tmp 18) (.tmp 21) 25 3 (.int .i64 0) 8 rfl Tryd.underlying25 infoI rfl (by decide) (by omega) (.slice A0 pz.length c0) pz ((s.size : Nat) : Int) [.int .i64 s.size] (fun _ => True) (fun _ => False) (by rfl) (by rfl) rfl (fun _ h => h.elim) (fun _ _ => trivial) HR0.out HB1.out HB1.out.size (by have := HPZ.out.1; omega) ?_; intro v2 w2 ho2 hb2 hg2 hat2; have HB2 := Aside0.mk hb2; clear ho2 hb2 hg2 hat2)
      | (go_at_call 35; refine (hst _).mono ?_; clear hst; rintro e w3 ⟨rfl, hb⟩; have HB3 := Aside0.mk (below_step HB2.out hb); clear hb))
    go_ret
    exact ⟨⟨_, rfl, Kd.R_lower (str_one _ s) HB3.out.size⟩, HB3.out.alloc HB3.out.size _⟩
  · rw [if_pos rfl]
    go_enter Tryd.func60, Tryd.ntmps60
    go_wp2_with (first
    | (go_at_call 19; refine (hrc _).mono ?_; clear hrc; rintro e w1 ⟨v0, v1, rfl, hr0, hr1, hb⟩; obtain ⟨A0, c0, rfl⟩ := Kd.R_slice hr0; obtain ⟨A1, c1, rfl⟩ := Kd.R_slice hr1; have HR0 := Aside0.mk hr0; have HR1 := Aside0.mk hr1; have HB1 := Aside0.mk hb; clear hr0 hr1 hb)
    | ((with_reducible refine gate_builtin (b := .append) (xs := #[.tmp 18, .tmp 21]) rfl ?_); at_builtin; refine Kd.R_append (Kd.int .i64) (w0 := w) w.heap.size rfl (.tmp 18) (.tmp 21) 25 3 (.int .i64 0) 8 rfl Tryd.underlying25 infoI rfl (by decide) (by omega) (.slice A0 pz.length c0) pz ((s.size : Nat) : Int) [.int .i64 s.size] (fun _ => True) (fun _ => False) (by rfl) (by rfl) rfl (fun _ h => h.elim) (fun _ _ => trivial) HR0.out HB1.out HB1.out.size (by have := HPZ.out.1; omega) ?_; intro v2 w2 ho2 hb2 hg2 hat2; have HB2 := Aside0.mk hb2; clear ho2 hb2 hg2 hat2)
      | (go_at_call 35; refine (hst _).mono ?_; clear hst; rintro e w3 ⟨rfl, hb⟩; have HB3 := Aside0.mk (below_step HB2.out hb); clear hb))
    go_ret
    exact ⟨⟨_, rfl, Kd.R_nil _ _ _ _ _⟩, HB3.out⟩

/-- A row of numbers that was made: its block, its cells. -/
theorem row_cells {w : World} {base : Nat} {ok : Nat → Prop} {v : Value} {xs : List Int} (h : Kd.R (Kd.int .i64) 3 w base ok v xs) (hn : 0 < xs.length) :
    ∃ g c pc, v = .slice (some ⟨g, 0, none⟩) xs.length c ∧ w.heap[g]? = some (.cells pc 3 (0, 0)) ∧ ∀ i, i < xs.length → pc[i]? = some (.int .i64 (xs.getD i 0)) := by
  have ho := Kd.own_of_R h
  obtain ⟨g, c, hv, _, _⟩ := ho.form hn
  obtain ⟨pc, hpc⟩ := own_typed ho g (by rw [hv]; rfl)
  refine ⟨g, c, pc, hv, hpc, fun i hi => ?_⟩
  have := ho.cells (g := g) (by rw [hv]; rfl) i (.int .i64 (xs.getD i 0)) (by simp [encs, List.getD_eq_getElem?_getD, hi])
  have ha : (⟨g, 0, none⟩ : Addr).add i = ⟨g, i, none⟩ := by unfold Addr.add; split <;> simp_all
  rw [ha] at this
  exact (blk_cell hpc i).symm.trans this
theorem pz_places (s : ByteArray) : placesZ (runes s.data.toList) ++ [((s.size : Nat) : Int)] = placesD s.data.toList := by unfold placesD; rw [size_data]
set_option maxRecDepth 100000 in
set_option maxHeartbeats 4000000 in
theorem one14 (s : ByteArray) (hs : s.size ≤ 1099511627776) (w : World) :
    Calls Tryd.prog 60 #[.int .i64 14, .string s] w fun e w' => (∃ v, e = .returned v ∧ SRow w' w.heap.size v (if 17 < (placesD s.data.toList).length then [s.extract 0 ((placesD s.data.toList).getD 16 0).toNat] else [s])) ∧ Below w.heap.size w w' := by
  have hrc := refRunes_c s hs
  have hrl := runes_length s.data.toList
  rw [size_data] at hrl
  have HPL := Aside0.mk (show (placesD s.data.toList).length = (runes s.data.toList).length + 1 from placesD_len _)
  have hbd := placesD_bounds s.data.toList 16
  rw [size_data] at hbd
  have HPZ := Aside0.mk (show (placesZ (runes s.data.toList)).length ≤ s.size ∧ (runesZ (runes s.data.toList)).length ≤ s.size by rw [placesZ_len, runesZ_len]; omega)
  have HRZ := Aside0.mk (show (runesZ (runes s.data.toList)).length + 1 = (placesD s.data.toList).length by rw [runesZ_len, placesD_len])
  have HPA := Aside0.mk (pz_places s)
  clear hrl
  generalize placesZ (runes s.data.toList) = pz at hrc HPZ HPA
  generalize runesZ (runes s.data.toList) = rz at hrc HPZ HRZ
  generalize placesD s.data.toList = p at HPL hbd HPA HRZ ⊢
  obtain ⟨z, hz⟩ : ∃ z, z = p.getD 16 0 := ⟨_, rfl⟩
  rw [← hz] at hbd ⊢
  obtain ⟨hb0, hb1⟩ := hbd
  have HZ := Aside0.mk hz
  clear hz
  have hrz := HRZ.out
  have hrs := HPZ.out.2
  by_cases h17 : 17 < p.length
  · rw [if_pos h17]
    have i1 : (16 : Int) < (rz.length : Int) := by omega
    have i2 : (16 : Int) < (p.length : Int) := by omega
    clear hrz
    go_enter Tryd.func60, Tryd.ntmps60
    go_wp2_with (first
    | (go_at_call 19; refine (hrc _).mono ?_; clear hrc; rintro e w1 ⟨v0, v1, rfl, hr0, hr1, hb⟩; obtain ⟨A0, c0, rfl⟩ := Kd.R_slice hr0; obtain ⟨A1, c1, rfl⟩ := Kd.R_slice hr1; have HR0 := Aside0.mk hr0; have HR1 := Aside0.mk hr1; have HB1 := Aside0.mk hb; clear hr0 hr1 hb)
    | ((with_reducible refine gate_builtin (b := .append) (xs := #[.tmp 18, .tmp 21]) rfl ?_); at_builtin; refine Kd.R_append (Kd.int .i64) (w0 := w) w.heap.size rfl (.tmp 18) (.tmp 21) 25 3 (.int .i64 0) 8 rfl Tryd.underlying25 infoI rfl (by decide) (by omega) (.slice A0 pz.length c0) pz ((s.size : Nat) : Int) [.int .i64 s.size] (fun _ => True) (fun _ => False) (by rfl) (by rfl) rfl (fun _ h => h.elim) (fun _ _ => trivial) HR0.out HB1.out HB1.out.size (by have := HPZ.out.1; omega) ?_; intro v2 w2 ho2 hb2 hg2 hat2; have HB2 := Aside0.mk hb2; rw [HPA.out] at ho2; obtain ⟨g, c, pc, rfl, hpc, hpv⟩ := row_cells ho2 (by omega); have c16 := (blk_cell hpc 16).trans (hpv 16 (by omega)); rw [← HZ.out] at c16; clear ho2 hb2 hg2 hat2 hpc hpv))
    go_ret
    exact ⟨⟨_, rfl, Kd.R_lower (str_one _ _) HB2.out.size⟩, HB2.out.alloc HB2.out.size _⟩
  · rw [if_neg h17]
    have i1 : ¬ (16 : Int) < (rz.length : Int) := by omega
    clear hrz
    go_enter Tryd.func60, Tryd.ntmps60
    go_wp2_with (first
    | (go_at_call 19; refine (hrc _).mono ?_; clear hrc; rintro e w1 ⟨v0, v1, rfl, hr0, hr1, hb⟩; obtain ⟨A0, c0, rfl⟩ := Kd.R_slice hr0; obtain ⟨A1, c1, rfl⟩ := Kd.R_slice hr1; have HR0 := Aside0.mk hr0; have HR1 := Aside0.mk hr1; have HB1 := Aside0.mk hb; clear hr0 hr1 hb)
    | ((with_reducible refine gate_builtin (b := .append) (xs := #[.tmp 18, .tmp 21]) rfl ?_); at_builtin; refine Kd.R_append (Kd.int .i64) (w0 := w) w.heap.size rfl (.tmp 18) (.tmp 21) 25 3 (.int .i64 0) 8 rfl Tryd.underlying25 infoI rfl (by decide) (by omega) (.slice A0 pz.length c0) pz ((s.size : Nat) : Int) [.int .i64 s.size] (fun _ => True) (fun _ => False) (by rfl) (by rfl) rfl (fun _ h => h.elim) (fun _ _ => trivial) HR0.out HB1.out HB1.out.size (by have := HPZ.out.1; omega) ?_; intro v2 w2 ho2 hb2 hg2 hat2; have HB2 := Aside0.mk hb2; clear ho2 hb2 hg2 hat2))
    go_ret
    exact ⟨⟨_, rfl, Kd.R_lower (str_one _ s) HB2.out.size⟩, HB2.out.alloc HB2.out.size _⟩
end Go.Proofs.YtgbphkckiekehaaDoor.Ana

set_option linter.unusedVariables false
set_option linter.unusedSimpArgs false
namespace Go.Proofs.YtgbphkckiekehaaDoor.Ana
open Go.RowKit Go.Shelf Go.Proofs.YtgbphkckiekehaaDoor.QRef Go.Proofs.YtgbphkckiekehaaDoorW.PrintWords Go.Proofs.YtgbphkckiekehaaDoorW.PrintLast Go.Proofs.FoldPlain Go.Proofs.FoldText Go.Proofs.YtgbphkckiekehaaDoor.FoldRef Go.Proofs.YtgbphkckiekehaaDoor.FoldW Go.Proofs.YtgbphkckiekehaaDoor.FoldF Go.Proofs.YtgbphkckiekehaaDoor.FoldP

def gramS (s : ByteArray) (p : List Int) (n : Nat) (k : Nat) : List ByteArray := (List.range k).map fun i => s.extract (p.getD i 0).toNat (p.getD (i + n) 0).toNat
theorem gramS_len (s : ByteArray) (p : List Int) (n k : Nat) : (gramS s p n k).length = k := by simp [gramS]
theorem gramS_succ (s : ByteArray) (p : List Int) (n k : Nat) : gramS s p n (k + 1) = gramS s p n k ++ [s.extract (p.getD k 0).toNat (p.getD (k + n) 0).toNat] := by simp [gramS, List.range_succ]
theorem infoS : (Tryd.prog.info? 9).map (fun i => (i.zero, i.size, i.bytes)) = some (some (.string ⟨#[]⟩), Kd.string.sz, 16) := by kernel_rfl
theorem cell_al' {w : World} {p : Addr} {v : Value} (h : w.cell? p = some v) (o : Obj) : (w.alloc o).cell? p = some v := pw_cell_below (below_alloc (Below.refl _ _) o) h
set_option maxRecDepth 100000 in
set_option maxHeartbeats 4000000 in
theorem one12 (s : ByteArray) (hs : s.size ≤ 1099511627776) (w : World) :
    Calls Tryd.prog 60 #[.int .i64 12, .string s] w fun e w' => (∃ v, e = .returned v ∧ SRow w' w.heap.size v (if (placesD s.data.toList).length ≤ 2 + 1 then [s] else gramS s (placesD s.data.toList) 2 ((placesD s.data.toList).length - 2))) ∧ Below w.heap.size w w' := by
  have hrc := refRunes_c s hs
  have hrl := runes_length s.data.toList
  rw [size_data] at hrl
  have HMO := Aside0.mk (fun i j => placesD_le s.data.toList i j)
  have hbn := fun i => placesD_bounds s.data.toList i
  simp only [size_data] at hbn
  have HBN := Aside0.mk hbn
  clear hbn
  have HPZ := Aside0.mk (show (placesZ (runes s.data.toList)).length ≤ s.size ∧ (runesZ (runes s.data.toList)).length ≤ s.size by rw [placesZ_len, runesZ_len]; omega)
  have hrz := show (runesZ (runes s.data.toList)).length + 1 = (placesD s.data.toList).length by rw [runesZ_len, placesD_len]
  have HPA := Aside0.mk (pz_places s)
  clear hrl
  generalize placesZ (runes s.data.toList) = pz at hrc HPZ HPA
  generalize runesZ (runes s.data.toList) = rz at hrc HPZ hrz
  generalize placesD s.data.toList = p at hrz HPA HMO HBN ⊢
  have hrs := HPZ.out.2
  by_cases hle : p.length ≤ 2 + 1
  · rw [if_pos hle]
    have i1 : ¬ (2 : Int) < (rz.length : Int) := by omega
    have i2 : decide ((2 : Int) < (rz.length : Int)) = false := decide_eq_false i1
    go_enter Tryd.func60, Tryd.ntmps60
    go_wp2_with (first
    | (go_at_call 19; refine (hrc _).mono ?_; clear hrc; rintro e w1 ⟨v0, v1, rfl, hr0, hr1, hb⟩; obtain ⟨A0, c0, rfl⟩ := Kd.R_slice hr0; obtain ⟨A1, c1, rfl⟩ := Kd.R_slice hr1; have HR0 := Aside0.mk hr0; have HR1 := Aside0.mk hr1; have HB1 := Aside0.mk hb; clear hr0 hr1 hb)
    | ((with_reducible refine gate_builtin (b := .append) (xs := #[.tmp 18, .tmp 21]) rfl ?_); at_builtin; refine Kd.R_append (Kd.int .i64) (w0 := w) w.heap.size rfl (.tmp 18) (.tmp 21) 25 3 (.int .i64 0) 8 rfl Tryd.underlying25 infoI rfl (by decide) (by omega) (.slice A0 pz.length c0) pz ((s.size : Nat) : Int) [.int .i64 s.size] (fun _ => True) (fun _ => False) (by rfl) (by rfl) rfl (fun _ h => h.elim) (fun _ _ => trivial) HR0.out HB1.out HB1.out.size (by have := HPZ.out.1; omega) ?_; intro v2 w2 ho2 hb2 hg2 hat2; have HB2 := Aside0.mk hb2; have HRL := Aside0.mk (row_apart HR1.out rfl HR0.out (by decide) hg2); rw [HPA.out] at ho2; obtain ⟨g, c, pc, rfl, hpc, hpv⟩ := row_cells ho2 (by omega); have HPC := Aside0.mk hpc; have HPV := Aside0.mk hpv; clear ho2 hb2 hg2 hat2 hpc hpv))
    go_loopw [10] (fun vi wr => vi = .int .i64 0 ∧ Hid (Below w.heap.size w wr)) (fun _ _ => 0)
    case atStart => exact ⟨rfl, Lib.hid HB2.out⟩
    case round =>
      obtain ⟨rfl, hbw⟩ := hrel
      have hbb := hbw.out
      clear hbw
      by_cases h3 : (2 : Int) ≤ (rz.length : Int)
      · go_wp2
        go_ret
        exact ⟨⟨_, rfl, Kd.R_lower (str_one _ s) hbb.size⟩, hbb.alloc hbb.size _⟩
      · go_wp2
        go_ret
        exact ⟨⟨_, rfl, Kd.R_lower (str_one _ s) hbb.size⟩, hbb.alloc hbb.size _⟩
  · rw [if_neg hle]
    have i1 : (2 : Int) < (rz.length : Int) := by omega
    have i2 : decide ((2 : Int) < (rz.length : Int)) = true := decide_eq_true i1
    go_enter Tryd.func60, Tryd.ntmps60
    go_wp2_with (first
    | (go_at_call 19; refine (hrc _).mono ?_; clear hrc; rintro e w1 ⟨v0, v1, rfl, hr0, hr1, hb⟩; obtain ⟨A0, c0, rfl⟩ := Kd.R_slice hr0; obtain ⟨A1, c1, rfl⟩ := Kd.R_slice hr1; have HR0 := Aside0.mk hr0; have HR1 := Aside0.mk hr1; have HB1 := Aside0.mk hb; clear hr0 hr1 hb)
    | ((with_reducible refine gate_builtin (b := .append) (xs := #[.tmp 18, .tmp 21]) rfl ?_); at_builtin; refine Kd.R_append (Kd.int .i64) (w0 := w) w.heap.size rfl (.tmp 18) (.tmp 21) 25 3 (.int .i64 0) 8 rfl Tryd.underlying25 infoI rfl (by decide) (by omega) (.slice A0 pz.length c0) pz ((s.size : Nat) : Int) [.int .i64 s.size] (fun _ => True) (fun _ => False) (by rfl) (by rfl) rfl (fun _ h => h.elim) (fun _ _ => trivial) HR0.out HB1.out HB1.out.size (by have := HPZ.out.1; omega) ?_; intro v2 w2 ho2 hb2 hg2 hat2; have HB2 := Aside0.mk hb2; have HRL := Aside0.mk (row_apart HR1.out rfl HR0.out (by decide) hg2); rw [HPA.out] at ho2; obtain ⟨g, c, pc, rfl, hpc, hpv⟩ := row_cells ho2 (by omega); have HPC := Aside0.mk hpc; have HPV := Aside0.mk hpv; clear ho2 hb2 hg2 hat2 hpc hpv))
    have hpl : (p.length : Int) = (rz.length : Int) + 1 := by omega
    have HLQ := Aside0.mk hpl
    have HLR := Aside0.mk hrz
    clear hpl hrz
    go_loopw [9, 10] (fun v vi wr => ∃ i : Nat, i + 2 ≤ p.length ∧ vi = .int .i64 i ∧ Hid (Kd.R Kd.string 9 wr w2.heap.size (fun _ => True) v (gramS s p 2 i)) ∧ Hid (wr.heap[g]? = some (.cells pc 3 (0, 0))) ∧ Hid (Below w2.heap.size w2 wr))
      (fun _ vi _ => p.length - (intOf vi).toNat)
    case atStart => exact ⟨0, by have := HLQ.out; omega, rfl, Lib.hid (Kd.R_nil _ _ _ _ _), Lib.hid HPC.out, Lib.hid (Below.refl _ _)⟩
    case round =>
      obtain ⟨i, hi, rfl, hRi, hPi, hBi⟩ := hrel
      have hpz : p.length ≤ s.size + 1 := by have := HLR.out; omega
      by_cases hil : i + 2 < p.length
      · have e1 := HPV.out i (by omega)
        have e2 := HPV.out (i + 2) hil
        have z12 := HMO.out i (i + 2) (by omega) hil
        have z0 := (HBN.out i).1
        have z3 := (HBN.out (i + 2)).2
        have HGS := Aside0.mk (gramS_succ s p 2 i)
        obtain ⟨Ai, ci, rfl⟩ := Kd.R_slice hRi.out
        have hRd := Kd.R_drew hRi.out
        rw [gramS_len] at hRd ⊢
        have HRd := Aside0.mk hRd
        have HPd := Aside0.mk (show wr.drew.heap[g]? = some (.cells pc 3 (0, 0)) from hPi.out)
        have HBd := Aside0.mk (below_drew1 hBi.out)
        have HZ1 := Aside0.mk e1
        have HZ2 := Aside0.mk e2
        have kz1 := (blk_cell HPd.out i).trans e1
        have kz2 := (blk_cell HPd.out (i + 2)).trans e2
        clear e1 e2 hRi hPi hBi hRd
        generalize p.getD i 0 = z1 at z12 z0 HZ1 kz1 HGS
        generalize p.getD (i + 2) 0 = z2 at z12 z3 HZ2 kz2 HGS
        have j1 : (i : Int) < (p.length : Int) := by omega
        have j2 : (i : Int) + 2 < (p.length : Int) := by omega
        have j3 : (0 : Int) ≤ (i : Int) := by omega
        have j4 : (0 : Int) ≤ (i : Int) + 2 := by omega
        have j5 : 0 ≤ z2 := by omega
        have j6 : ((i : Int) + 2).toNat = i + 2 := by omega
        have j7 : (i : Int) + 2 ≤ (rz.length : Int) := by have := HLQ.out; omega
        have w_1 : IntKind.i64.wrap ((i : Int) + 2) = (i : Int) + 2 := wrap_small _ (by omega) (by omega)
        go_wp2
        refine wp_normal ?_
        refine start_ (n := 16) (S := fun w' => w'.cell? ⟨g, i, none⟩ = some (.int .i64 z1) ∧ w'.cell? ⟨g, i + 2, none⟩ = some (.int .i64 z2)) (ds := []) #[false, false, false, false, false, false, false, false, false, false, false, false, false, false, false, false] (by kernel_rfl) rfl rfl ⟨kz1, kz2⟩ (fun hHeld => ?_)
        generalize wr.drew = wd at hHeld HPd HRd HBd kz1 kz2 ⊢
        refine pure_ (i := 0) (N := some 52) (v := ?_) (a' := ?_) #[true, false, false, false, false, false, false, false, false, false, false, false, false, false, false, false] rfl rfl (by kernel_rfl) (fun _ _ _ h => h) (Or.inl ⟨by rfl, ?_⟩) ?_ ?_
        rotate_left
        · intro w'
          go_simp
          with_reducible rfl
        rotate_left
        · simp only [Act.put, List.setIfInBounds_toArray, List.set_cons_zero, List.set_cons_succ, i64_w, i32_w]
          rfl
        refine pure_ (i := 1) (N := some 53) (v := ?_) (a' := ?_) #[true, true, false, false, false, false, false, false, false, false, false, false, false, false, false, false] rfl rfl (by kernel_rfl) (fun _ _ _ h => h) (Or.inl ⟨by rfl, ?_⟩) ?_ ?_
        rotate_left
        · intro w'
          go_simp
          with_reducible rfl
        rotate_left
        · simp only [Act.put, List.setIfInBounds_toArray, List.set_cons_zero, List.set_cons_succ, i64_w, i32_w]
          rfl
        refine pure_ (i := 2) (N := some 54) (v := ?_) (a' := ?_) #[true, true, true, false, false, false, false, false, false, false, false, false, false, false, false, false] rfl rfl (by kernel_rfl) (fun _ _ _ h => h) (Or.inl ⟨by rfl, ?_⟩) ?_ ?_
        rotate_left
        · intro w'
          go_simp
          with_reducible rfl
        rotate_left
        · simp only [Act.put, List.setIfInBounds_toArray, List.set_cons_zero, List.set_cons_succ, i64_w, i32_w]
          rfl
        refine pure_ (i := 3) (N := some 55) (v := ?_) (a' := ?_) #[true, true, true, true, false, false, false, false, false, false, false, false, false, false, false, false] rfl rfl (by kernel_rfl) (fun _ _ _ h => h) (Or.inl ⟨by rfl, ?_⟩) ?_ ?_
        rotate_left
        · intro w'
          go_simp
          with_reducible rfl
        rotate_left
        · simp only [Act.put, List.setIfInBounds_toArray, List.set_cons_zero, List.set_cons_succ, i64_w, i32_w]
          rfl
        refine pure_ (i := 4) (N := some 56) (v := ?_) (a' := ?_) #[true, true, true, true, true, false, false, false, false, false, false, false, false, false, false, false] rfl rfl (by kernel_rfl) (fun _ _ _ h => h) (Or.inl ⟨by rfl, ?_⟩) ?_ ?_
        rotate_left
        · intro w'
          go_simp
          with_reducible rfl
        rotate_left
        · simp only [Act.put, List.setIfInBounds_toArray, List.set_cons_zero, List.set_cons_succ, i64_w, i32_w]
          rfl
        refine pure_ (i := 6) (N := some 58) (v := ?_) (a' := ?_) #[true, true, true, true, true, false, true, false, false, false, false, false, false, false, false, false] rfl rfl (by kernel_rfl) (fun _ _ _ h => h) (Or.inl ⟨by rfl, ?_⟩) ?_ ?_
        rotate_left
        · intro w'
          go_simp
          with_reducible rfl
        rotate_left
        · simp only [Act.put, List.setIfInBounds_toArray, List.set_cons_zero, List.set_cons_succ, i64_w, i32_w]
          rfl
        refine pure_ (i := 7) (N := some 59) (v := ?_) (a' := ?_) #[true, true, true, true, true, false, true, true, false, false, false, false, false, false, false, false] rfl rfl (by kernel_rfl) (fun _ _ _ h => h) (Or.inl ⟨by rfl, ?_⟩) ?_ ?_
        rotate_left
        · intro w'
          go_simp
          with_reducible rfl
        rotate_left
        · simp only [Act.put, List.setIfInBounds_toArray, List.set_cons_zero, List.set_cons_succ, i64_w, i32_w]
          rfl
        refine pure_ (i := 8) (N := some 60) (v := ?_) (a' := ?_) #[true, true, true, true, true, false, true, true, true, false, false, false, false, false, false, false] rfl rfl (by kernel_rfl) (fun _ _ _ h => h) (Or.inl ⟨by rfl, ?_⟩) ?_ ?_
        rotate_left
        · intro w'
          go_simp
          with_reducible rfl
        rotate_left
        · simp only [Act.put, List.setIfInBounds_toArray, List.set_cons_zero, List.set_cons_succ, i64_w, i32_w]
          rfl
        refine pure_ (i := 9) (N := some 61) (v := ?_) (a' := ?_) #[true, true, true, true, true, false, true, true, true, true, false, false, false, false, false, false] rfl rfl (by kernel_rfl) (fun _ _ _ h => h) (Or.inl ⟨by rfl, ?_⟩) ?_ ?_
        rotate_left
        · intro w'
          go_simp
          with_reducible rfl
        rotate_left
        · simp only [Act.put, List.setIfInBounds_toArray, List.set_cons_zero, List.set_cons_succ, i64_w, i32_w]
          rfl
        refine pure_ (i := 10) (N := some 62) (v := ?_) (a' := ?_) #[true, true, true, true, true, false, true, true, true, true, true, false, false, false, false, false] rfl rfl (by kernel_rfl) (fun _ _ _ h => h) (Or.inl ⟨by rfl, ?_⟩) ?_ ?_
        rotate_left
        · intro w'
          go_simp
          with_reducible rfl
        rotate_left
        · simp only [Act.put, List.setIfInBounds_toArray, List.set_cons_zero, List.set_cons_succ, i64_w, i32_w]
          rfl
        refine take_ (i := 5) (N := some 57) (v := ?_) (a' := ?_) #[true, true, true, true, true, true, true, true, true, true, true, false, false, false, false, false] rfl rfl (by kernel_rfl) (fun _ _ _ h => h) (Or.inl ⟨by rfl, ?_⟩) hHeld ?_ ?_
        rotate_left
        · rintro w' ⟨s0, s1⟩
          go_simp
          with_reducible rfl
        rotate_left
        · simp only [Act.put, List.setIfInBounds_toArray, List.set_cons_zero, List.set_cons_succ, i64_w, i32_w]
          rfl
        refine take_ (i := 11) (N := some 63) (v := ?_) (a' := ?_) #[true, true, true, true, true, true, true, true, true, true, true, true, false, false, false, false] rfl rfl (by kernel_rfl) (fun _ _ _ h => h) (Or.inl ⟨by rfl, ?_⟩) hHeld ?_ ?_
        rotate_left
        · rintro w' ⟨s0, s1⟩
          go_simp
          with_reducible rfl
        rotate_left
        · simp only [Act.put, List.setIfInBounds_toArray, List.set_cons_zero, List.set_cons_succ, i64_w, i32_w]
          rfl
        refine pure_ (i := 12) (N := some 64) (v := ?_) (a' := ?_) #[true, true, true, true, true, true, true, true, true, true, true, true, true, false, false, false] rfl rfl (by kernel_rfl) (fun _ _ _ h => h) (Or.inl ⟨by rfl, ?_⟩) ?_ ?_
        rotate_left
        · intro w'
          go_simp
          with_reducible rfl
        rotate_left
        · simp only [Act.put, List.setIfInBounds_toArray, List.set_cons_zero, List.set_cons_succ, i64_w, i32_w]
          rfl
        refine one_ (i := 13) (N := some 65) #[true, true, true, true, true, true, true, true, true, true, true, true, true, true, false, false] rfl rfl (by kernel_rfl) (by decide) (fun K hK => ?_)
        refine value_ (w1 := ?_) (v := ?_) (by rfl) rfl ?_ ?_
        rotate_left 2
        · go_simp
          constructor
          · rfl
          · rfl
        have zz := trivial
        refine hK.out _ _ ⟨cell_al' kz1 _, cell_al' kz2 _⟩ (fun hHeld => ?_)
        clear hK K
        refine norm_ (a' := ?_) ?_ ?_
        rotate_left
        · show Act.put _ (some 65) _ = _
          simp only [Act.put, List.setIfInBounds_toArray, List.set_cons_zero, List.set_cons_succ, i64_w, i32_w]
          rfl
        refine one_ (i := 14) (N := some 66) #[true, true, true, true, true, true, true, true, true, true, true, true, true, true, true, false] rfl rfl (by kernel_rfl) (by decide) (fun K hK => ?_)
        refine Kd.R_append_step Kd.string (w0 := w2) w2.heap.size rfl (.tmp 52) (.tmp 65) 80 9 (.string ⟨#[]⟩) 16 rfl Tryd.underlying80 infoS rfl (by decide) (by omega) (.slice Ai i ci) (gramS s p 2 i) (s.extract z1.toNat z2.toNat) [.string (s.extract z1.toNat z2.toNat)] (fun _ => True) (fun _ => False) (by rfl) (by rfl) rfl (fun _ h => h.elim) (fun _ _ => trivial) HRd.out HBd.out HBd.out.size (by rw [gramS_len]; omega) ?_
        intro v1 w3 ho1 hb1 hg1 hat1
        have mp := (hg1.block g (blk_lt HPd.out) (Kd.R_ne HRd.out HPd.out (by decide))).trans HPd.out
        have HO1 := Aside0.mk ho1
        have HB3 := Aside0.mk hb1
        have HP3 := Aside0.mk mp
        clear ho1 hb1 hg1 hat1
        refine hK.out _ _ ⟨(blk_cell HP3.out i).trans HZ1.out, (blk_cell HP3.out (i + 2)).trans HZ2.out⟩ (fun hHeld => ?_)
        clear hK K
        refine norm_ (a' := ?_) ?_ ?_
        rotate_left
        · show Act.put _ (some 66) _ = _
          simp only [Act.put, List.setIfInBounds_toArray, List.set_cons_zero, List.set_cons_succ, i64_w, i32_w]
          rfl
        refine pure_ (i := 15) (N := some 9) (v := ?_) (a' := ?_) #[true, true, true, true, true, true, true, true, true, true, true, true, true, true, true, true] rfl rfl (by kernel_rfl) (fun _ _ _ h => h) (Or.inl ⟨by rfl, ?_⟩) ?_ ?_
        rotate_left
        · intro w'
          go_simp
          with_reducible rfl
        rotate_left
        · simp only [Act.put, List.setIfInBounds_toArray, List.set_cons_zero, List.set_cons_succ, i64_w, i32_w]
          rfl
        refine done_ (by kernel_rfl) ?_
        go_wp2
        go_roundw
        case rel => exact ⟨i + 1, by omega, by go_num, Lib.hid (by rw [HGS.out]; exact HO1.out), Lib.hid HP3.out, Lib.hid HB3.out⟩
        case measure => simp [intOf]; omega
      · obtain rfl : i = p.length - 2 := by omega
        have j7 : ¬ ((p.length - 2 : Nat) : Int) + 2 ≤ (rz.length : Int) := by have := HLQ.out; omega
        have HRi := Aside0.mk hRi.out
        obtain ⟨Ai, ci, rfl⟩ := Kd.R_slice hRi.out
        go_wp2
        go_ret
        exact ⟨⟨_, rfl, Kd.R_lower HRi.out HB2.out.size⟩, below_step HB2.out hBi.out⟩
set_option maxRecDepth 100000 in
set_option maxHeartbeats 4000000 in
theorem one13 (s : ByteArray) (hs : s.size ≤ 1099511627776) (w : World) :
    Calls Tryd.prog 60 #[.int .i64 13, .string s] w fun e w' => (∃ v, e = .returned v ∧ SRow w' w.heap.size v (if (placesD s.data.toList).length ≤ 3 + 1 then [s] else gramS s (placesD s.data.toList) 3 ((placesD s.data.toList).length - 3))) ∧ Below w.heap.size w w' := by
  have hrc := refRunes_c s hs
  have hrl := runes_length s.data.toList
  rw [size_data] at hrl
  have HMO := Aside0.mk (fun i j => placesD_le s.data.toList i j)
  have hbn := fun i => placesD_bounds s.data.toList i
  simp only [size_data] at hbn
  have HBN := Aside0.mk hbn
  clear hbn
  have HPZ := Aside0.mk (show (placesZ (runes s.data.toList)).length ≤ s.size ∧ (runesZ (runes s.data.toList)).length ≤ s.size by rw [placesZ_len, runesZ_len]; omega)
  have hrz := show (runesZ (runes s.data.toList)).length + 1 = (placesD s.data.toList).length by rw [runesZ_len, placesD_len]
  have HPA := Aside0.mk (pz_places s)
  clear hrl
  generalize placesZ (runes s.data.toList) = pz at hrc HPZ HPA
  generalize runesZ (runes s.data.toList) = rz at hrc HPZ hrz
  generalize placesD s.data.toList = p at hrz HPA HMO HBN ⊢
  have hrs := HPZ.out.2
  by_cases hle : p.length ≤ 3 + 1
  · rw [if_pos hle]
    have i1 : ¬ (3 : Int) < (rz.length : Int) := by omega
    have i2 : decide ((3 : Int) < (rz.length : Int)) = false := decide_eq_false i1
    go_enter Tryd.func60, Tryd.ntmps60
    go_wp2_with (first
    | (go_at_call 19; refine (hrc _).mono ?_; clear hrc; rintro e w1 ⟨v0, v1, rfl, hr0, hr1, hb⟩; obtain ⟨A0, c0, rfl⟩ := Kd.R_slice hr0; obtain ⟨A1, c1, rfl⟩ := Kd.R_slice hr1; have HR0 := Aside0.mk hr0; have HR1 := Aside0.mk hr1; have HB1 := Aside0.mk hb; clear hr0 hr1 hb)
    | ((with_reducible refine gate_builtin (b := .append) (xs := #[.tmp 18, .tmp 21]) rfl ?_); at_builtin; refine Kd.R_append (Kd.int .i64) (w0 := w) w.heap.size rfl (.tmp 18) (.tmp 21) 25 3 (.int .i64 0) 8 rfl Tryd.underlying25 infoI rfl (by decide) (by omega) (.slice A0 pz.length c0) pz ((s.size : Nat) : Int) [.int .i64 s.size] (fun _ => True) (fun _ => False) (by rfl) (by rfl) rfl (fun _ h => h.elim) (fun _ _ => trivial) HR0.out HB1.out HB1.out.size (by have := HPZ.out.1; omega) ?_; intro v2 w2 ho2 hb2 hg2 hat2; have HB2 := Aside0.mk hb2; have HRL := Aside0.mk (row_apart HR1.out rfl HR0.out (by decide) hg2); rw [HPA.out] at ho2; obtain ⟨g, c, pc, rfl, hpc, hpv⟩ := row_cells ho2 (by omega); have HPC := Aside0.mk hpc; have HPV := Aside0.mk hpv; clear ho2 hb2 hg2 hat2 hpc hpv))
    go_loopw [10] (fun vi wr => vi = .int .i64 0 ∧ Hid (Below w.heap.size w wr)) (fun _ _ => 0)
    case atStart => exact ⟨rfl, Lib.hid HB2.out⟩
    case round =>
      obtain ⟨rfl, hbw⟩ := hrel
      have hbb := hbw.out
      clear hbw
      by_cases h3 : (3 : Int) ≤ (rz.length : Int)
      · go_wp2
        go_ret
        exact ⟨⟨_, rfl, Kd.R_lower (str_one _ s) hbb.size⟩, hbb.alloc hbb.size _⟩
      · go_wp2
        go_ret
        exact ⟨⟨_, rfl, Kd.R_lower (str_one _ s) hbb.size⟩, hbb.alloc hbb.size _⟩
  · rw [if_neg hle]
    have i1 : (3 : Int) < (rz.length : Int) := by omega
    have i2 : decide ((3 : Int) < (rz.length : Int)) = true := decide_eq_true i1
    go_enter Tryd.func60, Tryd.ntmps60
    go_wp2_with (first
    | (go_at_call 19; refine (hrc _).mono ?_; clear hrc; rintro e w1 ⟨v0, v1, rfl, hr0, hr1, hb⟩; obtain ⟨A0, c0, rfl⟩ := Kd.R_slice hr0; obtain ⟨A1, c1, rfl⟩ := Kd.R_slice hr1; have HR0 := Aside0.mk hr0; have HR1 := Aside0.mk hr1; have HB1 := Aside0.mk hb; clear hr0 hr1 hb)
    | ((with_reducible refine gate_builtin (b := .append) (xs := #[.tmp 18, .tmp 21]) rfl ?_); at_builtin; refine Kd.R_append (Kd.int .i64) (w0 := w) w.heap.size rfl (.tmp 18) (.tmp 21) 25 3 (.int .i64 0) 8 rfl Tryd.underlying25 infoI rfl (by decide) (by omega) (.slice A0 pz.length c0) pz ((s.size : Nat) : Int) [.int .i64 s.size] (fun _ => True) (fun _ => False) (by rfl) (by rfl) rfl (fun _ h => h.elim) (fun _ _ => trivial) HR0.out HB1.out HB1.out.size (by have := HPZ.out.1; omega) ?_; intro v2 w2 ho2 hb2 hg2 hat2; have HB2 := Aside0.mk hb2; have HRL := Aside0.mk (row_apart HR1.out rfl HR0.out (by decide) hg2); rw [HPA.out] at ho2; obtain ⟨g, c, pc, rfl, hpc, hpv⟩ := row_cells ho2 (by omega); have HPC := Aside0.mk hpc; have HPV := Aside0.mk hpv; clear ho2 hb2 hg2 hat2 hpc hpv))
    have hpl : (p.length : Int) = (rz.length : Int) + 1 := by omega
    have HLQ := Aside0.mk hpl
    have HLR := Aside0.mk hrz
    clear hpl hrz
    go_loopw [9, 10] (fun v vi wr => ∃ i : Nat, i + 3 ≤ p.length ∧ vi = .int .i64 i ∧ Hid (Kd.R Kd.string 9 wr w2.heap.size (fun _ => True) v (gramS s p 3 i)) ∧ Hid (wr.heap[g]? = some (.cells pc 3 (0, 0))) ∧ Hid (Below w2.heap.size w2 wr))
      (fun _ vi _ => p.length - (intOf vi).toNat)
    case atStart => exact ⟨0, by have := HLQ.out; omega, rfl, Lib.hid (Kd.R_nil _ _ _ _ _), Lib.hid HPC.out, Lib.hid (Below.refl _ _)⟩
    case round =>
      obtain ⟨i, hi, rfl, hRi, hPi, hBi⟩ := hrel
      have hpz : p.length ≤ s.size + 1 := by have := HLR.out; omega
      by_cases hil : i + 3 < p.length
      · have e1 := HPV.out i (by omega)
        have e2 := HPV.out (i + 3) hil
        have z12 := HMO.out i (i + 3) (by omega) hil
        have z0 := (HBN.out i).1
        have z3 := (HBN.out (i + 3)).2
        have HGS := Aside0.mk (gramS_succ s p 3 i)
        obtain ⟨Ai, ci, rfl⟩ := Kd.R_slice hRi.out
        have hRd := Kd.R_drew hRi.out
        rw [gramS_len] at hRd ⊢
        have HRd := Aside0.mk hRd
        have HPd := Aside0.mk (show wr.drew.heap[g]? = some (.cells pc 3 (0, 0)) from hPi.out)
        have HBd := Aside0.mk (below_drew1 hBi.out)
        have HZ1 := Aside0.mk e1
        have HZ2 := Aside0.mk e2
        have kz1 := (blk_cell HPd.out i).trans e1
        have kz2 := (blk_cell HPd.out (i + 3)).trans e2
        clear e1 e2 hRi hPi hBi hRd
        generalize p.getD i 0 = z1 at z12 z0 HZ1 kz1 HGS
        generalize p.getD (i + 3) 0 = z2 at z12 z3 HZ2 kz2 HGS
        have j1 : (i : Int) < (p.length : Int) := by omega
        have j2 : (i : Int) + 3 < (p.length : Int) := by omega
        have j3 : (0 : Int) ≤ (i : Int) := by omega
        have j4 : (0 : Int) ≤ (i : Int) + 3 := by omega
        have j5 : 0 ≤ z2 := by omega
        have j6 : ((i : Int) + 3).toNat = i + 3 := by omega
        have j7 : (i : Int) + 3 ≤ (rz.length : Int) := by have := HLQ.out; omega
        have w_1 : IntKind.i64.wrap ((i : Int) + 3) = (i : Int) + 3 := wrap_small _ (by omega) (by omega)
        go_wp2
        refine wp_normal ?_
        refine start_ (n := 16) (S := fun w' => w'.cell? ⟨g, i, none⟩ = some (.int .i64 z1) ∧ w'.cell? ⟨g, i + 3, none⟩ = some (.int .i64 z2)) (ds := []) #[false, false, false, false, false, false, false, false, false, false, false, false, false, false, false, false] (by kernel_rfl) rfl rfl ⟨kz1, kz2⟩ (fun hHeld => ?_)
        generalize wr.drew = wd at hHeld HPd HRd HBd kz1 kz2 ⊢
        refine pure_ (i := 0) (N := some 52) (v := ?_) (a' := ?_) #[true, false, false, false, false, false, false, false, false, false, false, false, false, false, false, false] rfl rfl (by kernel_rfl) (fun _ _ _ h => h) (Or.inl ⟨by rfl, ?_⟩) ?_ ?_
        rotate_left
        · intro w'
          go_simp
          with_reducible rfl
        rotate_left
        · simp only [Act.put, List.setIfInBounds_toArray, List.set_cons_zero, List.set_cons_succ, i64_w, i32_w]
          rfl
        refine pure_ (i := 1) (N := some 53) (v := ?_) (a' := ?_) #[true, true, false, false, false, false, false, false, false, false, false, false, false, false, false, false] rfl rfl (by kernel_rfl) (fun _ _ _ h => h) (Or.inl ⟨by rfl, ?_⟩) ?_ ?_
        rotate_left
        · intro w'
          go_simp
          with_reducible rfl
        rotate_left
        · simp only [Act.put, List.setIfInBounds_toArray, List.set_cons_zero, List.set_cons_succ, i64_w, i32_w]
          rfl
        refine pure_ (i := 2) (N := some 54) (v := ?_) (a' := ?_) #[true, true, true, false, false, false, false, false, false, false, false, false, false, false, false, false] rfl rfl (by kernel_rfl) (fun _ _ _ h => h) (Or.inl ⟨by rfl, ?_⟩) ?_ ?_
        rotate_left
        · intro w'
          go_simp
          with_reducible rfl
        rotate_left
        · simp only [Act.put, List.setIfInBounds_toArray, List.set_cons_zero, List.set_cons_succ, i64_w, i32_w]
          rfl
        refine pure_ (i := 3) (N := some 55) (v := ?_) (a' := ?_) #[true, true, true, true, false, false, false, false, false, false, false, false, false, false, false, false] rfl rfl (by kernel_rfl) (fun _ _ _ h => h) (Or.inl ⟨by rfl, ?_⟩) ?_ ?_
        rotate_left
        · intro w'
          go_simp
          with_reducible rfl
        rotate_left
        · simp only [Act.put, List.setIfInBounds_toArray, List.set_cons_zero, List.set_cons_succ, i64_w, i32_w]
          rfl
        refine pure_ (i := 4) (N := some 56) (v := ?_) (a' := ?_) #[true, true, true, true, true, false, false, false, false, false, false, false, false, false, false, false] rfl rfl (by kernel_rfl) (fun _ _ _ h => h) (Or.inl ⟨by rfl, ?_⟩) ?_ ?_
        rotate_left
        · intro w'
          go_simp
          with_reducible rfl
        rotate_left
        · simp only [Act.put, List.setIfInBounds_toArray, List.set_cons_zero, List.set_cons_succ, i64_w, i32_w]
          rfl
        refine pure_ (i := 6) (N := some 58) (v := ?_) (a' := ?_) #[true, true, true, true, true, false, true, false, false, false, false, false, false, false, false, false] rfl rfl (by kernel_rfl) (fun _ _ _ h => h) (Or.inl ⟨by rfl, ?_⟩) ?_ ?_
        rotate_left
        · intro w'
          go_simp
          with_reducible rfl
        rotate_left
        · simp only [Act.put, List.setIfInBounds_toArray, List.set_cons_zero, List.set_cons_succ, i64_w, i32_w]
          rfl
        refine pure_ (i := 7) (N := some 59) (v := ?_) (a' := ?_) #[true, true, true, true, true, false, true, true, false, false, false, false, false, false, false, false] rfl rfl (by kernel_rfl) (fun _ _ _ h => h) (Or.inl ⟨by rfl, ?_⟩) ?_ ?_
        rotate_left
        · intro w'
          go_simp
          with_reducible rfl
        rotate_left
        · simp only [Act.put, List.setIfInBounds_toArray, List.set_cons_zero, List.set_cons_succ, i64_w, i32_w]
          rfl
        refine pure_ (i := 8) (N := some 60) (v := ?_) (a' := ?_) #[true, true, true, true, true, false, true, true, true, false, false, false, false, false, false, false] rfl rfl (by kernel_rfl) (fun _ _ _ h => h) (Or.inl ⟨by rfl, ?_⟩) ?_ ?_
        rotate_left
        · intro w'
          go_simp
          with_reducible rfl
        rotate_left
        · simp only [Act.put, List.setIfInBounds_toArray, List.set_cons_zero, List.set_cons_succ, i64_w, i32_w]
          rfl
        refine pure_ (i := 9) (N := some 61) (v := ?_) (a' := ?_) #[true, true, true, true, true, false, true, true, true, true, false, false, false, false, false, false] rfl rfl (by kernel_rfl) (fun _ _ _ h => h) (Or.inl ⟨by rfl, ?_⟩) ?_ ?_
        rotate_left
        · intro w'
          go_simp
          with_reducible rfl
        rotate_left
        · simp only [Act.put, List.setIfInBounds_toArray, List.set_cons_zero, List.set_cons_succ, i64_w, i32_w]
          rfl
        refine pure_ (i := 10) (N := some 62) (v := ?_) (a' := ?_) #[true, true, true, true, true, false, true, true, true, true, true, false, false, false, false, false] rfl rfl (by kernel_rfl) (fun _ _ _ h => h) (Or.inl ⟨by rfl, ?_⟩) ?_ ?_
        rotate_left
        · intro w'
          go_simp
          with_reducible rfl
        rotate_left
        · simp only [Act.put, List.setIfInBounds_toArray, List.set_cons_zero, List.set_cons_succ, i64_w, i32_w]
          rfl
        refine take_ (i := 5) (N := some 57) (v := ?_) (a' := ?_) #[true, true, true, true, true, true, true, true, true, true, true, false, false, false, false, false] rfl rfl (by kernel_rfl) (fun _ _ _ h => h) (Or.inl ⟨by rfl, ?_⟩) hHeld ?_ ?_
        rotate_left
        · rintro w' ⟨s0, s1⟩
          go_simp
          with_reducible rfl
        rotate_left
        · simp only [Act.put, List.setIfInBounds_toArray, List.set_cons_zero, List.set_cons_succ, i64_w, i32_w]
          rfl
        refine take_ (i := 11) (N := some 63) (v := ?_) (a' := ?_) #[true, true, true, true, true, true, true, true, true, true, true, true, false, false, false, false] rfl rfl (by kernel_rfl) (fun _ _ _ h => h) (Or.inl ⟨by rfl, ?_⟩) hHeld ?_ ?_
        rotate_left
        · rintro w' ⟨s0, s1⟩
          go_simp
          with_reducible rfl
        rotate_left
        · simp only [Act.put, List.setIfInBounds_toArray, List.set_cons_zero, List.set_cons_succ, i64_w, i32_w]
          rfl
        refine pure_ (i := 12) (N := some 64) (v := ?_) (a' := ?_) #[true, true, true, true, true, true, true, true, true, true, true, true, true, false, false, false] rfl rfl (by kernel_rfl) (fun _ _ _ h => h) (Or.inl ⟨by rfl, ?_⟩) ?_ ?_
        rotate_left
        · intro w'
          go_simp
          with_reducible rfl
        rotate_left
        · simp only [Act.put, List.setIfInBounds_toArray, List.set_cons_zero, List.set_cons_succ, i64_w, i32_w]
          rfl
        refine one_ (i := 13) (N := some 65) #[true, true, true, true, true, true, true, true, true, true, true, true, true, true, false, false] rfl rfl (by kernel_rfl) (by decide) (fun K hK => ?_)
        refine value_ (w1 := ?_) (v := ?_) (by rfl) rfl ?_ ?_
        rotate_left 2
        · go_simp
          constructor
          · rfl
          · rfl
        have zz := trivial
        refine hK.out _ _ ⟨cell_al' kz1 _, cell_al' kz2 _⟩ (fun hHeld => ?_)
        clear hK K
        refine norm_ (a' := ?_) ?_ ?_
        rotate_left
        · show Act.put _ (some 65) _ = _
          simp only [Act.put, List.setIfInBounds_toArray, List.set_cons_zero, List.set_cons_succ, i64_w, i32_w]
          rfl
        refine one_ (i := 14) (N := some 66) #[true, true, true, true, true, true, true, true, true, true, true, true, true, true, true, false] rfl rfl (by kernel_rfl) (by decide) (fun K hK => ?_)
        refine Kd.R_append_step Kd.string (w0 := w2) w2.heap.size rfl (.tmp 52) (.tmp 65) 80 9 (.string ⟨#[]⟩) 16 rfl Tryd.underlying80 infoS rfl (by decide) (by omega) (.slice Ai i ci) (gramS s p 3 i) (s.extract z1.toNat z2.toNat) [.string (s.extract z1.toNat z2.toNat)] (fun _ => True) (fun _ => False) (by rfl) (by rfl) rfl (fun _ h => h.elim) (fun _ _ => trivial) HRd.out HBd.out HBd.out.size (by rw [gramS_len]; omega) ?_
        intro v1 w3 ho1 hb1 hg1 hat1
        have mp := (hg1.block g (blk_lt HPd.out) (Kd.R_ne HRd.out HPd.out (by decide))).trans HPd.out
        have HO1 := Aside0.mk ho1
        have HB3 := Aside0.mk hb1
        have HP3 := Aside0.mk mp
        clear ho1 hb1 hg1 hat1
        refine hK.out _ _ ⟨(blk_cell HP3.out i).trans HZ1.out, (blk_cell HP3.out (i + 3)).trans HZ2.out⟩ (fun hHeld => ?_)
        clear hK K
        refine norm_ (a' := ?_) ?_ ?_
        rotate_left
        · show Act.put _ (some 66) _ = _
          simp only [Act.put, List.setIfInBounds_toArray, List.set_cons_zero, List.set_cons_succ, i64_w, i32_w]
          rfl
        refine pure_ (i := 15) (N := some 9) (v := ?_) (a' := ?_) #[true, true, true, true, true, true, true, true, true, true, true, true, true, true, true, true] rfl rfl (by kernel_rfl) (fun _ _ _ h => h) (Or.inl ⟨by rfl, ?_⟩) ?_ ?_
        rotate_left
        · intro w'
          go_simp
          with_reducible rfl
        rotate_left
        · simp only [Act.put, List.setIfInBounds_toArray, List.set_cons_zero, List.set_cons_succ, i64_w, i32_w]
          rfl
        refine done_ (by kernel_rfl) ?_
        go_wp2
        go_roundw
        case rel => exact ⟨i + 1, by omega, by go_num, Lib.hid (by rw [HGS.out]; exact HO1.out), Lib.hid HP3.out, Lib.hid HB3.out⟩
        case measure => simp [intOf]; omega
      · obtain rfl : i = p.length - 3 := by omega
        have j7 : ¬ ((p.length - 3 : Nat) : Int) + 3 ≤ (rz.length : Int) := by have := HLQ.out; omega
        have HRi := Aside0.mk hRi.out
        obtain ⟨Ai, ci, rfl⟩ := Kd.R_slice hRi.out
        go_wp2
        go_ret
        exact ⟨⟨_, rfl, Kd.R_lower HRi.out HB2.out.size⟩, below_step HB2.out hBi.out⟩
end Go.Proofs.YtgbphkckiekehaaDoor.Ana

set_option linter.unusedVariables false
set_option linter.unusedSimpArgs false
namespace Go.Proofs.YtgbphkckiekehaaDoor.Ana
open Go.RowKit Go.Shelf Go.Proofs.YtgbphkckiekehaaDoor.QRef Go.Proofs.YtgbphkckiekehaaDoorW.PrintWords Go.Proofs.YtgbphkckiekehaaDoorW.PrintLast Go.Proofs.FoldPlain Go.Proofs.FoldText Go.Proofs.YtgbphkckiekehaaDoor.FoldRef Go.Proofs.YtgbphkckiekehaaDoor.FoldW Go.Proofs.YtgbphkckiekehaaDoor.FoldF Go.Proofs.YtgbphkckiekehaaDoor.FoldP

section
variable {P : Program} {ops : Array Oper} {o : Oper} {a : Act} {Q : Exit → Act → World → Prop} {K : Act → World → Prop}
/-- append([]byte, s...) at a step of a region that draws its order. -/
theorem step_append_str {w0 W : World} (base : Nat) (hw : Region.wanted o (yielded ops a.tmps) = true) (s x : Operand) (t u e : TypeId)
    (ho : o.op = .call { callee := .builtin .append, args := #[s, x], argTypes := #[t, u] })
    (ht : P.underlying t = some (.slice e)) (hu : P.underlying u = some .string) (hinfo : (P.info? e).map (fun i => (i.zero, i.size, i.bytes)) = some (some (.int .u8 0), 1, 1))
    (v : Value) (n : Nat) (xs : List Value) (y : ByteArray) (hs : a.eval s = v) (hx : a.eval x = .string y)
    (HO : W.ownsRow base e 1 v n xs) (HB : Below base w0 W) (hbase : base ≤ W.heap.size) (hl : n + y.size ≤ 140737488355328)
    (h : ∀ v1 w1, w1.ownsRow base e 1 v1 (n + y.size) (xs ++ Lib.strCells y) → Below base w0 w1 → W.grownBy w1 v.ownBlock → K (a.put o.dst v1) w1) :
    if Region.wanted o (yielded ops a.tmps) = true then Oper.wp P o a W K Q else K (a.put o.dst undef) W := by
  obtain ⟨i0, hi, hzz⟩ := Option.map_eq_some_iff.1 hinfo
  simp only [Prod.mk.injEq] at hzz
  obtain ⟨hz0, hz1, hz2⟩ := hzz
  rw [if_pos hw]
  obtain ⟨v1, w1, hr, hown, hg, _⟩ := Lib.run_append_own_string (P := P) (w := W) base t u o.type e i0 ht hu hi hz0 hz1 hz2 v n xs HO y (by simp only [maxLen]; omega) hl hbase
  unfold Oper.wp execOp
  simp only [ho, resolve, invoke, builtin, Sem.run_bind, Sem.run_pure, Result.andThen_ok, List.map_toArray, List.map_cons, List.map_nil, hs, hx, hr]
  exact h v1 w1 hown (HB.grown hg hbase (own_base HO)) hg
end
theorem own_ne {W : World} {base e size n g t : Nat} {v : Value} {xs : List Value} {cs : Array Value} (h : W.ownsRow base e size v n xs) (hg : W.heap[g]? = some (.cells cs t (0, 0))) (hne : e ≠ t) : some g ≠ v.ownBlock := fun he => by
  obtain ⟨cs', hc⟩ := own_typed h g he.symm
  rw [hg] at hc
  injection hc with hc
  injection hc with _ hc
  exact hne hc.symm
theorem own_grown_none {W W' : World} {base e size n : Nat} {v : Value} {xs : List Value} (h : W.ownsRow base e size v n xs) (hb : Below W.heap.size W W') : W'.ownsRow base e size v n xs := own_move h (fun k hk => hb.block k (own_lt h k hk))
theorem row_apart_own {α : Type} {d : Kd α} {e e' n size : Nat} {W W' : World} {base base' : Nat} {u v : Value} {xs : List α} {ys : List Value} (h : d.R e W base (fun _ => True) u xs) (hd : d.E = []) (h' : W.ownsRow base' e' size v n ys) (hne : e ≠ e') (hg : W.grownBy W' v.ownBlock) : d.R e W' base (fun _ => True) u xs := by
  refine Kd.R_mono (Kd.R_step (Kd.R_bound h) (fun k hk hlt => hg.block k hlt ?_)) (fun _ _ => trivial)
  obtain ⟨_, _, _, q, hq, cells, hc⟩ := hk
  rw [hd] at hq
  simp only [List.mem_cons, List.not_mem_nil, or_false] at hq
  subst hq
  exact own_ne h' hc (Ne.symm hne)
theorem infoB : (Tryd.prog.info? 5).map (fun i => (i.zero, i.size, i.bytes)) = some (some (.int .u8 0), 1, 1) := by kernel_rfl
theorem nums_bytes (l : List UInt8) : nums .u8 (l.map fun b => (b.toNat : Int)) = Lib.byteCells l := by simp [nums, Lib.byteCells]
theorem refMark_c (r : Int) (w : World) : Calls Tryd.prog 75 #[.int .i32 r] w fun e w' => e = .returned (.bool (markD r)) ∧ Below w.heap.size w w' := lecternref05_Mark.calls 100 r _ w (refMark_f r)

set_option maxRecDepth 100000 in
set_option maxHeartbeats 4000000 in
theorem one15 (s : ByteArray) (hs : s.size ≤ 1099511627776) (w : World) :
    Calls Tryd.prog 60 #[.int .i64 15, .string s] w fun e w' => (∃ v, e = .returned v ∧ SRow w' w.heap.size v (if marksB s.data.toList (runes s.data.toList).length = [] then [] else [strOf (marksB s.data.toList (runes s.data.toList).length)])) ∧ Below w.heap.size w w' := by
  have hrc := refRunes_c s hs
  have hrl := runes_length s.data.toList
  rw [size_data] at hrl
  have HMO := Aside0.mk (fun i j => placesD_le s.data.toList i j)
  have hbn := fun i => placesD_bounds s.data.toList i
  simp only [size_data] at hbn
  have HBN := Aside0.mk hbn
  clear hbn
  have HPZ := Aside0.mk (show (placesZ (runes s.data.toList)).length ≤ s.size ∧ (runesZ (runes s.data.toList)).length ≤ s.size by rw [placesZ_len, runesZ_len]; omega)
  have hrz := show (runesZ (runes s.data.toList)).length + 1 = (placesD s.data.toList).length by rw [runesZ_len, placesD_len]
  have HPA := Aside0.mk (pz_places s)
  clear hrl
  have HPLT := Aside0.mk (fun i j => placesD_lt s.data.toList i j)
  have HML := Aside0.mk (marksB_len s.data.toList)
  have HPT := Aside0.mk (fun k => show markPiece s.data.toList k = if markD (((runes s.data.toList).getD k (0, 0)).2 : Int) = true then [] else (s.data.toList.drop ((placesD s.data.toList).getD k 0).toNat).take (((placesD s.data.toList).getD (k + 1) 0).toNat - ((placesD s.data.toList).getD k 0).toNat) from rfl)
  have HRZ := Aside0.mk (fun k (hk : k < (runes s.data.toList).length) => show rd (runesZ (runes s.data.toList)) (k : Int) = (((runes s.data.toList).getD k (0, 0)).2 : Int) by unfold rd runesZ; simp [List.getD_eq_getElem?_getD, hk])
  have HRN := Aside0.mk (runesZ_len (runes s.data.toList))
  generalize placesZ (runes s.data.toList) = pz at hrc HPZ HPA
  generalize runesZ (runes s.data.toList) = rz at hrc HPZ hrz HRZ HRN
  generalize placesD s.data.toList = p at hrz HPA HMO HBN HPLT HML HPT ⊢
  have hrs := HPZ.out.2
  have HLR := Aside0.mk hrz
  have hpp : 0 < p.length := by omega
  have hrn : (runes s.data.toList).length = rz.length := HRN.out.symm
  rw [hrn]
  rw [hrn] at HRZ HML
  clear hrz hrn
  obtain ⟨RES, hRES⟩ : ∃ R : List ByteArray, R = if marksB s.data.toList rz.length = [] then [] else [strOf (marksB s.data.toList rz.length)] := ⟨_, rfl⟩
  rw [← hRES]
  have HRES := Aside0.mk hRES
  clear hRES
  go_enter Tryd.func60, Tryd.ntmps60
  go_wp2_with (first
    | (go_at_call 19; refine (hrc _).mono ?_; clear hrc; rintro e w1 ⟨v0, v1, rfl, hr0, hr1, hb⟩; obtain ⟨A0, c0, rfl⟩ := Kd.R_slice hr0; obtain ⟨A1, c1, rfl⟩ := Kd.R_slice hr1; have HR0 := Aside0.mk hr0; have HR1 := Aside0.mk hr1; have HB1 := Aside0.mk hb; clear hr0 hr1 hb)
    | ((with_reducible refine gate_builtin (b := .append) (xs := #[.tmp 18, .tmp 21]) rfl ?_); at_builtin; refine Kd.R_append (Kd.int .i64) (w0 := w) w.heap.size rfl (.tmp 18) (.tmp 21) 25 3 (.int .i64 0) 8 rfl Tryd.underlying25 infoI rfl (by decide) (by omega) (.slice A0 pz.length c0) pz ((s.size : Nat) : Int) [.int .i64 s.size] (fun _ => True) (fun _ => False) (by rfl) (by rfl) rfl (fun _ h => h.elim) (fun _ _ => trivial) HR0.out HB1.out HB1.out.size (by have := HPZ.out.1; omega) ?_; intro v2 w2 ho2 hb2 hg2 hat2; have HB2 := Aside0.mk hb2; have HRL := Aside0.mk (row_apart HR1.out rfl HR0.out (by decide) hg2); rw [HPA.out] at ho2; obtain ⟨g, c, pc, rfl, hpc, hpv⟩ := row_cells ho2 (by omega); have HPC := Aside0.mk hpc; have HPV := Aside0.mk hpv; clear ho2 hb2 hg2 hat2 hpc hpv))
  go_loopw [11, 12] (fun v vi wr => ∃ i : Nat, i ≤ rz.length ∧ vi = .int .i64 i ∧ Hid (wr.ownsRow w2.heap.size 5 1 v (marksB s.data.toList i).length (Lib.byteCells (marksB s.data.toList i))) ∧ Hid (wr.heap[g]? = some (.cells pc 3 (0, 0))) ∧ Hid (Kd.R (Kd.int .i32) 21 wr w.heap.size (fun _ => True) (.slice A1 rz.length c1) rz) ∧ Hid (Below w2.heap.size w2 wr))
    (fun _ vi _ => rz.length - (intOf vi).toNat)
  case atStart => exact ⟨0, Nat.zero_le _, rfl, Lib.hid (World.ownsRow_nil _ _ _ _), Lib.hid HPC.out, Lib.hid HRL.out, Lib.hid (Below.refl _ _)⟩
  case round =>
    obtain ⟨i, hi, rfl, hRi, hPi, hLi, hBi⟩ := hrel
    by_cases hil : i < rz.length
    · have hpl := HLR.out
      have e1 := HPV.out i (by omega)
      have e2 := HPV.out (i + 1) (by omega)
      have z12 := HPLT.out i (i + 1) (by omega) (by omega)
      have z0 := (HBN.out i).1
      have z3 := (HBN.out (i + 1)).2
      have hml := HML.out i (by omega)
      have HS := Aside0.mk (marksB_succ s.data.toList i)
      rw [HPT.out i, ← HRZ.out i hil] at HS
      have j0 : (i : Int) < (rz.length : Int) := by omega
      obtain ⟨ad, hA1, cr⟩ := Kd.at_int (Kd.R_reads' hLi.out).2.2 (i : Int) (by omega) j0
      subst hA1
      rw [Int.toNat_natCast] at cr
      have hmc := refMark_c (rd rz (i : Int))
      have HZ1 := Aside0.mk e1
      have HZ2 := Aside0.mk e2
      have HSZ := Aside0.mk (show (marksB s.data.toList i).length + s.size ≤ 140737488355328 by have := (HBN.out i).2; omega)
      clear e1 e2
      generalize p.getD i 0 = z1 at z12 z0 HZ1 HS
      generalize p.getD (i + 1) 0 = z2 at z12 z3 HZ2 HS
      generalize rd rz (i : Int) = r at cr hmc HS
      have j1 : (i : Int) < (p.length : Int) := by omega
      have j2 : (i : Int) + 1 < (p.length : Int) := by omega
      have j3 : (0 : Int) ≤ (i : Int) := by omega
      have j4 : (0 : Int) ≤ (i : Int) + 1 := by omega
      have j5 : 0 ≤ z2 := by omega
      have j6 : ((i : Int) + 1).toNat = i + 1 := by omega
      have j8 : z1 ≤ z2 := by omega
      have w_1 : IntKind.i64.wrap ((i : Int) + 1) = (i : Int) + 1 := wrap_small _ (by omega) (by omega)
      clear z12 hml
      cases hm : markD r with
      | true =>
        rw [hm] at hmc HS
        rw [if_pos rfl, List.append_nil] at HS
        clear hm
        go_wp2_with (go_at_call 75; refine (hmc _).mono ?_; clear hmc; rintro e w4 ⟨rfl, hb4⟩; have HB4 := Aside0.mk hb4; clear hb4)
        go_roundw
        case rel => exact ⟨i + 1, by omega, by go_num, Lib.hid (by rw [HS.out]; exact own_grown_none hRi.out HB4.out), Lib.hid (blk_below hPi.out HB4.out), Lib.hid (Kd.R_below hLi.out HB4.out), Lib.hid (hBi.out.trans (HB4.out.mono hBi.out.size))⟩
        case measure => simp [intOf]; omega
      | false =>
        rw [hm] at hmc HS
        rw [if_neg (by decide)] at HS
        clear hm
        go_wp2_with (go_at_call 75; refine (hmc _).mono ?_; clear hmc; rintro e w4 ⟨rfl, hb4⟩; have HB4 := Aside0.mk hb4; clear hb4)
        have HRd := Aside0.mk (own_grown_none hRi.out (below_drew1 HB4.out))
        have HPd := Aside0.mk (show w4.drew.heap[g]? = some (.cells pc 3 (0, 0)) from (show w4.heap[g]? = some (.cells pc 3 (0, 0)) from blk_below hPi.out HB4.out))
        have HLd := Aside0.mk (Kd.R_drew (Kd.R_below hLi.out HB4.out))
        have HBd := Aside0.mk (below_drew1 (hBi.out.trans (HB4.out.mono hBi.out.size)))
        have kz1 := (blk_cell HPd.out i).trans HZ1.out
        have kz2 := (blk_cell HPd.out (i + 1)).trans HZ2.out
        have hex : (s.extract z1.toNat z2.toNat).data.toList = (s.data.toList.drop z1.toNat).take (z2.toNat - z1.toNat) := extract_data _ _ _ (by omega)
        have hesz : (s.extract z1.toNat z2.toNat).size ≤ s.size := extract_size_le _ _ _
        have HEX := Aside0.mk (And.intro hex hesz)
        generalize hL : (marksB s.data.toList i).length = L at HRd HSZ
        have HLL := Aside0.mk hL
        replace HSZ := Aside0.mk (show L + (s.extract z1.toNat z2.toNat).size ≤ 140737488355328 by have := HSZ.out; omega)
        clear hex hesz hL hRi hPi hLi hBi HB4 cr j0
        refine wp_normal ?_
        refine start_ (n := 14) (S := fun w' => w'.cell? ⟨g, i, none⟩ = some (.int .i64 z1) ∧ w'.cell? ⟨g, i + 1, none⟩ = some (.int .i64 z2)) (ds := []) #[false, false, false, false, false, false, false, false, false, false, false, false, false, false] (by kernel_rfl) rfl rfl ⟨kz1, kz2⟩ (fun hHeld => ?_)
        generalize w4.drew = wd at hHeld HRd HPd HLd HBd kz1 kz2 ⊢
        refine pure_ (i := 0) (N := some 94) (v := ?_) (a' := ?_) #[true, false, false, false, false, false, false, false, false, false, false, false, false, false] rfl rfl (by kernel_rfl) (fun _ _ _ h => h) (Or.inl ⟨by rfl, ?_⟩) ?_ ?_
        rotate_left
        · intro w'
          go_simp
          with_reducible rfl
        rotate_left
        · simp only [Act.put, List.setIfInBounds_toArray, List.set_cons_zero, List.set_cons_succ, i64_w, i32_w]
          rfl
        refine pure_ (i := 1) (N := some 95) (v := ?_) (a' := ?_) #[true, true, false, false, false, false, false, false, false, false, false, false, false, false] rfl rfl (by kernel_rfl) (fun _ _ _ h => h) (Or.inl ⟨by rfl, ?_⟩) ?_ ?_
        rotate_left
        · intro w'
          go_simp
          with_reducible rfl
        rotate_left
        · simp only [Act.put, List.setIfInBounds_toArray, List.set_cons_zero, List.set_cons_succ, i64_w, i32_w]
          rfl
        refine pure_ (i := 2) (N := some 96) (v := ?_) (a' := ?_) #[true, true, true, false, false, false, false, false, false, false, false, false, false, false] rfl rfl (by kernel_rfl) (fun _ _ _ h => h) (Or.inl ⟨by rfl, ?_⟩) ?_ ?_
        rotate_left
        · intro w'
          go_simp
          with_reducible rfl
        rotate_left
        · simp only [Act.put, List.setIfInBounds_toArray, List.set_cons_zero, List.set_cons_succ, i64_w, i32_w]
          rfl
        refine pure_ (i := 3) (N := some 97) (v := ?_) (a' := ?_) #[true, true, true, true, false, false, false, false, false, false, false, false, false, false] rfl rfl (by kernel_rfl) (fun _ _ _ h => h) (Or.inl ⟨by rfl, ?_⟩) ?_ ?_
        rotate_left
        · intro w'
          go_simp
          with_reducible rfl
        rotate_left
        · simp only [Act.put, List.setIfInBounds_toArray, List.set_cons_zero, List.set_cons_succ, i64_w, i32_w]
          rfl
        refine pure_ (i := 4) (N := some 98) (v := ?_) (a' := ?_) #[true, true, true, true, true, false, false, false, false, false, false, false, false, false] rfl rfl (by kernel_rfl) (fun _ _ _ h => h) (Or.inl ⟨by rfl, ?_⟩) ?_ ?_
        rotate_left
        · intro w'
          go_simp
          with_reducible rfl
        rotate_left
        · simp only [Act.put, List.setIfInBounds_toArray, List.set_cons_zero, List.set_cons_succ, i64_w, i32_w]
          rfl
        refine pure_ (i := 6) (N := some 100) (v := ?_) (a' := ?_) #[true, true, true, true, true, false, true, false, false, false, false, false, false, false] rfl rfl (by kernel_rfl) (fun _ _ _ h => h) (Or.inl ⟨by rfl, ?_⟩) ?_ ?_
        rotate_left
        · intro w'
          go_simp
          with_reducible rfl
        rotate_left
        · simp only [Act.put, List.setIfInBounds_toArray, List.set_cons_zero, List.set_cons_succ, i64_w, i32_w]
          rfl
        refine pure_ (i := 7) (N := some 101) (v := ?_) (a' := ?_) #[true, true, true, true, true, false, true, true, false, false, false, false, false, false] rfl rfl (by kernel_rfl) (fun _ _ _ h => h) (Or.inl ⟨by rfl, ?_⟩) ?_ ?_
        rotate_left
        · intro w'
          go_simp
          with_reducible rfl
        rotate_left
        · simp only [Act.put, List.setIfInBounds_toArray, List.set_cons_zero, List.set_cons_succ, i64_w, i32_w]
          rfl
        refine pure_ (i := 8) (N := some 102) (v := ?_) (a' := ?_) #[true, true, true, true, true, false, true, true, true, false, false, false, false, false] rfl rfl (by kernel_rfl) (fun _ _ _ h => h) (Or.inl ⟨by rfl, ?_⟩) ?_ ?_
        rotate_left
        · intro w'
          go_simp
          with_reducible rfl
        rotate_left
        · simp only [Act.put, List.setIfInBounds_toArray, List.set_cons_zero, List.set_cons_succ, i64_w, i32_w]
          rfl
        refine pure_ (i := 9) (N := some 103) (v := ?_) (a' := ?_) #[true, true, true, true, true, false, true, true, true, true, false, false, false, false] rfl rfl (by kernel_rfl) (fun _ _ _ h => h) (Or.inl ⟨by rfl, ?_⟩) ?_ ?_
        rotate_left
        · intro w'
          go_simp
          with_reducible rfl
        rotate_left
        · simp only [Act.put, List.setIfInBounds_toArray, List.set_cons_zero, List.set_cons_succ, i64_w, i32_w]
          rfl
        refine take_ (i := 5) (N := some 99) (v := ?_) (a' := ?_) #[true, true, true, true, true, true, true, true, true, true, false, false, false, false] rfl rfl (by kernel_rfl) (fun _ _ _ h => h) (Or.inl ⟨by rfl, ?_⟩) hHeld ?_ ?_
        rotate_left
        · rintro w' ⟨s0, s1⟩
          go_simp
          with_reducible rfl
        rotate_left
        · simp only [Act.put, List.setIfInBounds_toArray, List.set_cons_zero, List.set_cons_succ, i64_w, i32_w]
          rfl
        refine take_ (i := 10) (N := some 104) (v := ?_) (a' := ?_) #[true, true, true, true, true, true, true, true, true, true, true, false, false, false] rfl rfl (by kernel_rfl) (fun _ _ _ h => h) (Or.inl ⟨by rfl, ?_⟩) hHeld ?_ ?_
        rotate_left
        · rintro w' ⟨s0, s1⟩
          go_simp
          with_reducible rfl
        rotate_left
        · simp only [Act.put, List.setIfInBounds_toArray, List.set_cons_zero, List.set_cons_succ, i64_w, i32_w]
          rfl
        refine pure_ (i := 11) (N := some 105) (v := ?_) (a' := ?_) #[true, true, true, true, true, true, true, true, true, true, true, true, false, false] rfl rfl (by kernel_rfl) (fun _ _ _ h => h) (Or.inl ⟨by rfl, ?_⟩) ?_ ?_
        rotate_left
        · intro w'
          go_simp
          with_reducible rfl
        rotate_left
        · simp only [Act.put, List.setIfInBounds_toArray, List.set_cons_zero, List.set_cons_succ, i64_w, i32_w]
          rfl
        refine one_ (i := 12) (N := some 106) #[true, true, true, true, true, true, true, true, true, true, true, true, true, false] rfl rfl (by kernel_rfl) (by decide) (fun K hK => ?_)
        refine step_append_str (w0 := w2) w2.heap.size rfl (.tmp 94) (.tmp 105) 61 9 5 rfl Tryd.underlying61 Tryd.underlying9 infoB u11 L (Lib.byteCells (marksB s.data.toList i)) (s.extract z1.toNat z2.toNat) (by rfl) (by rfl) HRd.out HBd.out HBd.out.size (by have := HSZ.out; omega) ?_
        intro v1 w3 ho1 hb1 hg1
        have mp := (hg1.block g (blk_lt HPd.out) (own_ne HRd.out HPd.out (by decide))).trans HPd.out
        have HL3 := Aside0.mk (row_apart_own HLd.out rfl HRd.out (by decide) hg1)
        have HO1 := Aside0.mk ho1
        have HB3 := Aside0.mk hb1
        have HP3 := Aside0.mk mp
        clear ho1 hb1 hg1
        refine hK.out _ _ ⟨(blk_cell HP3.out i).trans HZ1.out, (blk_cell HP3.out (i + 1)).trans HZ2.out⟩ (fun hHeld => ?_)
        clear hK K
        refine norm_ (a' := ?_) ?_ ?_
        rotate_left
        · show Act.put _ (some 106) _ = _
          simp only [Act.put, List.setIfInBounds_toArray, List.set_cons_zero, List.set_cons_succ, i64_w, i32_w]
          rfl
        refine pure_ (i := 13) (N := some 11) (v := ?_) (a' := ?_) #[true, true, true, true, true, true, true, true, true, true, true, true, true, true] rfl rfl (by kernel_rfl) (fun _ _ _ h => h) (Or.inl ⟨by rfl, ?_⟩) ?_ ?_
        rotate_left
        · intro w'
          go_simp
          with_reducible rfl
        rotate_left
        · simp only [Act.put, List.setIfInBounds_toArray, List.set_cons_zero, List.set_cons_succ, i64_w, i32_w]
          rfl
        refine done_ (by kernel_rfl) ?_
        go_wp2
        go_roundw
        case rel => exact ⟨i + 1, by omega, by go_num, Lib.hid (by rw [HS.out, ← HEX.out.1, List.length_append, HLL.out, size_data, Lib.byteCells_append, ← Lib.strCells_eq]; exact HO1.out), Lib.hid HP3.out, Lib.hid HL3.out, Lib.hid HB3.out⟩
        case measure => simp [intOf]; omega
    · obtain rfl : i = rz.length := by omega
      have hlt' : ¬ ((rz.length : Nat) : Int) < (rz.length : Int) := by omega
      obtain ⟨Ai, ci, rfl⟩ := own_slice hRi.out
      have hr := hRi.out
      rw [← nums_bytes] at hr
      have hcv := own_string (P := Tryd.prog) Tryd.underlying61 Tryd.underlying5 Tryd.underlying9 hr
      rw [strOf_nums] at hcv
      have hbb := below_step HB2.out hBi.out
      clear hr hRi
      cases hm : marksB s.data.toList rz.length with
      | nil =>
        have HQ := Aside0.mk (show RES = [] by rw [HRES.out, if_pos hm])
        rw [hm] at hcv
        clear hm
        go_wp2
        go_ret
        exact ⟨⟨.slice none 0 0, rfl, by rw [HQ.out]; exact Kd.R_nil _ _ _ _ _⟩, hbb⟩
      | cons b bs =>
        have HQ := Aside0.mk (show RES = [strOf (b :: bs)] by rw [HRES.out, if_neg (by rw [hm]; simp), hm])
        rw [hm] at hcv
        have hl0 : ((b :: bs).length : Int) = (bs.length : Int) + 1 := by simp
        have hl1 : (((b :: bs).length : Int) == 0) = false := beq_eq_false_iff_ne.2 (by omega)
        clear hm hl0
        generalize strOf (b :: bs) = out at hcv HQ
        generalize (b :: bs).length = nb at hcv hl1 ⊢
        go_wp2
        go_ret
        exact ⟨⟨_, rfl, by rw [HQ.out]; exact Kd.R_lower (str_one _ out) hbb.size⟩, hbb.alloc hbb.size _⟩
end Go.Proofs.YtgbphkckiekehaaDoor.Ana

set_option linter.unusedVariables false
set_option linter.unusedSimpArgs false
namespace Go.Proofs.YtgbphkckiekehaaDoor.Ana
open Go.RowKit Go.Shelf Go.Proofs.YtgbphkckiekehaaDoor.QRef Go.Proofs.YtgbphkckiekehaaDoorW.PrintWords Go.Proofs.YtgbphkckiekehaaDoorW.PrintLast Go.Proofs.FoldPlain Go.Proofs.FoldText Go.Proofs.YtgbphkckiekehaaDoor.FoldRef Go.Proofs.YtgbphkckiekehaaDoor.FoldW Go.Proofs.YtgbphkckiekehaaDoor.FoldF Go.Proofs.YtgbphkckiekehaaDoor.FoldP

def mkT (t : S58) (u : ByteArray) : S58 := { t with f0 := u }
theorem keeps_map {f : S58 → List S58} (hf : KeepsP f) (t : S58) : ((f t).map (·.f0)).map (mkT t) = f t := by
  rw [List.map_map]
  conv => rhs; rw [← List.map_id (f t)]
  refine List.map_congr_left (fun u hu => ?_)
  obtain ⟨h1, h2, h3, _⟩ := hf t u hu
  show ({ t with f0 := u.f0 } : S58) = u
  cases u
  cases t
  simp_all
theorem ret_tt {v : Value} {a b : Int} (h : a = b) : Ending.returned (.tuple #[v, .int .i64 a]) = .returned (.tuple #[v, .int .i64 b]) := by rw [h]
theorem one_c (n : Int) (f : S58 → List S58) (hf : filtF n = some f) (t : S58) (hs : t.f0.size ≤ 1099511627776) (w : World) :
    Calls Tryd.prog 60 #[.int .i64 n, .string t.f0] w fun e w' => (∃ v, e = .returned v ∧ SRow w' w.heap.size v ((f t).map (·.f0))) ∧ Below w.heap.size w w' := by
  unfold filtF at hf
  by_cases h0 : n = 10
  · rw [if_pos h0] at hf; injection hf with hf; subst hf; subst h0
    exact one10 t.f0 hs w
  by_cases h1 : n = 11
  · rw [if_neg h0, if_pos h1] at hf; injection hf with hf; subst hf; subst h1
    have e : (stopF t).map (·.f0) = if stopB t.f0 = true then [] else [t.f0] := by unfold stopF; split <;> rfl
    rw [e]; exact one11 t.f0 hs w
  by_cases h2 : n = 12
  · rw [if_neg h0, if_neg h1, if_pos h2] at hf; injection hf with hf; subst hf; subst h2
    have e : (gramsF 2 t).map (·.f0) = if (placesD t.f0.data.toList).length ≤ 2 + 1 then [t.f0] else gramS t.f0 (placesD t.f0.data.toList) 2 ((placesD t.f0.data.toList).length - 2) := by
      unfold gramsF pl gramS; split
      · rfl
      · rw [List.map_map]; rfl
    rw [e]; exact one12 t.f0 hs w
  by_cases h3 : n = 13
  · rw [if_neg h0, if_neg h1, if_neg h2, if_pos h3] at hf; injection hf with hf; subst hf; subst h3
    have e : (gramsF 3 t).map (·.f0) = if (placesD t.f0.data.toList).length ≤ 3 + 1 then [t.f0] else gramS t.f0 (placesD t.f0.data.toList) 3 ((placesD t.f0.data.toList).length - 3) := by
      unfold gramsF pl gramS; split
      · rfl
      · rw [List.map_map]; rfl
    rw [e]; exact one13 t.f0 hs w
  by_cases h4 : n = 14
  · rw [if_neg h0, if_neg h1, if_neg h2, if_neg h3, if_pos h4] at hf; injection hf with hf; subst hf; subst h4
    have e : (shortF t).map (·.f0) = if 17 < (placesD t.f0.data.toList).length then [t.f0.extract 0 ((placesD t.f0.data.toList).getD 16 0).toNat] else [t.f0] := by
      unfold shortF pl; split <;> rfl
    rw [e]; exact one14 t.f0 hs w
  by_cases h5 : n = 15
  · rw [if_neg h0, if_neg h1, if_neg h2, if_neg h3, if_neg h4, if_pos h5] at hf; injection hf with hf; subst hf; subst h5
    have e : (marksF t).map (·.f0) = if marksB t.f0.data.toList (runes t.f0.data.toList).length = [] then [] else [strOf (marksB t.f0.data.toList (runes t.f0.data.toList).length)] := by
      unfold marksF; split <;> rfl
    rw [e]; exact one15 t.f0 hs w
  rw [if_neg h0, if_neg h1, if_neg h2, if_neg h3, if_neg h4, if_neg h5] at hf
  cases hf
theorem filt_len {n : Int} {f : S58 → List S58} (hf : filtF n = some f) (t : S58) (hs : t.f0.size ≤ 1099511627776) : (f t).length ≤ 1099511627777 := by
  unfold filtF at hf
  repeat' split at hf
  all_goals first
    | (injection hf with hf; subst hf; first
        | (have := lowerF_len t; omega) | (have := stopF_len t; omega) | (have := gramsF_len 2 t hs; omega) | (have := gramsF_len 3 t hs; omega) | (have := shortF_len t; omega) | (have := marksF_len t; omega))
    | cases hf
theorem refFilter_c (n : Int) (b : Bool) (hb : (filtF n).isSome = b) (w : World) : Calls Tryd.prog 59 #[.int .i64 n] w fun e w' => e = .returned (.bool b) ∧ Below w.heap.size w w' :=
  (lecternref06_Filter.calls n b w (by rw [filter_f, hb])).mono fun _ _ h => ⟨h.1, by first | exact h.2 | exact drawn_below h.2⟩

set_option maxRecDepth 100000 in
set_option maxHeartbeats 4000000 in
theorem refLink_c (number : Int) (w : World) (ts : List S58) (A : Option Addr) (cap : Nat) (hR : Kd.C k58 w A ts.length ts) (hsz : ∀ t ∈ ts, t.f0.size ≤ 1099511627776) :
    Calls Tryd.prog 31 #[.int .i64 number, .slice A ts.length cap] w fun e w' => (∃ v, e = .returned (.tuple #[v, .int .i64 (linkD number ts).2]) ∧ TRow w' w.heap.size v (linkD number ts).1) ∧ Below w.heap.size w w' := by
  have hu58 := Tryd.underlying58
  cases hf : filtF number with
  | none =>
    have hfc := refFilter_c number false (by rw [hf]; rfl)
    have e : linkD number ts = ([], 60) := by unfold linkD; rw [hf]
    rw [e]
    clear e hf hR hsz
    go_enter Tryd.func31, Tryd.ntmps31
    go_wp2_with (go_at_call 59; refine (hfc _).mono ?_; clear hfc; rintro e w1 ⟨rfl, hb1⟩)
    go_ret2
    exact ⟨⟨_, rfl, Kd.R_nil _ _ _ _ _⟩, hb1⟩
  | some f =>
    have hfc := refFilter_c number true (by rw [hf]; rfl)
    have hone := fun t hs W => one_c number f hf t hs W
    have hkm := keeps_map (filtF_keeps hf)
    have hfl := fun t hs => filt_len hf t hs
    have e : linkD number ts = linkR f ts := by unfold linkD; rw [hf]; rfl
    rw [e]
    obtain ⟨RES, hRES⟩ : ∃ R, R = linkR f ts := ⟨_, rfl⟩
    rw [← hRES]
    have HRES := Aside0.mk hRES
    have hlen : (ts.length : Int) ≤ 9223372036854775807 := by have := hR.2.1; omega
    have HRR := Aside0.mk hR
    have HONE := Aside0.mk hone
    have HKM := Aside0.mk hkm
    have HFL := Aside0.mk hfl
    have HSZ := Aside0.mk hsz
    clear e hf hRES hR hone hkm hfl hsz
    go_enter Tryd.func31, Tryd.ntmps31
    go_wp2_with (go_at_call 59; refine (hfc _).mono ?_; clear hfc; rintro e w1 ⟨rfl, hb1⟩; have HB1 := Aside0.mk hb1; clear hb1)
    go_loopw [6, 7] (fun v vi wr => ∃ (k : Nat) (out : List S58), k ≤ ts.length ∧ vi = .int .i64 k ∧ Hid (linkGo f ts [] = linkGo f (ts.drop k) out ∧ out.length ≤ 4096) ∧ Hid (TRow wr w1.heap.size v out) ∧ Hid (Below w1.heap.size w1 wr))
      (fun _ vi _ => ts.length - (intOf vi).toNat)
    case atStart => exact ⟨0, [], Nat.zero_le _, rfl, Lib.hid ⟨rfl, by simp⟩, Lib.hid (Kd.R_nil _ _ _ _ _), Lib.hid (Below.refl _ _)⟩
    case round =>
      obtain ⟨k, out, hk, rfl, hgo, hrow, hbw⟩ := hrel
      by_cases hlt : k < ts.length
      · have hbr := below_step HB1.out hbw.out
        have HCW := Aside0.mk (Kd.C_below HRR.out hbr)
        have hlt' : (k : Int) < (ts.length : Int) := by omega
        obtain ⟨ad, rfl, c0, c1, c2, c3⟩ := at_T58 HCW.out (k : Int) (by omega) hlt'
        simp only [Int.toNat_natCast] at c0 c1 c2 c3
        have hrd : rd_T58 ts (k : Int) = ts.getD k z58 := rfl
        have htm : rd_T58 ts (k : Int) ∈ ts := by rw [rdT_get ts k hlt]; exact List.getElem_mem hlt
        have hts := HSZ.out _ htm
        have htl := HFL.out _ hts
        have HGO := Aside0.mk (linkGo_drop f ts k hlt out)
        have hon := HONE.out _ hts
        have HKT := Aside0.mk (HKM.out (rd_T58 ts (k : Int)))
        rw [← hrd] at HGO
        have HTD := Aside0.mk (show ∀ W, Below w.heap.size w W → ∃ ad', some ad = some ad' ∧ W.cell? (ad'.add (k * 4)) = some (.string (rd_T58 ts (k : Int)).f0) ∧ W.cell? ⟨(ad'.add (k * 4)).block, (ad'.add (k * 4)).off + 1, none⟩ = some (.int .i64 (rd_T58 ts (k : Int)).f1) ∧ W.cell? ⟨(ad'.add (k * 4)).block, (ad'.add (k * 4)).off + 2, none⟩ = some (.int .i64 (rd_T58 ts (k : Int)).f2) ∧ W.cell? ⟨(ad'.add (k * 4)).block, (ad'.add (k * 4)).off + 3, none⟩ = some (.int .i64 (rd_T58 ts (k : Int)).f3) from fun W hW => at_T58 (Kd.C_below HRR.out hW) (k : Int) (by omega) hlt')
        clear htm hrd
        generalize rd_T58 ts (k : Int) = t at c0 c1 c2 c3 hts htl HGO hon HKT HTD
        have hus : ((f t).map (·.f0)).length = (f t).length := by simp
        generalize (f t).map (·.f0) = us at hon HKT hus
        have HUS := Aside0.mk hus
        have hul : us.length ≤ 1099511627777 := by omega
        clear hus
        go_wp2_with (go_at_call 60; refine (hon _).mono ?_; clear hon; rintro e w2 ⟨⟨v2, rfl, hr⟩, hb2⟩; obtain ⟨A2, c2', rfl⟩ := Kd.R_slice hr; have HU2 := Aside0.mk hr; have HB2 := Aside0.mk hb2; clear hr hb2 c0 c1 c2 c3)
        obtain ⟨Ao, co, rfl⟩ := Kd.R_slice hrow.out
        have HO2 := Aside0.mk (Kd.R_below hrow.out HB2.out)
        have HBW := Aside0.mk (hbw.out.trans (HB2.out.mono hbw.out.size))
        have HOL := Aside0.mk hgo.out.2
        have hol := hgo.out.2
        have HLG := Aside0.mk hgo.out.1
        clear hrow hbw hbr hgo
        obtain ⟨wo, rfl⟩ : ∃ wo : World, wo = wr := ⟨_, rfl⟩
        go_loopw [6, 9] (fun v vi wr => ∃ i : Nat, i ≤ us.length ∧ vi = .int .i64 i ∧ Hid (TRow wr w1.heap.size v (out ++ (us.take i).map (mkT t))) ∧ Hid (Kd.R Kd.string 9 wr wo.heap.size (fun _ => True) (.slice A2 us.length c2') us) ∧ Hid (Below w1.heap.size w1 wr))
          (fun _ vi _ => us.length - (intOf vi).toNat)
        case atStart => exact ⟨0, Nat.zero_le _, rfl, Lib.hid (by simpa using HO2.out), Lib.hid HU2.out, Lib.hid HBW.out⟩
        case round =>
          obtain ⟨i, hi, rfl, hRi, hUi, hBi⟩ := hrel
          obtain ⟨Ai, ci, rfl⟩ := Kd.R_slice hRi.out
          have HLN := Aside0.mk (show (out ++ (us.take i).map (mkT t)).length = out.length + i by rw [List.length_append, List.length_map, List.length_take]; omega)
          by_cases hil : i < us.length
          · have hil' : (i : Int) < (us.length : Int) := by omega
            obtain ⟨ad', had, c0, c1, c2, c3⟩ := HTD.out wr (below_step HB1.out hBi.out)
            injection had with had
            subst had
            obtain ⟨au, rfl, cu⟩ := Kd.at_string (Kd.R_reads' hUi.out).2.2 (i : Int) (by omega) hil'
            rw [Int.toNat_natCast] at cu
            have HTK := Aside0.mk (show out ++ (us.take (i + 1)).map (mkT t) = (out ++ (us.take i).map (mkT t)) ++ [mkT t (rdOf ByteArray.empty us (i : Int))] by
              rw [List.take_succ_eq_append_getElem hil, List.map_append, ← List.append_assoc, rdOf_get us i hil]; rfl)
            generalize rdOf ByteArray.empty us (i : Int) = x at cu HTK
            have cu' : (wr.alloc (.cells #[.string t.f0, .int .i64 t.f1, .int .i64 t.f2, .int .i64 t.f3] 58)).cell? (au.add i) = some (.string x) := pw_cell_below (below_alloc (Below.refl _ _) _) cu
            have hRi' := hRi.out
            rw [HLN.out] at hRi' ⊢
            have HRi := Aside0.mk hRi'
            clear hRi' hRi
            go_wp2_with (((with_reducible refine gate_builtin (b := .append) (xs := #[.tmp 42, .tmp 44]) rfl ?_); at_builtin; refine Kd.R_append k58 (w0 := w1) w1.heap.size rfl (.tmp 42) (.tmp 44) 42 58 (.agg #[(.string ⟨#[]⟩), (.int .i64 0), (.int .i64 0), (.int .i64 0)]) 40 rfl Tryd.underlying42 info58' rfl (by decide) (by omega) (.slice Ai (out.length + i) ci) (out ++ (us.take i).map (mkT t)) (mkT t x) (cellsT1 (mkT t x)) (fun _ => True) (fun _ => False) (by rfl) (by rw [World.size_alloc]; rfl) (k58_mkM _ _ _ _) (fun _ h => h.elim) (fun _ _ => trivial) (Kd.R_alloc HRi.out _) (hBi.out.alloc hBi.out.size _) (by have := hBi.out.size; simp; omega) (by rw [HLN.out]; omega) ?_; intro v6 w6 ho6 hb6 hg6 hat6; have HO6 := Aside0.mk ho6; have HB6 := Aside0.mk hb6; have HU6 := Aside0.mk (row_apart (Kd.R_alloc hUi.out _) rfl (Kd.R_alloc HRi.out _) (by decide) hg6); clear ho6 hb6 hg6 hat6))
            go_roundw
            case rel => exact ⟨i + 1, by omega, by go_num, Lib.hid (by rw [HTK.out]; exact HO6.out), Lib.hid HU6.out, Lib.hid HB6.out⟩
            case measure => simp [intOf]; omega
          · obtain rfl : i = us.length := by omega
            have hlt2 : ¬ ((us.length : Nat) : Int) < (us.length : Int) := by omega
            have HAL := Aside0.mk (show out ++ (us.take us.length).map (mkT t) = out ++ f t by rw [List.take_length, HKT.out])
            have hRi' := hRi.out
            rw [HLN.out] at hRi' ⊢
            have HRi := Aside0.mk hRi'
            have hfl := HUS.out
            clear hRi' hRi
            by_cases hgt : 4096 < out.length + us.length
            · have hres : Aside0 (RES = ([], 84)) := Aside0.mk (by rw [HRES.out]; unfold linkR; rw [HLG.out, HGO.out, if_pos (by rw [List.length_append, ← hfl]; exact hgt)])
              have hgt' : (4096 : Int) < (out.length : Int) + (us.length : Int) := by omega
              go_wp2
              go_ret2
              refine ⟨⟨.slice none 0 0, ret_tt (by rw [hres.out]), by rw [hres.out]; exact Kd.R_nil _ _ _ _ _⟩, below_step HB1.out hBi.out⟩
            · have hgt' : ¬ (4096 : Int) < (out.length : Int) + (us.length : Int) := by omega
              have hgl : ¬ 4096 < (out ++ f t).length := by rw [List.length_append, ← hfl]; omega
              go_wp2
              go_roundw
              case rel => exact ⟨k + 1, out ++ f t, by omega, by go_num, Lib.hid ⟨by rw [HLG.out, HGO.out, if_neg hgl], by omega⟩, Lib.hid (by rw [← HAL.out]; exact HRi.out), Lib.hid hBi.out⟩
              case measure => simp [intOf]; omega
      · obtain rfl : k = ts.length := by omega
        have hres : Aside0 (RES = (out, 0)) := Aside0.mk (by rw [HRES.out]; unfold linkR; rw [hgo.out.1, List.drop_length]; rfl)
        have hrow' := hrow.out
        have hbb := hbw.out
        have hlt' : ¬ ((ts.length : Nat) : Int) < (ts.length : Int) := by omega
        clear hgo hrow hbw
        go_wp2
        go_ret2
        refine ⟨⟨u6, by rw [hres.out]; rfl, by rw [hres.out]; exact Kd.R_lower hrow' HB1.out.size⟩, below_step HB1.out hbb⟩
end Go.Proofs.YtgbphkckiekehaaDoor.Ana
