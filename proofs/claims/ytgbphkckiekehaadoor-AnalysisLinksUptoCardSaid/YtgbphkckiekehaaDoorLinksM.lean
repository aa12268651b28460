/- For every number, row of tokens, word and rune (up to the bulk that the form bears): Link makes of the tokens what the document's answer makes of them, or refuses as it does, and leaves them as they were; Stop and Blank answer as the document's do. Condition: the two tables of unicode/utf8 read as the program's text lays them (the card ties them). -/
import Derived.Test.YtgbphkckiekehaaDoorBL
import Derived.Test.YtgbphkckiekehaaDoorBE
import Derived.Test.YtgbphkckiekehaaDoorWSized
import Derived.Carry
import Derived.ChangeSlices
import Derived.Deep.Slices
import Derived.Lib.SmallJoins
import Derived.Test.YtgbphkckiekehaaDoorBS
import Derived.Test.YtgbphkckiekehaaDoorBD
set_option linter.unusedVariables false
set_option linter.unusedSimpArgs false
namespace Go.Proofs.YtgbphkckiekehaaDoor.Ana
open Go.RowKit Go.Shelf Go.Proofs.YtgbphkckiekehaaDoor.QRef Go.Proofs.YtgbphkckiekehaaDoor.FoldRef Go.Proofs.YtgbphkckiekehaaDoorW.PrintWords
open Go.ChangeShapes Go.WideShapes
theorem laidOut : laidOutB Tryd.prog = true := by kernel_rfl
/-- A token's datum. -/
def dT {H : Type} (t : S58) : DataW H := .agg [.lit (.string t.f0.data.toList), .lit (.int .i64 t.f1), .lit (.int .i64 t.f2), .lit (.int .i64 t.f3)]
theorem open_tok {H : Type} {enc : TypeId × Value → H} {W : World} {held : Bool} {n : Nat} {cs : List Value} {d : DataW H} {p : List MemPlace}
    (h : DataW.trod enc Tryd.prog W 0 (fun _ => true) held n 58 cs = some (d, p)) : ∃ t : S58, cs = [.string t.f0, .int .i64 t.f1, .int .i64 t.f2, .int .i64 t.f3] ∧ d = dT t := by
  obtain ⟨y0, y1, y2, y3, m, hx, hl, h0, h1, h2, h3⟩ := Go.Joins.trod_struct4 Tryd.underlying58 h
  rw [show Tryd.prog.cellsOf 58 = 4 by kernel_rfl] at hl
  match cs, hl with
  | [a0, a1, a2, a3], _ =>
    have k9 : Tryd.prog.cellsOf 9 = 1 := by kernel_rfl
    have k3 : Tryd.prog.cellsOf 3 = 1 := by kernel_rfl
    dsimp only at h0 h1 h2 h3
    rw [k9] at h0
    rw [k3] at h1 h2 h3
    obtain ⟨s, e0, x0, _⟩ := DataW.trod_string Tryd.underlying9 h0
    obtain ⟨n1, e1, x1, _⟩ := DataW.trod_int Tryd.underlying3 h1
    obtain ⟨n2, e2, x2, _⟩ := DataW.trod_int Tryd.underlying3 h2
    obtain ⟨n3, e3, x3, _⟩ := DataW.trod_int Tryd.underlying3 h3
    simp at e0 e1 e2 e3
    subst e0 e1 e2 e3 x0 x1 x2 x3
    simp only [Prod.mk.injEq] at hx
    exact ⟨⟨s, n1, n2, n3⟩, rfl, hx.1⟩
theorem open_tokens {H : Type} {enc : TypeId × Value → H} {W : World} {held : Bool} {a : Option Addr} {len cap : Nat} {d : DataW H} {ps : List MemPlace}
    (h : DataW.Trod enc Tryd.prog W 0 (fun _ => true) held 42 (.slice a len cap) d ps) :
    ∃ ts : List S58, ts.length = len ∧ len ≤ cap ∧ Kd.C k58 W a len ts ∧ (d = .nil ∧ ts = [] ∨ ∃ sp, d = .slice (ts.map dT) sp) := by
  obtain ⟨fuel, hf⟩ := h
  rcases Go.Deep.open_slice Tryd.underlying42 hf with ⟨hcs, hx⟩ | ⟨x, l, c, m, n, D, Pl, hcs, _, hl, hm, hmm, hx, hi⟩
  · simp [Value.cells] at hcs
    obtain ⟨rfl, rfl, rfl⟩ := hcs
    injection hx with hx _
    exact ⟨[], rfl, Nat.le_refl _, ⟨rfl, by omega, fun h => by omega⟩, .inl ⟨hx, rfl⟩⟩
  · simp [Value.cells] at hcs
    obtain ⟨rfl, rfl, rfl⟩ := hcs
    have hml : cap ≤ 9223372036854775807 := by unfold maxLen at hm; omega
    have hmc : m = cap := by simpa using hmm
    have k58' : Tryd.prog.cellsOf 58 = 4 := by kernel_rfl
    have key : ∀ i, i < len → ∃ t : S58, (∀ j u, [Value.string t.f0, .int .i64 t.f1, .int .i64 t.f2, .int .i64 t.f3][j]? = some u → W.cell? (x.add (i * 4 + j)) = some u) ∧ D i = dT t := by
      intro i hil
      obtain ⟨cs', hc, ht⟩ := hi i (by omega)
      rw [k58'] at hc
      obtain ⟨t, e, hd⟩ := open_tok ht
      obtain ⟨_, hcl, hat⟩ := World.cells?_some hc
      refine ⟨t, fun j u hj => ?_, hd⟩
      have hj4 : j < 4 := (List.getElem?_eq_some_iff.1 hj).1
      have := hat j hj4
      rw [Go.Deep.add_add, e, hj] at this
      exact this
    obtain ⟨ts, hts⟩ : ∃ ts : List S58, ts = (List.range len).map fun i => if h : i < len then Classical.choose (key i h) else z58 := ⟨_, rfl⟩
    have hl : ts.length = len := by rw [hts]; simp
    have hC : Kd.C k58 W (some x) len ts := by
      refine ⟨hl, by omega, fun _ => ⟨x, rfl, fun j p hj => ?_⟩⟩
      have hjl : j < len := by have := (List.getElem?_eq_some_iff.1 hj).1; omega
      obtain ⟨e1, e2⟩ := Classical.choose_spec (key j hjl)
      have hp : p = Classical.choose (key j hjl) := by
        rw [hts, List.getElem?_map, List.getElem?_range hjl] at hj
        simp only [Option.map_some, Option.some.injEq] at hj
        rw [← hj, dif_pos hjl]
      rw [← hp] at e1
      exact ⟨[.string p.f0, .int .i64 p.f1, .int .i64 p.f2, .int .i64 p.f3], rfl, k58_mk W p, e1⟩
    refine ⟨ts, hl, by omega, hC, .inr ⟨(List.range (m - len)).map fun j => D (len + j), ?_⟩⟩
    rw [hts]
    simp only [Prod.mk.injEq] at hx
    · rw [hx.1, List.map_map]
      congr 1
      refine List.map_congr_left (fun i hi => ?_)
      have hil : i < len := by simpa using hi
      show D i = dT (if h : i < len then _ else _)
      rw [dif_pos hil]
      exact (Classical.choose_spec (key i hil)).2
theorem bulk_tok {H : Type} (t : S58) : t.f0.size + 1 ≤ Rows.uptoBulk (dT (H := H) t) := by
  unfold dT
  simp only [Rows.uptoBulk, Rows.uptoBulkAll]
  rw [← size_data]; omega
theorem bulk_toks {H : Type} : ∀ (ts : List S58), ts.length ≤ Rows.uptoBulkAll (ts.map (dT (H := H))) ∧ ∀ t ∈ ts, t.f0.size ≤ Rows.uptoBulkAll (ts.map (dT (H := H)))
  | [] => ⟨Nat.zero_le _, fun t h => by cases h⟩
  | t :: ts => by
    obtain ⟨h1, h2⟩ := bulk_toks (H := H) ts
    have h3 := bulk_tok (H := H) t
    rw [List.map_cons, Rows.uptoBulkAll]
    refine ⟨by simp only [List.length_cons]; omega, fun u hu => ?_⟩
    rcases List.mem_cons.1 hu with rfl | hu
    · omega
    · have := h2 u hu; omega
theorem bulk_of {H : Type} {d : DataW H} {ts : List S58} (y : d = .nil ∧ ts = [] ∨ ∃ sp, d = .slice (ts.map dT) sp) : ts.length ≤ Rows.uptoBulk d ∧ ∀ t ∈ ts, t.f0.size ≤ Rows.uptoBulk d := by
  rcases y with ⟨_, rfl⟩ | ⟨sp, rfl⟩
  · exact ⟨Nat.zero_le _, fun t h => by cases h⟩
  · obtain ⟨h1, h2⟩ := bulk_toks (H := H) ts
    rw [Rows.uptoBulk]
    exact ⟨by omega, fun t h => by have := h2 t h; omega⟩
end Go.Proofs.YtgbphkckiekehaaDoor.Ana

set_option linter.unusedVariables false
set_option linter.unusedSimpArgs false
namespace Go.Proofs.YtgbphkckiekehaaDoor.linksLaw
open Go.RowKit Go.Shelf Go.Proofs.YtgbphkckiekehaaDoor.QRef Go.Proofs.YtgbphkckiekehaaDoorW.PrintWords Go.Proofs.YtgbphkckiekehaaDoorW.PrintLast Go.Proofs.FoldPlain Go.Proofs.FoldText Go.Proofs.YtgbphkckiekehaaDoor.FoldRef Go.Proofs.YtgbphkckiekehaaDoor.FoldW Go.Proofs.YtgbphkckiekehaaDoor.FoldF Go.Proofs.YtgbphkckiekehaaDoor.FoldP Go.Proofs.YtgbphkckiekehaaDoor.Ana

theorem blank_f' (r : Int) : analysis_Blank.f 10 r = some (blankB r) := by
  unfold analysis_Blank.f blankB analysis_Blank.j0 analysis_Blank.j1
  repeat' split
  all_goals simp_all
  all_goals omega
theorem same_k (l : List S58) (hl : l.length ≤ 1152921504606846976) (A0 A1 : Option Addr) (c0 c1 : Nat) (hc0 : l.length ≤ c0) (hc1 : l.length ≤ c1) (W : World) (h0 : Kd.C k58 W A0 l.length l) (h1 : Kd.C k58 W A1 l.length l) :
    Calls Tryd.prog 32 #[.slice A0 l.length c0, .slice A1 l.length c1] W fun e w' => e = .returned (.bool true) ∧ Below W.heap.size W w' :=
  (lecternkit_Tokens.calls _ A0 c0 l A1 c1 l true W h0 hc0 h1 hc1 (tokens_same l hl)).mono fun _ _ ⟨a, b⟩ => ⟨a, drawn_below b⟩
section
variable {P : Program}
/-- A slice cut beyond its length, within its room. -/
theorem cut_over (t e : TypeId) (kh : IntKind) {i : TypeInfo} (ht : P.underlying t = some (.slice e)) (hi : P.info? e = some i) (A : Option Addr) (n c : Nat) (j : Int) (h0 : 0 ≤ j) (hc : j ≤ c) :
    ∀ W : World, (Instr.slice t (.slice A n c) none (some (.int kh j)) none).run P W = .ok (.slice A j.toNat c) W := by
  intro W
  have hel : P.elem t = e := by simp [Program.elem, ht]
  have hu : P.underlying t = some (.slice (P.elem t)) := by rw [hel]; exact ht
  have ha : (A.map fun x => x.add 0) = A := by cases A <;> simp [Addr.add]
  rw [run_slice_h W t A n c hu kh j h0 hc, hel]
  simp [sizeOf, typeInfo, hi, sliced, Result.andThen, ha]
end
def markT : S58 := ⟨⟨#[]⟩, -71, 0, 0⟩
theorem info58i : ∃ i, Tryd.prog.info? 58 = some i := by
  obtain ⟨i0, hi, _⟩ := info_parts info58'
  exact ⟨i0, hi⟩

set_option maxRecDepth 100000 in
set_option maxHeartbeats 4000000 in
/-- Tokens in memory of their own, with a mark behind them. -/
theorem lent_c (ts : List S58) (A : Option Addr) (cap : Nat) (hl : ts.length ≤ 1048576) (w : World) (hC : Kd.C k58 w A ts.length ts) :
    Calls Tryd.prog 29 #[.slice A ts.length cap] w fun e w' => (∃ A2 c2, e = .returned (.slice A2 ts.length c2) ∧ TRow w' w.heap.size (.slice A2 (ts.length + 1) c2) (ts ++ [markT])) ∧ Below w.heap.size w w' := by
  have hu58 := Tryd.underlying58
  obtain ⟨i58, hi58⟩ := info58i
  have HI := Aside0.mk hi58
  have HC := Aside0.mk hC
  clear hC hi58
  go_enter Tryd.func29, Tryd.ntmps29
  go_wp2_with (first
    | ((with_reducible refine gate_builtin (b := .append) (xs := #[.tmp 4, .tmp 5]) rfl ?_); at_builtin; refine Kd.R_append_rows k58 (w0 := w) w.heap.size rfl (.tmp 4) (.tmp 5) 42 58 (.agg #[(.string ⟨#[]⟩), (.int .i64 0), (.int .i64 0), (.int .i64 0)]) 40 rfl Tryd.underlying42 info58' rfl (by decide) (by omega) (.slice none 0 0) [] ts A _ cap (fun _ => True) (fun _ => False) rfl rfl (Kd.R_nil _ _ _ _ _) HC.out (fun _ _ h => h) (fun _ h => h.elim) (fun _ _ => trivial) (Below.refl _ _) (Nat.le_refl _) (by simp; omega) ?_; intro v1 w1 ho1 hb1 hg1 hat1; obtain ⟨A1, c1, rfl⟩ := Kd.R_slice ho1; have HO1 := Aside0.mk ho1; have HB1 := Aside0.mk hb1; clear ho1 hb1 hg1 hat1)
    | ((with_reducible refine gate_builtin (b := .append) (xs := #[.tmp 7, .tmp 9]) rfl ?_); at_builtin; refine Kd.R_append k58 (w0 := w) w.heap.size rfl (.tmp 7) (.tmp 9) 42 58 (.agg #[(.string ⟨#[]⟩), (.int .i64 0), (.int .i64 0), (.int .i64 0)]) 40 rfl Tryd.underlying42 info58' rfl (by decide) (by omega) (.slice A1 ([] ++ ts).length c1) ([] ++ ts) markT (cellsT1 markT) (fun _ => True) (fun _ => False) (by rfl) (by rfl) (k58_mkM _ _ _ _) (fun _ h => h.elim) (fun _ _ => trivial) HO1.out HB1.out HB1.out.size (by simp; omega) ?_; intro v2 w2 ho2 hb2 hg2 hat2; rw [List.nil_append] at ho2; obtain ⟨A2, c2, rfl⟩ := Kd.R_slice ho2; rw [show (ts ++ [markT]).length = ts.length + 1 by simp] at ho2 ⊢; have hlc := (Kd.R_reads' ho2).2.1; have hct := cut_to (P := Tryd.prog) 42 58 .i64 Tryd.underlying42 HI.out A2 (ts.length + 1) c2 (ts.length : Int) (by omega) (by omega) hlc; rw [Int.toNat_natCast] at hct; have HO2 := Aside0.mk ho2; have HB2 := Aside0.mk hb2; clear ho2 hb2 hg2 hat2))
  go_ret
  exact ⟨⟨A2, c2, rfl, HO2.out⟩, HB2.out⟩

set_option maxRecDepth 100000 in
set_option maxHeartbeats 4000000 in
/-- Are they as they were? -/
theorem kept_c (ts : List S58) (A A1 : Option Addr) (cap c1 : Nat) (hl : ts.length ≤ 1048576) (hcap : ts.length ≤ cap) (hc1 : ts.length + 1 ≤ c1) (w : World) (h0 : Kd.C k58 w A1 (ts ++ [markT]).length (ts ++ [markT])) (h1 : Kd.C k58 w A ts.length ts) :
    Calls Tryd.prog 33 #[.slice A1 ts.length c1, .slice A ts.length cap] w fun e w' => e = .returned (.bool true) ∧ Below w.heap.size w w' := by
  have hu58 := Tryd.underlying58
  obtain ⟨i58, hi58⟩ := info58i
  have h2 := Kd.C_take (m := ts.length) h0 (by simp)
  rw [show (ts ++ [markT]).take ts.length = ts by simp] at h2
  have hsm := same_k ts (by omega) A1 A c1 cap (by omega) hcap w h2 h1
  obtain ⟨ad, rfl, c0, c1_, c2_, c3_⟩ := at_T58 h0 (ts.length : Int) (by omega) (by simp; omega)
  rw [rdT_get _ ts.length (by simp), show (ts ++ [markT])[ts.length]'(by simp) = markT by simp, Int.toNat_natCast] at c1_
  have hct := cut_over (P := Tryd.prog) 42 58 .i64 Tryd.underlying42 hi58 (some ad) ts.length c1 ((ts.length : Int) + 1) (by omega) (by omega)
  rw [show ((ts.length : Int) + 1).toNat = ts.length + 1 by omega] at hct
  have cm : w.cell? ⟨(ad.add (ts.length * 4)).block, (ad.add (ts.length * 4)).off + 1, none⟩ = some (.int .i64 (-71)) := c1_
  have CM := Aside0.mk cm
  clear h0 h1 h2 c0 c1_ c2_ c3_ cm hi58
  go_enter Tryd.func33, Tryd.ntmps33
  go_wp2_with (go_at_call 32; refine hsm.mono ?_; clear hsm; rintro e w2 ⟨rfl, hb2⟩; have cm2 := pw_cell_below hb2 CM.out)
  go_ret
  exact ⟨rfl, hb2⟩

set_option maxRecDepth 100000 in
set_option maxHeartbeats 4000000 in
theorem walk (number : Int) (ts : List S58) (A : Option Addr) (cap : Nat) (word : ByteArray) (r : Int) (hcap : ts.length ≤ cap) (hlen : ts.length ≤ 1048576) (hsz : ∀ t ∈ ts, t.f0.size ≤ 1048576) (hws : word.size ≤ 1048576) (hr0 : -2147483648 ≤ r) (hr1 : r ≤ 2147483647) (w : World) (ht : Tabs w) (hC : Kd.C k58 w A ts.length ts) :
    Calls Tryd.prog 9 #[.int .i64 number, .slice A ts.length cap, .string word, .int .i32 r] w fun e w' => e = .returned (.bool true) ∧ Below w.heap.size w w' := by
  have hle := lent_c ts A cap hlen
  have hlk := fun W (h : Below w.heap.size w W) A2 c2 (h2 : Kd.C k58 W A2 ts.length ts) => link_c number W (ht.step h) ts A2 c2 h2 (fun t h => by have := hsz t h; omega)
  have hrl := fun W (h : Below w.heap.size w W) => refLink_c number W ts A cap (Kd.C_below hC h) (fun t h => by have := hsz t h; omega)
  have hst := fun W => analysis_Stop.calls word _ W (stop_f word)
  have hrs := fun W => lecternref06_Stop.calls 34 word _ W (refStop_f word)
  have hbl := fun W => analysis_Blank.calls 10 r _ W (blank_f' r)
  have hrb := fun W => lecternref06_Blank.calls r _ W (refBlank_f r)
  rw [stopB_eq] at hrs
  have hll : (linkD number ts).1.length ≤ 1152921504606846976 := by
    by_cases h0 : (linkD number ts).2 = 0
    · obtain ⟨_, _, _, h⟩ := linkD_yes number ts h0; omega
    · rw [linkD_no number ts h0]; simp
  have HLL := Aside0.mk hll
  have HC := Aside0.mk hC
  have HLK := Aside0.mk hlk
  have HRL := Aside0.mk hrl
  have HKP := Aside0.mk (fun W A1 c1 hc1 h0 h1 => kept_c ts A A1 cap c1 hlen hcap hc1 W h0 h1)
  clear hsz hll hlk hrl ht
  generalize (stopL.any fun x => decide (x = word)) = SB at hst hrs
  generalize blankB r = BB at hbl hrb
  generalize linkD number ts = L at HLK HRL HLL
  obtain ⟨ls, le⟩ := L
  dsimp only at HLK HRL HLL
  have HST := Aside0.mk hst
  have HRS := Aside0.mk hrs
  have HBL := Aside0.mk hbl
  have HRB := Aside0.mk hrb
  have hle' := hle w hC
  clear hst hrs hbl hrb hle hC
  go_enter Tryd.func9, Tryd.ntmps9
  go_wp2_with (first
    | (go_at_call 29; refine hle'.mono ?_; clear hle'; rintro e w1 ⟨⟨A2, c2, rfl, hr⟩, hb⟩; have hrd := Kd.R_reads' hr; have h2 := Kd.C_take (m := ts.length) hrd.2.2 (by simp); rw [show (ts ++ [markT]).take ts.length = ts by simp] at h2; have HM1 := Aside0.mk hrd; have HB1 := Aside0.mk hb; have hlk := HLK.out w1 hb A2 c2 h2; clear hr hrd h2 hb)
    | (go_at_call 30; refine hlk.mono ?_; clear hlk; rintro e w2 ⟨⟨v2, rfl, hr⟩, hb⟩; obtain ⟨A3, c3, rfl, hc3, hC3⟩ := Kd.R_reads hr; have HC3 := Aside0.mk hC3; have HK3 := Aside0.mk hc3; have HB2 := Aside0.mk (below_step HB1.out hb); have HM2 := Aside0.mk (Kd.C_below HM1.out.2.2 hb); have hrl := HRL.out w2 HB2.out; clear hr hC3 hc3 hb)
    | (go_at_call 31; refine hrl.mono ?_; clear hrl; rintro e w3 ⟨⟨v3, rfl, hr⟩, hb⟩; obtain ⟨A4, c4, rfl, hc4, hC4⟩ := Kd.R_reads hr; have HB3 := Aside0.mk (below_step HB2.out hb); have HM3 := Aside0.mk (Kd.C_below HM2.out hb); have hsm := same_k ls HLL.out A3 A4 c3 c4 HK3.out hc4 w3 (Kd.C_below HC3.out hb) hC4; clear hr hC4 hc4 hb)
    | (go_at_call 32; refine hsm.mono ?_; clear hsm; rintro e w4 ⟨rfl, hb⟩; have HB4 := Aside0.mk (below_step HB3.out hb); have HM4 := Aside0.mk (Kd.C_below HM3.out hb); have hkp := HKP.out w4 A2 c2 (by have := HM1.out.2.1; omega) HM4.out (Kd.C_below HC.out HB4.out); clear hb)
    | (go_at_call 33; refine hkp.mono ?_; clear hkp; rintro e w5 ⟨rfl, hb⟩; have HB5 := Aside0.mk (below_step HB4.out hb); clear hb; have hst := HST.out)
    | (go_at_call 34; refine (hst _).mono ?_; clear hst; rintro e w6 ⟨rfl, hb⟩; have HB6 := Aside0.mk (below_step HB5.out (by first | exact hb | exact drawn_below hb)); clear hb; have hrs := HRS.out)
    | (go_at_call 35; refine (hrs _).mono ?_; clear hrs; rintro e w7 ⟨rfl, hb⟩; have HB7 := Aside0.mk (below_step HB6.out (by first | exact hb | exact drawn_below hb)); clear hb; have hbl := HBL.out)
    | (go_at_call 36; refine (hbl _).mono ?_; clear hbl; rintro e w8 ⟨rfl, hb⟩; have HB8 := Aside0.mk (below_step HB7.out (by first | exact hb | exact drawn_below hb)); clear hb; have hrb := HRB.out)
    | (go_at_call 37; refine (hrb _).mono ?_; clear hrb; rintro e w9 ⟨rfl, hb⟩; have HB9 := Aside0.mk (below_step HB8.out (by first | exact hb | exact drawn_below hb)); clear hb))
  go_ret
  exact ⟨rfl, HB9.out⟩
end Go.Proofs.YtgbphkckiekehaaDoor.linksLaw

set_option linter.unusedVariables false
set_option linter.unusedSimpArgs false
namespace Go.Proofs.YtgbphkckiekehaaDoor.linksLaw
open Go.RowKit Go.Shelf Go.Proofs.YtgbphkckiekehaaDoor.FoldRef Go.Proofs.YtgbphkckiekehaaDoorW.PrintWords Go.Proofs.YtgbphkckiekehaaDoor.Ana
open Go.ChangeShapes Go.WideShapes
open Go.ChangeShapes Go.WideShapes Go.ChangeAt Go.Lib
open Go.ChangeMaps (open_string shut_string)
abbrev spec : OpenSpec := Rows.OpenSpec.upto Rows.analysisLinksSpec
theorem witness (os : Os) {H : Type} (enc : TypeId × Value → H) :
    spec.preRow enc Tryd.prog Tryd.f9 Rows.analysisLinksUptoRow.domain false Rows.analysisLinksUptoRow.laid ((Laid.laidWorld os).forCall (fun _ _ => 0) ⟨#[], #[.int .i64 0, .slice none 0 0, .string ⟨#[]⟩, .int .i32 0], []⟩).memory #[.int .i64 0, .slice none 0 0, .string ⟨#[]⟩, .int .i32 0] := by
  have hw : (DataW.whole enc Tryd.prog ((Laid.laidWorld os).forCall (fun _ _ => 0) ⟨#[], #[.int .i64 0, .slice none 0 0, .string ⟨#[]⟩, .int .i32 0], []⟩).memory Tryd.f9.params.toList spec.vars false #[Value.int .i64 0, Value.slice none 0 0, Value.string ⟨#[]⟩, Value.int .i32 0].toList 8).map (fun x => (x.1, x.2.1)) =
      some ([.lit (.int .i64 0), .nil, .lit (.string []), .lit (.int .i32 0)], []) := by kernel_rfl
  obtain ⟨⟨x1, x2, x3⟩, hx, hx1⟩ := Option.map_eq_some_iff.1 hw
  simp only [Prod.mk.injEq] at hx1
  obtain ⟨rfl, rfl⟩ := hx1
  exact OpenSpec.preRow_of_cond 8 hx (by kernel_rfl) (fun k hk => by cases hk; kernel_rfl) (by kernel_rfl) (Laid.laid_met os _)
set_option maxRecDepth 100000 in
set_option maxHeartbeats 2000000 in
theorem lifted (os : Os) (started : os.Started) (H : Type) (enc : TypeId × Value → H) (F : Stop.Interp) :
    ReturnsInHanded {} Tryd.checked os 9 .any (spec.preRow enc Tryd.prog Tryd.f9 Rows.analysisLinksUptoRow.domain false Rows.analysisLinksUptoRow.laid) ((spec.at F).post enc Tryd.prog Tryd.f9 false true false false) := by
  refine returnsInHanded_of_row (C := Tryd.checked) (s := spec) Laid.own started (by kernel_rfl) Tryd.func9
    (witness_row_atRef (enc := enc) (C := Tryd.checked) false (Laid.laidWorld os) #[.int .i64 0, .slice none 0 0, .string ⟨#[]⟩, .int .i32 0] rfl (by kernel_rfl) (by kernel_rfl) (by kernel_rfl) (witness os enc)) ?_
  intro W base args ds gs before hval0 hW _ hcond hsz0 hL _ _
  have hval : ∀ (j : Nat) t v, Tryd.f9.params[j]? = some t → args[j]? = some v → Value.okWide Tryd.prog W .any base t v := hval0
  have hsz : (DataW.weightsEach Tryd.prog (Tryd.f9.params.toList ++ spec.bare.plain.varTypes Tryd.prog) (ds ++ gs)).all (· ≤ reachBytes) = true := hsz0
  have hW' := hW
  obtain ⟨p, q, hA0, hV0, rfl, _, _⟩ := hW
  have hA : DataW.TrodAll enc Tryd.prog W 0 (fun _ => true) true Tryd.f9.params.toList args.toList ds p := hA0
  rw [Tryd.params9] at hA hval hsz
  obtain ⟨v0, vs0, d0, ds0, p0, q0, hargs, rfl, rfl, h0, r0⟩ := trodAll_cons hA
  obtain ⟨v1, vs1, d1, ds1, p1, q1, rfl, rfl, rfl, h1, r1⟩ := trodAll_cons r0
  obtain ⟨v2, vs2, d2, ds2, p2, q2, rfl, rfl, rfl, h2, r2⟩ := trodAll_cons r1
  obtain ⟨v3, vs3, d3, ds3, p3, q3, rfl, rfl, rfl, h3, r3⟩ := trodAll_cons r2
  obtain ⟨rfl, rfl, rfl⟩ := trodAll_nil r3
  obtain rfl : args = #[v0, v1, v2, v3] := by cases args; simp_all
  obtain ⟨rfl, rfl⟩ := trodVars_none hV0
  obtain ⟨a0, rfl, rfl, rfl, w0⟩ := open_int Tryd.underlying3 (hval 0 3 v0 rfl rfl) h0
  obtain ⟨a1, len1, cap1, rfl⟩ := okWide_slice Tryd.underlying42 (hval 1 42 v1 rfl rfl)
  have k1 := h1
  have lt1 : ∀ x ∈ p1, x.block < W.heap.size := by obtain ⟨m, hm⟩ := k1; exact DataW.trod_lt m _ _ _ hm
  obtain ⟨z1, rfl, x1, g1, y1⟩ := open_tokens h1
  obtain ⟨a2, rfl, rfl, rfl, w2⟩ := open_string Tryd.underlying9 (hval 2 9 v2 rfl rfl) h2
  obtain ⟨a3, rfl, rfl, rfl, w3⟩ := open_int Tryd.underlying21 (hval 3 21 v3 rfl rfl) h3
  have c3 := bounds_i32 w3
  clear hA0 hV0 hval0 hsz0
  have hk := of_decide_eq_true (hcond _ rfl)
  simp only [List.append_nil, List.nil_append, List.cons_append, Rows.uptoBulkAll, Rows.uptoBulk] at hk
  refine (walk a0 z1 a1 cap1 a2 a3 x1 (by have := (bulk_of y1).1; omega) (fun t h => by have := (bulk_of y1).2 t h; omega) (by rw [← size_data]; omega) c3.1 c3.2 W (Laid.tabs hL) g1).mono ?_
  rintro e W' ⟨rfl, bel⟩
  have e1 : (spec.at F).fn H ([.lit (.int .i64 a0), d1, .lit (.string a2.data.toList), .lit (.int .i32 a3)] ++ []) = { results := [.lit (.bool true)], args := [.lit (.int .i64 a0), d1, .lit (.string a2.data.toList), .lit (.int .i32 a3)] } := rfl
  refine ⟨_, rfl, _, _, _, [], ([] ++ (p1 ++ ([] ++ ([] ++ [])))), [], hW', ?_, ?_, ?_, bel.frame _, fun h => by cases h⟩
  · rw [e1]; exact trodAll_mk1 (shut_bool Tryd.underlying4 _)
  · rw [e1]; exact (trodAll_cons_mk (shut_int Tryd.underlying3 w0) (trodAll_cons_mk (Below.trod laidOut (by kernel_rfl) (of_decide_eq_true (by kernel_rfl)) k1 bel lt1) (trodAll_cons_mk (shut_string Tryd.underlying9 w2) (trodAll_cons_mk (shut_int Tryd.underlying21 w3) trodAll_mk0))))
  · rw [e1]; rfl
theorem said : Rows.AnalysisLinksUptoSaid :=
  OpenClaim.holds_of_cond 9 Tryd.f9 rfl rfl rfl rfl rfl rfl rfl ⟨rfl, rfl, rfl, rfl, rfl⟩ rfl rfl rfl rfl rfl (by kernel_rfl) Tryd.func9 (by kernel_rfl)
    (of_decide_eq_true (by kernel_rfl)) (by unfold Func.isWrapper; rw [if_neg (of_decide_eq_false (by kernel_rfl))]; exact ⟨rfl, rfl⟩)
    (fun os started H enc _ F0 => by rw [OpenClaim.pre_eq_preRow]; exact lifted os started H enc F0)
theorem plain (f : FuncId) (fn : Func) (hf : Tryd.pinned.checked.prog.funcNamed "lectern/lecternlaw06.AnalysisLinks" = some f) (hfn : Tryd.pinned.checked.prog.funcs[f]? = some fn) :
    false = Tryd.pinned.checked.prog.looks [] ∧ ∀ (j : Nat) t, fn.params[j]? = some t → Tryd.pinned.checked.prog.wantsStandIn t = false := by
  obtain rfl : f = 9 := Option.some.inj ((show Tryd.prog.funcNamed "lectern/lecternlaw06.AnalysisLinks" = some 9 by kernel_rfl).symm.trans hf) |>.symm
  obtain rfl : fn = Tryd.f9 := (Option.some.inj (Tryd.func9.symm.trans hfn)).symm
  refine ⟨by kernel_rfl, fun j t ht => ?_⟩
  rw [Tryd.params9] at ht
  have hm := Array.mem_of_getElem? ht
  simp only [List.mem_toArray, List.mem_cons, List.mem_nil_iff, or_false] at hm
  rcases hm with rfl | rfl | rfl | rfl
  · exact (show Tryd.prog.wantsStandIn 3 = false by kernel_rfl)
  · exact (show Tryd.prog.wantsStandIn 42 = false by kernel_rfl)
  · exact (show Tryd.prog.wantsStandIn 9 = false by kernel_rfl)
  · exact (show Tryd.prog.wantsStandIn 21 = false by kernel_rfl)
theorem card : Rows.AnalysisLinksUptoCardSaid :=
  Claim7.holds_tied_plain_at .later [] _ _ _ _ said (fun _ h => by cases h) (by kernel_rfl) (fun _ h => by cases h) analysisLinksUpto_row_tie rfl ⟨rfl, rfl⟩ (by kernel_rfl) rfl plain (by kernel_rfl)

end Go.Proofs.YtgbphkckiekehaaDoor.linksLaw
namespace Go.Proofs.YtgbphkckiekehaaDoor
theorem analysisLinksUpto_holds : Rows.AnalysisLinksUptoCardSaid := linksLaw.card
end Go.Proofs.YtgbphkckiekehaaDoor
