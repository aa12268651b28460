/- For every chain and every text: the tokens that Run answers are memory of their own: written over and gone on with, another answer stays as it was. Condition: the two tables of unicode/utf8 read as the program's text lays them (the card ties them). -/
import Derived.Test.YtgbphkckiekehaaDoorBL
import Derived.Test.YtgbphkckiekehaaDoorBG
import Derived.Carry
import Derived.ChangeSlices
set_option linter.unusedVariables false
set_option linter.unusedSimpArgs false
namespace Go.Proofs.YtgbphkckiekehaaDoor.Ana
open Go.RowKit Go.Shelf Go.Proofs.YtgbphkckiekehaaDoor.QOut Go.Proofs.YtgbphkckiekehaaDoor.FoldRef Go.Proofs.YtgbphkckiekehaaDoorW.PrintWords
open Go.ChangeShapes Go.WideShapes
theorem laidOut : laidOutB Tryd.prog = true := by kernel_rfl
theorem open_chain {H : Type} {enc : TypeId × Value → H} {W : World} {held : Bool} {a : Option Addr} {len cap : Nat} {d : DataW H} {ps : List MemPlace}
    (h : DataW.Trod enc Tryd.prog W 0 (fun _ => true) held 25 (.slice a len cap) d ps) :
    ∃ zs : List Int, zs.length = len ∧ len ≤ cap ∧ Kd.C (Kd.int .i64) W a len zs := by
  obtain ⟨fuel, hf⟩ := h
  rcases open_ints Tryd.underlying25 Tryd.underlying3 (by kernel_rfl) hf with ⟨hcs, _⟩ | ⟨x, l, c, zs, hcs, _, hl, hm, hz, _, hcell, hwz⟩
  · simp [Value.cells] at hcs
    obtain ⟨rfl, rfl, rfl⟩ := hcs
    exact ⟨[], rfl, Nat.le_refl _, rfl, by omega, fun h => by omega⟩
  · simp [Value.cells] at hcs
    obtain ⟨rfl, rfl, rfl⟩ := hcs
    have hz' : zs.length = cap := by simpa using hz
    have hml : cap ≤ 9223372036854775807 := by unfold maxLen at hm; omega
    have ht : ∀ j, j < len → (zs.take len).getD j 0 = zs.getD j 0 := fun j hj => by simp [List.getD_eq_getElem?_getD, hj]
    have hro : ReadsOf (Value.int .i64) (0 : Int) W (some x) len (zs.take len) := by
      refine ⟨by rw [List.length_take]; omega, by omega, fun _ => ⟨x, rfl, fun j hj => ?_⟩⟩
      rw [ht j hj]; exact hcell j (by omega)
    exact ⟨zs.take len, by rw [List.length_take]; omega, by omega, Kd.C_of_reads hro⟩
end Go.Proofs.YtgbphkckiekehaaDoor.Ana

set_option linter.unusedVariables false
set_option linter.unusedSimpArgs false
namespace Go.Proofs.YtgbphkckiekehaaDoor.ownLaw
open Go.RowKit Go.Shelf Go.Proofs.YtgbphkckiekehaaDoor.QOut Go.Proofs.YtgbphkckiekehaaDoorW.PrintWords Go.Proofs.YtgbphkckiekehaaDoorW.PrintLast Go.Proofs.FoldPlain Go.Proofs.FoldText Go.Proofs.YtgbphkckiekehaaDoor.FoldRef Go.Proofs.YtgbphkckiekehaaDoor.FoldW Go.Proofs.YtgbphkckiekehaaDoor.FoldF Go.Proofs.YtgbphkckiekehaaDoor.FoldP Go.Proofs.YtgbphkckiekehaaDoor.Ana

theorem grownBy_setAt (W : World) (b j : Nat) (v : Value) : W.grownBy (W.setCell ⟨b, j, none⟩ v) (some b) := by
  refine ⟨rfl, rfl, rfl, by simp, fun k hk hne => Below.heap_setCell W ⟨b, j, none⟩ v k (fun e => hne (by rw [e]))⟩
theorem own_setCell {w : World} {base e size n g cap : Nat} {xs : List Value} (h : w.ownsRow base e size (.slice (some ⟨g, 0, none⟩) n cap) n xs) (j : Nat) (u : Value) :
    (w.setCell ⟨g, j, none⟩ u).ownsRow base e size (.slice (some ⟨g, 0, none⟩) n cap) n (xs.set j u) ∧ w.grownBy (w.setCell ⟨g, j, none⟩ u) (some g) := by
  obtain ⟨h1, h2⟩ := h
  rcases h2 with ⟨hv, _⟩ | ⟨g', cap', cur, hv, hb, hh, hnc, hcm, hcs, ht⟩
  · cases hv
  · injection hv with e1 _ e3
    injection e1 with e1
    injection e1 with e1 _ _
    subst e1
    subst e3
    have hj : ∀ c : Array Value, (c.setIfInBounds j u).toList = c.toList.set j u := fun c => by simp
    refine ⟨⟨by rw [List.length_set]; exact h1, .inr ⟨g, cap, cur.setIfInBounds j u, rfl, hb, ?_, hnc, hcm, by simpa using hcs, ?_⟩⟩, grownBy_setAt w g j u⟩
    · simp [World.setCell, Array.getElem?_modify, hh]
    · rw [hj, ← ht]
      simp [List.take_set]
theorem own_cells {w : World} {base e size n g cap : Nat} {xs : List Value} (h : w.ownsRow base e size (.slice (some ⟨g, 0, none⟩) n cap) n xs) (j : Nat) (hj : j < n * size) : (∃ u, w.cell? ⟨g, j, none⟩ = some u) ∧ w.frozen? ⟨g, j, none⟩ = false := by
  obtain ⟨h1, h2⟩ := h
  rcases h2 with ⟨hv, _⟩ | ⟨g', cap', cur, hv, hb, hh, hnc, hcm, hcs, ht⟩
  · cases hv
  · injection hv with e1 _ e3
    injection e1 with e1
    injection e1 with e1 _ _
    subst e1
    subst e3
    have hlt : j < cur.size := by rw [hcs]; exact Nat.lt_of_lt_of_le hj (Nat.mul_le_mul_right _ hnc)
    exact ⟨⟨cur[j], by simp [World.cell?, hh, hlt]⟩, by simp [World.frozen?, hh]⟩
theorem trow_keep {W W' : World} {g base : Nat} {v : Value} {ts : List S58} (h : TRow W base v ts) (hg : W.grownBy W' (some g)) (hlt : g < base) : TRow W' base v ts :=
  Kd.R_mono (Kd.R_step (Kd.R_bound h) (fun k hk hk2 => hg.block k hk2 (by intro e; injection e with e; have := hk.2.1; omega))) (fun _ _ => trivial)
theorem inner_len {w : World} {base e size n : Nat} {v : Value} {xs : List Value} (h : w.ownsRow base e size v n xs) : xs.length = n * size := h.1
theorem trow_keepo {W W' : World} {row : Option Nat} {base : Nat} {v : Value} {ts : List S58} (h : TRow W base v ts) (hg : W.grownBy W' row) (hlt : ∀ g, row = some g → g < base) : TRow W' base v ts :=
  Kd.R_mono (Kd.R_step (Kd.R_bound h) (fun k hk hk2 => hg.block k hk2 (by intro e; have := hlt k e.symm; have := hk.2.1; omega))) (fun _ _ => trivial)
theorem own_form5 {w : World} {base e size n : Nat} {v : Value} {xs : List Value} (h : w.ownsRow base e size v (n + 1) xs) : ∃ g c, v = .slice (some ⟨g, 0, none⟩) (n + 1) c := by
  obtain ⟨g, c, hv, _⟩ := h.form (by omega)
  exact ⟨g, c, hv⟩
/-- Where the token that was appended last lies. -/
theorem own_last {w W : World} {base n lo hi c2 : Nat} {A : Option Addr} {v : Value} {inner : List Value} (h : w.ownsRow base 58 4 v (n + 1) (inner ++ cellsT1 ⟨⟨#[]⟩, -2, 0, 0⟩)) (hl : inner.length = n * 4) (hA : ∀ g, (Value.slice A n c2).ownBlock = some g → lo ≤ g ∧ g < hi) (hat : v.ownBlock = (Value.slice A n c2).ownBlock ∨ ∃ b, v.ownBlock = some b ∧ W.heap.size ≤ b) :
    ∀ g, v.ownBlock = some g → w.cell? ⟨g, n * 4 + 1, none⟩ = some (.int .i64 (-2)) ∧ (g < hi ∨ W.heap.size ≤ g) := by
  intro g hg
  refine ⟨?_, ?_⟩
  · have := h.cells hg (n * 4 + 1) (.int .i64 (-2)) (by rw [List.getElem?_append_right (by omega), hl]; simp [cellsT1])
    have ha : (⟨g, 0, none⟩ : Addr).add (n * 4 + 1) = ⟨g, n * 4 + 1, none⟩ := by unfold Addr.add; split <;> simp_all
    rwa [ha] at this
  · rcases hat with hat | ⟨b, hb, hle⟩
    · exact .inl (hA g (by rw [← hat]; exact hg)).2
    · rw [hb] at hg; injection hg with hg; exact .inr (by omega)
theorem last_kept {w5 w6 : World} {lo hi n g5 c5 : Nat} {row : Option Nat} (h : ∀ g, (Value.slice (some ⟨g5, 0, none⟩) (n + 1) c5).ownBlock = some g → w5.cell? ⟨g, n * 4 + 1, none⟩ = some (.int .i64 (-2)) ∧ (g < lo ∨ hi ≤ g)) {k : Nat} (hk : k = n * 4 + 1) (hg : w5.grownBy w6 row) (hr : ∀ g, row = some g → lo ≤ g ∧ g < hi) :
    w6.cell? ⟨g5, k, none⟩ = some (.int .i64 (-2)) := by
  obtain ⟨h1, h2⟩ := h g5 rfl
  subst hk
  have hb := World.block_lt_of_cell? w5 _ h1
  have := hg.block g5 hb (fun e => by have := hr g5 e.symm; omega)
  simpa [World.cell?, this] using h1
set_option maxRecDepth 100000 in
set_option maxHeartbeats 4000000 in
theorem walk (xs : List Int) (A : Option Addr) (cap : Nat) (s : ByteArray) (hcap : xs.length ≤ cap) (hss : s.size ≤ 140737488351232) (w : World) (ht : Tabs w) (hC : Kd.C (Kd.int .i64) w A xs.length xs) :
    Calls Tryd.prog 14 #[.slice A xs.length cap, .string s] w fun e w' => e = .returned (.bool true) ∧ Below w.heap.size w w' := by
  have hu58 := Tryd.underlying58
  have hru := fun W (h : Below w.heap.size w W) => run_c xs A cap hcap s (by omega) W (ht.step h) (Kd.C_below hC h)
  have hlen : (runD xs s).1.length ≤ 4096 := by
    by_cases h : (runD xs s).2 = 0
    · exact (runD_places xs s h).2.2.1
    · rw [runD_no xs s h]; simp
  have HT := Aside0.mk ht
  have HRU := Aside0.mk hru
  clear ht hC hru
  generalize xs.length = nx at *
  generalize runD xs s = R at HRU hlen
  obtain ⟨ts, ee⟩ := R
  dsimp only at HRU hlen
  by_cases he : ee = 0
  · subst he
    have hl4 : (ts.length : Int) ≤ 4096 := by omega
    go_enter Tryd.func14, Tryd.ntmps14
    go_wp2_with (first
      | (go_at_call 44; refine (known6_c _ HT.out).mono ?_; rintro e w1 ⟨rfl, hb1⟩; have HZ1 := Aside0.mk hb1.size; have hr1 := HRU.out w1 hb1)
      | (go_at_call 39; ((with_reducible refine hr1.mono ?_); clear hr1; rintro e w2 ⟨⟨v, rfl, hr⟩, hb2⟩; obtain ⟨A2, c2, rfl⟩ := Kd.R_slice hr; have HA2 := Aside0.mk hr; have HB2 := Aside0.mk (below_step hb1 hb2); have hr2 := HRU.out w2 HB2.out; clear hr hb1 hb2))
      | (go_at_call 39; ((with_reducible refine hr2.mono ?_); clear hr2; rintro e w3 ⟨⟨v, rfl, hr⟩, hb3⟩; obtain ⟨A3, c3, rfl⟩ := Kd.R_slice hr; have HA3 := Aside0.mk hr; have HB3 := Aside0.mk (below_step HB2.out hb3); have HD2 := Aside0.mk (Kd.R_below HA2.out hb3); have HZ2 := Aside0.mk (And.intro hb3.size HB2.out.size); clear hr hb3))
      | ((with_reducible refine gate_builtin (b := .append) (xs := #[.tmp 27, .tmp 28]) rfl ?_); at_builtin; refine Kd.R_append_rows k58 (w0 := w3) w3.heap.size rfl (.tmp 27) (.tmp 28) 42 58 (.agg #[(.string ⟨#[]⟩), (.int .i64 0), (.int .i64 0), (.int .i64 0)]) 40 rfl Tryd.underlying42 info58' rfl (by decide) (by omega) (.slice (some ⟨w3.heap.size, 0, none⟩) 0 0) [] ts A3 _ c3 (fun _ => True) (fun _ => False) rfl rfl (toks_new w3 [] (by decide)) (Kd.C_below (Kd.R_reads' HA3.out).2.2 (below_alloc (Below.refl _ _) _)) (fun _ _ h => h) (fun _ h => h.elim) (fun _ _ => trivial) (below_alloc (Below.refl _ _) _) (by simp) (by simp; omega) ?_; intro v4 w4 ho4 hb4 hg4 hat4; have HW4 := Aside0.mk ho4; have HB4 := Aside0.mk hb4; clear ho4 hb4 hg4 hat4))
    have HGA := Aside0.mk (show ∀ g, (Value.slice A2 ts.length c2).ownBlock = some g → w.heap.size ≤ g ∧ g < w2.heap.size from fun g e => by
      obtain ⟨inner, ho⟩ := Kd.R_own (Kd.R_lower HA2.out HZ1.out)
      exact ⟨own_base ho g e, own_lt ho g e⟩)
    go_loopw [10] (fun vi wr => ∃ k : Nat, k ≤ ts.length ∧ vi = .int .i64 k ∧ Hid (∃ inner, wr.ownsRow w.heap.size 58 4 (.slice A2 ts.length c2) ts.length inner) ∧ Hid (TRow wr w2.heap.size (.slice A3 ts.length c3) ts) ∧ Hid (TRow wr w3.heap.size v4 ts) ∧ Hid (Below w.heap.size w wr) ∧ Hid (w3.heap.size ≤ wr.heap.size))
      (fun vi _ => ts.length - (intOf vi).toNat)
    case atStart => exact ⟨0, Nat.zero_le _, rfl, Lib.hid (Kd.R_own (Kd.R_lower (Kd.R_below HD2.out HB4.out) HZ1.out)), Lib.hid (Kd.R_below HA3.out HB4.out), Lib.hid HW4.out, Lib.hid (below_step HB3.out HB4.out), Lib.hid HB4.out.size⟩
    case round =>
      obtain ⟨k, hk, rfl, hA, hB, hW, hBl, hSz⟩ := hrel
      by_cases hlt : k < ts.length
      · have hlt' : (k : Int) < (ts.length : Int) := by omega
        obtain ⟨inner, hin⟩ := hA.out
        obtain ⟨g, cg, hv, hgb, hgl⟩ := hin.form (by omega)
        injection hv with hv1 hv2 hv3
        subst hv1
        subst hv3
        obtain ⟨hg1, hg2⟩ := HGA.out g rfl
        obtain ⟨⟨x0, y0⟩, f0⟩ := own_cells hin (k * 4) (by omega)
        obtain ⟨⟨x1, y1⟩, f1⟩ := own_cells hin (k * 4 + 1) (by omega)
        obtain ⟨⟨x2, y2⟩, f2⟩ := own_cells hin (k * 4 + 2) (by omega)
        obtain ⟨⟨x3, y3⟩, f3⟩ := own_cells hin (k * 4 + 3) (by omega)
        have HIN := Aside0.mk hin
        clear hin
        go_wp2
        obtain ⟨o0, q0⟩ := own_setCell HIN.out (k * 4) (.string ⟨#[]⟩)
        obtain ⟨o1, q1⟩ := own_setCell o0 (k * 4 + 1) (.int .i64 (-1))
        obtain ⟨o2, q2⟩ := own_setCell o1 (k * 4 + 2) (.int .i64 0)
        obtain ⟨o3, q3⟩ := own_setCell o2 (k * 4 + 3) (.int .i64 0)
        have hz := HZ2.out.1
        go_roundw
        case rel => exact ⟨k + 1, by omega, by go_num, Lib.hid ⟨_, o3⟩, Lib.hid (trow_keep (trow_keep (trow_keep (trow_keep hB.out q0 hg2) q1 hg2) q2 hg2) q3 hg2), Lib.hid (trow_keep (trow_keep (trow_keep (trow_keep hW.out q0 (by omega)) q1 (by omega)) q2 (by omega)) q3 (by omega)), Lib.hid ((((hBl.out.setCell (p := ⟨g, k * 4, none⟩) hg1 _).setCell (p := ⟨g, k * 4 + 1, none⟩) hg1 _).setCell (p := ⟨g, k * 4 + 2, none⟩) hg1 _).setCell (p := ⟨g, k * 4 + 3, none⟩) hg1 _), Lib.hid (by simpa using hSz.out)⟩
        case measure => simp [intOf]; omega
      · obtain rfl : k = ts.length := by omega
        obtain ⟨inner, hin⟩ := hA.out
        have hlt' : ¬ ((ts.length : Nat) : Int) < (ts.length : Int) := by omega
        have HIN := Aside0.mk hin
        clear hin
        have HL := Aside0.mk (inner_len HIN.out)
        have HBG := Aside0.mk (show ∀ g, (Value.slice A3 ts.length c3).ownBlock = some g → w2.heap.size ≤ g ∧ g < wr.heap.size from fun g e => by
          obtain ⟨inner, ho⟩ := Kd.R_own hB.out
          exact ⟨own_base ho g e, own_lt ho g e⟩)
        have HBH := Aside0.mk (show ∀ g, (Value.slice A3 ts.length c3).ownBlock = some g → g < w3.heap.size from fun g e => by
          obtain ⟨inner, ho⟩ := Kd.R_own HA3.out
          exact own_lt ho g e)
        have hzr := hBl.out.size
        have hz := HZ2.out
        obtain ⟨hz1, hz0⟩ := hz
        obtain ⟨i58, hi58, _, hs58, _⟩ := info_parts info58'
        have HI58 := Aside0.mk (And.intro hi58 hs58)
        clear hi58 hs58 hA
        obtain ⟨A4, c4, rfl⟩ := Kd.R_slice hW.out
        go_wp2_with (first
          | ((with_reducible refine gate_builtin (b := .append) (xs := #[.tmp 40, .tmp 42]) rfl ?_); at_builtin; refine print_append_cells (w0 := w) w.heap.size rfl (.tmp 40) (.tmp 42) 42 58 (.agg #[(.string ⟨#[]⟩), (.int .i64 0), (.int .i64 0), (.int .i64 0)]) 4 40 rfl Tryd.underlying42 info58' rfl (by decide) (by omega) (.slice A2 ts.length c2) ts.length inner (cellsT1 ⟨⟨#[]⟩, -2, 0, 0⟩) rfl rfl rfl (by decide) HIN.out hBl.out (hBl.out.size) (by omega) ?_; intro v5 w5 ho5 hb5 hg5 hat5; have HO5 := Aside0.mk (own_last ho5 HL.out HGA.out hat5); have HB5 := Aside0.mk hb5; have HTB5 := Aside0.mk (trow_keepo hB.out hg5 (fun g e => (HGA.out g e).2)); have HTW5 := Aside0.mk (trow_keepo hW.out hg5 (fun g e => by have := (HGA.out g e).2; omega)); have HZ5 := Aside0.mk hg5.size; obtain ⟨g5, c5, rfl⟩ := own_form5 ho5; clear ho5 hb5 hg5 hat5)
          | ((with_reducible refine gate_builtin (b := .append) (xs := #[.tmp 44, .tmp 46]) rfl ?_); at_builtin; refine Kd.R_append k58 (w0 := w5) w2.heap.size rfl (.tmp 44) (.tmp 46) 42 58 (.agg #[(.string ⟨#[]⟩), (.int .i64 0), (.int .i64 0), (.int .i64 0)]) 40 rfl Tryd.underlying42 info58' rfl (by decide) (by omega) (.slice A3 ts.length c3) ts (⟨⟨#[]⟩, -3, 0, 0⟩ : S58) (cellsT1 ⟨⟨#[]⟩, -3, 0, 0⟩) (fun _ => True) (fun _ => False) rfl rfl (k58_mkM _ _ _ _) (fun _ h => h.elim) (fun _ _ => trivial) HTB5.out (Below.refl _ _) (by have := HZ5.out; have := hSz.out; omega) (by omega) ?_; intro v6 w6 ho6 hb6 hg6 hat6; have HC6 := Aside0.mk (last_kept HO5.out rfl hg6 HBG.out); have HB6 := Aside0.mk (HB5.out.trans (hb6.mono (by omega))); have HTW6 := Aside0.mk (trow_keepo HTW5.out hg6 (fun g e => (HBH.out g e))); obtain ⟨A6, c6, rfl⟩ := Kd.R_slice ho6; rw [show (ts ++ [(⟨⟨#[]⟩, -3, 0, 0⟩ : S58)]).length = ts.length + 1 by simp] at ho6 ⊢; have hlc6 := (Kd.R_reads' ho6).2.1; have hct6 := cut_to (P := Tryd.prog) 42 58 .i64 Tryd.underlying42 HI58.out.1 A6 (ts.length + 1) c6 (ts.length : Int) (by omega) (by omega) hlc6; rw [Int.toNat_natCast] at hct6; have ht6 := Kd.R_take (m := ts.length) ho6 (by simp); rw [show (ts ++ [(⟨⟨#[]⟩, -3, 0, 0⟩ : S58)]).take ts.length = ts by simp] at ht6; have hcell6 := HC6.out; have hsm := same_c ts (by omega) A6 A4 c6 c4 (by omega) (Kd.R_reads' HTW6.out).2.1 w6 (Kd.R_reads' ht6).2.2 (Kd.R_reads' HTW6.out).2.2; clear ho6 hb6 hg6 hat6 ht6)
          | (go_at_call 32; ((with_reducible refine hsm.mono ?_); clear hsm; rintro e w7 ⟨rfl, hb7⟩; have HB7 := Aside0.mk (below_step HB6.out hb7); clear hb7)))
        go_ret
        exact ⟨rfl, HB7.out⟩
  · have he1 : (ee == 0) = false := beq_eq_false_iff_ne.2 he
    have he2 : (ee != 0) = true := bne_iff_ne.2 he
    go_enter Tryd.func14, Tryd.ntmps14
    go_wp2_with (first
      | (go_at_call 44; refine (known6_c _ HT.out).mono ?_; rintro e w1 ⟨rfl, hb1⟩; have hr1 := HRU.out w1 hb1)
      | (go_at_call 39; ((with_reducible refine hr1.mono ?_); clear hr1; rintro e w2 ⟨⟨v, rfl, hr⟩, hb2⟩; obtain ⟨A2, c2, rfl⟩ := Kd.R_slice hr; have HB2 := Aside0.mk (below_step hb1 hb2); have hr2 := HRU.out w2 HB2.out; clear hr hb1 hb2))
      | (go_at_call 39; ((with_reducible refine hr2.mono ?_); clear hr2; rintro e w3 ⟨⟨v, rfl, hr⟩, hb3⟩; obtain ⟨A3, c3, rfl⟩ := Kd.R_slice hr; have HB3 := Aside0.mk (below_step HB2.out hb3); clear hr hb3)))
    go_ret
    exact ⟨rfl, HB3.out⟩
end Go.Proofs.YtgbphkckiekehaaDoor.ownLaw

set_option linter.unusedVariables false
set_option linter.unusedSimpArgs false
namespace Go.Proofs.YtgbphkckiekehaaDoor.ownLaw
open Go.RowKit Go.Shelf Go.Proofs.YtgbphkckiekehaaDoor.FoldRef Go.Proofs.YtgbphkckiekehaaDoorW.PrintWords Go.Proofs.YtgbphkckiekehaaDoor.Ana
open Go.ChangeShapes Go.WideShapes
open Go.ChangeShapes Go.WideShapes Go.ChangeAt Go.Lib
open Go.ChangeMaps (open_string shut_string)
abbrev spec : OpenSpec := OpenSpec.ofChange Rows.analysisOwnSpec
theorem witness (os : Os) {H : Type} (enc : TypeId × Value → H) :
    spec.preRow enc Tryd.prog Tryd.f14 Rows.analysisOwnRow.domain false Rows.analysisOwnRow.laid ((Laid.laidWorld os).forCall (fun _ _ => 0) ⟨#[], #[.slice none 0 0, .string ⟨#[]⟩], []⟩).memory #[.slice none 0 0, .string ⟨#[]⟩] := by
  have hw : (DataW.whole enc Tryd.prog ((Laid.laidWorld os).forCall (fun _ _ => 0) ⟨#[], #[.slice none 0 0, .string ⟨#[]⟩], []⟩).memory Tryd.f14.params.toList spec.vars false #[Value.slice none 0 0, Value.string ⟨#[]⟩].toList 8).map (fun x => (x.1, x.2.1)) =
      some ([.nil, .lit (.string [])], []) := by kernel_rfl
  obtain ⟨⟨x1, x2, x3⟩, hx, hx1⟩ := Option.map_eq_some_iff.1 hw
  simp only [Prod.mk.injEq] at hx1
  obtain ⟨rfl, rfl⟩ := hx1
  exact OpenSpec.preRow_of_cond 8 hx (by kernel_rfl) (fun k hk => by cases hk) (by kernel_rfl) (Laid.laid_met os _)
set_option maxRecDepth 100000 in
set_option maxHeartbeats 2000000 in
theorem lifted (os : Os) (started : os.Started) (H : Type) (enc : TypeId × Value → H) (F : Stop.Interp) :
    ReturnsInHanded {} Tryd.checked os 14 .any (spec.preRow enc Tryd.prog Tryd.f14 Rows.analysisOwnRow.domain false Rows.analysisOwnRow.laid) ((spec.at F).post enc Tryd.prog Tryd.f14 false true false false) := by
  refine returnsInHanded_of_row (C := Tryd.checked) (s := spec) Laid.own started (by kernel_rfl) Tryd.func14
    (witness_row_atRef (enc := enc) (C := Tryd.checked) false (Laid.laidWorld os) #[.slice none 0 0, .string ⟨#[]⟩] rfl (by kernel_rfl) (by kernel_rfl) (by kernel_rfl) (witness os enc)) ?_
  intro W base args ds gs before hval0 hW _ hcond hsz0 hL _ _
  have hval : ∀ (j : Nat) t v, Tryd.f14.params[j]? = some t → args[j]? = some v → Value.okWide Tryd.prog W .any base t v := hval0
  have hsz : (DataW.weightsEach Tryd.prog (Tryd.f14.params.toList ++ spec.bare.plain.varTypes Tryd.prog) (ds ++ gs)).all (· ≤ reachBytes) = true := hsz0
  have hW' := hW
  obtain ⟨p, q, hA0, hV0, rfl, _, _⟩ := hW
  have hA : DataW.TrodAll enc Tryd.prog W 0 (fun _ => true) true Tryd.f14.params.toList args.toList ds p := hA0
  rw [Tryd.params14] at hA hval hsz
  obtain ⟨v0, vs0, d0, ds0, p0, q0, hargs, rfl, rfl, h0, r0⟩ := trodAll_cons hA
  obtain ⟨v1, vs1, d1, ds1, p1, q1, rfl, rfl, rfl, h1, r1⟩ := trodAll_cons r0
  obtain ⟨rfl, rfl, rfl⟩ := trodAll_nil r1
  obtain rfl : args = #[v0, v1] := by cases args; simp_all
  obtain ⟨rfl, rfl⟩ := trodVars_none hV0
  obtain ⟨a0, len0, cap0, rfl⟩ := okWide_slice Tryd.underlying25 (hval 0 25 v0 rfl rfl)
  have k0 := h0
  have lt0 : ∀ x ∈ p0, x.block < W.heap.size := by obtain ⟨m, hm⟩ := k0; exact DataW.trod_lt m _ _ _ hm
  obtain ⟨z0, rfl, x0, g0⟩ := open_chain h0
  obtain ⟨a1, rfl, rfl, rfl, w1⟩ := open_string Tryd.underlying9 (hval 1 9 v1 rfl rfl) h1
  have b1 : a1.data.toList.length ≤ reachBytes := sized_string hsz (j := 1) rfl rfl
  rw [size_data] at b1
  clear hA0 hV0 hval0 hsz0
  refine (walk z0 a0 cap0 a1 x0 b1 W (Laid.tabs hL) g0).mono ?_
  rintro e W' ⟨rfl, bel⟩
  have e1 : (spec.at F).fn H ([d0, .lit (.string a1.data.toList)] ++ []) = { results := [.lit (.bool true)], args := [d0, .lit (.string a1.data.toList)] } := rfl
  refine ⟨_, rfl, _, _, _, [], (p0 ++ ([] ++ [])), [], hW', ?_, ?_, ?_, bel.frame _, fun h => by cases h⟩
  · rw [e1]; exact trodAll_mk1 (shut_bool Tryd.underlying4 _)
  · rw [e1]; exact (trodAll_cons_mk (Below.trod laidOut (by kernel_rfl) (of_decide_eq_true (by kernel_rfl)) k0 bel lt0) (trodAll_cons_mk (shut_string Tryd.underlying9 w1) trodAll_mk0))
  · rw [e1]; rfl
theorem said : Rows.AnalysisOwnSaid :=
  OpenClaim.holds_of_cond 14 Tryd.f14 rfl rfl rfl rfl rfl rfl rfl ⟨rfl, rfl, rfl, rfl, rfl⟩ rfl rfl rfl rfl rfl (by kernel_rfl) Tryd.func14 (by kernel_rfl)
    (of_decide_eq_true (by kernel_rfl)) (by unfold Func.isWrapper; rw [if_neg (of_decide_eq_false (by kernel_rfl))]; exact ⟨rfl, rfl⟩)
    (fun os started H enc _ F0 => by rw [OpenClaim.pre_eq_preRow]; exact lifted os started H enc F0)
theorem plain (f : FuncId) (fn : Func) (hf : Tryd.pinned.checked.prog.funcNamed "lectern/lecternlaw06.AnalysisOwn" = some f) (hfn : Tryd.pinned.checked.prog.funcs[f]? = some fn) :
    false = Tryd.pinned.checked.prog.looks [] ∧ ∀ (j : Nat) t, fn.params[j]? = some t → Tryd.pinned.checked.prog.wantsStandIn t = false := by
  obtain rfl : f = 14 := Option.some.inj ((show Tryd.prog.funcNamed "lectern/lecternlaw06.AnalysisOwn" = some 14 by kernel_rfl).symm.trans hf) |>.symm
  obtain rfl : fn = Tryd.f14 := (Option.some.inj (Tryd.func14.symm.trans hfn)).symm
  refine ⟨by kernel_rfl, fun j t ht => ?_⟩
  rw [Tryd.params14] at ht
  have hm := Array.mem_of_getElem? ht
  simp only [List.mem_toArray, List.mem_cons, List.mem_nil_iff, or_false] at hm
  rcases hm with rfl | rfl
  · exact (show Tryd.prog.wantsStandIn 25 = false by kernel_rfl)
  · exact (show Tryd.prog.wantsStandIn 9 = false by kernel_rfl)
theorem card : Rows.AnalysisOwnCardSaid :=
  Claim7.holds_tied_plain_at .later [] _ _ _ _ said (fun _ h => by cases h) (by kernel_rfl) (fun _ h => by cases h) analysisOwn_row_tie rfl ⟨rfl, rfl⟩ (by kernel_rfl) rfl plain (by kernel_rfl)

end Go.Proofs.YtgbphkckiekehaaDoor.ownLaw
namespace Go.Proofs.YtgbphkckiekehaaDoor
theorem analysisOwn_holds : Rows.AnalysisOwnCardSaid := ownLaw.card
end Go.Proofs.YtgbphkckiekehaaDoor
