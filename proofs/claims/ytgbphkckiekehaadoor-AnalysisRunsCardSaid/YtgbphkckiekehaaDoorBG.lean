/- Grams, Check and Run of analysis walked; the answers that the document names. -/
import Derived.Test.YtgbphkckiekehaaDoorBF
import Derived.Test.YtgbphkckiekehaaDoorBD
set_option linter.unusedVariables false
set_option linter.unusedSimpArgs false
namespace Go.Proofs.YtgbphkckiekehaaDoor.Ana
open Go.RowKit Go.Shelf Go.Proofs.YtgbphkckiekehaaDoor.QRef Go.Proofs.YtgbphkckiekehaaDoorW.PrintWords Go.Proofs.YtgbphkckiekehaaDoorW.PrintLast Go.Proofs.FoldPlain Go.Proofs.FoldText Go.Proofs.YtgbphkckiekehaaDoor.FoldRef Go.Proofs.YtgbphkckiekehaaDoor.FoldW Go.Proofs.YtgbphkckiekehaaDoor.FoldF Go.Proofs.YtgbphkckiekehaaDoor.FoldP

theorem gAll_take (ts : List S58) (k : Nat) (h : k < ts.length) (out : List S58) (ho : (ts.take k).foldl gAll [] = out) : (ts.take (k + 1)).foldl gAll [] = gAll out (rd_T58 ts (k : Int)) := by
  have e : rd_T58 ts (k : Int) = ts[k] := by show ts.getD (k : Int).toNat z58 = _; simp [List.getD_eq_getElem?_getD, h]
  rw [List.take_succ_eq_append_getElem h, List.foldl_append, ho, e]; rfl
theorem gRow_len (t : S58) (out : List S58) (k : Nat) : (gRow t out k).length = out.length + k := by simp [gRow]
theorem gRow_zero (t : S58) (out : List S58) : gRow t out 0 = out := by simp [gRow]
theorem gRow_succ (t : S58) (out : List S58) (k : Nat) : gRow t out (k + 1) = gRow t out k ++ [gTok t (gRow t out k).length k] := by
  rw [gRow_len]
  unfold gRow
  rw [List.range_succ, List.map_append, ← List.append_assoc]; rfl

theorem cell_al {w : World} {p : Addr} {v : Value} (h : w.cell? p = some v) (o : Obj) : (w.alloc o).cell? p = some v := pw_cell_below (below_alloc (Below.refl _ _) o) h
theorem box_grown {W w1 : World} {b : Nat} {t : S58} {v : Value} (h : TBox W b t) (hg : W.grownBy w1 v.ownBlock) (hne : ∀ k, v.ownBlock = some k → k ≠ b) : TBox w1 b t := (hg.block b h.lt (fun e => hne b e.symm rfl)).trans h
set_option maxRecDepth 100000 in
set_option maxHeartbeats 4000000 in
theorem tokens_gram (number : Int) (h1 : ¬ number = 1) (h2 : ¬ number = 2) (h3 : ¬ number = 3) (s : ByteArray) (hs : s.size ≤ 4096) (w : World) (ht : Tabs w) :
    Calls Tryd.prog 61 #[.int .i64 number, .string s] w fun e w' => (∃ v, e = .returned v ∧ TRow w' w.heap.size v (tokensD number s)) ∧ Below w.heap.size w w' := by
  have hu58 := Tryd.underlying58
  have hTD : tokensD number s = gramsD (lettersD s) := by unfold tokensD; rw [if_neg h1, if_neg h2, if_neg h3]
  rw [hTD]
  clear hTD
  have hc := letters_c s (by omega) w ht
  have hlen := runsD_len s mayB wordB
  have hin := (runsD_inv s mayB wordB).1
  rw [show runsD s mayB wordB = lettersD s from rfl] at hlen hin
  generalize lettersD s = ts at hc hlen hin ⊢
  have HIN := Aside0.mk hin
  have HTW := Aside0.mk ht
  clear hin ht
  have hlen1 : (ts.length : Int) ≤ 4097 := by omega
  go_enter Tryd.func61, Tryd.ntmps61
  go_wp2_with (go_at_call 76; refine hc.mono ?_; clear hc; rintro e w1 ⟨⟨v, rfl, hr⟩, hb1⟩; obtain ⟨A, cap, rfl, hcap, hC⟩ := Kd.R_reads hr; have HC := Aside0.mk hC; have HB1 := Aside0.mk hb1; clear hr hC hb1)
  go_loopw [6, 30] (fun v vi wr => ∃ (k : Nat) (out : List S58), k ≤ ts.length ∧ vi = .int .i64 k ∧ Hid ((ts.take k).foldl gAll [] = out ∧ out.length ≤ k * 4097) ∧ Hid (TRow wr w1.heap.size v out) ∧ Hid (Below w1.heap.size w1 wr))
    (fun _ vi _ => ts.length - (intOf vi).toNat)
  case atStart => exact ⟨0, [], Nat.zero_le _, rfl, Lib.hid ⟨rfl, by simp⟩, Lib.hid (Kd.R_nil _ _ _ _ _), Lib.hid (Below.refl _ _)⟩
  case round =>
    obtain ⟨k, out, hk, rfl, hgo, hrow, hbw⟩ := hrel
    by_cases hlt : k < ts.length
    · have hbr := below_step HB1.out hbw.out
      have hR' := Kd.C_below HC.out hbw.out
      have hlt' : (k : Int) < (ts.length : Int) := by omega
      obtain ⟨ad, rfl, c0, c1, c2, c3⟩ := at_T58 hR' (k : Int) (by omega) hlt'
      simp only [Int.toNat_natCast] at c0 c1 c2 c3
      have hto := HIN.out (rd_T58 ts (k : Int)) (by show ts.getD (k : Int).toNat z58 ∈ ts; simp [List.getD_eq_getElem?_getD, hlt])
      have HGO := Aside0.mk (gAll_take ts k hlt out hgo.out.1)
      generalize rd_T58 ts (k : Int) = t at c0 c1 c2 c3 hto HGO
      have hsz : t.f0.size ≤ 4096 := by have := out_small hto; omega
      have hp2 := pl_pos hto
      have hpl := placesD_len t.f0.data.toList
      have hrl := runes_length t.f0.data.toList
      rw [size_data] at hrl
      have HPL := Aside0.mk hpl
      have HTO := Aside0.mk hto
      clear hpl hto
      have hzw : w1.heap.size ≤ wr.heap.size := hbw.out.size
      have hbA : Below w.heap.size w (wr.alloc (.cells #[.string t.f0, .int .i64 t.f1, .int .i64 t.f2, .int .i64 t.f3] 58)) := hbr.alloc (by have := HB1.out.size; omega) _
      have HA := Aside0.mk (And.intro (HTW.out.step hbA) hbA)
      clear hbA hbr
      have hl2 : (2 : Int) ≤ ((placesD t.f0.data.toList).length : Int) := by have : (placesD t.f0.data.toList).length = (pl t).length := rfl; omega
      have hl3 : ((placesD t.f0.data.toList).length : Int) ≤ 4097 := by have := HPL.out; omega
      go_wp2_with (go_at_call 81; refine (places_c t.f0 (by omega) _ HA.out.1).mono ?_; rintro e w2 ⟨⟨v, rfl, hrow2⟩, hb⟩; obtain ⟨g, c, rfl, hg1, hg2, _, hcp⟩ := places_own hrow2 (by have := HPL.out; omega); have HCP := Aside0.mk hcp; clear hcp; have HX := Aside0.mk (TBox.below (TBox.new wr t) hb); have HRW := Aside0.mk hrow2; have HB2 := Aside0.mk hb; clear hrow2 hb)
      have hmin : min 2 (((placesD t.f0.data.toList).length : Int) - 1) = ((gN t : Nat) : Int) := by
        have : (pl t).length = (placesD t.f0.data.toList).length := rfl
        unfold gN; omega
      have hg1 : 1 ≤ gN t ∧ gN t ≤ 2 ∧ gN t < (placesD t.f0.data.toList).length := by have := gN_pos HTO.out; have h' : (pl t).length = (placesD t.f0.data.toList).length := rfl; unfold gN at *; omega
      rw [hmin]
      have HGA := Aside0.mk (show gAll out t = gRow t out ((placesD t.f0.data.toList).length - gN t) from rfl)
      have HGT := Aside0.mk (fun j i => show gTok t j i = ⟨t.f0.extract ((placesD t.f0.data.toList).getD i 0).toNat ((placesD t.f0.data.toList).getD (i + gN t) 0).toNat, (j : Int), t.f2 + (placesD t.f0.data.toList).getD i 0, t.f2 + (placesD t.f0.data.toList).getD (i + gN t) 0⟩ from rfl)
      clear hmin
      generalize gN t = n at hg1 HGA HGT ⊢
      obtain ⟨hn1, hn2, hn3⟩ := hg1
      have HMO := Aside0.mk (fun i j => placesD_le t.f0.data.toList i j)
      have hbn := fun i => placesD_bounds t.f0.data.toList i
      simp only [size_data] at hbn
      have HBN := Aside0.mk hbn
      clear hbn
      obtain ⟨pc, hpc⟩ : ∃ pc, w2.heap[g]? = some (.cells pc 3 (0, 0)) := own_typed HRW.out g rfl
      have HPV := Aside0.mk (show ∀ i, i < (placesD t.f0.data.toList).length → pc[i]? = some (.int .i64 ((placesD t.f0.data.toList).getD i 0)) from fun i hi => (blk_cell hpc i).symm.trans (HCP.out i hi))
      generalize (placesD t.f0.data.toList) = p at hl2 hl3 hn3 HGA HGT HMO HBN HPV HPL ⊢
      obtain ⟨A0, c0', rfl⟩ := Kd.R_slice hrow.out
      have hR0 : Kd.R k58 58 w2 w1.heap.size (fun k => k ≠ wr.heap.size) (.slice A0 out.length c0') out :=
        Kd.R_below (Kd.R_alloc (Kd.R_mono (ok' := fun k => k ≠ wr.heap.size) (Kd.R_bound hrow.out) (fun k hk => by have := hk.2.2.1; omega)) _) HB2.out
      have hBB : Below w1.heap.size w1 w2 := (hbw.out.alloc hzw _).trans (HB2.out.mono (by simp; omega))
      have HOL := Aside0.mk hgo.out.2
      have HPC := Aside0.mk hpc
      have HR0 := Aside0.mk hR0
      have HBB := Aside0.mk hBB
      have hts : 0 ≤ t.f2 ∧ t.f2 ≤ 4096 := by obtain ⟨a, b, c, _⟩ := HTO.out; omega
      obtain ⟨hts1, hts2⟩ := hts
      have hbo := HOL.out
      have hlen2 : ts.length ≤ 4097 := by omega
      have hol : out.length ≤ 20000000 := by
        have : k * 4097 ≤ 4097 * 4097 := Nat.mul_le_mul_right _ (by omega)
        omega
      clear hbo hpc hR0 hBB hrow hbw hgo c0 c1 c2 c3 hR' HCP HRW
      obtain ⟨wo, rfl⟩ : ∃ wo : World, wo = wr := ⟨_, rfl⟩
      go_loopw [6, 11] (fun v vi wi => ∃ i : Nat, i + n ≤ p.length ∧ vi = .int .i64 i ∧ Hid (Kd.R k58 58 wi w1.heap.size (fun k => k ≠ wo.heap.size) v (gRow t out i)) ∧ Hid (TBox wi wo.heap.size t) ∧ Hid (wi.heap[g]? = some (.cells pc 3 (0, 0))) ∧ Hid (Below w1.heap.size w1 wi))
        (fun _ vi _ => p.length - (intOf vi).toNat)
      case atStart => exact ⟨0, by omega, rfl, Lib.hid (by rw [gRow_zero]; exact HR0.out), Lib.hid HX.out, Lib.hid HPC.out, Lib.hid HBB.out⟩
      case round =>
        obtain ⟨i, hi, rfl, hRi, hXi, hPi, hBi⟩ := hrel
        by_cases hil : i + n < p.length
        · have e1 := HPV.out i (by omega)
          have e2 := HPV.out (i + n) hil
          have z12 := HMO.out i (i + n) (by omega) hil
          have z0 := (HBN.out i).1
          have z3 := (HBN.out (i + n)).2
          have HGS := Aside0.mk (gRow_succ t out i)
          rw [HGT.out] at HGS
          obtain ⟨Ai, ci, rfl⟩ := Kd.R_slice hRi.out
          have HLN := Aside0.mk (gRow_len t out i)
          rw [HLN.out] at HGS
          have HRi := Aside0.mk hRi.out
          rw [HLN.out] at HRi
          have HXd := Aside0.mk (TBox.drew hXi.out)
          have HPd := Aside0.mk (show wr.drew.heap[g]? = some (.cells pc 3 (0, 0)) from hPi.out)
          have HRd := Aside0.mk (Kd.R_drew HRi.out)
          have HBd := Aside0.mk (below_drew1 hBi.out)
          have HZ1 := Aside0.mk e1
          have HZ2 := Aside0.mk e2
          have kx0 := HXd.out.c0
          have kx2 := HXd.out.c2
          have kz1 := (blk_cell HPd.out i).trans e1
          have kz2 := (blk_cell HPd.out (i + n)).trans e2
          clear e1 e2 hRi hXi hPi hBi HRi HGO
          generalize p.getD i 0 = z1 at z12 z0 HZ1 kz1 HGS
          generalize p.getD (i + n) 0 = z2 at z12 z3 HZ2 kz2 HGS
          have hL : out.length + i ≤ 30000000 := by omega
          have hLi : ((out.length + i : Nat) : Int) ≤ 30000000 := by omega
          generalize out.length + i = L at HLN HGS hL hLi HRd ⊢
          rw [HLN.out]
          have i1 : (i : Int) < (p.length : Int) := by omega
          have i2 : (i : Int) + (n : Int) < (p.length : Int) := by omega
          have i3 : (0 : Int) ≤ (i : Int) := by omega
          have i4 : (0 : Int) ≤ (i : Int) + (n : Int) := by omega
          have i5 : 0 ≤ z2 := by omega
          have i6 : z2 ≤ 4096 := by omega
          have i7 : z1 ≤ 4096 := by omega
          have i8 : ((i : Int) + (n : Int)).toNat = i + n := by omega
          have w_1 : IntKind.i64.wrap ((i : Int) + (n : Int)) = (i : Int) + (n : Int) := wrap_small _ (by omega) (by omega)
          have w_2 : IntKind.i64.wrap (t.f2 + z1) = t.f2 + z1 := wrap_small _ (by omega) (by omega)
          have w_3 : IntKind.i64.wrap (t.f2 + z2) = t.f2 + z2 := wrap_small _ (by omega) (by omega)
          go_wp2
          refine wp_normal ?_
          refine start_ (n := 36) (S := fun w' => w'.cell? ⟨wo.heap.size, 0, none⟩ = some (.string t.f0) ∧ w'.cell? ⟨wo.heap.size, 2, none⟩ = some (.int .i64 t.f2) ∧ w'.cell? ⟨g, i, none⟩ = some (.int .i64 z1) ∧ w'.cell? ⟨g, i + n, none⟩ = some (.int .i64 z2)) (ds := []) #[false, false, false, false, false, false, false, false, false, false, false, false, false, false, false, false, false, false, false, false, false, false, false, false, false, false, false, false, false, false, false, false, false, false, false, false] (by kernel_rfl) rfl rfl ⟨kx0, kx2, kz1, kz2⟩ (fun hHeld => ?_)
          generalize wr.drew = wd at hHeld HXd HPd HRd HBd kx0 kx2 kz1 kz2 ⊢
          refine pure_ (i := 0) (N := some 49) (v := ?_) (a' := ?_) #[true, false, false, false, false, false, false, false, false, false, false, false, false, false, false, false, false, false, false, false, false, false, false, false, false, false, false, false, false, false, false, false, false, false, false, false] rfl rfl (by kernel_rfl) (fun _ _ _ h => h) (Or.inl ⟨by rfl, ?_⟩) ?_ ?_
          rotate_left
          · intro w'
            go_simp
            with_reducible rfl
          rotate_left
          · simp only [Act.put, List.setIfInBounds_toArray, List.set_cons_zero, List.set_cons_succ, i64_w, i32_w]
            rfl
          refine pure_ (i := 1) (N := some 50) (v := ?_) (a' := ?_) #[true, true, false, false, false, false, false, false, false, false, false, false, false, false, false, false, false, false, false, false, false, false, false, false, false, false, false, false, false, false, false, false, false, false, false, false] rfl rfl (by kernel_rfl) (fun _ _ _ h => h) (Or.inl ⟨by rfl, ?_⟩) ?_ ?_
          rotate_left
          · intro w'
            go_simp
            with_reducible rfl
          rotate_left
          · simp only [Act.put, List.setIfInBounds_toArray, List.set_cons_zero, List.set_cons_succ, i64_w, i32_w]
            rfl
          refine pure_ (i := 3) (N := some 52) (v := ?_) (a' := ?_) #[true, true, false, true, false, false, false, false, false, false, false, false, false, false, false, false, false, false, false, false, false, false, false, false, false, false, false, false, false, false, false, false, false, false, false, false] rfl rfl (by kernel_rfl) (fun _ _ _ h => h) (Or.inl ⟨by rfl, ?_⟩) ?_ ?_
          rotate_left
          · intro w'
            go_simp
            with_reducible rfl
          rotate_left
          · simp only [Act.put, List.setIfInBounds_toArray, List.set_cons_zero, List.set_cons_succ, i64_w, i32_w]
            rfl
          refine pure_ (i := 4) (N := some 53) (v := ?_) (a' := ?_) #[true, true, false, true, true, false, false, false, false, false, false, false, false, false, false, false, false, false, false, false, false, false, false, false, false, false, false, false, false, false, false, false, false, false, false, false] rfl rfl (by kernel_rfl) (fun _ _ _ h => h) (Or.inl ⟨by rfl, ?_⟩) ?_ ?_
          rotate_left
          · intro w'
            go_simp
            with_reducible rfl
          rotate_left
          · simp only [Act.put, List.setIfInBounds_toArray, List.set_cons_zero, List.set_cons_succ, i64_w, i32_w]
            rfl
          refine pure_ (i := 5) (N := some 54) (v := ?_) (a' := ?_) #[true, true, false, true, true, true, false, false, false, false, false, false, false, false, false, false, false, false, false, false, false, false, false, false, false, false, false, false, false, false, false, false, false, false, false, false] rfl rfl (by kernel_rfl) (fun _ _ _ h => h) (Or.inl ⟨by rfl, ?_⟩) ?_ ?_
          rotate_left
          · intro w'
            go_simp
            with_reducible rfl
          rotate_left
          · simp only [Act.put, List.setIfInBounds_toArray, List.set_cons_zero, List.set_cons_succ, i64_w, i32_w]
            rfl
          refine pure_ (i := 7) (N := some 56) (v := ?_) (a' := ?_) #[true, true, false, true, true, true, false, true, false, false, false, false, false, false, false, false, false, false, false, false, false, false, false, false, false, false, false, false, false, false, false, false, false, false, false, false] rfl rfl (by kernel_rfl) (fun _ _ _ h => h) (Or.inl ⟨by rfl, ?_⟩) ?_ ?_
          rotate_left
          · intro w'
            go_simp
            with_reducible rfl
          rotate_left
          · simp only [Act.put, List.setIfInBounds_toArray, List.set_cons_zero, List.set_cons_succ, i64_w, i32_w]
            rfl
          refine pure_ (i := 8) (N := some 57) (v := ?_) (a' := ?_) #[true, true, false, true, true, true, false, true, true, false, false, false, false, false, false, false, false, false, false, false, false, false, false, false, false, false, false, false, false, false, false, false, false, false, false, false] rfl rfl (by kernel_rfl) (fun _ _ _ h => h) (Or.inl ⟨by rfl, ?_⟩) ?_ ?_
          rotate_left
          · intro w'
            go_simp
            with_reducible rfl
          rotate_left
          · simp only [Act.put, List.setIfInBounds_toArray, List.set_cons_zero, List.set_cons_succ, i64_w, i32_w]
            rfl
          refine pure_ (i := 9) (N := some 58) (v := ?_) (a' := ?_) #[true, true, false, true, true, true, false, true, true, true, false, false, false, false, false, false, false, false, false, false, false, false, false, false, false, false, false, false, false, false, false, false, false, false, false, false] rfl rfl (by kernel_rfl) (fun _ _ _ h => h) (Or.inl ⟨by rfl, ?_⟩) ?_ ?_
          rotate_left
          · intro w'
            go_simp
            with_reducible rfl
          rotate_left
          · simp only [Act.put, List.setIfInBounds_toArray, List.set_cons_zero, List.set_cons_succ, i64_w, i32_w]
            rfl
          refine pure_ (i := 10) (N := some 59) (v := ?_) (a' := ?_) #[true, true, false, true, true, true, false, true, true, true, true, false, false, false, false, false, false, false, false, false, false, false, false, false, false, false, false, false, false, false, false, false, false, false, false, false] rfl rfl (by kernel_rfl) (fun _ _ _ h => h) (Or.inl ⟨by rfl, ?_⟩) ?_ ?_
          rotate_left
          · intro w'
            go_simp
            with_reducible rfl
          rotate_left
          · simp only [Act.put, List.setIfInBounds_toArray, List.set_cons_zero, List.set_cons_succ, i64_w, i32_w]
            rfl
          refine pure_ (i := 11) (N := some 60) (v := ?_) (a' := ?_) #[true, true, false, true, true, true, false, true, true, true, true, true, false, false, false, false, false, false, false, false, false, false, false, false, false, false, false, false, false, false, false, false, false, false, false, false] rfl rfl (by kernel_rfl) (fun _ _ _ h => h) (Or.inl ⟨by rfl, ?_⟩) ?_ ?_
          rotate_left
          · intro w'
            go_simp
            with_reducible rfl
          rotate_left
          · simp only [Act.put, List.setIfInBounds_toArray, List.set_cons_zero, List.set_cons_succ, i64_w, i32_w]
            rfl
          refine pure_ (i := 14) (N := some 63) (v := ?_) (a' := ?_) #[true, true, false, true, true, true, false, true, true, true, true, true, false, false, true, false, false, false, false, false, false, false, false, false, false, false, false, false, false, false, false, false, false, false, false, false] rfl rfl (by kernel_rfl) (fun _ _ _ h => h) (Or.inl ⟨by rfl, ?_⟩) ?_ ?_
          rotate_left
          · intro w'
            go_simp
            with_reducible rfl
          rotate_left
          · simp only [Act.put, List.setIfInBounds_toArray, List.set_cons_zero, List.set_cons_succ, i64_w, i32_w]
            rfl
          refine pure_ (i := 15) (N := some 64) (v := ?_) (a' := ?_) #[true, true, false, true, true, true, false, true, true, true, true, true, false, false, true, true, false, false, false, false, false, false, false, false, false, false, false, false, false, false, false, false, false, false, false, false] rfl rfl (by kernel_rfl) (fun _ _ _ h => h) (Or.inl ⟨by rfl, ?_⟩) ?_ ?_
          rotate_left
          · intro w'
            go_simp
            with_reducible rfl
          rotate_left
          · simp only [Act.put, List.setIfInBounds_toArray, List.set_cons_zero, List.set_cons_succ, i64_w, i32_w]
            rfl
          refine pure_ (i := 16) (N := some 65) (v := ?_) (a' := ?_) #[true, true, false, true, true, true, false, true, true, true, true, true, false, false, true, true, true, false, false, false, false, false, false, false, false, false, false, false, false, false, false, false, false, false, false, false] rfl rfl (by kernel_rfl) (fun _ _ _ h => h) (Or.inl ⟨by rfl, ?_⟩) ?_ ?_
          rotate_left
          · intro w'
            go_simp
            with_reducible rfl
          rotate_left
          · simp only [Act.put, List.setIfInBounds_toArray, List.set_cons_zero, List.set_cons_succ, i64_w, i32_w]
            rfl
          refine pure_ (i := 18) (N := some 67) (v := ?_) (a' := ?_) #[true, true, false, true, true, true, false, true, true, true, true, true, false, false, true, true, true, false, true, false, false, false, false, false, false, false, false, false, false, false, false, false, false, false, false, false] rfl rfl (by kernel_rfl) (fun _ _ _ h => h) (Or.inl ⟨by rfl, ?_⟩) ?_ ?_
          rotate_left
          · intro w'
            go_simp
            with_reducible rfl
          rotate_left
          · simp only [Act.put, List.setIfInBounds_toArray, List.set_cons_zero, List.set_cons_succ, i64_w, i32_w]
            rfl
          refine pure_ (i := 19) (N := some 68) (v := ?_) (a' := ?_) #[true, true, false, true, true, true, false, true, true, true, true, true, false, false, true, true, true, false, true, true, false, false, false, false, false, false, false, false, false, false, false, false, false, false, false, false] rfl rfl (by kernel_rfl) (fun _ _ _ h => h) (Or.inl ⟨by rfl, ?_⟩) ?_ ?_
          rotate_left
          · intro w'
            go_simp
            with_reducible rfl
          rotate_left
          · simp only [Act.put, List.setIfInBounds_toArray, List.set_cons_zero, List.set_cons_succ, i64_w, i32_w]
            rfl
          refine pure_ (i := 20) (N := some 69) (v := ?_) (a' := ?_) #[true, true, false, true, true, true, false, true, true, true, true, true, false, false, true, true, true, false, true, true, true, false, false, false, false, false, false, false, false, false, false, false, false, false, false, false] rfl rfl (by kernel_rfl) (fun _ _ _ h => h) (Or.inl ⟨by rfl, ?_⟩) ?_ ?_
          rotate_left
          · intro w'
            go_simp
            with_reducible rfl
          rotate_left
          · simp only [Act.put, List.setIfInBounds_toArray, List.set_cons_zero, List.set_cons_succ, i64_w, i32_w]
            rfl
          refine pure_ (i := 23) (N := some 72) (v := ?_) (a' := ?_) #[true, true, false, true, true, true, false, true, true, true, true, true, false, false, true, true, true, false, true, true, true, false, false, true, false, false, false, false, false, false, false, false, false, false, false, false] rfl rfl (by kernel_rfl) (fun _ _ _ h => h) (Or.inl ⟨by rfl, ?_⟩) ?_ ?_
          rotate_left
          · intro w'
            go_simp
            with_reducible rfl
          rotate_left
          · simp only [Act.put, List.setIfInBounds_toArray, List.set_cons_zero, List.set_cons_succ, i64_w, i32_w]
            rfl
          refine pure_ (i := 25) (N := some 74) (v := ?_) (a' := ?_) #[true, true, false, true, true, true, false, true, true, true, true, true, false, false, true, true, true, false, true, true, true, false, false, true, false, true, false, false, false, false, false, false, false, false, false, false] rfl rfl (by kernel_rfl) (fun _ _ _ h => h) (Or.inl ⟨by rfl, ?_⟩) ?_ ?_
          rotate_left
          · intro w'
            go_simp
            with_reducible rfl
          rotate_left
          · simp only [Act.put, List.setIfInBounds_toArray, List.set_cons_zero, List.set_cons_succ, i64_w, i32_w]
            rfl
          refine pure_ (i := 26) (N := some 75) (v := ?_) (a' := ?_) #[true, true, false, true, true, true, false, true, true, true, true, true, false, false, true, true, true, false, true, true, true, false, false, true, false, true, true, false, false, false, false, false, false, false, false, false] rfl rfl (by kernel_rfl) (fun _ _ _ h => h) (Or.inl ⟨by rfl, ?_⟩) ?_ ?_
          rotate_left
          · intro w'
            go_simp
            with_reducible rfl
          rotate_left
          · simp only [Act.put, List.setIfInBounds_toArray, List.set_cons_zero, List.set_cons_succ, i64_w, i32_w]
            rfl
          refine pure_ (i := 27) (N := some 76) (v := ?_) (a' := ?_) #[true, true, false, true, true, true, false, true, true, true, true, true, false, false, true, true, true, false, true, true, true, false, false, true, false, true, true, true, false, false, false, false, false, false, false, false] rfl rfl (by kernel_rfl) (fun _ _ _ h => h) (Or.inl ⟨by rfl, ?_⟩) ?_ ?_
          rotate_left
          · intro w'
            go_simp
            with_reducible rfl
          rotate_left
          · simp only [Act.put, List.setIfInBounds_toArray, List.set_cons_zero, List.set_cons_succ, i64_w, i32_w]
            rfl
          refine pure_ (i := 28) (N := some 77) (v := ?_) (a' := ?_) #[true, true, false, true, true, true, false, true, true, true, true, true, false, false, true, true, true, false, true, true, true, false, false, true, false, true, true, true, true, false, false, false, false, false, false, false] rfl rfl (by kernel_rfl) (fun _ _ _ h => h) (Or.inl ⟨by rfl, ?_⟩) ?_ ?_
          rotate_left
          · intro w'
            go_simp
            with_reducible rfl
          rotate_left
          · simp only [Act.put, List.setIfInBounds_toArray, List.set_cons_zero, List.set_cons_succ, i64_w, i32_w]
            rfl
          refine pure_ (i := 29) (N := some 78) (v := ?_) (a' := ?_) #[true, true, false, true, true, true, false, true, true, true, true, true, false, false, true, true, true, false, true, true, true, false, false, true, false, true, true, true, true, true, false, false, false, false, false, false] rfl rfl (by kernel_rfl) (fun _ _ _ h => h) (Or.inl ⟨by rfl, ?_⟩) ?_ ?_
          rotate_left
          · intro w'
            go_simp
            with_reducible rfl
          rotate_left
          · simp only [Act.put, List.setIfInBounds_toArray, List.set_cons_zero, List.set_cons_succ, i64_w, i32_w]
            rfl
          refine take_ (i := 2) (N := some 51) (v := ?_) (a' := ?_) #[true, true, true, true, true, true, false, true, true, true, true, true, false, false, true, true, true, false, true, true, true, false, false, true, false, true, true, true, true, true, false, false, false, false, false, false] rfl rfl (by kernel_rfl) (fun _ _ _ h => h) (Or.inl ⟨by rfl, ?_⟩) hHeld ?_ ?_
          rotate_left
          · rintro w' ⟨s0, s1, s2, s3⟩
            go_simp
            with_reducible rfl
          rotate_left
          · simp only [Act.put, List.setIfInBounds_toArray, List.set_cons_zero, List.set_cons_succ, i64_w, i32_w]
            rfl
          refine take_ (i := 6) (N := some 55) (v := ?_) (a' := ?_) #[true, true, true, true, true, true, true, true, true, true, true, true, false, false, true, true, true, false, true, true, true, false, false, true, false, true, true, true, true, true, false, false, false, false, false, false] rfl rfl (by kernel_rfl) (fun _ _ _ h => h) (Or.inl ⟨by rfl, ?_⟩) hHeld ?_ ?_
          rotate_left
          · rintro w' ⟨s0, s1, s2, s3⟩
            go_simp
            with_reducible rfl
          rotate_left
          · simp only [Act.put, List.setIfInBounds_toArray, List.set_cons_zero, List.set_cons_succ, i64_w, i32_w]
            rfl
          refine take_ (i := 12) (N := some 61) (v := ?_) (a' := ?_) #[true, true, true, true, true, true, true, true, true, true, true, true, true, false, true, true, true, false, true, true, true, false, false, true, false, true, true, true, true, true, false, false, false, false, false, false] rfl rfl (by kernel_rfl) (fun _ _ _ h => h) (Or.inl ⟨by rfl, ?_⟩) hHeld ?_ ?_
          rotate_left
          · rintro w' ⟨s0, s1, s2, s3⟩
            go_simp
            with_reducible rfl
          rotate_left
          · simp only [Act.put, List.setIfInBounds_toArray, List.set_cons_zero, List.set_cons_succ, i64_w, i32_w]
            rfl
          refine pure_ (i := 13) (N := some 62) (v := ?_) (a' := ?_) #[true, true, true, true, true, true, true, true, true, true, true, true, true, true, true, true, true, false, true, true, true, false, false, true, false, true, true, true, true, true, false, false, false, false, false, false] rfl rfl (by kernel_rfl) (fun _ _ _ h => h) (Or.inl ⟨by rfl, ?_⟩) ?_ ?_
          rotate_left
          · intro w'
            go_simp
            with_reducible rfl
          rotate_left
          · simp only [Act.put, List.setIfInBounds_toArray, List.set_cons_zero, List.set_cons_succ, i64_w, i32_w]
            rfl
          refine take_ (i := 17) (N := some 66) (v := ?_) (a' := ?_) #[true, true, true, true, true, true, true, true, true, true, true, true, true, true, true, true, true, true, true, true, true, false, false, true, false, true, true, true, true, true, false, false, false, false, false, false] rfl rfl (by kernel_rfl) (fun _ _ _ h => h) (Or.inl ⟨by rfl, ?_⟩) hHeld ?_ ?_
          rotate_left
          · rintro w' ⟨s0, s1, s2, s3⟩
            go_simp
            with_reducible rfl
          rotate_left
          · simp only [Act.put, List.setIfInBounds_toArray, List.set_cons_zero, List.set_cons_succ, i64_w, i32_w]
            rfl
          refine take_ (i := 21) (N := some 70) (v := ?_) (a' := ?_) #[true, true, true, true, true, true, true, true, true, true, true, true, true, true, true, true, true, true, true, true, true, true, false, true, false, true, true, true, true, true, false, false, false, false, false, false] rfl rfl (by kernel_rfl) (fun _ _ _ h => h) (Or.inl ⟨by rfl, ?_⟩) hHeld ?_ ?_
          rotate_left
          · rintro w' ⟨s0, s1, s2, s3⟩
            go_simp
            with_reducible rfl
          rotate_left
          · simp only [Act.put, List.setIfInBounds_toArray, List.set_cons_zero, List.set_cons_succ, i64_w, i32_w]
            rfl
          refine pure_ (i := 22) (N := some 71) (v := ?_) (a' := ?_) #[true, true, true, true, true, true, true, true, true, true, true, true, true, true, true, true, true, true, true, true, true, true, true, true, false, true, true, true, true, true, false, false, false, false, false, false] rfl rfl (by kernel_rfl) (fun _ _ _ h => h) (Or.inl ⟨by rfl, ?_⟩) ?_ ?_
          rotate_left
          · intro w'
            go_simp
            with_reducible rfl
          rotate_left
          · simp only [Act.put, List.setIfInBounds_toArray, List.set_cons_zero, List.set_cons_succ, i64_w, i32_w]
            rfl
          refine take_ (i := 24) (N := some 73) (v := ?_) (a' := ?_) #[true, true, true, true, true, true, true, true, true, true, true, true, true, true, true, true, true, true, true, true, true, true, true, true, true, true, true, true, true, true, false, false, false, false, false, false] rfl rfl (by kernel_rfl) (fun _ _ _ h => h) (Or.inl ⟨by rfl, ?_⟩) hHeld ?_ ?_
          rotate_left
          · rintro w' ⟨s0, s1, s2, s3⟩
            go_simp
            with_reducible rfl
          rotate_left
          · simp only [Act.put, List.setIfInBounds_toArray, List.set_cons_zero, List.set_cons_succ, i64_w, i32_w]
            rfl
          refine take_ (i := 30) (N := some 79) (v := ?_) (a' := ?_) #[true, true, true, true, true, true, true, true, true, true, true, true, true, true, true, true, true, true, true, true, true, true, true, true, true, true, true, true, true, true, true, false, false, false, false, false] rfl rfl (by kernel_rfl) (fun _ _ _ h => h) (Or.inl ⟨by rfl, ?_⟩) hHeld ?_ ?_
          rotate_left
          · rintro w' ⟨s0, s1, s2, s3⟩
            go_simp
            with_reducible rfl
          rotate_left
          · simp only [Act.put, List.setIfInBounds_toArray, List.set_cons_zero, List.set_cons_succ, i64_w, i32_w]
            rfl
          refine pure_ (i := 31) (N := some 80) (v := ?_) (a' := ?_) #[true, true, true, true, true, true, true, true, true, true, true, true, true, true, true, true, true, true, true, true, true, true, true, true, true, true, true, true, true, true, true, true, false, false, false, false] rfl rfl (by kernel_rfl) (fun _ _ _ h => h) (Or.inl ⟨by rfl, ?_⟩) ?_ ?_
          rotate_left
          · intro w'
            go_simp
            with_reducible rfl
          rotate_left
          · simp only [Act.put, List.setIfInBounds_toArray, List.set_cons_zero, List.set_cons_succ, i64_w, i32_w]
            rfl
          refine pure_ (i := 32) (N := some 81) (v := ?_) (a' := ?_) #[true, true, true, true, true, true, true, true, true, true, true, true, true, true, true, true, true, true, true, true, true, true, true, true, true, true, true, true, true, true, true, true, true, false, false, false] rfl rfl (by kernel_rfl) (fun _ _ _ h => h) (Or.inl ⟨by rfl, ?_⟩) ?_ ?_
          rotate_left
          · intro w'
            go_simp
            with_reducible rfl
          rotate_left
          · simp only [Act.put, List.setIfInBounds_toArray, List.set_cons_zero, List.set_cons_succ, i64_w, i32_w]
            rfl
          refine one_ (i := 33) (N := some 82) #[true, true, true, true, true, true, true, true, true, true, true, true, true, true, true, true, true, true, true, true, true, true, true, true, true, true, true, true, true, true, true, true, true, true, false, false] rfl rfl (by kernel_rfl) (by decide) (fun K hK => ?_)
          refine value_ (w1 := ?_) (v := ?_) (by rfl) rfl ?_ ?_
          rotate_left 2
          · go_simp
            constructor
            · rfl
            · rfl
          have zz := trivial
          refine hK.out _ _ ⟨cell_al kx0 _, cell_al kx2 _, cell_al kz1 _, cell_al kz2 _⟩ (fun hHeld => ?_)
          clear hK K
          refine norm_ (a' := ?_) ?_ ?_
          rotate_left
          · show Act.put _ (some 82) _ = _
            simp only [Act.put, List.setIfInBounds_toArray, List.set_cons_zero, List.set_cons_succ, i64_w, i32_w]
            rfl
          refine one_ (i := 34) (N := some 83) #[true, true, true, true, true, true, true, true, true, true, true, true, true, true, true, true, true, true, true, true, true, true, true, true, true, true, true, true, true, true, true, true, true, true, true, false] rfl rfl (by kernel_rfl) (by decide) (fun K hK => ?_)
          refine Kd.R_append_step k58 (w0 := w1) w1.heap.size rfl (.tmp 49) (.tmp 82) 42 58 (.agg #[(.string ⟨#[]⟩), (.int .i64 0), (.int .i64 0), (.int .i64 0)]) 40 rfl Tryd.underlying42 info58' rfl (by decide) (by omega) (.slice Ai L ci) (gRow t out i) (⟨t.f0.extract z1.toNat z2.toNat, L, t.f2 + z1, t.f2 + z2⟩ : S58) (cellsT1 ⟨t.f0.extract z1.toNat z2.toNat, L, t.f2 + z1, t.f2 + z2⟩) (fun k => k ≠ wo.heap.size) (fun _ => False) rfl rfl (k58_mkM _ _ _ _) (fun _ h => h.elim) (fun k hk => by have := HXd.out.lt; omega) HRd.out HBd.out (by have := HXd.out.lt; omega) (by have := HLN.out; omega) ?_
          intro v1 w3 ho1 hb1 hg1 hat1
          have mx := box_grown HXd.out hg1 HRd.out.1
          have mp := (hg1.block g (blk_lt HPd.out) (Kd.R_ne HRd.out HPd.out (by decide))).trans HPd.out
          have HO1 := Aside0.mk ho1
          have HB3 := Aside0.mk hb1
          have HX3 := Aside0.mk mx
          have HP3 := Aside0.mk mp
          clear ho1 hb1 hg1 hat1
          refine hK.out _ _ ⟨HX3.out.c0, HX3.out.c2, (blk_cell HP3.out i).trans HZ1.out, (blk_cell HP3.out (i + n)).trans HZ2.out⟩ (fun hHeld => ?_)
          clear hK K
          refine norm_ (a' := ?_) ?_ ?_
          rotate_left
          · show Act.put _ (some 83) _ = _
            simp only [Act.put, List.setIfInBounds_toArray, List.set_cons_zero, List.set_cons_succ, i64_w, i32_w]
            rfl
          refine pure_ (i := 35) (N := some 6) (v := ?_) (a' := ?_) #[true, true, true, true, true, true, true, true, true, true, true, true, true, true, true, true, true, true, true, true, true, true, true, true, true, true, true, true, true, true, true, true, true, true, true, true] rfl rfl (by kernel_rfl) (fun _ _ _ h => h) (Or.inl ⟨by rfl, ?_⟩) ?_ ?_
          rotate_left
          · intro w'
            go_simp
            with_reducible rfl
          rotate_left
          · simp only [Act.put, List.setIfInBounds_toArray, List.set_cons_zero, List.set_cons_succ, i64_w, i32_w]
            rfl
          refine done_ (by kernel_rfl) ?_
          go_wp2
          go_roundw
          case rel => exact ⟨i + 1, by omega, by go_num, Lib.hid (by rw [HGS.out]; exact HO1.out), Lib.hid HX3.out, Lib.hid HP3.out, Lib.hid HB3.out⟩
          case measure => simp [intOf]; omega
        · obtain rfl : i = p.length - n := by omega
          have i2 : ¬ ((p.length - n : Nat) : Int) + (n : Int) < (p.length : Int) := by omega
          obtain ⟨Ai, ci, rfl⟩ := Kd.R_slice hRi.out
          have HGL := Aside0.mk (gRow_len t out (p.length - n))
          go_wp2
          go_roundw
          case rel => exact ⟨k + 1, gRow t out (p.length - n), by omega, by go_num, Lib.hid ⟨by rw [HGO.out, HGA.out], by have := HGL.out; have := HOL.out; omega⟩, Lib.hid (Kd.R_mono hRi.out (fun _ _ => trivial)), Lib.hid hBi.out⟩
          case measure => simp [intOf]; omega
    · obtain rfl : k = ts.length := by omega
      have HG := Aside0.mk (show gramsD ts = out by have := hgo.out.1; rw [List.take_length] at this; exact this)
      have hrow' := hrow.out
      have hbb := hbw.out
      have hlt' : ¬ ((ts.length : Nat) : Int) < (ts.length : Int) := by omega
      clear hgo hrow hbw
      go_wp2
      go_ret
      refine ⟨⟨u6, rfl, ?_⟩, below_step HB1.out hbb⟩
      rw [HG.out]
      exact Kd.R_lower hrow' HB1.out.size
theorem tokens_c (number : Int) (s : ByteArray) (hs : s.size ≤ 4096) (w : World) (ht : Tabs w) :
    Calls Tryd.prog 61 #[.int .i64 number, .string s] w fun e w' => (∃ v, e = .returned v ∧ TRow w' w.heap.size v (tokensD number s)) ∧ Below w.heap.size w w' := by
  by_cases h1 : number = 1
  · exact tokens_easy number (.inl h1) s (by omega) w ht
  by_cases h2 : number = 2
  · exact tokens_easy number (.inr (.inl h2)) s (by omega) w ht
  by_cases h3 : number = 3
  · exact tokens_easy number (.inr (.inr h3)) s (by omega) w ht
  exact tokens_gram number h1 h2 h3 s hs w ht
end Go.Proofs.YtgbphkckiekehaaDoor.Ana

set_option linter.unusedVariables false
set_option linter.unusedSimpArgs false
namespace Go.Proofs.YtgbphkckiekehaaDoor.Ana
open Go.RowKit Go.Shelf Go.Proofs.YtgbphkckiekehaaDoor.QRef Go.Proofs.YtgbphkckiekehaaDoorW.PrintWords Go.Proofs.YtgbphkckiekehaaDoorW.PrintLast Go.Proofs.FoldPlain Go.Proofs.FoldText Go.Proofs.YtgbphkckiekehaaDoor.FoldRef Go.Proofs.YtgbphkckiekehaaDoor.FoldW Go.Proofs.YtgbphkckiekehaaDoor.FoldF Go.Proofs.YtgbphkckiekehaaDoor.FoldP

/-- What find hands back, as far as it is asked for. -/
theorem find_no (n : Int) (h : filtF n = none) (w : World) : Calls Tryd.prog 58 #[.int .i64 n] w fun e w' => e = .returned .nilFunc ∧ Below w.heap.size w w' := by
  refine (find_c n w).mono ?_
  rintro e w' ⟨rfl, rfl⟩
  unfold filtF at h
  unfold findV findW
  repeat' split at h
  all_goals first | cases h | skip
  rename_i h0 h1 h2 h3 h4 h5
  rw [if_neg h0, if_neg h1, if_neg h2, if_neg h3, if_neg h4, if_neg h5, if_neg h2, if_neg h3]
  exact ⟨rfl, Below.refl _ _⟩
theorem find_yes (n : Int) (f : S58 → List S58) (h : filtF n = some f) (w : World) : Calls Tryd.prog 58 #[.int .i64 n] w fun e w' => (∃ fid lb, e = .returned (.func (.func fid) #[] lb)) ∧ Below w.heap.size w w' := by
  refine (find_c n w).mono ?_
  rintro e w' ⟨rfl, rfl⟩
  unfold filtF at h
  unfold findV findW
  by_cases h0 : n = 10
  · subst h0; exact ⟨⟨_, _, rfl⟩, Below.refl _ _⟩
  by_cases h1 : n = 11
  · subst h1; exact ⟨⟨_, _, rfl⟩, Below.refl _ _⟩
  by_cases h2 : n = 12
  · subst h2; exact ⟨⟨_, _, rfl⟩, below_alloc (Below.refl _ _) _⟩
  by_cases h3 : n = 13
  · subst h3; exact ⟨⟨_, _, rfl⟩, below_alloc (Below.refl _ _) _⟩
  by_cases h4 : n = 14
  · subst h4; exact ⟨⟨_, _, rfl⟩, Below.refl _ _⟩
  by_cases h5 : n = 15
  · subst h5; exact ⟨⟨_, _, rfl⟩, Below.refl _ _⟩
  rw [if_neg h0, if_neg h1, if_neg h2, if_neg h3, if_neg h4, if_neg h5] at h
  cases h
theorem ret_i {k : IntKind} {a b : Int} (h : a = b) : Ending.returned (.int k a) = .returned (.int k b) := by rw [h]
def goodAt (r : List Int) (i : Nat) : Bool := (filtF (r.getD i 0)).isSome && !(r.take i).contains (r.getD i 0)
theorem goodR_eq (r : List Int) : goodR r = true ↔ ∀ i, i < r.length → goodAt r i = true := by
  unfold goodR goodAt
  rw [List.all_eq_true]
  simp
theorem infoInt3 : ∃ i, Tryd.prog.info? 3 = some i ∧ i.size = 1 := by
  obtain ⟨i0, hi, _, hs, _⟩ := info_parts infoInt
  exact ⟨i0, hi, hs⟩

set_option maxRecDepth 100000 in
set_option maxHeartbeats 4000000 in
theorem check_c (xs : List Int) (A : Option Addr) (cap : Nat) (hcap : xs.length ≤ cap) (w : World) (hC : Kd.C (Kd.int .i64) w A xs.length xs) :
    Calls Tryd.prog 41 #[.slice A xs.length cap] w fun e w' => e = .returned (.int .i64 (checkD xs)) ∧ Below w.heap.size w w' := by
  have hq1 := eq_func
  have hq2 := eq_nil
  cases hxs : xs with
  | nil =>
    subst hxs
    go_enter Tryd.func41, Tryd.ntmps41
    go_wp2
    go_ret
    exact ⟨rfl, Below.refl _ _⟩
  | cons h r =>
    subst hxs
    obtain ⟨ad, rfl, c0⟩ := Kd.at_int hC 0 (by omega) (by simp)
    rw [show rd (h :: r) 0 = h from rfl] at c0
    have hln : (h :: r).length = r.length + 1 := rfl
    have hmx := hC.2.1
    have had : ad.add (0 : Int).toNat = ad := by show ad.add 0 = ad; unfold Addr.add; rw [if_pos rfl]
    rw [had] at c0
    have HC := Aside0.mk hC
    have HLN := Aside0.mk hln
    clear had hC
    rw [hln] at hcap hmx
    clear hln
    have l1 : ¬ ((r.length + 1 : Nat) : Int) < 1 := by omega
    by_cases h8 : 8 < r.length + 1
    · have e : checkD (h :: r) = 60 := by unfold checkD; simp only; rw [if_pos (.inl h8)]
      rw [e, HLN.out]
      have l8 : (8 : Int) < ((r.length + 1 : Nat) : Int) := by omega
      clear e hq1 hq2
      go_enter Tryd.func41, Tryd.ntmps41
      go_wp2
      go_ret
      exact ⟨rfl, Below.refl _ _⟩
    have l8 : ¬ (8 : Int) < ((r.length + 1 : Nat) : Int) := by omega
    by_cases h1 : h < 1
    · have e : checkD (h :: r) = 60 := by unfold checkD; simp only; rw [if_pos (.inr (.inl h1))]
      rw [e, HLN.out]
      clear e hq1 hq2
      go_enter Tryd.func41, Tryd.ntmps41
      go_wp2
      go_ret
      exact ⟨rfl, Below.refl _ _⟩
    by_cases h4 : 4 < h
    · have e : checkD (h :: r) = 60 := by unfold checkD; simp only; rw [if_pos (.inr (.inr h4))]
      rw [e, HLN.out]
      clear e hq1 hq2
      go_enter Tryd.func41, Tryd.ntmps41
      go_wp2
      go_ret
      exact ⟨rfl, Below.refl _ _⟩
    have e : checkD (h :: r) = if goodR r = true then 0 else 60 := by unfold checkD; simp only; rw [if_neg (by omega)]
    rw [e, HLN.out]
    obtain ⟨i3, hi3, hs3⟩ := infoInt3
    have hCr := Kd.C_drop (m := 1) HC.out (by rw [HLN.out]; omega) (by rw [HLN.out]; exact hcap)
    rw [show (h :: r).drop 1 = r from rfl] at hCr
    have hct0 := cut_from (P := Tryd.prog) 25 3 .i64 Tryd.underlying25 hi3 1 hs3 (some ad) (r.length + 1) cap 1 (by omega) (by omega)
    have hcm0 := fun (k : Nat) (hk : k ≤ r.length) => cut_mid (P := Tryd.prog) 25 3 .i64 .i64 Tryd.underlying25 hi3 1 hs3 (some ad) (r.length + 1) cap 1 ((k : Int) + 1) (by omega) (by omega) (by omega) hcap
    have e1 : (1 : Int).toNat = 1 := rfl
    have e2 : ∀ k : Nat, ((k : Int) + 1).toNat - 1 = k := fun k => by omega
    simp only [e1, e2, Nat.add_sub_cancel] at hct0 hcm0
    rw [show (1 : Nat) * (Kd.int .i64).sz = 1 * 1 from rfl] at hCr
    generalize (if cap = 1 then some ad else Option.map (fun x => Addr.add x (1 * 1)) (some ad)) = A' at hCr hct0 hcm0
    have HCR := Aside0.mk hCr
    have HCM := Aside0.mk hcm0
    have hct := hct0
    have HGR := Aside0.mk (goodR_eq r)
    clear hi3 hs3 hCr hct0 hcm0 e1 e2 e HC
    have l1 : ¬ ((r.length : Int) + 1 < 1) := by omega
    have l8 : ¬ ((8 : Int) < (r.length : Int) + 1) := by omega
    have l9 : r.length ≤ 8 := by omega
    have l1b : decide ((r.length : Int) + 1 < 1) = false := decide_eq_false l1
    have l8b : decide ((8 : Int) < (r.length : Int) + 1) = false := decide_eq_false l8
    obtain ⟨res, hres⟩ : ∃ res : Int, res = if goodR r = true then 0 else 60 := ⟨_, rfl⟩
    rw [← hres]
    have HRS := Aside0.mk hres
    clear hres
    go_enter Tryd.func41, Tryd.ntmps41
    go_wp2
    go_loopw [28] (fun vi wr => ∃ k : Nat, k ≤ r.length ∧ vi = .int .i64 k ∧ Hid (∀ i, i < k → goodAt r i = true) ∧ Hid (Below w.heap.size w wr))
      (fun vi _ => r.length - (intOf vi).toNat)
    case atStart => exact ⟨0, Nat.zero_le _, rfl, Lib.hid (fun i hi => absurd hi (by omega)), Lib.hid (Below.refl _ _)⟩
    case round =>
      obtain ⟨k, hk, rfl, hgd, hB⟩ := hrel
      by_cases hlt : k < r.length
      · have hCk := Kd.C_below HCR.out hB.out
        obtain ⟨ad', hA', ck⟩ := Kd.at_int hCk (k : Int) (by omega) (by omega)
        subst hA'
        rw [rd_get r k hlt, Int.toNat_natCast] at ck
        have hcm := HCM.out k (by omega)
        have HCK := Aside0.mk (Kd.C_take (m := k) hCk (by omega))
        have htl : (r.take k).length = k := by rw [List.length_take]; omega
        rw [htl] at HCK
        have HGA := Aside0.mk (show goodAt r k = ((filtF r[k]).isSome && !(r.take k).contains r[k]) by unfold goodAt; rw [show r.getD k 0 = r[k] by simp [List.getD_eq_getElem?_getD, hlt]])
        have hco : ∀ W, Kd.C (Kd.int .i64) W (some ad') k (r.take k) → Calls Tryd.prog 63 #[.slice (some ad') k (cap - 1), .int .i64 r[k]] W fun e w' => e = .returned (.bool ((r.take k).contains r[k])) ∧ Below W.heap.size W w' := fun W hW => by
          have := slices_Contains_int_int.calls _ (some ad') (cap - 1) (r.take k) r[k] _ W (by rw [htl]; exact hW) (by omega) (contains_f (r.take k) r[k] (by omega))
          rw [htl] at this
          exact this.mono fun _ _ ⟨a, b⟩ => ⟨a, drawn_below b⟩
        clear hCk htl
        generalize r[k] = x at ck HGA hco
        generalize (r.take k).contains x = B at HGA hco
        have i1 : (k : Int) < (r.length : Int) := by omega
        cases hf : filtF x with
        | none =>
          rw [hf] at HGA
          have hfn := find_no x hf
          have hbad : res = 60 := by
            rw [HRS.out, if_neg (fun hg => ?_)]
            have := HGR.out.1 hg k hlt
            rw [HGA.out] at this
            exact absurd this (by simp)
          have HBD := Aside0.mk hbad
          clear hf hbad hco hcm hct
          go_wp2_with (go_at_call 58; refine (hfn _).mono ?_; clear hfn; rintro e w1 ⟨rfl, hb1⟩)
          go_ret
          exact ⟨ret_i HBD.out.symm, below_step hB.out hb1⟩
        | some f =>
          rw [hf] at HGA
          have hfy := find_yes x f hf
          have HCO := Aside0.mk hco
          clear hf hct hco
          cases B
          · go_wp2_with (first
              | (go_at_call 58; refine (hfy _).mono ?_; clear hfy; rintro e w1 ⟨⟨fid, lb, rfl⟩, hb1⟩; have hcx := HCO.out w1 (Kd.C_below HCK.out hb1))
              | (go_at_call 63; refine hcx.mono ?_; clear hcx; rintro e w2 ⟨rfl, hb2⟩))
            go_roundw
            case rel => exact ⟨k + 1, by omega, by go_num, Lib.hid (fun i hi => by
              by_cases e : i < k
              · exact hgd.out i e
              · obtain rfl : i = k := by omega
                rw [HGA.out]; rfl), Lib.hid (below_step (below_step hB.out hb1) hb2)⟩
            case measure => simp [intOf]; omega
          · have hbad : res = 60 := by
              rw [HRS.out, if_neg (fun hg => ?_)]
              have := HGR.out.1 hg k hlt
              rw [HGA.out] at this
              exact absurd this (by simp)
            have HBD := Aside0.mk hbad
            clear hbad
            go_wp2_with (first
              | (go_at_call 58; refine (hfy _).mono ?_; clear hfy; rintro e w1 ⟨⟨fid, lb, rfl⟩, hb1⟩; have hcx := HCO.out w1 (Kd.C_below HCK.out hb1))
              | (go_at_call 63; refine hcx.mono ?_; clear hcx; rintro e w2 ⟨rfl, hb2⟩))
            go_ret
            exact ⟨ret_i HBD.out.symm, below_step (below_step hB.out hb1) hb2⟩
      · obtain rfl : k = r.length := by omega
        have hlt' : ¬ ((r.length : Nat) : Int) < (r.length : Int) := by omega
        have HRZ := Aside0.mk (show res = 0 by rw [HRS.out, if_pos (HGR.out.2 hgd.out)])
        clear hct
        go_wp2
        go_ret
        exact ⟨ret_i HRZ.out.symm, hB.out⟩
end Go.Proofs.YtgbphkckiekehaaDoor.Ana

set_option linter.unusedVariables false
set_option linter.unusedSimpArgs false
namespace Go.Proofs.YtgbphkckiekehaaDoor.Ana
open Go.RowKit Go.Shelf Go.Proofs.YtgbphkckiekehaaDoor.QRef Go.Proofs.YtgbphkckiekehaaDoorW.PrintWords Go.Proofs.YtgbphkckiekehaaDoorW.PrintLast Go.Proofs.FoldPlain Go.Proofs.FoldText Go.Proofs.YtgbphkckiekehaaDoor.FoldRef Go.Proofs.YtgbphkckiekehaaDoor.FoldW Go.Proofs.YtgbphkckiekehaaDoor.FoldF Go.Proofs.YtgbphkckiekehaaDoor.FoldP

theorem ret_t {v : Value} {a b : Int} (h : a = b) : Ending.returned (.tuple #[v, .int .i64 a]) = .returned (.tuple #[v, .int .i64 b]) := by rw [h]
theorem checkD_cases (xs : List Int) : checkD xs = 0 ∨ checkD xs = 60 := by
  unfold checkD
  cases xs with
  | nil => exact .inr rfl
  | cons h r =>
    simp only
    split
    · exact .inr rfl
    · split
      · exact .inl rfl
      · exact .inr rfl
theorem checkD_zero {xs : List Int} (h : checkD xs = 0) : ∃ a r, xs = a :: r ∧ r.length ≤ 7 ∧ 1 ≤ a ∧ a ≤ 4 ∧ goodR r = true := by
  unfold checkD at h
  cases xs with
  | nil => simp at h
  | cons a r =>
    simp only at h
    split at h
    · simp at h
    · split at h
      · rename_i h1 h2; exact ⟨a, r, rfl, by omega, by omega, by omega, h2⟩
      · simp at h
theorem small_tokens (n : Int) (s : ByteArray) : Small s.size (tokensD n s) := fun t ht => out_small ((tokensD_inv n s).1 t ht)
theorem linksD_step (r : List Int) (k : Nat) (h : k < r.length) (ts : List S58) : linksD (r.drop k) ts = if (linkD r[k] ts).2 = 0 then linksD (r.drop (k + 1)) (linkD r[k] ts).1 else ([], (linkD r[k] ts).2) := by
  rw [List.drop_eq_getElem_cons h]; rfl

set_option maxRecDepth 100000 in
set_option maxHeartbeats 4000000 in
theorem run_c (xs : List Int) (A : Option Addr) (cap : Nat) (hcap : xs.length ≤ cap) (s : ByteArray) (hss : s.size ≤ 140737488355328) (w : World) (ht : Tabs w) (hC : Kd.C (Kd.int .i64) w A xs.length xs) :
    Calls Tryd.prog 39 #[.slice A xs.length cap, .string s] w fun e w' => (∃ v, e = .returned (.tuple #[v, .int .i64 (runD xs s).2]) ∧ TRow w' w.heap.size v (runD xs s).1) ∧ Below w.heap.size w w' := by
  have hck := check_c xs A cap hcap w hC
  by_cases h0 : checkD xs = 60
  · have e : runD xs s = ([], 60) := by unfold runD; rw [if_pos (by rw [h0]; decide)]
    rw [e]
    rw [h0] at hck
    clear e h0 hC ht
    go_enter Tryd.func39, Tryd.ntmps39
    go_wp2_with (go_at_call 41; refine hck.mono ?_; clear hck; rintro e w1 ⟨rfl, hb1⟩)
    go_ret2
    exact ⟨⟨_, rfl, Kd.R_nil _ _ _ _ _⟩, hb1⟩
  have h0' : checkD xs = 0 := (checkD_cases xs).resolve_right h0
  rw [h0'] at hck
  obtain ⟨a, r, hxs, hr7, ha1, ha4, _⟩ := checkD_zero h0'
  have hln : xs.length = r.length + 1 := by rw [hxs]; rfl
  by_cases hs : 4096 < s.size
  · have e : runD xs s = ([], 3) := by unfold runD; rw [if_neg (by rw [h0']; decide), if_pos hs]
    rw [e]
    have hs' : (4096 : Int) < (s.size : Int) := by omega
    clear e h0 h0' hC ht hxs hln
    go_enter Tryd.func39, Tryd.ntmps39
    go_wp2_with (go_at_call 41; refine hck.mono ?_; clear hck; rintro e w1 ⟨rfl, hb1⟩)
    go_ret2
    exact ⟨⟨_, rfl, Kd.R_nil _ _ _ _ _⟩, hb1⟩
  have hs' : ¬ (4096 : Int) < (s.size : Int) := by omega
  have hrun : runD xs s = if 4096 < (tokensD a s).length then ([], 84) else linksD r (tokensD a s) := by
    unfold runD; rw [if_neg (by rw [h0']; decide), if_neg hs, hxs]; rfl
  obtain ⟨ad, rfl, c0⟩ := Kd.at_int hC 0 (by omega) (by omega)
  rw [show rd xs 0 = a by rw [hxs]; rfl] at c0
  have had : ad.add (0 : Int).toNat = ad := by show ad.add 0 = ad; unfold Addr.add; rw [if_pos rfl]
  rw [had] at c0
  obtain ⟨i3, hi3, hs3⟩ := infoInt3
  have hCr := Kd.C_drop (m := 1) hC (by omega) hcap
  rw [show xs.drop 1 = r by rw [hxs]; rfl] at hCr
  have hct := cut_from (P := Tryd.prog) 25 3 .i64 Tryd.underlying25 hi3 1 hs3 (some ad) (r.length + 1) cap 1 (by omega) (by omega)
  have e1 : (1 : Int).toNat = 1 := rfl
  simp only [e1, Nat.add_sub_cancel] at hct
  rw [show (1 : Nat) * (Kd.int .i64).sz = 1 * 1 from rfl] at hCr
  generalize (if cap = 1 then some ad else Option.map (fun x => Addr.add x (1 * 1)) (some ad)) = A' at hCr hct
  have HCR := Aside0.mk hCr
  have HTW := Aside0.mk ht
  have htk := fun W h => tokens_c a s (by omega) W h
  have hsm := small_tokens a s
  rw [hln] at hck ⊢
  rw [hrun]
  have hcap' : r.length + 1 ≤ cap := by omega
  clear had hi3 hs3 hC hCr ht e1 h0 h0' hxs hrun hcap hln
  generalize tokensD a s = ts at htk hsm ⊢
  by_cases hbig : 4096 < ts.length
  · rw [if_pos hbig]
    have hbig' : (4096 : Int) < (ts.length : Int) := by omega
    clear hsm hct
    have HTK := Aside0.mk htk
    clear htk
    go_enter Tryd.func39, Tryd.ntmps39
    go_wp2_with (first
      | (go_at_call 41; refine hck.mono ?_; clear hck; rintro e w1 ⟨rfl, hb1⟩; have c0' := pw_cell_below hb1 c0; clear c0; have htk := HTK.out w1 (HTW.out.step hb1))
      | (go_at_call 61; refine htk.mono ?_; clear htk; rintro e w2 ⟨⟨v, rfl, hr⟩, hb2⟩; obtain ⟨A2, cap2, rfl⟩ := Kd.R_slice hr; clear hr))
    go_ret2
    exact ⟨⟨_, rfl, Kd.R_nil _ _ _ _ _⟩, below_step hb1 hb2⟩
  · rw [if_neg hbig]
    have hbig' : ¬ (4096 : Int) < (ts.length : Int) := by omega
    have HTK := Aside0.mk htk
    have HSM := Aside0.mk (show Small 4096 ts from fun t h => by have := hsm t h; omega)
    clear htk hsm
    obtain ⟨RES, hRES⟩ : ∃ R, R = linksD r ts := ⟨_, rfl⟩
    rw [← hRES]
    have HRES := Aside0.mk hRES
    clear hRES
    go_enter Tryd.func39, Tryd.ntmps39
    go_wp2_with (first
      | (go_at_call 41; refine hck.mono ?_; clear hck; rintro e w1 ⟨rfl, hb1⟩; have c0' := pw_cell_below hb1 c0; clear c0; have htk := HTK.out w1 (HTW.out.step hb1); have HB1 := Aside0.mk hb1; clear hb1)
      | (go_at_call 61; refine htk.mono ?_; clear htk; rintro e w2 ⟨⟨v, rfl, hr⟩, hb2⟩; obtain ⟨A2, cap2, rfl⟩ := Kd.R_slice hr; have HR2 := Aside0.mk (Kd.R_lower hr HB1.out.size); have HB2 := Aside0.mk (below_step HB1.out hb2); clear hr hb2))
    go_loopw [7, 31] (fun v vi wr => ∃ (k : Nat) (us : List S58), k ≤ r.length ∧ vi = .int .i64 k ∧ Hid (RES = linksD (r.drop k) us ∧ Small 4096 us ∧ us.length ≤ 4096) ∧ Hid (TRow wr w.heap.size v us) ∧ Hid (Below w.heap.size w wr))
      (fun _ vi _ => r.length - (intOf vi).toNat)
    case atStart => exact ⟨0, ts, Nat.zero_le _, rfl, Lib.hid ⟨by rw [List.drop_zero]; exact HRES.out, HSM.out, by omega⟩, Lib.hid HR2.out, Lib.hid HB2.out⟩
    case round =>
      obtain ⟨k, us, hk, rfl, hgo, hrow, hB⟩ := hrel
      obtain ⟨A3, cap3, rfl, hcap3, hC3⟩ := Kd.R_reads hrow.out
      by_cases hlt : k < r.length
      · obtain ⟨ad', hA', ck⟩ := Kd.at_int (Kd.C_below HCR.out hB.out) (k : Int) (by omega) (by omega)
        subst hA'
        rw [rd_get r k hlt, Int.toNat_natCast] at ck
        have hlk := link_c r[k] wr (HTW.out.step hB.out) us A3 cap3 hC3 (fun t h => by have := hgo.out.2.1 t h; omega)
        have HST := Aside0.mk (linksD_step r k hlt us)
        have HSL := Aside0.mk (small_link r[k] hgo.out.2.1)
        have HLY := Aside0.mk (linkD_yes r[k] us)
        have i1 : (k : Int) < (r.length : Int) := by omega
        clear hC3 c0' hct
        generalize r[k] = x at ck hlk HST HSL HLY
        by_cases he : (linkD x us).2 = 0
        · obtain ⟨_, _, _, hl4⟩ := HLY.out he
          rw [he] at hlk HST
          clear HLY he
          generalize (linkD x us).1 = vs at hlk HST HSL hl4
          go_wp2_with (go_at_call 30; refine hlk.mono ?_; clear hlk; rintro e w3 ⟨⟨v3, rfl, hr3⟩, hb3⟩; have HR3 := Aside0.mk hr3; have HB3 := Aside0.mk hb3; clear hr3 hb3)
          go_roundw
          case rel => exact ⟨k + 1, vs, by omega, by go_num, Lib.hid ⟨by rw [hgo.out.1, HST.out]; simp, HSL.out, hl4⟩, Lib.hid (Kd.R_lower HR3.out hB.out.size), Lib.hid (below_step hB.out HB3.out)⟩
          case measure => simp [intOf]; omega
        · have HNO := Aside0.mk (show RES = ([], (linkD x us).2) by rw [hgo.out.1, HST.out, if_neg he])
          clear HLY HST HSL
          generalize (linkD x us).1 = vs at hlk
          generalize (linkD x us).2 = ee at hlk he HNO
          have he1 : (ee == 0) = false := beq_eq_false_iff_ne.2 he
          have he2 : (ee != 0) = true := bne_iff_ne.2 he
          go_wp2_with (go_at_call 30; refine hlk.mono ?_; clear hlk; rintro e w3 ⟨⟨v3, rfl, hr3⟩, hb3⟩; have HR3 := Aside0.mk hr3; have HB3 := Aside0.mk hb3; clear hr3 hb3)
          go_ret2
          exact ⟨⟨.slice none 0 0, ret_t (by rw [HNO.out]), by rw [HNO.out]; exact Kd.R_nil _ _ _ _ _⟩, below_step hB.out HB3.out⟩
      · obtain rfl : k = r.length := by omega
        have HZ := Aside0.mk (show RES = (us, 0) by rw [hgo.out.1, List.drop_length]; rfl)
        have hlt' : ¬ ((r.length : Nat) : Int) < (r.length : Int) := by omega
        clear hC3 c0' hct
        go_wp2
        go_ret2
        exact ⟨⟨.slice A3 us.length cap3, ret_t (by rw [HZ.out]), by rw [HZ.out]; exact hrow.out⟩, hB.out⟩
end Go.Proofs.YtgbphkckiekehaaDoor.Ana

set_option linter.unusedVariables false
set_option linter.unusedSimpArgs false
namespace Go.Proofs.YtgbphkckiekehaaDoor.Ana
open Go.RowKit Go.Shelf Go.Proofs.YtgbphkckiekehaaDoor.QRef Go.Proofs.YtgbphkckiekehaaDoorW.PrintWords Go.Proofs.YtgbphkckiekehaaDoorW.PrintLast Go.Proofs.FoldPlain Go.Proofs.FoldText Go.Proofs.YtgbphkckiekehaaDoor.FoldRef Go.Proofs.YtgbphkckiekehaaDoor.FoldW Go.Proofs.YtgbphkckiekehaaDoor.FoldF Go.Proofs.YtgbphkckiekehaaDoor.FoldP

theorem ints_new (W : World) (xs : List Int) (h : xs.length ≤ 9223372036854775807) : Kd.C (Kd.int .i64) (W.alloc (.cells (xs.map (Value.int .i64)).toArray 3)) (some ⟨W.heap.size, 0, none⟩) xs.length xs := by
  have h1 := OwnRow.lit (R := (Kd.int .i64).K (W.alloc (.cells (xs.map (Value.int .i64)).toArray 3))) (e := 3) (size := 1) (ps := xs) (inner := xs.map (Value.int .i64)) W W.heap.size (Kd.reps_scalar (enc := Value.int .i64) xs) (Nat.le_refl _) h
  obtain ⟨A, c, he, hl, hr⟩ := OwnRow.reads h1
  injection he with e1 e2 e3
  subst e1
  exact hr
theorem reps_T (W : World) (base : Nat) (ok : Nat → Prop) (ts : List S58) : Reps (k58.M W base ok) 4 ts (ts.flatMap cellsT1) := by
  have key : ∀ us : List S58, Reps (k58.M W base ok) 4 us.reverse (us.reverse.flatMap cellsT1) := by
    intro us
    induction us with
    | nil => exact Reps.none _ _
    | cons u us ih =>
      rw [List.reverse_cons, List.flatMap_append]
      exact Reps.snoc ih (by show k58.M W base ok u ([u].flatMap cellsT1); simp only [List.flatMap_cons, List.flatMap_nil, List.append_nil]; exact k58_mkM W base ok u) (by simp [cellsT1])
  have := key ts.reverse
  rwa [List.reverse_reverse] at this
theorem toks_new (W : World) (ts : List S58) (h : ts.length ≤ 9223372036854775807) : TRow (W.alloc (.cells (ts.flatMap cellsT1).toArray 58)) W.heap.size (.slice (some ⟨W.heap.size, 0, none⟩) ts.length ts.length) ts :=
  ⟨fun _ _ => trivial, OwnRow.lit W W.heap.size (reps_T _ _ _ ts) (Nat.le_refl _) h⟩
theorem same_c (l : List S58) (hl : l.length ≤ 1152921504606846976) (A0 A1 : Option Addr) (c0 c1 : Nat) (hc0 : l.length ≤ c0) (hc1 : l.length ≤ c1) (W : World) (h0 : Kd.C k58 W A0 l.length l) (h1 : Kd.C k58 W A1 l.length l) :
    Calls Tryd.prog 32 #[.slice A0 l.length c0, .slice A1 l.length c1] W fun e w' => e = .returned (.bool true) ∧ Below W.heap.size W w' :=
  (lecternkit_Tokens.calls _ A0 c0 l A1 c1 l true W h0 hc0 h1 hc1 (tokens_same l hl)).mono fun _ _ ⟨a, b⟩ => ⟨a, drawn_below b⟩
/-- A call of Run whose answer is known. -/
theorem run_k (xs : List Int) (s : ByteArray) (ts : List S58) (e0 : Int) (hr : runD xs s = (ts, e0)) (hxs : xs.length ≤ 1000) (hss : s.size ≤ 1000) (w : World) (ht : Tabs w) (n : Nat) (hn : n = xs.length) (cs : Array Value) (hcs : cs = (xs.map (Value.int .i64)).toArray) :
    Calls Tryd.prog 39 #[.slice (some ⟨w.heap.size, 0, none⟩) n n, .string s] (w.alloc (.cells cs 3)) fun e w' => (∃ v, e = .returned (.tuple #[v, .int .i64 e0]) ∧ TRow w' w.heap.size v ts) ∧ Below w.heap.size w w' := by
  subst hn
  subst hcs
  have h := run_c xs (some ⟨w.heap.size, 0, none⟩) xs.length (Nat.le_refl _) s (by omega) _ (ht.step (below_alloc (Below.refl _ _) (.cells (xs.map (Value.int .i64)).toArray 3))) (ints_new w xs (by omega))
  rw [hr] at h
  refine h.mono ?_
  rintro e w' ⟨⟨v, he, hv⟩, hb⟩
  exact ⟨⟨v, he, Kd.R_lower hv (by simp)⟩, below_step (below_alloc (Below.refl _ _) _) hb⟩
theorem kn1 : runD [1, 10, 11] (⟨#[84, 104, 101, 32, 102, 111, 120, 32, 111, 102]⟩ : ByteArray) = ([⟨⟨#[102, 111, 120]⟩, 1, 4, 7⟩], 0) := by kernel_rfl
theorem kn2 : runD [4] (⟨#[230, 157, 177, 228, 186, 172, 233, 131, 189, 32, 120]⟩ : ByteArray) = ([⟨⟨#[230, 157, 177, 228, 186, 172]⟩, 0, 0, 6⟩, ⟨⟨#[228, 186, 172, 233, 131, 189]⟩, 1, 3, 9⟩, ⟨⟨#[120]⟩, 2, 10, 11⟩], 0) := by kernel_rfl
theorem kn3 : runD [1, 13] (⟨#[97, 98, 99, 100, 32, 97, 98]⟩ : ByteArray) = ([⟨⟨#[97, 98, 99]⟩, 0, 0, 4⟩, ⟨⟨#[98, 99, 100]⟩, 0, 0, 4⟩, ⟨⟨#[97, 98]⟩, 1, 5, 7⟩], 0) := by kernel_rfl
theorem kn4 : runD [10] (⟨#[]⟩ : ByteArray) = ([], 60) := by kernel_rfl

theorem kr1 (w : World) (ht : Tabs w) : Calls Tryd.prog 39 #[.slice (some ⟨w.heap.size, 0, none⟩) 3 3, .string ⟨#[84, 104, 101, 32, 102, 111, 120, 32, 111, 102]⟩] (w.alloc (.cells #[.int .i64 1, .int .i64 10, .int .i64 11] 3)) fun e w' =>
    (∃ v, e = .returned (.tuple #[v, .int .i64 0]) ∧ TRow w' w.heap.size v [⟨⟨#[102, 111, 120]⟩, 1, 4, 7⟩]) ∧ Below w.heap.size w w' := run_k [1, 10, 11] _ _ _ kn1 (by decide) (by decide) w ht 3 rfl _ rfl
theorem kr2 (w : World) (ht : Tabs w) : Calls Tryd.prog 39 #[.slice (some ⟨w.heap.size, 0, none⟩) 1 1, .string ⟨#[230, 157, 177, 228, 186, 172, 233, 131, 189, 32, 120]⟩] (w.alloc (.cells #[.int .i64 4] 3)) fun e w' =>
    (∃ v, e = .returned (.tuple #[v, .int .i64 0]) ∧ TRow w' w.heap.size v [⟨⟨#[230, 157, 177, 228, 186, 172]⟩, 0, 0, 6⟩, ⟨⟨#[228, 186, 172, 233, 131, 189]⟩, 1, 3, 9⟩, ⟨⟨#[120]⟩, 2, 10, 11⟩]) ∧ Below w.heap.size w w' := run_k [4] _ _ _ kn2 (by decide) (by decide) w ht 1 rfl _ rfl
theorem kr3 (w : World) (ht : Tabs w) : Calls Tryd.prog 39 #[.slice (some ⟨w.heap.size, 0, none⟩) 2 2, .string ⟨#[97, 98, 99, 100, 32, 97, 98]⟩] (w.alloc (.cells #[.int .i64 1, .int .i64 13] 3)) fun e w' =>
    (∃ v, e = .returned (.tuple #[v, .int .i64 0]) ∧ TRow w' w.heap.size v [⟨⟨#[97, 98, 99]⟩, 0, 0, 4⟩, ⟨⟨#[98, 99, 100]⟩, 0, 0, 4⟩, ⟨⟨#[97, 98]⟩, 1, 5, 7⟩]) ∧ Below w.heap.size w w' := run_k [1, 13] _ _ _ kn3 (by decide) (by decide) w ht 2 rfl _ rfl
theorem kr4 (w : World) (ht : Tabs w) : Calls Tryd.prog 39 #[.slice (some ⟨w.heap.size, 0, none⟩) 1 1, .string ⟨#[]⟩] (w.alloc (.cells #[.int .i64 10] 3)) fun e w' =>
    (∃ v, e = .returned (.tuple #[v, .int .i64 60]) ∧ TRow w' w.heap.size v []) ∧ Below w.heap.size w w' := run_k [10] _ _ _ kn4 (by decide) (by decide) w ht 1 rfl _ rfl
theorem ks1 (W : World) (A : Option Addr) (c : Nat) (hc : ([⟨⟨#[102, 111, 120]⟩, 1, 4, 7⟩] : List S58).length ≤ c) (h : Kd.C k58 W A ([⟨⟨#[102, 111, 120]⟩, 1, 4, 7⟩] : List S58).length [⟨⟨#[102, 111, 120]⟩, 1, 4, 7⟩]) :
    Calls Tryd.prog 32 #[.slice A 1 c, .slice (some ⟨W.heap.size, 0, none⟩) 1 1] (W.alloc (.cells #[.string ⟨#[102, 111, 120]⟩, .int .i64 1, .int .i64 4, .int .i64 7] 58)) fun e w' => e = .returned (.bool true) ∧ Below W.heap.size W w' :=
  (same_c [⟨⟨#[102, 111, 120]⟩, 1, 4, 7⟩] (by decide) A _ c 1 hc (by decide) _ (Kd.C_below h (below_alloc (Below.refl _ _) _)) (Kd.R_reads' (toks_new W [⟨⟨#[102, 111, 120]⟩, 1, 4, 7⟩] (by decide))).2.2).mono fun _ _ ⟨a, b⟩ => ⟨a, below_step (below_alloc (Below.refl _ _) _) b⟩
theorem ks2 (W : World) (A : Option Addr) (c : Nat) (hc : ([⟨⟨#[230, 157, 177, 228, 186, 172]⟩, 0, 0, 6⟩, ⟨⟨#[228, 186, 172, 233, 131, 189]⟩, 1, 3, 9⟩, ⟨⟨#[120]⟩, 2, 10, 11⟩] : List S58).length ≤ c) (h : Kd.C k58 W A ([⟨⟨#[230, 157, 177, 228, 186, 172]⟩, 0, 0, 6⟩, ⟨⟨#[228, 186, 172, 233, 131, 189]⟩, 1, 3, 9⟩, ⟨⟨#[120]⟩, 2, 10, 11⟩] : List S58).length [⟨⟨#[230, 157, 177, 228, 186, 172]⟩, 0, 0, 6⟩, ⟨⟨#[228, 186, 172, 233, 131, 189]⟩, 1, 3, 9⟩, ⟨⟨#[120]⟩, 2, 10, 11⟩]) :
    Calls Tryd.prog 32 #[.slice A 3 c, .slice (some ⟨W.heap.size, 0, none⟩) 3 3] (W.alloc (.cells #[.string ⟨#[230, 157, 177, 228, 186, 172]⟩, .int .i64 0, .int .i64 0, .int .i64 6, .string ⟨#[228, 186, 172, 233, 131, 189]⟩, .int .i64 1, .int .i64 3, .int .i64 9, .string ⟨#[120]⟩, .int .i64 2, .int .i64 10, .int .i64 11] 58)) fun e w' => e = .returned (.bool true) ∧ Below W.heap.size W w' :=
  (same_c [⟨⟨#[230, 157, 177, 228, 186, 172]⟩, 0, 0, 6⟩, ⟨⟨#[228, 186, 172, 233, 131, 189]⟩, 1, 3, 9⟩, ⟨⟨#[120]⟩, 2, 10, 11⟩] (by decide) A _ c 3 hc (by decide) _ (Kd.C_below h (below_alloc (Below.refl _ _) _)) (Kd.R_reads' (toks_new W [⟨⟨#[230, 157, 177, 228, 186, 172]⟩, 0, 0, 6⟩, ⟨⟨#[228, 186, 172, 233, 131, 189]⟩, 1, 3, 9⟩, ⟨⟨#[120]⟩, 2, 10, 11⟩] (by decide))).2.2).mono fun _ _ ⟨a, b⟩ => ⟨a, below_step (below_alloc (Below.refl _ _) _) b⟩
theorem ks3 (W : World) (A : Option Addr) (c : Nat) (hc : ([⟨⟨#[97, 98, 99]⟩, 0, 0, 4⟩, ⟨⟨#[98, 99, 100]⟩, 0, 0, 4⟩, ⟨⟨#[97, 98]⟩, 1, 5, 7⟩] : List S58).length ≤ c) (h : Kd.C k58 W A ([⟨⟨#[97, 98, 99]⟩, 0, 0, 4⟩, ⟨⟨#[98, 99, 100]⟩, 0, 0, 4⟩, ⟨⟨#[97, 98]⟩, 1, 5, 7⟩] : List S58).length [⟨⟨#[97, 98, 99]⟩, 0, 0, 4⟩, ⟨⟨#[98, 99, 100]⟩, 0, 0, 4⟩, ⟨⟨#[97, 98]⟩, 1, 5, 7⟩]) :
    Calls Tryd.prog 32 #[.slice A 3 c, .slice (some ⟨W.heap.size, 0, none⟩) 3 3] (W.alloc (.cells #[.string ⟨#[97, 98, 99]⟩, .int .i64 0, .int .i64 0, .int .i64 4, .string ⟨#[98, 99, 100]⟩, .int .i64 0, .int .i64 0, .int .i64 4, .string ⟨#[97, 98]⟩, .int .i64 1, .int .i64 5, .int .i64 7] 58)) fun e w' => e = .returned (.bool true) ∧ Below W.heap.size W w' :=
  (same_c [⟨⟨#[97, 98, 99]⟩, 0, 0, 4⟩, ⟨⟨#[98, 99, 100]⟩, 0, 0, 4⟩, ⟨⟨#[97, 98]⟩, 1, 5, 7⟩] (by decide) A _ c 3 hc (by decide) _ (Kd.C_below h (below_alloc (Below.refl _ _) _)) (Kd.R_reads' (toks_new W [⟨⟨#[97, 98, 99]⟩, 0, 0, 4⟩, ⟨⟨#[98, 99, 100]⟩, 0, 0, 4⟩, ⟨⟨#[97, 98]⟩, 1, 5, 7⟩] (by decide))).2.2).mono fun _ _ ⟨a, b⟩ => ⟨a, below_step (below_alloc (Below.refl _ _) _) b⟩

set_option maxRecDepth 100000 in
set_option maxHeartbeats 4000000 in
theorem known6_c (w : World) (ht : Tabs w) : Calls Tryd.prog 44 #[] w fun e w' => e = .returned (.bool true) ∧ Below w.heap.size w w' := by
  have hu58 := Tryd.underlying58
  have HT := Aside0.mk ht
  clear ht
  go_enter Tryd.func44, Tryd.ntmps44
  go_wp2_with (first
    | (go_at_call 39; ((with_reducible refine (kr1 _ HT.out).mono ?_); rintro e w1 ⟨⟨v1, rfl, hr⟩, hb⟩; obtain ⟨A1, c1, rfl, hc1, hC⟩ := Kd.R_reads hr; have HC1 := Aside0.mk hC; have HK1 := Aside0.mk hc1; have HB1 := Aside0.mk hb; clear hr hC hb hc1))
    | (go_at_call 39; ((with_reducible refine (kr2 _ (HT.out.step HB1.out)).mono ?_); rintro e w2 ⟨⟨v2, rfl, hr⟩, hb⟩; obtain ⟨A2, c2, rfl, hc2, hC⟩ := Kd.R_reads hr; have HC2 := Aside0.mk hC; have HK2 := Aside0.mk hc2; have HD1 := Aside0.mk (Kd.C_below HC1.out hb); have HB2 := Aside0.mk (below_step HB1.out hb); clear hr hC hb hc2 HC1))
    | (go_at_call 39; ((with_reducible refine (kr3 _ (HT.out.step HB2.out)).mono ?_); rintro e w3 ⟨⟨v3, rfl, hr⟩, hb⟩; obtain ⟨A3, c3, rfl, hc3, hC⟩ := Kd.R_reads hr; have HC3 := Aside0.mk hC; have HK3 := Aside0.mk hc3; have HE1 := Aside0.mk (Kd.C_below HD1.out hb); have HD2 := Aside0.mk (Kd.C_below HC2.out hb); have HB3 := Aside0.mk (below_step HB2.out hb); clear hr hC hb hc3 HC2 HD1))
    | (go_at_call 39; ((with_reducible refine (kr4 _ (HT.out.step HB3.out)).mono ?_); rintro e w4 ⟨⟨v4, rfl, hr⟩, hb⟩; have HF1 := Aside0.mk (Kd.C_below HE1.out hb); have HE2 := Aside0.mk (Kd.C_below HD2.out hb); have HD3 := Aside0.mk (Kd.C_below HC3.out hb); have HB4 := Aside0.mk (below_step HB3.out hb); clear hr hb HC3 HD2 HE1))
    | (go_at_call 32; ((with_reducible refine (ks1 _ A1 c1 HK1.out HF1.out).mono ?_); rintro e w5 ⟨rfl, hb⟩; have HF2 := Aside0.mk (Kd.C_below HE2.out hb); have HE3 := Aside0.mk (Kd.C_below HD3.out hb); have HB5 := Aside0.mk (below_step HB4.out hb); clear hb HF1 HE2 HD3))
    | (go_at_call 32; ((with_reducible refine (ks2 _ A2 c2 HK2.out HF2.out).mono ?_); rintro e w6 ⟨rfl, hb⟩; have HF3 := Aside0.mk (Kd.C_below HE3.out hb); have HB6 := Aside0.mk (below_step HB5.out hb); clear hb HF2 HE3))
    | (go_at_call 32; ((with_reducible refine (ks3 _ A3 c3 HK3.out HF3.out).mono ?_); rintro e w7 ⟨rfl, hb⟩; have HB7 := Aside0.mk (below_step HB6.out hb); clear hb HF3)))
  go_ret
  exact ⟨rfl, HB7.out⟩
end Go.Proofs.YtgbphkckiekehaaDoor.Ana
