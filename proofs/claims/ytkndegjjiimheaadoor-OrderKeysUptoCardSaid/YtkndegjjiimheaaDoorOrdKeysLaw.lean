/- Law OrderKeys walked. -/
import Derived.Test.YtkndegjjiimheaaDoorOrdKB
import Derived.Test.YtkndegjjiimheaaDoorOrdAwake
set_option linter.unusedVariables false
set_option linter.unusedSimpArgs false
namespace Go.Proofs.YtkndegjjiimheaaDoor.Ord
open Go Go.RowKit Go.Proofs.YtkndegjjiimheaaDoor.OwnK Go.Proofs.YtkndegjjiimheaaDoorW.PrintWords Go.Proofs.YtkndegjjiimheaaDoorW.PrintLast Go.Proofs.OrdPlain Go.Lib Go.Proofs.YtkndegjjiimheaaDoor.QKey

theorem C_of_row {W : World} {base : Nat} {A : Option Addr} {n c : Nat} {ks : List S45} (h : KRow W base (.slice A n c) ks) : Kd.C k45 W A ks.length ks := (Kd.R_reads' h).2.2
theorem mark_C {W : World} {base : Nat} {A : Option Addr} {c : Nat} {ks : List S45} (h : KRow W base (.slice A (ks.length + 1) c) (ks ++ [markK])) : Kd.C k45 W A ks.length ks ∧ Kd.C k45 W A (ks ++ [markK]).length (ks ++ [markK]) ∧ ks.length + 1 ≤ c := by
  have h1 := Kd.R_reads' h
  have h2 := Kd.C_take (m := ks.length) h1.2.2 (by simp)
  rw [show (ks ++ [markK]).take ks.length = ks by simp] at h2
  exact ⟨h2, h1.2.2, h1.2.1⟩
theorem keys_len : ∀ (f : Nat) (acc ks : List S45) (l : List UInt8), keysP f acc l = some ks → ks.length ≤ acc.length + l.length
  | f, acc, ks, [], h => by
    rw [keysP] at h
    injection h with h; subst h; simp
  | 0, acc, ks, _ :: _, h => by simp [keysP] at h
  | f + 1, acc, ks, c :: r, h => by
    rw [keysP] at h
    simp only [List.length_cons]
    by_cases h0 : c = 0
    · rw [if_pos h0] at h
      have := keys_len f _ ks r h
      rw [List.length_append] at this; simp only [List.length_cons, List.length_nil] at this; omega
    · rw [if_neg h0] at h
      by_cases h1 : c = 1
      · rw [if_pos h1] at h
        by_cases h8 : 8 ≤ r.length
        · rw [if_pos h8] at h
          have := keys_len f _ ks _ h
          rw [List.length_append, List.length_drop] at this; simp only [List.length_cons, List.length_nil] at this; omega
        · rw [if_neg h8] at h; cases h
      · rw [if_neg h1] at h
        by_cases h2 : c = 2
        · rw [if_pos h2] at h
          cases ht : textP (r.length + 1) [] r with
          | none => rw [ht] at h; cases h
          | some p =>
            obtain ⟨t, r'⟩ := p
            rw [ht] at h
            have h3 := (text_rest _ _ _ _ _ ht).1
            have := keys_len f _ ks _ h
            rw [List.length_append] at this; simp only [List.length_cons, List.length_nil] at this; omega
        · rw [if_neg h2] at h; cases h
theorem keysD_len (l : List UInt8) : (keysD l).1.length ≤ l.length := by
  unfold keysD
  cases h : keysP l.length [] l with
  | none => simp [ansK]
  | some ks =>
    have := keys_len _ _ _ _ h
    simpa [ansK] using this
theorem wp_normal {P : Program} {c : Code} {Q : Exit → Act → World → Prop} {a : Act} {w : World} (h : c.wp P (Exit.then (Q .normal) (fun _ _ _ => False)) a w) : c.wp P Q a w :=
  wp_mono h (fun e a w h => by cases e <;> first | exact h | exact h.elim)
theorem cellB {W w1 : World} {p : Addr} {v : Value} (h : W.cell? p = some v) (hb : Below W.heap.size W w1) : w1.cell? p = some v := (hb.cell (World.block_lt_of_cell? W p h)).trans h

set_option maxRecDepth 100000 in
set_option maxHeartbeats 8000000 in
theorem keys_walk (k1 k2 : List S45) (A1 A2 : Option Addr) (c1 c2 : Nat) (s : ByteArray) (hc1 : k1.length ≤ c1) (hc2 : k2.length ≤ c2) (hk1 : k1.length ≤ 1048576) (hk2 : k2.length ≤ 1048576)
    (ht1 : ∀ x ∈ k1, x.f2.size ≤ 1048576) (hto : totZ k1 < 140737488355328) (hs : s.size ≤ 1048576) (w : World) (hT : Tb w) (hC1 : Kd.C k45 w A1 k1.length k1) (hC2 : Kd.C k45 w A2 k2.length k2) :
    Calls Tryd.prog 4 #[.slice A1 k1.length c1, .slice A2 k2.length c2, .string s] w fun e w' => e = .returned (.bool true) ∧ Below w.heap.size w w' := by
  have hu45 := Tryd.underlying45
  have hst : s = txt s.data.toList := (txt_of s).symm
  have hsl := sz_list s
  have hlen := keysD_len s.data.toList
  obtain ⟨Kr, hKr⟩ := refkeys_f s hs
  have L1 := lent_c k1 A1 c1 hk1 w hC1
  have L2 := Aside0.mk (fun W (h : Below w.heap.size w W) => lent_c k2 A2 c2 hk2 W (Kd.C_below hC2 h))
  have LB := Aside0.mk (fun W A c (h : k1.length ≤ c) (hC : Kd.C k45 W A k1.length k1) => bytes_c k1 (by omega) A c h W hC)
  have LR := Aside0.mk (fun W (h : Below w.heap.size w W) => lecternref07_Bytes.calls _ A1 c1 k1 _ _ W (Kd.C_below hC1 h) hc1 (refbytes_f k1 1048576 ht1 hto))
  have LK := Aside0.mk (fun W => order_keys s.data.toList (by omega) W)
  rw [← hst] at LK
  have LQ := Aside0.mk (fun W => lecternref07_Keys.calls Kr s _ _ W hKr)
  have LO := Aside0.mk (fun W A B c d (h : k1.length ≤ c) (g : k2.length ≤ d) hA hB => rows15_c k1 k2 (by omega) A B c d h g W hA hB)
  have LP := Aside0.mk (fun W (h : Below w.heap.size w W) => lecternref07_Rows.calls _ A1 c1 k1 A2 c2 k2 _ W (Kd.C_below hC1 h) hc1 (Kd.C_below hC2 h) hc2 (refrows_f k1 k2 (by omega) 1048576 ht1 (by omega)))
  have HT := Aside0.mk hT
  have HC1 := Aside0.mk hC1
  have HC2 := Aside0.mk hC2
  have KP1 := Aside0.mk (fun W X c (hc : k1.length + 1 ≤ c) h0 (h : Below w.heap.size w W) => kept_c k1 A1 X c1 c hk1 hc1 hc W h0 (Kd.C_below hC1 h))
  have KP2 := Aside0.mk (fun W X c (hc : k2.length + 1 ≤ c) h0 (h : Below w.heap.size w W) => kept_c k2 A2 X c2 c hk2 hc2 hc W h0 (Kd.C_below hC2 h))
  have HX1S := Aside0.mk (show ∀ i, i < k1.length → (k1.getD i z45).f2.size ≤ 1048576 from fun i hi => by
    rw [List.getD_eq_getElem?_getD, List.getElem?_eq_getElem hi]
    exact ht1 _ (List.getElem_mem hi))
  clear hC1 hC2 hKr hst hT ht1 hto
  rw [hsl] at hlen
  generalize keysD s.data.toList = KD at LK LQ hlen
  obtain ⟨ls, ee⟩ := KD
  dsimp only at LK LQ hlen
  generalize bytesD k1 = BD at LB LR
  obtain ⟨bt0, be⟩ := BD
  dsimp only at LB LR
  generalize rowsD k1 k2 = RD at LO LP
  have SM := Aside0.mk (fun W A B c d (h : ls.length ≤ c) (g : ls.length ≤ d) hA hB => same_k ls (by omega) A B c d h g W hA hB)
  go_enter Tryd.func4, Tryd.ntmps4
  go_upto_block 0 with (first
    | (go_at_call 10; (with_reducible refine L1.mono ?_); clear L1; rintro e w1 ⟨⟨X1, x1, rfl, hr⟩, hb⟩; have HX1 := Aside0.mk hr; have HB1 := Aside0.mk hb; have L2' := L2.out w1 hb; clear hr hb)
    | (go_at_call 10; (with_reducible refine L2'.mono ?_); clear L2'; rintro e w2 ⟨⟨X2, x2, rfl, hr⟩, hb⟩; have HX2 := Aside0.mk hr; have HX1b := Aside0.mk (Kd.R_below HX1.out hb); have HB2 := Aside0.mk (below_step HB1.out hb); have LB' := LB.out w2 X1 x1 (by have := (mark_C HX1b.out).2.2; omega) (mark_C HX1b.out).1; clear hr hb)
    | (go_at_call 11; (with_reducible refine LB'.mono ?_); clear LB'; rintro e w3 ⟨rfl, hb⟩; have HB3 := Aside0.mk (below_step HB2.out hb); have HD2 := Aside0.mk hb; have LR' := LR.out w3 HB3.out; clear hb)
    | (go_at_call 12; (with_reducible refine LR'.mono ?_); clear LR'; rintro e w4 ⟨rfl, hb⟩; have HB4 := Aside0.mk (below_step HB3.out hb); have HD3 := Aside0.mk (below_step HD2.out hb); have LK' := LK.out w4; clear hb)
    | (go_at_call 13; (with_reducible refine LK'.mono ?_); clear LK'; rintro e w5 ⟨A5, c5, rfl, hr, hb⟩; have HL5 := Aside0.mk hr; have HB5 := Aside0.mk (below_step HB4.out hb); have HD4 := Aside0.mk (below_step HD3.out hb); have LK2 := LK.out w5; clear hr hb)
    | (go_at_call 13; (with_reducible refine LK2.mono ?_); clear LK2; rintro e w6 ⟨A6, c6, rfl, hr, hb⟩; have HM6 := Aside0.mk hr; have HL6 := Aside0.mk (Kd.R_below HL5.out hb); have HS56 := Aside0.mk hb.size; have HD6 := Aside0.mk (below_step HD4.out hb); have HB6 := Aside0.mk (below_step HB5.out hb); have LQ' := LQ.out w6; clear hr hb)
    | (go_at_call 14; (with_reducible refine LQ'.mono ?_); clear LQ'; rintro e w7 ⟨v7, rfl, hr, hb⟩; obtain ⟨A7, c7, rfl, hc7, hC7⟩ := Kd.R_reads hr; have HW7 := Aside0.mk hr; have HK7 := Aside0.mk hc7; have HL7 := Aside0.mk (Kd.R_below HL6.out hb); have HM7 := Aside0.mk (Kd.R_below HM6.out hb); have HB7 := Aside0.mk (below_step HB6.out hb); have HD7 := Aside0.mk (below_step HD6.out hb); have LO' := LO.out w7 X1 X2 x1 x2 (by have := (mark_C HX1b.out).2.2; omega) (by have := (mark_C HX2.out).2.2; omega) (mark_C (Kd.R_below HX1b.out HD7.out)).1 (mark_C (Kd.R_below HX2.out HD7.out)).1; clear hr hb hC7 hc7)
    | (go_at_call 15; (with_reducible refine LO'.mono ?_); clear LO'; rintro e w8 ⟨rfl, hb⟩; have HE8 := Aside0.mk hb; have LP' := LP.out w8 (below_step HB7.out hb); clear hb)
    | (go_at_call 16; (with_reducible refine LP'.mono ?_); clear LP'; rintro e w9 ⟨rfl, hb⟩; have HE9 := Aside0.mk (below_step HE8.out hb); have SM1 := SM.out w9 A5 A7 ls.length c7 (Nat.le_refl _) HK7.out (C_of_row (Kd.R_below HL7.out HE9.out)) (C_of_row (Kd.R_below HW7.out HE9.out)); clear hb)
    | (go_at_call 17; (with_reducible refine SM1.mono ?_); clear SM1; rintro e w10 ⟨rfl, hb⟩; have HE10 := Aside0.mk (below_step HE9.out hb); have SM2 := SM.out w10 A6 A7 ls.length c7 (Nat.le_refl _) HK7.out (C_of_row (Kd.R_below HM7.out HE10.out)) (C_of_row (Kd.R_below HW7.out HE10.out)); clear hb)
    | (go_at_call 17; (with_reducible refine SM2.mono ?_); clear SM2; rintro e w11 ⟨rfl, hb⟩; have HE11 := Aside0.mk (below_step HE10.out hb); have KP1' := KP1.out w11 X1 x1 (mark_C HX1b.out).2.2 (mark_C (Kd.R_below HX1b.out (below_step HD7.out HE11.out))).2.1 (below_step HB7.out HE11.out); clear hb)
    | (go_at_call 18; (with_reducible refine KP1'.mono ?_); clear KP1'; rintro e w12 ⟨rfl, hb⟩; have HE12 := Aside0.mk (below_step HE11.out hb); have KP2' := KP2.out w12 X2 x2 (mark_C HX2.out).2.2 (mark_C (Kd.R_below HX2.out (below_step HD7.out HE12.out))).2.1 (below_step HB7.out HE12.out); clear hb)
    | (go_at_call 18; (with_reducible refine KP2'.mono ?_); clear KP2'; rintro e w13 ⟨rfl, hb⟩; have HE13 := Aside0.mk (below_step HE12.out hb); clear hb))
  have HG13 := Aside0.mk (below_step HB7.out HE13.out)
  have HN1 := Aside0.mk (show 2 * k1.length + 2 ≤ 4194304 by omega)
  go_cut [19] (fun v wx => Hid (Below w13.heap.size w13 wx))
  case first =>
    clear HL7 HM7 HW7 LO LP LQ LK LB LR L2 SM KP1 KP2 HL6 HL5 HM6 HS56 HX1 HX1b HX2 HK7 HD7 HE13 HE12 HE11 HE10 HE9 HE8 HD6 HD4 HD3 HD2
    have hn1 : k1.length ≤ 1048576 := hk1
    have hn2 : k2.length ≤ 1048576 := hk2
    go_wp2_with (fail)
    go_loopw [19] (fun vi wr => ∃ i : Nat, i ≤ k1.length ∧ vi = .int .i64 (i : Int) ∧ Hid (Below w13.heap.size w13 wr)) (fun vi _ => k1.length - (intOf vi).toNat)
    case atStart => exact ⟨0, Nat.zero_le _, rfl, Lib.hid (Below.refl _ _)⟩
    case round =>
      obtain ⟨i, hi, rfl, hbw⟩ := hrel
      have HBW := Aside0.mk hbw.out
      clear hbw
      by_cases h1 : i < k1.length
      · have i1 : (i : Int) < (k1.length : Int) := by omega
        have i0 : (0 : Int) ≤ (i : Int) := by omega
        have HBR1 := Aside0.mk (below_drew1 HBW.out)
        have HXS := Aside0.mk (HX1S.out i h1)
        have HRR := Aside0.mk (below_step HG13.out HBR1.out)
        obtain ⟨ad1, rfl, p0, p1, p2⟩ := at_K (Kd.C_below HC1.out HRR.out) i h1
        generalize k1.getD i z45 = x at p0 p1 p2 HXS
        have hr1 := fun W => order_Right.calls x.f0 x.f1 x.f2 (rightB x) W (right_f x)
        have hr2 := fun W => lecternref07_Right.calls x.f0 x.f1 x.f2 (rightB x) W (refright_f x)
        generalize rightB x = rb at hr1 hr2
        have hrr : (rb != rb) = false := by simp
        by_cases h2 : i < k2.length
        · have i2 : (i : Int) < (k2.length : Int) := by omega
          obtain ⟨ad2, rfl, q0, q1, q2⟩ := at_K (Kd.C_below HC2.out HRR.out) i h2
          generalize k2.getD i z45 = y at q0 q1 q2
          have hc1 := fun W => order_Compare.calls 4 x.f0 x.f1 x.f2 y.f0 y.f1 y.f2 (cmpD x y) W (compare_f 0 x y)
          have hc2 := fun W => lecternref07_Compare.calls _ x.f0 x.f1 x.f2 y.f0 y.f1 y.f2 (cmpD x y) W (refcompare_f x y (by have := HXS.out; omega))
          generalize cmpD x y = z at hc1 hc2
          have hzz : (z != z) = false := by simp
          go_wp2
          refine wp_normal ?_
          refine start_ (n := 38) (S := fun w' => w'.cell? (ad1.add (i * 3)) = some (.int .i64 x.f0) ∧ w'.cell? ⟨(ad1.add (i * 3)).block, (ad1.add (i * 3)).off + 1, none⟩ = some (.int .i64 x.f1) ∧ w'.cell? ⟨(ad1.add (i * 3)).block, (ad1.add (i * 3)).off + 2, none⟩ = some (.string x.f2) ∧ w'.cell? (ad2.add (i * 3)) = some (.int .i64 y.f0) ∧ w'.cell? ⟨(ad2.add (i * 3)).block, (ad2.add (i * 3)).off + 1, none⟩ = some (.int .i64 y.f1) ∧ w'.cell? ⟨(ad2.add (i * 3)).block, (ad2.add (i * 3)).off + 2, none⟩ = some (.string y.f2)) (ds := []) #[false, false, false, false, false, false, false, false, false, false, false, false, false, false, false, false, false, false, false, false, false, false, false, false, false, false, false, false, false, false, false, false, false, false, false, false, false, false] (by kernel_rfl) rfl rfl ⟨p0, p1, p2, q0, q1, q2⟩ (fun hHeld => ?_)
          generalize wr.drew = wd at hHeld HBR1 p0 p1 p2 q0 q1 q2 ⊢
          refine pure_ (i := 0) (N := some 103) (v := ?_) (a' := ?_) #[true, false, false, false, false, false, false, false, false, false, false, false, false, false, false, false, false, false, false, false, false, false, false, false, false, false, false, false, false, false, false, false, false, false, false, false, false, false] rfl rfl (by kernel_rfl) (fun _ _ _ h => h) (Or.inl ⟨by rfl, ?_⟩) ?_ ?_
          rotate_left
          · intro w'
            go_simp
            with_reducible rfl
          rotate_left
          · simp only [Act.put, List.setIfInBounds_toArray, List.set_cons_zero, List.set_cons_succ, i64_w, i32_w]
            rfl
          refine pure_ (i := 1) (N := some 104) (v := ?_) (a' := ?_) #[true, true, false, false, false, false, false, false, false, false, false, false, false, false, false, false, false, false, false, false, false, false, false, false, false, false, false, false, false, false, false, false, false, false, false, false, false, false] rfl rfl (by kernel_rfl) (fun _ _ _ h => h) (Or.inl ⟨by rfl, ?_⟩) ?_ ?_
          rotate_left
          · intro w'
            go_simp
            with_reducible rfl
          rotate_left
          · simp only [Act.put, List.setIfInBounds_toArray, List.set_cons_zero, List.set_cons_succ, i64_w, i32_w]
            rfl
          refine pure_ (i := 2) (N := some 105) (v := ?_) (a' := ?_) #[true, true, true, false, false, false, false, false, false, false, false, false, false, false, false, false, false, false, false, false, false, false, false, false, false, false, false, false, false, false, false, false, false, false, false, false, false, false] rfl rfl (by kernel_rfl) (fun _ _ _ h => h) (Or.inl ⟨by rfl, ?_⟩) ?_ ?_
          rotate_left
          · intro w'
            go_simp
            with_reducible rfl
          rotate_left
          · simp only [Act.put, List.setIfInBounds_toArray, List.set_cons_zero, List.set_cons_succ, i64_w, i32_w]
            rfl
          refine pure_ (i := 5) (N := some 108) (v := ?_) (a' := ?_) #[true, true, true, false, false, true, false, false, false, false, false, false, false, false, false, false, false, false, false, false, false, false, false, false, false, false, false, false, false, false, false, false, false, false, false, false, false, false] rfl rfl (by kernel_rfl) (fun _ _ _ h => h) (Or.inl ⟨by rfl, ?_⟩) ?_ ?_
          rotate_left
          · intro w'
            go_simp
            with_reducible rfl
          rotate_left
          · simp only [Act.put, List.setIfInBounds_toArray, List.set_cons_zero, List.set_cons_succ, i64_w, i32_w]
            rfl
          refine pure_ (i := 6) (N := some 109) (v := ?_) (a' := ?_) #[true, true, true, false, false, true, true, false, false, false, false, false, false, false, false, false, false, false, false, false, false, false, false, false, false, false, false, false, false, false, false, false, false, false, false, false, false, false] rfl rfl (by kernel_rfl) (fun _ _ _ h => h) (Or.inl ⟨by rfl, ?_⟩) ?_ ?_
          rotate_left
          · intro w'
            go_simp
            with_reducible rfl
          rotate_left
          · simp only [Act.put, List.setIfInBounds_toArray, List.set_cons_zero, List.set_cons_succ, i64_w, i32_w]
            rfl
          refine pure_ (i := 7) (N := some 110) (v := ?_) (a' := ?_) #[true, true, true, false, false, true, true, true, false, false, false, false, false, false, false, false, false, false, false, false, false, false, false, false, false, false, false, false, false, false, false, false, false, false, false, false, false, false] rfl rfl (by kernel_rfl) (fun _ _ _ h => h) (Or.inl ⟨by rfl, ?_⟩) ?_ ?_
          rotate_left
          · intro w'
            go_simp
            with_reducible rfl
          rotate_left
          · simp only [Act.put, List.setIfInBounds_toArray, List.set_cons_zero, List.set_cons_succ, i64_w, i32_w]
            rfl
          refine take_ (i := 3) (N := some 106) (v := ?_) (a' := ?_) #[true, true, true, true, false, true, true, true, false, false, false, false, false, false, false, false, false, false, false, false, false, false, false, false, false, false, false, false, false, false, false, false, false, false, false, false, false, false] rfl rfl (by kernel_rfl) (fun _ _ _ h => h) (Or.inl ⟨by rfl, ?_⟩) hHeld ?_ ?_
          rotate_left
          · rintro w' ⟨s0, s1, s2, s3, s4, s5⟩
            go_simp
            with_reducible rfl
          rotate_left
          · simp only [Act.put, List.setIfInBounds_toArray, List.set_cons_zero, List.set_cons_succ, i64_w, i32_w]
            rfl
          refine take_ (i := 8) (N := some 111) (v := ?_) (a' := ?_) #[true, true, true, true, false, true, true, true, true, false, false, false, false, false, false, false, false, false, false, false, false, false, false, false, false, false, false, false, false, false, false, false, false, false, false, false, false, false] rfl rfl (by kernel_rfl) (fun _ _ _ h => h) (Or.inl ⟨by rfl, ?_⟩) hHeld ?_ ?_
          rotate_left
          · rintro w' ⟨s0, s1, s2, s3, s4, s5⟩
            go_simp
            with_reducible rfl
          rotate_left
          · simp only [Act.put, List.setIfInBounds_toArray, List.set_cons_zero, List.set_cons_succ, i64_w, i32_w]
            rfl
          refine one_ (i := 4) (N := some 107) #[true, true, true, true, true, true, true, true, true, false, false, false, false, false, false, false, false, false, false, false, false, false, false, false, false, false, false, false, false, false, false, false, false, false, false, false, false, false] rfl rfl (by kernel_rfl) (by decide) (fun K hK => ?_)
          refine goes_ Tryd.func19 (by kernel_rfl) rfl #[(.agg #[.int .i64 x.f0, .int .i64 x.f1, .string x.f2])] (by rfl) rfl rfl (by simp only [List.map_toArray, List.map_cons, List.map_nil]; rfl) ?_
          with_reducible refine (hr1 _).mono ?_
          rintro e w21 ⟨rfl, hb⟩
          refine ⟨_, rfl, ?_⟩
          have HBR2 := Aside0.mk (below_step HBR1.out hb)
          refine hK.out _ _ ⟨cellB hHeld.1 hb, cellB hHeld.2.1 hb, cellB hHeld.2.2.1 hb, cellB hHeld.2.2.2.1 hb, cellB hHeld.2.2.2.2.1 hb, cellB hHeld.2.2.2.2.2 hb⟩ (fun hHeld => ?_)
          clear hK K
          refine norm_ (a' := ?_) ?_ ?_
          rotate_left
          · show Act.put _ (some 107) _ = _
            simp only [Act.put, List.setIfInBounds_toArray, List.set_cons_zero, List.set_cons_succ, i64_w, i32_w]
            rfl
          refine one_ (i := 9) (N := some 112) #[true, true, true, true, true, true, true, true, true, true, false, false, false, false, false, false, false, false, false, false, false, false, false, false, false, false, false, false, false, false, false, false, false, false, false, false, false, false] rfl rfl (by kernel_rfl) (by decide) (fun K hK => ?_)
          refine goes_ Tryd.func20 (by kernel_rfl) rfl #[(.agg #[.int .i64 x.f0, .int .i64 x.f1, .string x.f2])] (by rfl) rfl rfl (by simp only [List.map_toArray, List.map_cons, List.map_nil]; rfl) ?_
          with_reducible refine (hr2 _).mono ?_
          rintro e w22 ⟨rfl, hb⟩
          refine ⟨_, rfl, ?_⟩
          have HBR3 := Aside0.mk (below_step HBR2.out hb)
          refine hK.out _ _ ⟨cellB hHeld.1 hb, cellB hHeld.2.1 hb, cellB hHeld.2.2.1 hb, cellB hHeld.2.2.2.1 hb, cellB hHeld.2.2.2.2.1 hb, cellB hHeld.2.2.2.2.2 hb⟩ (fun hHeld => ?_)
          clear hK K
          refine norm_ (a' := ?_) ?_ ?_
          rotate_left
          · show Act.put _ (some 112) _ = _
            simp only [Act.put, List.setIfInBounds_toArray, List.set_cons_zero, List.set_cons_succ, i64_w, i32_w]
            rfl
          refine pure_ (i := 10) (N := some 113) (v := ?_) (a' := ?_) #[true, true, true, true, true, true, true, true, true, true, true, false, false, false, false, false, false, false, false, false, false, false, false, false, false, false, false, false, false, false, false, false, false, false, false, false, false, false] rfl rfl (by kernel_rfl) (fun _ _ _ h => h) (Or.inl ⟨by rfl, ?_⟩) ?_ ?_
          rotate_left
          · intro w'
            go_simp
            with_reducible rfl
          rotate_left
          · simp only [Act.put, List.setIfInBounds_toArray, List.set_cons_zero, List.set_cons_succ, i64_w, i32_w]
            rfl
          refine pure_ (i := 11) (N := some 114) (v := ?_) (a' := ?_) #[true, true, true, true, true, true, true, true, true, true, true, true, false, false, false, false, false, false, false, false, false, false, false, false, false, false, false, false, false, false, false, false, false, false, false, false, false, false] rfl rfl (by kernel_rfl) (fun _ _ _ h => h) (Or.inl ⟨by rfl, ?_⟩) ?_ ?_
          rotate_left
          · intro w'
            go_simp
            with_reducible rfl
          rotate_left
          · simp only [Act.put, List.setIfInBounds_toArray, List.set_cons_zero, List.set_cons_succ, i64_w, i32_w]
            rfl
          refine pure_ (i := 12) (N := some 115) (v := ?_) (a' := ?_) #[true, true, true, true, true, true, true, true, true, true, true, true, true, false, false, false, false, false, false, false, false, false, false, false, false, false, false, false, false, false, false, false, false, false, false, false, false, false] rfl rfl (by kernel_rfl) (fun _ _ _ h => h) (Or.inl ⟨by rfl, ?_⟩) ?_ ?_
          rotate_left
          · intro w'
            go_simp
            with_reducible rfl
          rotate_left
          · simp only [Act.put, List.setIfInBounds_toArray, List.set_cons_zero, List.set_cons_succ, i64_w, i32_w]
            rfl
          refine pure_ (i := 13) (N := some 116) (v := ?_) (a' := ?_) #[true, true, true, true, true, true, true, true, true, true, true, true, true, true, false, false, false, false, false, false, false, false, false, false, false, false, false, false, false, false, false, false, false, false, false, false, false, false] rfl rfl (by kernel_rfl) (fun _ _ _ h => h) (Or.inl ⟨by rfl, ?_⟩) ?_ ?_
          rotate_left
          · intro w'
            go_simp
            with_reducible rfl
          rotate_left
          · simp only [Act.put, List.setIfInBounds_toArray, List.set_cons_zero, List.set_cons_succ, i64_w, i32_w]
            rfl
          refine pure_ (i := 14) (N := some 117) (v := ?_) (a' := ?_) #[true, true, true, true, true, true, true, true, true, true, true, true, true, true, true, false, false, false, false, false, false, false, false, false, false, false, false, false, false, false, false, false, false, false, false, false, false, false] rfl rfl (by kernel_rfl) (fun _ _ _ h => h) (Or.inl ⟨by rfl, ?_⟩) ?_ ?_
          rotate_left
          · intro w'
            go_simp
            with_reducible rfl
          rotate_left
          · simp only [Act.put, List.setIfInBounds_toArray, List.set_cons_zero, List.set_cons_succ, i64_w, i32_w]
            rfl
          refine pure_ (i := 15) (N := some 118) (v := ?_) (a' := ?_) #[true, true, true, true, true, true, true, true, true, true, true, true, true, true, true, true, false, false, false, false, false, false, false, false, false, false, false, false, false, false, false, false, false, false, false, false, false, false] rfl rfl (by kernel_rfl) (fun _ _ _ h => h) (Or.inl ⟨by rfl, ?_⟩) ?_ ?_
          rotate_left
          · intro w'
            go_simp
            with_reducible rfl
          rotate_left
          · simp only [Act.put, List.setIfInBounds_toArray, List.set_cons_zero, List.set_cons_succ, i64_w, i32_w]
            rfl
          refine pure_ (i := 16) (N := some 119) (v := ?_) (a' := ?_) #[true, true, true, true, true, true, true, true, true, true, true, true, true, true, true, true, true, false, false, false, false, false, false, false, false, false, false, false, false, false, false, false, false, false, false, false, false, false] rfl rfl (by kernel_rfl) (fun _ _ _ h => h) (Or.inl ⟨by rfl, ?_⟩) ?_ ?_
          rotate_left
          · intro w'
            go_simp
            with_reducible rfl
          rotate_left
          · simp only [Act.put, List.setIfInBounds_toArray, List.set_cons_zero, List.set_cons_succ, i64_w, i32_w]
            rfl
          refine pure_ (i := 17) (N := some 120) (v := ?_) (a' := ?_) #[true, true, true, true, true, true, true, true, true, true, true, true, true, true, true, true, true, true, false, false, false, false, false, false, false, false, false, false, false, false, false, false, false, false, false, false, false, false] rfl rfl (by kernel_rfl) (fun _ _ _ h => h) (Or.inl ⟨by rfl, ?_⟩) ?_ ?_
          rotate_left
          · intro w'
            go_simp
            with_reducible rfl
          rotate_left
          · simp only [Act.put, List.setIfInBounds_toArray, List.set_cons_zero, List.set_cons_succ, i64_w, i32_w]
            rfl
          refine pure_ (i := 18) (N := some 121) (v := ?_) (a' := ?_) #[true, true, true, true, true, true, true, true, true, true, true, true, true, true, true, true, true, true, true, false, false, false, false, false, false, false, false, false, false, false, false, false, false, false, false, false, false, false] rfl rfl (by kernel_rfl) (fun _ _ _ h => h) (Or.inl ⟨by rfl, ?_⟩) ?_ ?_
          rotate_left
          · intro w'
            go_simp
            with_reducible rfl
          rotate_left
          · simp only [Act.put, List.setIfInBounds_toArray, List.set_cons_zero, List.set_cons_succ, i64_w, i32_w]
            rfl
          refine pure_ (i := 19) (N := some 122) (v := ?_) (a' := ?_) #[true, true, true, true, true, true, true, true, true, true, true, true, true, true, true, true, true, true, true, true, false, false, false, false, false, false, false, false, false, false, false, false, false, false, false, false, false, false] rfl rfl (by kernel_rfl) (fun _ _ _ h => h) (Or.inl ⟨by rfl, ?_⟩) ?_ ?_
          rotate_left
          · intro w'
            go_simp
            with_reducible rfl
          rotate_left
          · simp only [Act.put, List.setIfInBounds_toArray, List.set_cons_zero, List.set_cons_succ, i64_w, i32_w]
            rfl
          refine pure_ (i := 21) (N := some 124) (v := ?_) (a' := ?_) #[true, true, true, true, true, true, true, true, true, true, true, true, true, true, true, true, true, true, true, true, false, true, false, false, false, false, false, false, false, false, false, false, false, false, false, false, false, false] rfl rfl (by kernel_rfl) (fun _ _ _ h => h) (Or.inl ⟨by rfl, ?_⟩) ?_ ?_
          rotate_left
          · intro w'
            go_simp
            with_reducible rfl
          rotate_left
          · simp only [Act.put, List.setIfInBounds_toArray, List.set_cons_zero, List.set_cons_succ, i64_w, i32_w]
            rfl
          refine pure_ (i := 22) (N := some 125) (v := ?_) (a' := ?_) #[true, true, true, true, true, true, true, true, true, true, true, true, true, true, true, true, true, true, true, true, false, true, true, false, false, false, false, false, false, false, false, false, false, false, false, false, false, false] rfl rfl (by kernel_rfl) (fun _ _ _ h => h) (Or.inl ⟨by rfl, ?_⟩) ?_ ?_
          rotate_left
          · intro w'
            go_simp
            with_reducible rfl
          rotate_left
          · simp only [Act.put, List.setIfInBounds_toArray, List.set_cons_zero, List.set_cons_succ, i64_w, i32_w]
            rfl
          refine pure_ (i := 23) (N := some 126) (v := ?_) (a' := ?_) #[true, true, true, true, true, true, true, true, true, true, true, true, true, true, true, true, true, true, true, true, false, true, true, true, false, false, false, false, false, false, false, false, false, false, false, false, false, false] rfl rfl (by kernel_rfl) (fun _ _ _ h => h) (Or.inl ⟨by rfl, ?_⟩) ?_ ?_
          rotate_left
          · intro w'
            go_simp
            with_reducible rfl
          rotate_left
          · simp only [Act.put, List.setIfInBounds_toArray, List.set_cons_zero, List.set_cons_succ, i64_w, i32_w]
            rfl
          refine pure_ (i := 26) (N := some 129) (v := ?_) (a' := ?_) #[true, true, true, true, true, true, true, true, true, true, true, true, true, true, true, true, true, true, true, true, false, true, true, true, false, false, true, false, false, false, false, false, false, false, false, false, false, false] rfl rfl (by kernel_rfl) (fun _ _ _ h => h) (Or.inl ⟨by rfl, ?_⟩) ?_ ?_
          rotate_left
          · intro w'
            go_simp
            with_reducible rfl
          rotate_left
          · simp only [Act.put, List.setIfInBounds_toArray, List.set_cons_zero, List.set_cons_succ, i64_w, i32_w]
            rfl
          refine pure_ (i := 27) (N := some 130) (v := ?_) (a' := ?_) #[true, true, true, true, true, true, true, true, true, true, true, true, true, true, true, true, true, true, true, true, false, true, true, true, false, false, true, true, false, false, false, false, false, false, false, false, false, false] rfl rfl (by kernel_rfl) (fun _ _ _ h => h) (Or.inl ⟨by rfl, ?_⟩) ?_ ?_
          rotate_left
          · intro w'
            go_simp
            with_reducible rfl
          rotate_left
          · simp only [Act.put, List.setIfInBounds_toArray, List.set_cons_zero, List.set_cons_succ, i64_w, i32_w]
            rfl
          refine pure_ (i := 28) (N := some 131) (v := ?_) (a' := ?_) #[true, true, true, true, true, true, true, true, true, true, true, true, true, true, true, true, true, true, true, true, false, true, true, true, false, false, true, true, true, false, false, false, false, false, false, false, false, false] rfl rfl (by kernel_rfl) (fun _ _ _ h => h) (Or.inl ⟨by rfl, ?_⟩) ?_ ?_
          rotate_left
          · intro w'
            go_simp
            with_reducible rfl
          rotate_left
          · simp only [Act.put, List.setIfInBounds_toArray, List.set_cons_zero, List.set_cons_succ, i64_w, i32_w]
            rfl
          refine pure_ (i := 30) (N := some 133) (v := ?_) (a' := ?_) #[true, true, true, true, true, true, true, true, true, true, true, true, true, true, true, true, true, true, true, true, false, true, true, true, false, false, true, true, true, false, true, false, false, false, false, false, false, false] rfl rfl (by kernel_rfl) (fun _ _ _ h => h) (Or.inl ⟨by rfl, ?_⟩) ?_ ?_
          rotate_left
          · intro w'
            go_simp
            with_reducible rfl
          rotate_left
          · simp only [Act.put, List.setIfInBounds_toArray, List.set_cons_zero, List.set_cons_succ, i64_w, i32_w]
            rfl
          refine pure_ (i := 31) (N := some 134) (v := ?_) (a' := ?_) #[true, true, true, true, true, true, true, true, true, true, true, true, true, true, true, true, true, true, true, true, false, true, true, true, false, false, true, true, true, false, true, true, false, false, false, false, false, false] rfl rfl (by kernel_rfl) (fun _ _ _ h => h) (Or.inl ⟨by rfl, ?_⟩) ?_ ?_
          rotate_left
          · intro w'
            go_simp
            with_reducible rfl
          rotate_left
          · simp only [Act.put, List.setIfInBounds_toArray, List.set_cons_zero, List.set_cons_succ, i64_w, i32_w]
            rfl
          refine pure_ (i := 32) (N := some 135) (v := ?_) (a' := ?_) #[true, true, true, true, true, true, true, true, true, true, true, true, true, true, true, true, true, true, true, true, false, true, true, true, false, false, true, true, true, false, true, true, true, false, false, false, false, false] rfl rfl (by kernel_rfl) (fun _ _ _ h => h) (Or.inl ⟨by rfl, ?_⟩) ?_ ?_
          rotate_left
          · intro w'
            go_simp
            with_reducible rfl
          rotate_left
          · simp only [Act.put, List.setIfInBounds_toArray, List.set_cons_zero, List.set_cons_succ, i64_w, i32_w]
            rfl
          refine take_ (i := 20) (N := some 123) (v := ?_) (a' := ?_) #[true, true, true, true, true, true, true, true, true, true, true, true, true, true, true, true, true, true, true, true, true, true, true, true, false, false, true, true, true, false, true, true, true, false, false, false, false, false] rfl rfl (by kernel_rfl) (fun _ _ _ h => h) (Or.inl ⟨by rfl, ?_⟩) hHeld ?_ ?_
          rotate_left
          · rintro w' ⟨s0, s1, s2, s3, s4, s5⟩
            go_simp
            with_reducible rfl
          rotate_left
          · simp only [Act.put, List.setIfInBounds_toArray, List.set_cons_zero, List.set_cons_succ, i64_w, i32_w]
            rfl
          refine take_ (i := 24) (N := some 127) (v := ?_) (a' := ?_) #[true, true, true, true, true, true, true, true, true, true, true, true, true, true, true, true, true, true, true, true, true, true, true, true, true, false, true, true, true, false, true, true, true, false, false, false, false, false] rfl rfl (by kernel_rfl) (fun _ _ _ h => h) (Or.inl ⟨by rfl, ?_⟩) hHeld ?_ ?_
          rotate_left
          · rintro w' ⟨s0, s1, s2, s3, s4, s5⟩
            go_simp
            with_reducible rfl
          rotate_left
          · simp only [Act.put, List.setIfInBounds_toArray, List.set_cons_zero, List.set_cons_succ, i64_w, i32_w]
            rfl
          refine take_ (i := 29) (N := some 132) (v := ?_) (a' := ?_) #[true, true, true, true, true, true, true, true, true, true, true, true, true, true, true, true, true, true, true, true, true, true, true, true, true, false, true, true, true, true, true, true, true, false, false, false, false, false] rfl rfl (by kernel_rfl) (fun _ _ _ h => h) (Or.inl ⟨by rfl, ?_⟩) hHeld ?_ ?_
          rotate_left
          · rintro w' ⟨s0, s1, s2, s3, s4, s5⟩
            go_simp
            with_reducible rfl
          rotate_left
          · simp only [Act.put, List.setIfInBounds_toArray, List.set_cons_zero, List.set_cons_succ, i64_w, i32_w]
            rfl
          refine take_ (i := 33) (N := some 136) (v := ?_) (a' := ?_) #[true, true, true, true, true, true, true, true, true, true, true, true, true, true, true, true, true, true, true, true, true, true, true, true, true, false, true, true, true, true, true, true, true, true, false, false, false, false] rfl rfl (by kernel_rfl) (fun _ _ _ h => h) (Or.inl ⟨by rfl, ?_⟩) hHeld ?_ ?_
          rotate_left
          · rintro w' ⟨s0, s1, s2, s3, s4, s5⟩
            go_simp
            with_reducible rfl
          rotate_left
          · simp only [Act.put, List.setIfInBounds_toArray, List.set_cons_zero, List.set_cons_succ, i64_w, i32_w]
            rfl
          refine one_ (i := 25) (N := some 128) #[true, true, true, true, true, true, true, true, true, true, true, true, true, true, true, true, true, true, true, true, true, true, true, true, true, true, true, true, true, true, true, true, true, true, false, false, false, false] rfl rfl (by kernel_rfl) (by decide) (fun K hK => ?_)
          refine goes_ Tryd.func21 (by kernel_rfl) rfl #[(.agg #[.int .i64 x.f0, .int .i64 x.f1, .string x.f2]), (.agg #[.int .i64 y.f0, .int .i64 y.f1, .string y.f2])] (by rfl) rfl rfl (by simp only [List.map_toArray, List.map_cons, List.map_nil]; rfl) ?_
          with_reducible refine (hc1 _).mono ?_
          rintro e w23 ⟨rfl, hb⟩
          refine ⟨_, rfl, ?_⟩
          have HBR4 := Aside0.mk (below_step HBR3.out hb)
          refine hK.out _ _ ⟨cellB hHeld.1 hb, cellB hHeld.2.1 hb, cellB hHeld.2.2.1 hb, cellB hHeld.2.2.2.1 hb, cellB hHeld.2.2.2.2.1 hb, cellB hHeld.2.2.2.2.2 hb⟩ (fun hHeld => ?_)
          clear hK K
          refine norm_ (a' := ?_) ?_ ?_
          rotate_left
          · show Act.put _ (some 128) _ = _
            simp only [Act.put, List.setIfInBounds_toArray, List.set_cons_zero, List.set_cons_succ, i64_w, i32_w]
            rfl
          refine one_ (i := 34) (N := some 137) #[true, true, true, true, true, true, true, true, true, true, true, true, true, true, true, true, true, true, true, true, true, true, true, true, true, true, true, true, true, true, true, true, true, true, true, false, false, false] rfl rfl (by kernel_rfl) (by decide) (fun K hK => ?_)
          refine goes_ Tryd.func22 (by kernel_rfl) rfl #[(.agg #[.int .i64 x.f0, .int .i64 x.f1, .string x.f2]), (.agg #[.int .i64 y.f0, .int .i64 y.f1, .string y.f2])] (by rfl) rfl rfl (by simp only [List.map_toArray, List.map_cons, List.map_nil]; rfl) ?_
          with_reducible refine (hc2 _).mono ?_
          rintro e w24 ⟨rfl, hb⟩
          refine ⟨_, rfl, ?_⟩
          have HBR5 := Aside0.mk (below_step HBR4.out hb)
          refine hK.out _ _ ⟨cellB hHeld.1 hb, cellB hHeld.2.1 hb, cellB hHeld.2.2.1 hb, cellB hHeld.2.2.2.1 hb, cellB hHeld.2.2.2.2.1 hb, cellB hHeld.2.2.2.2.2 hb⟩ (fun hHeld => ?_)
          clear hK K
          refine norm_ (a' := ?_) ?_ ?_
          rotate_left
          · show Act.put _ (some 137) _ = _
            simp only [Act.put, List.setIfInBounds_toArray, List.set_cons_zero, List.set_cons_succ, i64_w, i32_w]
            rfl
          refine pure_ (i := 35) (N := some 138) (v := ?_) (a' := ?_) #[true, true, true, true, true, true, true, true, true, true, true, true, true, true, true, true, true, true, true, true, true, true, true, true, true, true, true, true, true, true, true, true, true, true, true, true, false, false] rfl rfl (by kernel_rfl) (fun _ _ _ h => h) (Or.inl ⟨by rfl, ?_⟩) ?_ ?_
          rotate_left
          · intro w'
            go_simp
            with_reducible rfl
          rotate_left
          · simp only [Act.put, List.setIfInBounds_toArray, List.set_cons_zero, List.set_cons_succ, i64_w, i32_w]
            rfl
          refine pure_ (i := 36) (N := some 139) (v := ?_) (a' := ?_) #[true, true, true, true, true, true, true, true, true, true, true, true, true, true, true, true, true, true, true, true, true, true, true, true, true, true, true, true, true, true, true, true, true, true, true, true, true, false] rfl rfl (by kernel_rfl) (fun _ _ _ h => h) (Or.inl ⟨by rfl, ?_⟩) ?_ ?_
          rotate_left
          · intro w'
            go_simp
            with_reducible rfl
          rotate_left
          · simp only [Act.put, List.setIfInBounds_toArray, List.set_cons_zero, List.set_cons_succ, i64_w, i32_w]
            rfl
          refine pure_ (i := 37) (N := some 140) (v := ?_) (a' := ?_) #[true, true, true, true, true, true, true, true, true, true, true, true, true, true, true, true, true, true, true, true, true, true, true, true, true, true, true, true, true, true, true, true, true, true, true, true, true, true] rfl rfl (by kernel_rfl) (fun _ _ _ h => h) (Or.inl ⟨by rfl, ?_⟩) ?_ ?_
          rotate_left
          · intro w'
            go_simp
            with_reducible rfl
          rotate_left
          · simp only [Act.put, List.setIfInBounds_toArray, List.set_cons_zero, List.set_cons_succ, i64_w, i32_w]
            rfl
          refine done_ (by kernel_rfl) ?_
          go_wp2
          go_roundw
          case rel => exact ⟨i + 1, by omega, by go_num, Lib.hid HBR5.out⟩
          case measure => simp [intOf]; omega
        · have i2 : ¬ (i : Int) < (k2.length : Int) := by omega
          go_wp2
          refine wp_normal ?_
          refine start_ (n := 38) (S := fun w' => w'.cell? (ad1.add (i * 3)) = some (.int .i64 x.f0) ∧ w'.cell? ⟨(ad1.add (i * 3)).block, (ad1.add (i * 3)).off + 1, none⟩ = some (.int .i64 x.f1) ∧ w'.cell? ⟨(ad1.add (i * 3)).block, (ad1.add (i * 3)).off + 2, none⟩ = some (.string x.f2)) (ds := []) #[false, false, false, false, false, false, false, false, false, false, false, false, false, false, false, false, false, false, false, false, false, false, false, false, false, false, false, false, false, false, false, false, false, false, false, false, false, false] (by kernel_rfl) rfl rfl ⟨p0, p1, p2⟩ (fun hHeld => ?_)
          generalize wr.drew = wd at hHeld HBR1 p0 p1 p2 ⊢
          refine pure_ (i := 0) (N := some 103) (v := ?_) (a' := ?_) #[true, false, false, false, false, false, false, false, false, false, false, false, false, false, false, false, false, false, false, false, false, false, false, false, false, false, false, false, false, false, false, false, false, false, false, false, false, false] rfl rfl (by kernel_rfl) (fun _ _ _ h => h) (Or.inl ⟨by rfl, ?_⟩) ?_ ?_
          rotate_left
          · intro w'
            go_simp
            with_reducible rfl
          rotate_left
          · simp only [Act.put, List.setIfInBounds_toArray, List.set_cons_zero, List.set_cons_succ, i64_w, i32_w]
            rfl
          refine pure_ (i := 1) (N := some 104) (v := ?_) (a' := ?_) #[true, true, false, false, false, false, false, false, false, false, false, false, false, false, false, false, false, false, false, false, false, false, false, false, false, false, false, false, false, false, false, false, false, false, false, false, false, false] rfl rfl (by kernel_rfl) (fun _ _ _ h => h) (Or.inl ⟨by rfl, ?_⟩) ?_ ?_
          rotate_left
          · intro w'
            go_simp
            with_reducible rfl
          rotate_left
          · simp only [Act.put, List.setIfInBounds_toArray, List.set_cons_zero, List.set_cons_succ, i64_w, i32_w]
            rfl
          refine pure_ (i := 2) (N := some 105) (v := ?_) (a' := ?_) #[true, true, true, false, false, false, false, false, false, false, false, false, false, false, false, false, false, false, false, false, false, false, false, false, false, false, false, false, false, false, false, false, false, false, false, false, false, false] rfl rfl (by kernel_rfl) (fun _ _ _ h => h) (Or.inl ⟨by rfl, ?_⟩) ?_ ?_
          rotate_left
          · intro w'
            go_simp
            with_reducible rfl
          rotate_left
          · simp only [Act.put, List.setIfInBounds_toArray, List.set_cons_zero, List.set_cons_succ, i64_w, i32_w]
            rfl
          refine pure_ (i := 5) (N := some 108) (v := ?_) (a' := ?_) #[true, true, true, false, false, true, false, false, false, false, false, false, false, false, false, false, false, false, false, false, false, false, false, false, false, false, false, false, false, false, false, false, false, false, false, false, false, false] rfl rfl (by kernel_rfl) (fun _ _ _ h => h) (Or.inl ⟨by rfl, ?_⟩) ?_ ?_
          rotate_left
          · intro w'
            go_simp
            with_reducible rfl
          rotate_left
          · simp only [Act.put, List.setIfInBounds_toArray, List.set_cons_zero, List.set_cons_succ, i64_w, i32_w]
            rfl
          refine pure_ (i := 6) (N := some 109) (v := ?_) (a' := ?_) #[true, true, true, false, false, true, true, false, false, false, false, false, false, false, false, false, false, false, false, false, false, false, false, false, false, false, false, false, false, false, false, false, false, false, false, false, false, false] rfl rfl (by kernel_rfl) (fun _ _ _ h => h) (Or.inl ⟨by rfl, ?_⟩) ?_ ?_
          rotate_left
          · intro w'
            go_simp
            with_reducible rfl
          rotate_left
          · simp only [Act.put, List.setIfInBounds_toArray, List.set_cons_zero, List.set_cons_succ, i64_w, i32_w]
            rfl
          refine pure_ (i := 7) (N := some 110) (v := ?_) (a' := ?_) #[true, true, true, false, false, true, true, true, false, false, false, false, false, false, false, false, false, false, false, false, false, false, false, false, false, false, false, false, false, false, false, false, false, false, false, false, false, false] rfl rfl (by kernel_rfl) (fun _ _ _ h => h) (Or.inl ⟨by rfl, ?_⟩) ?_ ?_
          rotate_left
          · intro w'
            go_simp
            with_reducible rfl
          rotate_left
          · simp only [Act.put, List.setIfInBounds_toArray, List.set_cons_zero, List.set_cons_succ, i64_w, i32_w]
            rfl
          refine take_ (i := 3) (N := some 106) (v := ?_) (a' := ?_) #[true, true, true, true, false, true, true, true, false, false, false, false, false, false, false, false, false, false, false, false, false, false, false, false, false, false, false, false, false, false, false, false, false, false, false, false, false, false] rfl rfl (by kernel_rfl) (fun _ _ _ h => h) (Or.inl ⟨by rfl, ?_⟩) hHeld ?_ ?_
          rotate_left
          · rintro w' ⟨s0, s1, s2⟩
            go_simp
            with_reducible rfl
          rotate_left
          · simp only [Act.put, List.setIfInBounds_toArray, List.set_cons_zero, List.set_cons_succ, i64_w, i32_w]
            rfl
          refine take_ (i := 8) (N := some 111) (v := ?_) (a' := ?_) #[true, true, true, true, false, true, true, true, true, false, false, false, false, false, false, false, false, false, false, false, false, false, false, false, false, false, false, false, false, false, false, false, false, false, false, false, false, false] rfl rfl (by kernel_rfl) (fun _ _ _ h => h) (Or.inl ⟨by rfl, ?_⟩) hHeld ?_ ?_
          rotate_left
          · rintro w' ⟨s0, s1, s2⟩
            go_simp
            with_reducible rfl
          rotate_left
          · simp only [Act.put, List.setIfInBounds_toArray, List.set_cons_zero, List.set_cons_succ, i64_w, i32_w]
            rfl
          refine one_ (i := 4) (N := some 107) #[true, true, true, true, true, true, true, true, true, false, false, false, false, false, false, false, false, false, false, false, false, false, false, false, false, false, false, false, false, false, false, false, false, false, false, false, false, false] rfl rfl (by kernel_rfl) (by decide) (fun K hK => ?_)
          refine goes_ Tryd.func19 (by kernel_rfl) rfl #[(.agg #[.int .i64 x.f0, .int .i64 x.f1, .string x.f2])] (by rfl) rfl rfl (by simp only [List.map_toArray, List.map_cons, List.map_nil]; rfl) ?_
          with_reducible refine (hr1 _).mono ?_
          rintro e w21 ⟨rfl, hb⟩
          refine ⟨_, rfl, ?_⟩
          have HBR2 := Aside0.mk (below_step HBR1.out hb)
          refine hK.out _ _ ⟨cellB hHeld.1 hb, cellB hHeld.2.1 hb, cellB hHeld.2.2 hb⟩ (fun hHeld => ?_)
          clear hK K
          refine norm_ (a' := ?_) ?_ ?_
          rotate_left
          · show Act.put _ (some 107) _ = _
            simp only [Act.put, List.setIfInBounds_toArray, List.set_cons_zero, List.set_cons_succ, i64_w, i32_w]
            rfl
          refine one_ (i := 9) (N := some 112) #[true, true, true, true, true, true, true, true, true, true, false, false, false, false, false, false, false, false, false, false, false, false, false, false, false, false, false, false, false, false, false, false, false, false, false, false, false, false] rfl rfl (by kernel_rfl) (by decide) (fun K hK => ?_)
          refine goes_ Tryd.func20 (by kernel_rfl) rfl #[(.agg #[.int .i64 x.f0, .int .i64 x.f1, .string x.f2])] (by rfl) rfl rfl (by simp only [List.map_toArray, List.map_cons, List.map_nil]; rfl) ?_
          with_reducible refine (hr2 _).mono ?_
          rintro e w22 ⟨rfl, hb⟩
          refine ⟨_, rfl, ?_⟩
          have HBR3 := Aside0.mk (below_step HBR2.out hb)
          refine hK.out _ _ ⟨cellB hHeld.1 hb, cellB hHeld.2.1 hb, cellB hHeld.2.2 hb⟩ (fun hHeld => ?_)
          clear hK K
          refine norm_ (a' := ?_) ?_ ?_
          rotate_left
          · show Act.put _ (some 112) _ = _
            simp only [Act.put, List.setIfInBounds_toArray, List.set_cons_zero, List.set_cons_succ, i64_w, i32_w]
            rfl
          refine pure_ (i := 10) (N := some 113) (v := ?_) (a' := ?_) #[true, true, true, true, true, true, true, true, true, true, true, false, false, false, false, false, false, false, false, false, false, false, false, false, false, false, false, false, false, false, false, false, false, false, false, false, false, false] rfl rfl (by kernel_rfl) (fun _ _ _ h => h) (Or.inl ⟨by rfl, ?_⟩) ?_ ?_
          rotate_left
          · intro w'
            go_simp
            with_reducible rfl
          rotate_left
          · simp only [Act.put, List.setIfInBounds_toArray, List.set_cons_zero, List.set_cons_succ, i64_w, i32_w]
            rfl
          refine pure_ (i := 11) (N := some 114) (v := ?_) (a' := ?_) #[true, true, true, true, true, true, true, true, true, true, true, true, false, false, false, false, false, false, false, false, false, false, false, false, false, false, false, false, false, false, false, false, false, false, false, false, false, false] rfl rfl (by kernel_rfl) (fun _ _ _ h => h) (Or.inl ⟨by rfl, ?_⟩) ?_ ?_
          rotate_left
          · intro w'
            go_simp
            with_reducible rfl
          rotate_left
          · simp only [Act.put, List.setIfInBounds_toArray, List.set_cons_zero, List.set_cons_succ, i64_w, i32_w]
            rfl
          refine pure_ (i := 12) (N := some 115) (v := ?_) (a' := ?_) #[true, true, true, true, true, true, true, true, true, true, true, true, true, false, false, false, false, false, false, false, false, false, false, false, false, false, false, false, false, false, false, false, false, false, false, false, false, false] rfl rfl (by kernel_rfl) (fun _ _ _ h => h) (Or.inl ⟨by rfl, ?_⟩) ?_ ?_
          rotate_left
          · intro w'
            go_simp
            with_reducible rfl
          rotate_left
          · simp only [Act.put, List.setIfInBounds_toArray, List.set_cons_zero, List.set_cons_succ, i64_w, i32_w]
            rfl
          refine pure_ (i := 13) (N := some 116) (v := ?_) (a' := ?_) #[true, true, true, true, true, true, true, true, true, true, true, true, true, true, false, false, false, false, false, false, false, false, false, false, false, false, false, false, false, false, false, false, false, false, false, false, false, false] rfl rfl (by kernel_rfl) (fun _ _ _ h => h) (Or.inl ⟨by rfl, ?_⟩) ?_ ?_
          rotate_left
          · intro w'
            go_simp
            with_reducible rfl
          rotate_left
          · simp only [Act.put, List.setIfInBounds_toArray, List.set_cons_zero, List.set_cons_succ, i64_w, i32_w]
            rfl
          refine pure_ (i := 14) (N := some 117) (v := ?_) (a' := ?_) #[true, true, true, true, true, true, true, true, true, true, true, true, true, true, true, false, false, false, false, false, false, false, false, false, false, false, false, false, false, false, false, false, false, false, false, false, false, false] rfl rfl (by kernel_rfl) (fun _ _ _ h => h) (Or.inl ⟨by rfl, ?_⟩) ?_ ?_
          rotate_left
          · intro w'
            go_simp
            with_reducible rfl
          rotate_left
          · simp only [Act.put, List.setIfInBounds_toArray, List.set_cons_zero, List.set_cons_succ, i64_w, i32_w]
            rfl
          refine pure_ (i := 15) (N := some 118) (v := ?_) (a' := ?_) #[true, true, true, true, true, true, true, true, true, true, true, true, true, true, true, true, false, false, false, false, false, false, false, false, false, false, false, false, false, false, false, false, false, false, false, false, false, false] rfl rfl (by kernel_rfl) (fun _ _ _ h => h) (Or.inl ⟨by rfl, ?_⟩) ?_ ?_
          rotate_left
          · intro w'
            go_simp
            with_reducible rfl
          rotate_left
          · simp only [Act.put, List.setIfInBounds_toArray, List.set_cons_zero, List.set_cons_succ, i64_w, i32_w]
            rfl
          refine pure_ (i := 16) (N := some 119) (v := ?_) (a' := ?_) #[true, true, true, true, true, true, true, true, true, true, true, true, true, true, true, true, true, false, false, false, false, false, false, false, false, false, false, false, false, false, false, false, false, false, false, false, false, false] rfl rfl (by kernel_rfl) (fun _ _ _ h => h) (Or.inl ⟨by rfl, ?_⟩) ?_ ?_
          rotate_left
          · intro w'
            go_simp
            with_reducible rfl
          rotate_left
          · simp only [Act.put, List.setIfInBounds_toArray, List.set_cons_zero, List.set_cons_succ, i64_w, i32_w]
            rfl
          refine pure_ (i := 17) (N := some 120) (v := undef) (a' := ?_) #[true, true, true, true, true, true, true, true, true, true, true, true, true, true, true, true, true, true, false, false, false, false, false, false, false, false, false, false, false, false, false, false, false, false, false, false, false, false] rfl rfl (by kernel_rfl) (fun _ _ _ h => h) (Or.inr ⟨by rfl, rfl⟩) ?_ ?_
          rotate_left
          · simp only [Act.put, List.setIfInBounds_toArray, List.set_cons_zero, List.set_cons_succ, i64_w, i32_w]
            rfl
          refine pure_ (i := 18) (N := some 121) (v := undef) (a' := ?_) #[true, true, true, true, true, true, true, true, true, true, true, true, true, true, true, true, true, true, true, false, false, false, false, false, false, false, false, false, false, false, false, false, false, false, false, false, false, false] rfl rfl (by kernel_rfl) (fun _ _ _ h => h) (Or.inr ⟨by rfl, rfl⟩) ?_ ?_
          rotate_left
          · simp only [Act.put, List.setIfInBounds_toArray, List.set_cons_zero, List.set_cons_succ, i64_w, i32_w]
            rfl
          refine pure_ (i := 19) (N := some 122) (v := undef) (a' := ?_) #[true, true, true, true, true, true, true, true, true, true, true, true, true, true, true, true, true, true, true, true, false, false, false, false, false, false, false, false, false, false, false, false, false, false, false, false, false, false] rfl rfl (by kernel_rfl) (fun _ _ _ h => h) (Or.inr ⟨by rfl, rfl⟩) ?_ ?_
          rotate_left
          · simp only [Act.put, List.setIfInBounds_toArray, List.set_cons_zero, List.set_cons_succ, i64_w, i32_w]
            rfl
          refine pure_ (i := 20) (N := some 123) (v := undef) (a' := ?_) #[true, true, true, true, true, true, true, true, true, true, true, true, true, true, true, true, true, true, true, true, true, false, false, false, false, false, false, false, false, false, false, false, false, false, false, false, false, false] rfl rfl (by kernel_rfl) (fun _ _ _ h => h) (Or.inr ⟨by rfl, rfl⟩) ?_ ?_
          rotate_left
          · simp only [Act.put, List.setIfInBounds_toArray, List.set_cons_zero, List.set_cons_succ, i64_w, i32_w]
            rfl
          refine pure_ (i := 21) (N := some 124) (v := undef) (a' := ?_) #[true, true, true, true, true, true, true, true, true, true, true, true, true, true, true, true, true, true, true, true, true, true, false, false, false, false, false, false, false, false, false, false, false, false, false, false, false, false] rfl rfl (by kernel_rfl) (fun _ _ _ h => h) (Or.inr ⟨by rfl, rfl⟩) ?_ ?_
          rotate_left
          · simp only [Act.put, List.setIfInBounds_toArray, List.set_cons_zero, List.set_cons_succ, i64_w, i32_w]
            rfl
          refine pure_ (i := 22) (N := some 125) (v := undef) (a' := ?_) #[true, true, true, true, true, true, true, true, true, true, true, true, true, true, true, true, true, true, true, true, true, true, true, false, false, false, false, false, false, false, false, false, false, false, false, false, false, false] rfl rfl (by kernel_rfl) (fun _ _ _ h => h) (Or.inr ⟨by rfl, rfl⟩) ?_ ?_
          rotate_left
          · simp only [Act.put, List.setIfInBounds_toArray, List.set_cons_zero, List.set_cons_succ, i64_w, i32_w]
            rfl
          refine pure_ (i := 23) (N := some 126) (v := undef) (a' := ?_) #[true, true, true, true, true, true, true, true, true, true, true, true, true, true, true, true, true, true, true, true, true, true, true, true, false, false, false, false, false, false, false, false, false, false, false, false, false, false] rfl rfl (by kernel_rfl) (fun _ _ _ h => h) (Or.inr ⟨by rfl, rfl⟩) ?_ ?_
          rotate_left
          · simp only [Act.put, List.setIfInBounds_toArray, List.set_cons_zero, List.set_cons_succ, i64_w, i32_w]
            rfl
          refine pure_ (i := 24) (N := some 127) (v := undef) (a' := ?_) #[true, true, true, true, true, true, true, true, true, true, true, true, true, true, true, true, true, true, true, true, true, true, true, true, true, false, false, false, false, false, false, false, false, false, false, false, false, false] rfl rfl (by kernel_rfl) (fun _ _ _ h => h) (Or.inr ⟨by rfl, rfl⟩) ?_ ?_
          rotate_left
          · simp only [Act.put, List.setIfInBounds_toArray, List.set_cons_zero, List.set_cons_succ, i64_w, i32_w]
            rfl
          refine pure_ (i := 25) (N := some 128) (v := undef) (a' := ?_) #[true, true, true, true, true, true, true, true, true, true, true, true, true, true, true, true, true, true, true, true, true, true, true, true, true, true, false, false, false, false, false, false, false, false, false, false, false, false] rfl rfl (by kernel_rfl) (fun _ _ _ h => h) (Or.inr ⟨by rfl, rfl⟩) ?_ ?_
          rotate_left
          · simp only [Act.put, List.setIfInBounds_toArray, List.set_cons_zero, List.set_cons_succ, i64_w, i32_w]
            rfl
          refine pure_ (i := 26) (N := some 129) (v := undef) (a' := ?_) #[true, true, true, true, true, true, true, true, true, true, true, true, true, true, true, true, true, true, true, true, true, true, true, true, true, true, true, false, false, false, false, false, false, false, false, false, false, false] rfl rfl (by kernel_rfl) (fun _ _ _ h => h) (Or.inr ⟨by rfl, rfl⟩) ?_ ?_
          rotate_left
          · simp only [Act.put, List.setIfInBounds_toArray, List.set_cons_zero, List.set_cons_succ, i64_w, i32_w]
            rfl
          refine pure_ (i := 27) (N := some 130) (v := undef) (a' := ?_) #[true, true, true, true, true, true, true, true, true, true, true, true, true, true, true, true, true, true, true, true, true, true, true, true, true, true, true, true, false, false, false, false, false, false, false, false, false, false] rfl rfl (by kernel_rfl) (fun _ _ _ h => h) (Or.inr ⟨by rfl, rfl⟩) ?_ ?_
          rotate_left
          · simp only [Act.put, List.setIfInBounds_toArray, List.set_cons_zero, List.set_cons_succ, i64_w, i32_w]
            rfl
          refine pure_ (i := 28) (N := some 131) (v := undef) (a' := ?_) #[true, true, true, true, true, true, true, true, true, true, true, true, true, true, true, true, true, true, true, true, true, true, true, true, true, true, true, true, true, false, false, false, false, false, false, false, false, false] rfl rfl (by kernel_rfl) (fun _ _ _ h => h) (Or.inr ⟨by rfl, rfl⟩) ?_ ?_
          rotate_left
          · simp only [Act.put, List.setIfInBounds_toArray, List.set_cons_zero, List.set_cons_succ, i64_w, i32_w]
            rfl
          refine pure_ (i := 29) (N := some 132) (v := undef) (a' := ?_) #[true, true, true, true, true, true, true, true, true, true, true, true, true, true, true, true, true, true, true, true, true, true, true, true, true, true, true, true, true, true, false, false, false, false, false, false, false, false] rfl rfl (by kernel_rfl) (fun _ _ _ h => h) (Or.inr ⟨by rfl, rfl⟩) ?_ ?_
          rotate_left
          · simp only [Act.put, List.setIfInBounds_toArray, List.set_cons_zero, List.set_cons_succ, i64_w, i32_w]
            rfl
          refine pure_ (i := 30) (N := some 133) (v := undef) (a' := ?_) #[true, true, true, true, true, true, true, true, true, true, true, true, true, true, true, true, true, true, true, true, true, true, true, true, true, true, true, true, true, true, true, false, false, false, false, false, false, false] rfl rfl (by kernel_rfl) (fun _ _ _ h => h) (Or.inr ⟨by rfl, rfl⟩) ?_ ?_
          rotate_left
          · simp only [Act.put, List.setIfInBounds_toArray, List.set_cons_zero, List.set_cons_succ, i64_w, i32_w]
            rfl
          refine pure_ (i := 31) (N := some 134) (v := undef) (a' := ?_) #[true, true, true, true, true, true, true, true, true, true, true, true, true, true, true, true, true, true, true, true, true, true, true, true, true, true, true, true, true, true, true, true, false, false, false, false, false, false] rfl rfl (by kernel_rfl) (fun _ _ _ h => h) (Or.inr ⟨by rfl, rfl⟩) ?_ ?_
          rotate_left
          · simp only [Act.put, List.setIfInBounds_toArray, List.set_cons_zero, List.set_cons_succ, i64_w, i32_w]
            rfl
          refine pure_ (i := 32) (N := some 135) (v := undef) (a' := ?_) #[true, true, true, true, true, true, true, true, true, true, true, true, true, true, true, true, true, true, true, true, true, true, true, true, true, true, true, true, true, true, true, true, true, false, false, false, false, false] rfl rfl (by kernel_rfl) (fun _ _ _ h => h) (Or.inr ⟨by rfl, rfl⟩) ?_ ?_
          rotate_left
          · simp only [Act.put, List.setIfInBounds_toArray, List.set_cons_zero, List.set_cons_succ, i64_w, i32_w]
            rfl
          refine pure_ (i := 33) (N := some 136) (v := undef) (a' := ?_) #[true, true, true, true, true, true, true, true, true, true, true, true, true, true, true, true, true, true, true, true, true, true, true, true, true, true, true, true, true, true, true, true, true, true, false, false, false, false] rfl rfl (by kernel_rfl) (fun _ _ _ h => h) (Or.inr ⟨by rfl, rfl⟩) ?_ ?_
          rotate_left
          · simp only [Act.put, List.setIfInBounds_toArray, List.set_cons_zero, List.set_cons_succ, i64_w, i32_w]
            rfl
          refine pure_ (i := 34) (N := some 137) (v := undef) (a' := ?_) #[true, true, true, true, true, true, true, true, true, true, true, true, true, true, true, true, true, true, true, true, true, true, true, true, true, true, true, true, true, true, true, true, true, true, true, false, false, false] rfl rfl (by kernel_rfl) (fun _ _ _ h => h) (Or.inr ⟨by rfl, rfl⟩) ?_ ?_
          rotate_left
          · simp only [Act.put, List.setIfInBounds_toArray, List.set_cons_zero, List.set_cons_succ, i64_w, i32_w]
            rfl
          refine pure_ (i := 35) (N := some 138) (v := undef) (a' := ?_) #[true, true, true, true, true, true, true, true, true, true, true, true, true, true, true, true, true, true, true, true, true, true, true, true, true, true, true, true, true, true, true, true, true, true, true, true, false, false] rfl rfl (by kernel_rfl) (fun _ _ _ h => h) (Or.inr ⟨by rfl, rfl⟩) ?_ ?_
          rotate_left
          · simp only [Act.put, List.setIfInBounds_toArray, List.set_cons_zero, List.set_cons_succ, i64_w, i32_w]
            rfl
          refine pure_ (i := 36) (N := some 139) (v := ?_) (a' := ?_) #[true, true, true, true, true, true, true, true, true, true, true, true, true, true, true, true, true, true, true, true, true, true, true, true, true, true, true, true, true, true, true, true, true, true, true, true, true, false] rfl rfl (by kernel_rfl) (fun _ _ _ h => h) (Or.inl ⟨by rfl, ?_⟩) ?_ ?_
          rotate_left
          · intro w'
            go_simp
            with_reducible rfl
          rotate_left
          · simp only [Act.put, List.setIfInBounds_toArray, List.set_cons_zero, List.set_cons_succ, i64_w, i32_w]
            rfl
          refine pure_ (i := 37) (N := some 140) (v := ?_) (a' := ?_) #[true, true, true, true, true, true, true, true, true, true, true, true, true, true, true, true, true, true, true, true, true, true, true, true, true, true, true, true, true, true, true, true, true, true, true, true, true, true] rfl rfl (by kernel_rfl) (fun _ _ _ h => h) (Or.inl ⟨by rfl, ?_⟩) ?_ ?_
          rotate_left
          · intro w'
            go_simp
            with_reducible rfl
          rotate_left
          · simp only [Act.put, List.setIfInBounds_toArray, List.set_cons_zero, List.set_cons_succ, i64_w, i32_w]
            rfl
          refine done_ (by kernel_rfl) ?_
          go_wp2
          go_roundw
          case rel => exact ⟨i + 1, by omega, by go_num, Lib.hid HBR3.out⟩
          case measure => simp [intOf]; omega
      · obtain rfl : i = k1.length := by omega
        go_wp2
        go_meet
        exact Lib.hid HBW.out
  case rest =>
    have HBx := Aside0.mk (below_step HG13.out hcut.out)
    have HDx := Aside0.mk (below_step HE13.out hcut.out)
    have HLx := Aside0.mk (Kd.R_below HL7.out HDx.out)
    have HMx := Aside0.mk (Kd.R_below HM7.out HDx.out)
    have HWx := Aside0.mk (Kd.R_below HW7.out HDx.out)
    have HGA := Aside0.mk (show ∀ g, (Value.slice A5 ls.length c5).ownBlock = some g → w4.heap.size ≤ g ∧ g < w5.heap.size from fun g e => by
      obtain ⟨inner, ho⟩ := Kd.R_own HL5.out
      exact ⟨Go.Proofs.YtkndegjjiimheaaDoorW.PrintWords.own_base ho g e, Go.Proofs.YtkndegjjiimheaaDoorW.PrintWords.own_lt ho g e⟩)
    have HZ56 := Aside0.mk (show w.heap.size ≤ w4.heap.size ∧ w5.heap.size ≤ w6.heap.size from ⟨HB4.out.size, HS56.out⟩)
    clear L2 HC1 HC2 KP1 KP2 HX1S LK LQ LB LR LO LP HX1 HB1 HX2 HX1b HB2 HB3 HD2 HB4 HD3 HL5 HB5 HD4 HM6 HL6 HD6 HB6 HL7 HM7 HW7 HB7 HD7 HE8 HE9 HE10 HE11 HE12 HE13 HG13 hcut HDx HS56
    go_upto_block 2 with (fail)
    go_cut [20] (fun v wy => Hid (∃ inner, wy.ownsRow w4.heap.size 45 3 (.slice A5 ls.length c5) ls.length inner) ∧ Hid (KRow wy w5.heap.size (.slice A6 ls.length c6) ls) ∧ Hid (KRow wy w6.heap.size (.slice A7 ls.length c7) ls) ∧ Hid (Below w.heap.size w wy))
    case first =>
      go_wp2_with (fail)
      go_loopw [20] (fun vi wr => ∃ k : Nat, k ≤ ls.length ∧ vi = .int .i64 (k : Int) ∧ Hid (∃ inner, wr.ownsRow w4.heap.size 45 3 (.slice A5 ls.length c5) ls.length inner) ∧ Hid (KRow wr w5.heap.size (.slice A6 ls.length c6) ls) ∧ Hid (KRow wr w6.heap.size (.slice A7 ls.length c7) ls) ∧ Hid (Below w.heap.size w wr))
        (fun vi _ => ls.length - (intOf vi).toNat)
      case atStart => exact ⟨0, Nat.zero_le _, rfl, Lib.hid (Kd.R_own HLx.out), Lib.hid HMx.out, Lib.hid HWx.out, Lib.hid HBx.out⟩
      case round =>
        obtain ⟨k, hk, rfl, hA, hB, hW, hBl⟩ := hrel
        by_cases hlt : k < ls.length
        · have hlt' : (k : Int) < (ls.length : Int) := by omega
          obtain ⟨inner, hin⟩ := hA.out
          obtain ⟨g, cg, hv, hgb, hgl⟩ := hin.form (by omega)
          injection hv with hv1 hv2 hv3
          subst hv1
          subst hv3
          obtain ⟨hg1, hg2⟩ := HGA.out g rfl
          obtain ⟨⟨y0, x0⟩, f0⟩ := own_cells hin (k * 3) (by omega)
          obtain ⟨⟨y1, x1⟩, f1⟩ := own_cells hin (k * 3 + 1) (by omega)
          obtain ⟨⟨y2, x2⟩, f2⟩ := own_cells hin (k * 3 + 2) (by omega)
          have HIN := Aside0.mk hin
          clear hin
          go_wp2
          obtain ⟨o0, q0⟩ := own_setCell HIN.out (k * 3) (.int .i64 (-7))
          obtain ⟨o1, q1⟩ := own_setCell o0 (k * 3 + 1) (.int .i64 0)
          obtain ⟨o2, q2⟩ := own_setCell o1 (k * 3 + 2) (.string ⟨#[]⟩)
          have hz := HZ56.out.1
          have hz2 := HZ56.out.2
          have hgw : w.heap.size ≤ g := by omega
          go_roundw
          case rel => exact ⟨k + 1, by omega, by go_num, Lib.hid ⟨_, o2⟩, Lib.hid (krow_keep (krow_keep (krow_keep hB.out q0 hg2) q1 hg2) q2 hg2), Lib.hid (krow_keep (krow_keep (krow_keep hW.out q0 (by omega)) q1 (by omega)) q2 (by omega)), Lib.hid (((hBl.out.setCell (p := ⟨g, k * 3, none⟩) hgw _).setCell (p := ⟨g, k * 3 + 1, none⟩) hgw _).setCell (p := ⟨g, k * 3 + 2, none⟩) hgw _)⟩
          case measure => simp [intOf]; omega
        · obtain rfl : k = ls.length := by omega
          go_wp2
          go_meet
          exact ⟨hA, hB, hW, hBl⟩
    case rest =>
      obtain ⟨hA, hM, hW, hBw⟩ := hcut
      obtain ⟨in0, hin0⟩ := hA.out
      have HIN0 := Aside0.mk hin0
      have HM := Aside0.mk hM.out
      have HW := Aside0.mk hW.out
      have HBC := Aside0.mk hBw.out
      clear hA hM hW hBw hin0 HLx HMx HWx HBx HGA HZ56
      go_upto_block 4 with (fail)
      obtain ⟨n, hn⟩ : ∃ n, n = ls.length := ⟨_, rfl⟩
      have HN := Aside0.mk hn
      have hn1 : n ≤ 1048576 := by omega
      rw [← hn] at HIN0 HM HW SM HK7
      rw [← hn]
      clear hn hlen
      go_cut [13, 15, 21] (fun vl vm v wz => Hid (∃ inner, wz.ownsRow wc.heap.size 45 3 vl (n + 30) inner ∧ Mk8 n 30 inner) ∧ Hid (KRow wz wc.heap.size vm (ls ++ List.replicate 30 ⟨-9, 0, ⟨#[]⟩⟩)) ∧ Hid (Below wc.heap.size wc wz))
      case first =>
        go_wp2_with (fail)
        go_loopw [13, 15, 21] (fun vl vm vi wr => ∃ k : Nat, k ≤ 30 ∧ vi = .int .i64 (k : Int) ∧ Hid (k = 0 → vl = .slice A5 n n ∧ vm = .slice A6 n n ∧ wr = wc) ∧ Hid (0 < k → (∃ inner, wr.ownsRow wc.heap.size 45 3 vl (n + k) inner ∧ Mk8 n k inner) ∧ Kd.R k45 45 wr wc.heap.size (fun j => some j ≠ vl.ownBlock) vm (ls ++ List.replicate k ⟨-9, 0, ⟨#[]⟩⟩)) ∧ Hid (Below wc.heap.size wc wr))
          (fun _ _ vi _ => 30 - (intOf vi).toNat)
        case atStart => exact ⟨0, by omega, rfl, Lib.hid (fun _ => ⟨rfl, rfl, rfl⟩), Lib.hid (fun h => absurd h (by omega)), Lib.hid (Below.refl _ _)⟩
        case round =>
          obtain ⟨k, hk, rfl, h0, hp, hBl⟩ := hrel
          by_cases hlt : k < 30
          · have hlt' : (k : Int) < 30 := by omega
            by_cases hk0 : k = 0
            · obtain ⟨rfl, rfl, hwr⟩ := h0.out hk0
              subst hk0
              subst hwr
              clear h0 hp
              obtain ⟨_, inm, hom, hrm⟩ := HM.out
              rw [← HN.out] at hom
              have HRM := Aside0.mk hrm
              have HOM := Aside0.mk hom
              clear hom hrm
              go_wp2_with (first
                | ((with_reducible refine gate_builtin (b := .append) (xs := #[.tmp 155, .tmp 157]) rfl ?_); at_builtin; refine first_app (W := wr) (w0 := wr) wr.heap.size rfl (.tmp 155) (.tmp 157) rfl A5 n c5 _ in0 c8 rfl rfl rfl (by decide) HIN0.out (Nat.le_refl _) (Below.refl _ _) (by omega) ?_; intro v5 w25 ho5 hf5 hb5 hd5; have HO5 := Aside0.mk ho5; have HF5 := Aside0.mk hf5; have HB5 := Aside0.mk hb5; have HOM5 := Aside0.mk (own_move HOM.out (fun k hk => hd5.block k (Go.Proofs.YtkndegjjiimheaaDoorW.PrintWords.own_lt HOM.out k hk))); clear ho5 hf5 hb5 hd5)
                | ((with_reducible refine gate_builtin (b := .append) (xs := #[.tmp 159, .tmp 161]) rfl ?_); at_builtin; refine first_app (W := w25) (w0 := wr) wr.heap.size rfl (.tmp 159) (.tmp 161) rfl A6 n c6 _ inm [.int .i64 (-9), .int .i64 0, .string ⟨#[]⟩] rfl rfl rfl (by decide) HOM5.out HB5.out.size HB5.out (by omega) ?_; intro v6 w26 ho6 hf6 hb6 hd6; have HO6 := Aside0.mk ho6; have HF6 := Aside0.mk hf6; have HB6 := Aside0.mk hb6; have HO56 := Aside0.mk (own_move HO5.out (fun k hk => hd6.block k (HF5.out k hk).2)); clear ho6 hf6 hb6 hd6))
              go_roundw
              case rel => exact ⟨1, by omega, by go_num, Lib.hid (fun h => absurd h (by omega)), Lib.hid (fun _ => ⟨⟨_, HO56.out, mk8_step (k := 0) (fun j hj => absurd hj (by omega)) HIN0.out.1⟩, row_of ⟨-9, 0, ⟨#[]⟩⟩ HRM.out (by rw [← HN.out]; exact HO6.out) (fun q hq e => by have := (HF5.out q e.symm).2; have := (HF6.out q hq).1; omega)⟩), Lib.hid HB6.out⟩
              case measure => simp [intOf]
            · obtain ⟨⟨inner, hin, hmk⟩, hR⟩ := hp.out (by omega)
              have HIN := Aside0.mk hin
              have HMK := Aside0.mk hmk
              have HR := Aside0.mk hR
              clear h0 hp hin hmk hR HIN0 HM
              go_wp2_with (first
                | ((with_reducible refine gate_builtin (b := .append) (xs := #[.tmp 155, .tmp 157]) rfl ?_); at_builtin; refine print_append_cells (w0 := wc) wc.heap.size rfl (.tmp 155) (.tmp 157) 33 45 (.agg #[(.int .i64 0), (.int .i64 0), (.string ⟨#[]⟩)]) 3 32 rfl Tryd.underlying33 info45 rfl (by decide) (by omega) u13 (n + k) inner c8 rfl rfl rfl (by decide) HIN.out hBl.out hBl.out.size (by omega) ?_; intro v5 w25 ho5 hb5 hg5 hat5; have HO5 := Aside0.mk ho5; have HB5 := Aside0.mk hb5; have HR5 := Aside0.mk (m_past HR.out hg5 hat5); clear ho5 hb5 hg5 hat5)
                | ((with_reducible refine gate_builtin (b := .append) (xs := #[.tmp 159, .tmp 161]) rfl ?_); at_builtin; refine Kd.R_append k45 (w0 := wc) wc.heap.size rfl (.tmp 159) (.tmp 161) 33 45 (.agg #[(.int .i64 0), (.int .i64 0), (.string ⟨#[]⟩)]) 32 rfl Tryd.underlying33 info45 rfl (by decide) (by omega) u15 _ (⟨-9, 0, ⟨#[]⟩⟩ : S45) [.int .i64 (-9), .int .i64 0, .string ⟨#[]⟩] (fun j => some j ≠ v5.ownBlock) (fun _ => False) rfl rfl (k45_mkM _ _ _ _) (fun _ h => h.elim) (fun q hq e => by have := Go.Proofs.YtkndegjjiimheaaDoorW.PrintWords.own_lt HO5.out q e.symm; omega) HR5.out HB5.out HB5.out.size (by rw [List.length_append, List.length_replicate, ← HN.out]; omega) ?_; intro v6 w26 ho6 hb6 hg6 hat6; have HO6 := Aside0.mk ho6; have HB6 := Aside0.mk hb6; have HO56 := Aside0.mk (l_past HO5.out HR5.out hg6); clear ho6 hb6 hg6 hat6))
              go_roundw
              case rel => exact ⟨k + 1, by omega, by go_num, Lib.hid (fun h => absurd h (by omega)), Lib.hid (fun _ => ⟨⟨_, HO56.out, mk8_step HMK.out HIN.out.1⟩, by rw [List.replicate_succ', ← List.append_assoc]; exact HO6.out⟩), Lib.hid HB6.out⟩
              case measure => simp [intOf]; omega
          · obtain rfl : k = 30 := by omega
            go_wp2
            go_meet
            obtain ⟨h1, h2⟩ := hp.out (by omega)
            exact ⟨Lib.hid h1, Lib.hid (Kd.R_mono h2 (fun _ _ => trivial)), hBl⟩
      case rest =>
        obtain ⟨hL, hM2, hB2⟩ := hcut
        obtain ⟨inner, hin, hmk⟩ := hL.out
        obtain ⟨g, cl, hv, hat⟩ := mk8_at hin hmk (by omega)
        subst hv
        have p0 := hat 0 (by omega)
        have p29 := hat 29 (by omega)
        rw [Nat.add_zero] at p0
        obtain ⟨A9, c9, hv9⟩ := Kd.R_slice hM2.out
        subst hv9
        have hl9 : (ls ++ List.replicate 30 (⟨-9, 0, ⟨#[]⟩⟩ : S45)).length = n + 30 := by rw [List.length_append, List.length_replicate, ← HN.out]
        obtain ⟨_, hc9, hC9⟩ := Kd.R_reads' hM2.out
        have ht9 := Kd.C_take (m := n) hC9 (by omega)
        rw [List.take_append_of_le_length (by rw [← HN.out]; exact Nat.le_refl _), show ls.take n = ls by rw [HN.out, List.take_length], ← HN.out] at ht9
        rw [hl9] at hc9 ⊢
        obtain ⟨i45, hi45⟩ := info45i
        have hct := cut_over (P := Tryd.prog) 33 45 .i64 Tryd.underlying33 hi45 A9 (n + 30) c9 (n : Int) (by omega) (by omega)
        rw [Int.toNat_natCast] at hct
        have hW7 := Kd.C_below (Kd.R_reads' HW.out).2.2 hB2.out
        rw [← HN.out] at hW7
        have hsm := SM.out _ A9 A7 c9 c7 (by omega) HK7.out ht9 hW7
        have HBz := Aside0.mk (below_step HBC.out hB2.out)
        have P0 := Aside0.mk p0
        have P29 := Aside0.mk p29
        have q29 : ((n : Int) + 29).toNat = n + 29 := by omega
        clear hL hM2 hB2 hin hmk hat p0 p29 hl9 hC9 ht9 hi45 hW7 SM HW HM HIN0
        go_wp2_with (first
          | (go_at_call 17; (with_reducible refine hsm.mono ?_); clear hsm; rintro e w30 ⟨rfl, hb30⟩; have p30 := cellB P0.out hb30; have p31 := cellB P29.out hb30; have HB30 := Aside0.mk (below_step HBz.out hb30); have HT30 := Aside0.mk (HT.out.kp HB30.out); clear hb30)
          | (go_at_call 9; (with_reducible refine (awake_c _ HT30.out).mono ?_); rintro e w31 ⟨rfl, hb31⟩; have HB31 := Aside0.mk (below_step HB30.out hb31); clear hb31))
        go_ret
        exact ⟨rfl, HB31.out⟩
end Go.Proofs.YtkndegjjiimheaaDoor.Ord
