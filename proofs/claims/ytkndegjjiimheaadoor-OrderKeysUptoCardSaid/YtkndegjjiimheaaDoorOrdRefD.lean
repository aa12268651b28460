/- The document's Decimal walked (lecternref07.Decimal). -/
import Derived.Test.YtkndegjjiimheaaDoorOrdRefDP
set_option linter.unusedVariables false
set_option linter.unusedSimpArgs false
namespace Go.Proofs.YtkndegjjiimheaaDoor.Ord
open Go Go.RowKit Go.Proofs.YtkndegjjiimheaaDoorW.PrintWords Go.Proofs.YtkndegjjiimheaaDoorW.PrintLast Go.Proofs.OrdPlain Go.Lib

/-! ### the shape's cases -/
theorem bad_shape (rest : List UInt8) (m : Nat) (h : rest.takeWhile isDig = [] ∨ 19 < (rest.takeWhile isDig).length ∨ ((rest.takeWhile isDig).head? = some 48 ∧ 1 < (rest.takeWhile isDig).length)) : refShape rest m = none := by
  unfold refShape; rw [if_pos h]
theorem nil_shape (rest : List UInt8) (m : Nat) (h : ¬ (rest.takeWhile isDig = [] ∨ 19 < (rest.takeWhile isDig).length ∨ ((rest.takeWhile isDig).head? = some 48 ∧ 1 < (rest.takeWhile isDig).length))) (hr : rest.dropWhile isDig = []) :
    refShape rest m = some (rest.takeWhile isDig ++ List.replicate m 48) := by
  unfold refShape; rw [if_neg h, hr]
theorem odd_shape (rest : List UInt8) (m : Nat) (c : UInt8) (r : List UInt8) (hr : rest.dropWhile isDig = c :: r) (hc : c ≠ 46) : refShape rest m = none := by
  unfold refShape
  split
  · rfl
  · rw [hr]; exact if_neg hc
theorem dot_shape (rest : List UInt8) (m : Nat) (h : ¬ (rest.takeWhile isDig = [] ∨ 19 < (rest.takeWhile isDig).length ∨ ((rest.takeWhile isDig).head? = some 48 ∧ 1 < (rest.takeWhile isDig).length))) (r : List UInt8) (hr : rest.dropWhile isDig = 46 :: r) :
    refShape rest m = if r.takeWhile isDig = [] then none else if r.dropWhile isDig ≠ [] ∨ m < (r.takeWhile isDig).length then none else some (rest.takeWhile isDig ++ r.takeWhile isDig ++ List.replicate (m - (r.takeWhile isDig).length) 48) := by
  unfold refShape; rw [if_neg h, hr]; exact if_pos rfl

set_option maxRecDepth 100000 in
set_option maxHeartbeats 2000000 in
theorem ref_walk (l : List UInt8) (hl : l.length ≤ 140737488351232) (m : Nat) (hm : m ≤ 9) (f : Nat) (b : Bool) (hf : f ≤ l.length) (hb : b = decide (0 < l.length ∧ l.getD 0 0 = 45)) (hfb : f = if b = true then 1 else 0) (X : Int × Int)
    (hX : X = match refShape (l.drop f) m with | none => ((0 : Int), (70 : Int)) | some all => match refNum b all with | some n => (n, 0) | none => (0, 70)) (w : World) :
    Calls Tryd.prog 6 #[.string (txt l), .int .i64 m] w fun e w' => e = .returned (two X) ∧ Below w.heap.size w w' := by
  have hS : (txt l).size = l.length := txt_size l
  have hAt := fun i => txt_at l i
  have HX := Aside0.mk hX
  have HST := Aside0.mk (fun k h => dig_step l f hf k h)
  have HEN := Aside0.mk (dig_stop l f hf)
  obtain ⟨L, hL⟩ : ∃ L, L = l.length := ⟨_, rfl⟩
  obtain ⟨S, hSS⟩ : ∃ S, S = txt l := ⟨_, rfl⟩
  obtain ⟨W, hW⟩ : ∃ W, W = (l.drop f).takeWhile isDig := ⟨_, rfl⟩
  rw [← hW] at HST HEN
  rw [← hL] at hl hS HST HEN hb hf
  rw [← hSS] at hS ⊢
  have HAT := Aside0.mk (show ∀ i (h : i < S.size), S[i]'h = l.getD i 0 by subst hSS; exact hAt)
  have HSS := Aside0.mk hSS
  have HW := Aside0.mk hW
  have HL := Aside0.mk hL
  have HB := Aside0.mk hb
  have HFB := Aside0.mk hfb
  have hWL := HEN.out.1
  obtain ⟨a1, ha1⟩ : ∃ a1, a1 = f + W.length := ⟨_, rfl⟩
  obtain ⟨R, hR⟩ : ∃ R, R = (l.drop f).dropWhile isDig := ⟨_, rfl⟩
  rw [← hR, ← ha1] at HEN
  have HR := Aside0.mk hR
  have a1L : a1 ≤ L := by omega
  have a1f : f ≤ a1 := by omega
  have hBAD := bad_shape (l.drop f) m
  have hNIL := nil_shape (l.drop f) m
  have hODD := odd_shape (l.drop f) m
  have hDOT := dot_shape (l.drop f) m
  rw [← hW] at hBAD hNIL hDOT
  rw [← hR] at hNIL hODD hDOT
  have HBAD := Aside0.mk hBAD
  have HNIL := Aside0.mk hNIL
  have HODD := Aside0.mk hODD
  have HDOT := Aside0.mk hDOT
  have HA1 := Aside0.mk ha1
  have m0 : ¬ (m : Int) < 0 := by omega
  have m9 : ¬ (9 : Int) < (m : Int) := by omega
  clear hX hAt hL hSS hW hb hfb ha1 hR hBAD hNIL hODD hDOT
  go_enter Tryd.func6, Tryd.ntmps6
  go_upto_region 4 with (fail)
  go_cut [7] (fun v wx => v = .bool b ∧ w = wx)
  case first =>
    have hb := HB.out
    by_cases h0 : 0 < L
    · have hat := fun h => HAT.out 0 h
      by_cases h1 : l.getD 0 0 = 45
      · have e : b = true := by rw [hb, decide_eq_true ⟨h0, h1⟩]
        rw [h1] at hat
        clear hb HB
        go_wp2
        go_meet
        exact ⟨by rw [e], rfl⟩
      · have e : b = false := by rw [hb, decide_eq_false (fun h => h1 h.2)]
        have hne : ∀ h, (((S[0]'h).toNat : Int) == 45) = false := fun h => beq_false_of_ne (fun e => h1 (by
          rw [← hat h]; exact UInt8.toNat_inj.1 (show _ = 45 by omega)))
        clear hb HB hat
        go_wp2
        go_meet
        exact ⟨by rw [e], rfl⟩
    · have e : b = false := by rw [hb, decide_eq_false (fun h => h0 h.1)]
      clear hb HB
      go_wp2
      go_meet
      exact ⟨by rw [e], rfl⟩
  case rest =>
    obtain ⟨rfl, rfl⟩ := hcut
    go_upto_if 28 with (fail)
    go_cut [6] (fun v wx => v = .int .i64 f ∧ w = wx)
    case first =>
      have hfb := HFB.out
      cases b
      · simp at hfb
        go_wp2
        go_meet
        exact ⟨by rw [hfb]; rfl, rfl⟩
      · simp at hfb
        go_wp2
        go_meet
        exact ⟨by rw [hfb]; rfl, rfl⟩
    case rest =>
      obtain ⟨rfl, rfl⟩ := hcut
      go_upto_block 0 with (fail)
      go_cut [6, 8] (fun va v wx => va = .int .i64 (a1 : Int) ∧ Hid (OwnB w.heap.size wx v W) ∧ Hid (Below w.heap.size w wx))
      case first =>
        obtain ⟨i0, hi, iz0, iz1, iz2⟩ := info_parts info5
        go_wp2_with (fail)
        go_loopw [6, 8] (fun va v wr => ∃ k : Nat, k ≤ W.length ∧ va = .int .i64 ((f + k : Nat) : Int) ∧ Hid (OwnB w.heap.size wr v (W.take k)) ∧ Hid (Below w.heap.size w wr))
          (fun va _ _ => f + W.length - (intOf va).toNat)
        case atStart => exact ⟨0, Nat.zero_le _, rfl, Lib.hid (OwnB.nil _ _), Lib.hid (Below.refl _ _)⟩
        case round =>
          obtain ⟨k, hk, rfl, ho, hbw⟩ := hrel
          have HO := Aside0.mk ho.out
          have HBW := Aside0.mk hbw.out
          clear ho hbw
          obtain ⟨a, ha⟩ : ∃ a, a = f + k := ⟨_, rfl⟩
          rw [← ha]
          have ka : a ≤ f + W.length := by omega
          by_cases hlt : k < W.length
          · obtain ⟨s1, s2, s3⟩ := HST.out k hlt
            rw [← ha] at s1 s2 s3
            have hat := fun h => HAT.out a h
            generalize l.getD a 0 = c at s2 s3 hat
            have hkl : (W.take k).length = k := by rw [List.length_take]; omega
            have HKL := Aside0.mk hkl
            have HS3 := Aside0.mk s3
            have ho := HO.out
            unfold OwnB at ho
            rw [hkl] at ho
            have HOO := Aside0.mk ho
            have hbs := HBW.out.size
            have wa : IntKind.i64.wrap ((a : Int) + 1) = (a : Int) + 1 := wrap_small _ (by omega) (by omega)
            have kk : k ≤ 140737488351232 := by omega
            have ka2 : a < f + W.length := by omega
            have HAA := Aside0.mk ha
            clear ha ho hkl s3 wa
            go_wp2_with (first
              | (go_at_call 28; with_reducible refine (digit_y c s2 _).mono ?_; rintro e w' ⟨rfl, rfl⟩)
              | (at_builtin; refine wpList_append_own _ rfl _ _ 58 rfl w.heap.size 5 i0 (.int .u8 0) 1 1 Tryd.underlying58 hi iz0 iz1 iz2 rfl (by decide) _ _ _ rfl (HOO.out.alloc _) ⟨wr.heap.size, 0, none⟩ 1 1 [.int .u8 (c.toNat : Int)] rfl rfl (cell_one_new _ _ _) (by simp [Value.oneCell']) (by unfold maxLen; omega) (by omega) (by simp; omega) ?_; intro v' w1 hown' hgrow hx; clear hx))
            refine ⟨⟨k + 1, hlt, by rw [HAA.out]; rfl, Lib.hid (by rw [HS3.out]; exact own_snoc (by rw [HKL.out]; exact hown')), Lib.hid (own_grown HBW.out HOO.out hbs hgrow)⟩, ?_⟩
            simp [intOf]; omega
          · have hkW : k = W.length := by omega
            have HKW := Aside0.mk hkW
            have HAA := Aside0.mk (ha.trans (by rw [hkW, ← HA1.out]))
            have hOW := Aside0.mk (show OwnB w.heap.size wr u8 W by have := HO.out; rw [hkW, List.take_length] at this; exact this)
            clear ha hkW
            rcases HEN.out.2 with ⟨_, e2⟩ | ⟨c, r, _, e2, e3, e4, _⟩
            · have q : ¬ (a : Int) < (L : Int) := by rw [HAA.out]; omega
              clear e2
              go_wp2
              go_meet
              exact ⟨by rw [HAA.out], Lib.hid hOW.out, Lib.hid HBW.out⟩
            · have q : (a : Int) < (L : Int) := by rw [HAA.out]; omega
              have qn : a < L := by rw [HAA.out]; omega
              have hat := fun h => HAT.out a h
              rw [HAA.out, e3, ← HAA.out] at hat
              clear e3 e4
              go_wp2_with (go_at_call 28; with_reducible refine (digit_n c e2 _).mono ?_; rintro e w' ⟨rfl, rfl⟩)
              go_meet
              exact ⟨by rw [HAA.out], Lib.hid hOW.out, Lib.hid HBW.out⟩
      case rest =>
        obtain ⟨rfl, hoW, hbW⟩ := hcut
        have HO1 := Aside0.mk hoW.out
        have HB1 := Aside0.mk hbW.out
        clear hoW hbW
        have hol := HO1.out
        have c46 : ¬ (W = [] ∨ 19 < W.length ∨ (W.head? = some 48 ∧ 1 < W.length)) → (1 ≤ W.length ∧ W.length ≤ 19) := by
          intro h
          have : W ≠ [] := fun e => h (.inl e)
          have := List.length_pos_iff.2 this
          exact ⟨this, by omega⟩
        have hHd : ∀ h : 0 < W.length, l.getD f 0 = W.getD 0 0 ∧ f < L := by
          intro h
          obtain ⟨q1, _, q3⟩ := HST.out 0 h
          rw [Nat.add_zero] at q1 q3
          refine ⟨?_, q1⟩
          cases hW : W with
          | nil => rw [hW] at h; simp at h
          | cons x r => rw [hW] at q3; have := (List.cons.inj q3).1; exact this.symm
        have HHD := Aside0.mk hHd
        have HC46 := Aside0.mk c46
        clear hol c46 hHd
        obtain ⟨bad, hbadE⟩ : ∃ bad, bad = decide (W = [] ∨ 19 < W.length ∨ (W.head? = some 48 ∧ 1 < W.length)) := ⟨_, rfl⟩
        have HBE := Aside0.mk hbadE
        clear hbadE
        go_upto_region 12 with (fail)
        go_cut [68] (fun v wx => v = .bool bad ∧ wc = wx)
        case first =>
          have ha1 := HA1.out
          by_cases q0 : W.length = 0
          · have q1 : W = [] := List.eq_nil_of_length_eq_zero q0
            have e1 : a1 = f := by omega
            have HD := Aside0.mk (decide_eq_true (show W = [] ∨ 19 < W.length ∨ (W.head? = some 48 ∧ 1 < W.length) from .inl q1))
            clear ha1 q1 q0
            subst e1
            go_wp2
            go_meet
            exact ⟨by rw [HBE.out, HD.out], rfl⟩
          have e0 : ((a1 : Int) == (f : Int)) = false := beq_false_of_ne (by omega)
          have e0' : ¬ (a1 : Int) = (f : Int) := by omega
          have wsub : IntKind.i64.wrap ((a1 : Int) - (f : Int)) = (a1 : Int) - (f : Int) := wrap_small _ (by omega) (by omega)
          by_cases q19 : 19 < W.length
          · have HD := Aside0.mk (decide_eq_true (show W = [] ∨ 19 < W.length ∨ (W.head? = some 48 ∧ 1 < W.length) from .inr (.inl q19)))
            have r19 : (19 : Int) < (a1 : Int) - (f : Int) := by omega
            have d19 : decide ((19 : Int) < (a1 : Int) - (f : Int)) = true := decide_eq_true r19
            clear ha1 q0 q19
            go_wp2
            go_meet
            exact ⟨by rw [HBE.out, HD.out], rfl⟩
          have r19 : ¬ (19 : Int) < (a1 : Int) - (f : Int) := by omega
          have d19 : decide ((19 : Int) < (a1 : Int) - (f : Int)) = false := decide_eq_false r19
          obtain ⟨h1, h2⟩ := HHD.out (by omega)
          have hat := fun h => HAT.out f h
          rw [h1] at hat
          have hWn : ¬ W = [] := fun e => q0 (by rw [e]; rfl)
          have hh : W.head? = some (W.getD 0 0) := by
            cases hW : W with
            | nil => exact absurd hW hWn
            | cons x r => simp
          generalize W.getD 0 0 = c at h1 hat hh
          by_cases q48 : c = 48
          · subst q48
            by_cases q1 : 1 < W.length
            · have HD := Aside0.mk (decide_eq_true (show W = [] ∨ 19 < W.length ∨ (W.head? = some 48 ∧ 1 < W.length) from .inr (.inr ⟨hh, q1⟩)))
              have r1 : (1 : Int) < (a1 : Int) - (f : Int) := by omega
              have d1 : decide ((1 : Int) < (a1 : Int) - (f : Int)) = true := decide_eq_true r1
              clear ha1 q0 q19 h1 hh hWn q1
              go_wp2
              go_meet
              exact ⟨by rw [HBE.out, HD.out], rfl⟩
            · have HD := Aside0.mk (decide_eq_false (show ¬ (W = [] ∨ 19 < W.length ∨ (W.head? = some 48 ∧ 1 < W.length)) from fun h => h.elim hWn (fun h => h.elim q19 (fun h => q1 h.2))))
              have r1 : ¬ (1 : Int) < (a1 : Int) - (f : Int) := by omega
              have d1 : decide ((1 : Int) < (a1 : Int) - (f : Int)) = false := decide_eq_false r1
              clear ha1 q0 q19 h1 hh hWn q1
              go_wp2
              go_meet
              exact ⟨by rw [HBE.out, HD.out], rfl⟩
          · have HD := Aside0.mk (decide_eq_false (show ¬ (W = [] ∨ 19 < W.length ∨ (W.head? = some 48 ∧ 1 < W.length)) from fun h => h.elim hWn (fun h => h.elim q19 (fun h => q48 (by rw [hh] at h; exact Option.some.inj h.1)))))
            have hne : ((c.toNat : Int) == 48) = false := beq_false_of_ne (fun e => q48 (UInt8.toNat_inj.1 (show _ = 48 by omega)))
            clear ha1 q0 q19 h1 hh hWn q48
            go_wp2
            go_meet
            exact ⟨by rw [HBE.out, HD.out], rfl⟩
        case rest =>
          obtain ⟨rfl, rfl⟩ := hcut
          cases bad
          case true =>
            have HXX := Aside0.mk (show X = (0, 70) by rw [HX.out, HBAD.out (of_decide_eq_true HBE.out.symm)])
            go_wp2
            go_ret2
            exact ⟨by rw [HXX.out]; rfl, HB1.out⟩
          have hbad := of_decide_eq_false HBE.out.symm
          obtain ⟨n1, n19⟩ := HC46.out hbad
          have HNIL2 := Aside0.mk (HNIL.out hbad)
          have HDOT2 := Aside0.mk (HDOT.out hbad)
          clear hbad
          go_upto_region 15 with (fail)
          obtain ⟨dot, hdotE⟩ : ∃ dot, dot = decide (a1 < L ∧ l.getD a1 0 = 46) := ⟨_, rfl⟩
          have HDE := Aside0.mk hdotE
          clear hdotE
          go_cut [78] (fun v wx => v = .bool dot ∧ wc = wx)
          case first =>
            by_cases q : a1 < L
            · have qi : (a1 : Int) < (L : Int) := by omega
              have hat := fun h => HAT.out a1 h
              have hde := HDE.out
              generalize l.getD a1 0 = c at hat hde
              by_cases q46 : c = 46
              · have HD := Aside0.mk (hde.trans (decide_eq_true ⟨q, q46⟩))
                clear hde HDE
                subst q46
                go_wp2
                go_meet
                exact ⟨by rw [HD.out], rfl⟩
              · have HD := Aside0.mk (hde.trans (decide_eq_false (fun h => q46 h.2)))
                have hne : ((c.toNat : Int) == 46) = false := beq_false_of_ne (fun e => q46 (UInt8.toNat_inj.1 (show _ = 46 by omega)))
                clear hde HDE q46
                go_wp2
                go_meet
                exact ⟨by rw [HD.out], rfl⟩
            · have qi : ¬ (a1 : Int) < (L : Int) := by omega
              have HD := Aside0.mk (HDE.out.trans (decide_eq_false (fun h => q h.1)))
              clear HDE
              go_wp2
              go_meet
              exact ⟨by rw [HD.out], rfl⟩
          case rest =>
            obtain ⟨rfl, rfl⟩ := hcut
            go_upto_if 78 with (fail)
            go_cut [6, 8, 10] (fun va v vp wx => ∃ (a2 : Nat) (P : List UInt8), va = .int .i64 (a2 : Int) ∧ a2 ≤ L ∧ Hid (OwnB w.heap.size wx v (W ++ P)) ∧ vp = .int .i64 (P.length : Int) ∧ P.length ≤ L ∧ Hid (∀ c ∈ P, isDig c = true) ∧ Hid (Below w.heap.size w wx) ∧
              Hid (refShape (l.drop f) m = if a2 < L ∨ m < P.length then none else some (W ++ P ++ List.replicate (m - P.length) 48)))
            case first =>
              cases dot
              case false =>
                have HSH := Aside0.mk (show refShape (l.drop f) m = if a1 < L ∨ m < ([] : List UInt8).length then none else some (W ++ [] ++ List.replicate (m - ([] : List UInt8).length) 48) by
                  rcases HEN.out.2 with ⟨e1, e2⟩ | ⟨c, r, e1, e2, e3, e4, e5⟩
                  · rw [if_neg (by simp; omega), HNIL2.out e1, List.append_nil]; rfl
                  · rw [if_pos (.inl e4)]
                    refine HODD.out c r e1 (fun e => ?_)
                    exact of_decide_eq_false HDE.out.symm ⟨e4, e3.trans e⟩)
                go_wp2
                go_meet
                exact ⟨a1, [], rfl, a1L, Lib.hid (by rw [List.append_nil]; exact HO1.out), rfl, Nat.zero_le _, Lib.hid (fun c hc => by cases hc), Lib.hid HB1.out, Lib.hid HSH.out⟩
              case true =>
                obtain ⟨q, q46⟩ := of_decide_eq_true HDE.out.symm
                obtain ⟨r, e1, e5⟩ : ∃ r, R = 46 :: r ∧ l.drop (a1 + 1) = r := by
                  rcases HEN.out.2 with ⟨e1, e2⟩ | ⟨c, r, e1, e2, e3, e4, e5⟩
                  · omega
                  · exact ⟨r, by rw [e1, ← e3, q46], e5⟩
                have hD2 := HDOT2.out r e1
                have hST2 := fun k h => dig_step l (a1 + 1) (by rw [← HL.out]; omega) k h
                have hEN2 := dig_stop l (a1 + 1) (by rw [← HL.out]; omega)
                rw [e5] at hST2 hEN2
                rw [← HL.out] at hST2 hEN2
                have hPd := (tw_split isDig r).1
                generalize r.takeWhile isDig = P at hD2 hST2 hEN2 hPd
                have HPD := Aside0.mk hPd
                clear hPd
                generalize r.dropWhile isDig = R2 at hD2 hEN2
                have HD2 := Aside0.mk hD2
                have HST2 := Aside0.mk hST2
                have HEN2 := Aside0.mk hEN2
                have hPL := hEN2.1
                obtain ⟨a0, ha0⟩ : ∃ a0, a0 = a1 + 1 := ⟨_, rfl⟩
                rw [← ha0] at HST2 HEN2 hPL
                have HA0 := Aside0.mk ha0
                have wa1 : IntKind.i64.wrap ((a1 : Int) + 1) = (a0 : Int) := by rw [wrap_small _ (by omega) (by omega)]; omega
                clear hD2 hST2 hEN2 ha0 q q46 e1 e5
                go_upto_block 2 with (fail)
                go_cut [6, 8, 10] (fun va v vp wx => va = .int .i64 ((a0 + P.length : Nat) : Int) ∧ Hid (OwnB w.heap.size wx v (W ++ P)) ∧ vp = .int .i64 (P.length : Int) ∧ Hid (Below w.heap.size w wx))
                case first =>
                  obtain ⟨i0, hi, iz0, iz1, iz2⟩ := info_parts info5
                  go_wp2_with (fail)
                  go_loopw [6, 8, 10] (fun va v vp wr => ∃ k : Nat, k ≤ P.length ∧ va = .int .i64 ((a0 + k : Nat) : Int) ∧ Hid (OwnB w.heap.size wr v (W ++ P.take k)) ∧ vp = .int .i64 (k : Int) ∧ Hid (Below w.heap.size w wr))
                    (fun va _ _ _ => a0 + P.length - (intOf va).toNat)
                  case atStart => exact ⟨0, Nat.zero_le _, by first | rfl | go_num, Lib.hid (by rw [List.take_zero, List.append_nil]; exact HO1.out), rfl, Lib.hid HB1.out⟩
                  case round =>
                    obtain ⟨k, hk, rfl, ho, rfl, hbw⟩ := hrel
                    have HO := Aside0.mk ho.out
                    have HBW := Aside0.mk hbw.out
                    clear ho hbw
                    obtain ⟨a, ha⟩ : ∃ a, a = a0 + k := ⟨_, rfl⟩
                    rw [← ha]
                    have ka : a ≤ a0 + P.length := by omega
                    by_cases hlt : k < P.length
                    · obtain ⟨s1, s2, s3⟩ := HST2.out k hlt
                      rw [← ha] at s1 s2 s3
                      have hat := fun h => HAT.out a h
                      generalize l.getD a 0 = c at s2 s3 hat
                      have hkl : (W ++ P.take k).length = W.length + k := by rw [List.length_append, List.length_take]; omega
                      have HKL := Aside0.mk hkl
                      have HS3 := Aside0.mk s3
                      have ho := HO.out
                      unfold OwnB at ho
                      rw [hkl] at ho
                      have HOO := Aside0.mk ho
                      have hbs := HBW.out.size
                      have kk : k ≤ 140737488351232 := by omega
                      have ka2 : a < a0 + P.length := by omega
                      have HAA := Aside0.mk ha
                      clear ha ho hkl s3
                      go_wp2_with (first
                        | (go_at_call 28; with_reducible refine (digit_y c s2 _).mono ?_; rintro e w' ⟨rfl, rfl⟩)
                        | (at_builtin; refine wpList_append_own _ rfl _ _ 58 rfl w.heap.size 5 i0 (.int .u8 0) 1 1 Tryd.underlying58 hi iz0 iz1 iz2 rfl (by decide) _ _ _ rfl (HOO.out.alloc _) ⟨wr.heap.size, 0, none⟩ 1 1 [.int .u8 (c.toNat : Int)] rfl rfl (cell_one_new _ _ _) (by simp [Value.oneCell']) (by unfold maxLen; omega) (by omega) (by simp; omega) ?_; intro v' w1 hown' hgrow hx; clear hx))
                      refine ⟨⟨k + 1, hlt, by rw [HAA.out]; rfl, Lib.hid (by rw [HS3.out, ← List.append_assoc]; exact own_snoc (by rw [HKL.out]; exact hown')), rfl, Lib.hid (own_grown HBW.out HOO.out hbs hgrow)⟩, ?_⟩
                      simp [intOf]; omega
                    · have hkW : k = P.length := by omega
                      have hOW := Aside0.mk (show OwnB w.heap.size wr u8 (W ++ P) by have := HO.out; rw [hkW, List.take_length] at this; exact this)
                      have HKP := Aside0.mk hkW
                      have HAA := Aside0.mk (ha.trans (by rw [hkW] : a0 + k = a0 + P.length))
                      clear ha hkW
                      rcases HEN2.out.2 with ⟨_, e2⟩ | ⟨c, r, _, e2, e3, e4, _⟩
                      · have q : ¬ (a : Int) < (L : Int) := by rw [HAA.out]; omega
                        clear e2
                        go_wp2
                        go_meet
                        exact ⟨by rw [HAA.out], Lib.hid hOW.out, by rw [HKP.out], Lib.hid HBW.out⟩
                      · have q : (a : Int) < (L : Int) := by rw [HAA.out]; omega
                        have qn : a < L := by rw [HAA.out]; omega
                        have hat := fun h => HAT.out a h
                        rw [HAA.out, e3, ← HAA.out] at hat
                        clear e3 e4
                        go_wp2_with (go_at_call 28; with_reducible refine (digit_n c e2 _).mono ?_; rintro e w' ⟨rfl, rfl⟩)
                        go_meet
                        exact ⟨by rw [HAA.out], Lib.hid hOW.out, by rw [HKP.out], Lib.hid HBW.out⟩
                case rest =>
                  obtain ⟨rfl, hoP, rfl, hbP⟩ := hcut
                  have HOP := Aside0.mk hoP.out
                  have HBP := Aside0.mk hbP.out
                  clear hoP hbP
                  by_cases hP : P = []
                  · have HXX := Aside0.mk (show X = (0, 70) by rw [HX.out, HD2.out, if_pos hP])
                    have hPn : P.length = 0 := by rw [hP]; rfl
                    rw [hPn]
                    clear hP hPn
                    go_wp2
                    go_ret2
                    exact ⟨by rw [HXX.out]; rfl, HBP.out⟩
                  · have hD2 := HD2.out
                    rw [if_neg hP] at hD2
                    have HSH := Aside0.mk (show refShape (l.drop f) m = if a0 + P.length < L ∨ m < P.length then none else some (W ++ P ++ List.replicate (m - P.length) 48) by
                      rw [hD2]
                      rcases HEN2.out.2 with ⟨e1, e2⟩ | ⟨c, r, e1, e2, e3, e4, e5⟩
                      · by_cases q : m < P.length
                        · rw [if_pos (.inr q), if_pos (.inr q)]
                        · rw [if_neg (fun h => h.elim (fun h => h e1) q), if_neg (fun h => h.elim (fun h => by omega) q)]
                      · rw [if_pos (.inl (by rw [e1]; simp)), if_pos (.inl e4)])
                    have hPn : 0 < P.length := List.length_pos_iff.2 hP
                    have hPz : ((P.length : Int) == 0) = false := beq_false_of_ne (by omega)
                    have hPLe : P.length ≤ L := by omega
                    have HE1 := Aside0.mk HEN2.out.1
                    clear hP hD2
                    go_wp2
                    go_meet
                    exact ⟨a0 + P.length, P, rfl, HE1.out, Lib.hid HOP.out, rfl, hPLe, Lib.hid HPD.out, Lib.hid HBP.out, Lib.hid HSH.out⟩
            case rest =>
              obtain ⟨a2, P, rfl, h2L, hoP, rfl, hPL, hPd, hbP, hsh⟩ := hcut
              have HPD := Aside0.mk hPd.out
              clear hPd
              have HOP := Aside0.mk hoP.out
              have HBP := Aside0.mk hbP.out
              have HSH := Aside0.mk hsh.out
              clear hoP hbP hsh
              by_cases q2 : a2 < L
              · have HXX := Aside0.mk (show X = (0, 70) by rw [HX.out, HSH.out, if_pos (.inl q2)])
                have qi : (a2 : Int) < (L : Int) := by omega
                clear q2
                go_wp2
                go_ret2
                exact ⟨by rw [HXX.out]; rfl, HBP.out⟩
              have qi : ¬ (a2 : Int) < (L : Int) := by omega
              by_cases q3 : m < P.length
              · have HXX := Aside0.mk (show X = (0, 70) by rw [HX.out, HSH.out, if_pos (.inr q3)])
                have qj : (m : Int) < (P.length : Int) := by omega
                clear q2 q3
                go_wp2
                go_ret2
                exact ⟨by rw [HXX.out]; rfl, HBP.out⟩
              have qj : ¬ (m : Int) < (P.length : Int) := by omega
              have HXX := Aside0.mk (show X = match refNum b (W ++ P ++ List.replicate (m - P.length) 48) with | some n => (n, 0) | none => (0, 70) by rw [HX.out, HSH.out, if_neg (fun h => h.elim q2 q3)])
              clear q2
              obtain ⟨q, hq⟩ : ∃ q, q = P.length := ⟨_, rfl⟩
              rw [← hq] at HXX hPL q3 qj ⊢
              obtain ⟨V, hV⟩ : ∃ V, V = W ++ P := ⟨_, rfl⟩
              have hVn : V.length ≤ 19 + L := by rw [hV, List.length_append]; omega
              have hVp : 0 < V.length := by rw [hV, List.length_append]; omega
              rw [← hV] at HOP HXX
              have HV := Aside0.mk hV
              have HQ := Aside0.mk hq
              clear hV hq
              go_upto_block 4 with (fail)
              go_cut [8, 10] (fun v vp wx => Hid (OwnB w.heap.size wx v (V ++ List.replicate (m - q) 48)) ∧ Hid (Below w.heap.size w wx))
              case first =>
                obtain ⟨i0, hi, iz0, iz1, iz2⟩ := info_parts info5
                go_wp2_with (fail)
                go_loopw [8, 10] (fun v vp wr => ∃ k : Nat, q + k ≤ m ∧ vp = .int .i64 ((q + k : Nat) : Int) ∧ Hid (OwnB w.heap.size wr v (V ++ List.replicate k 48)) ∧ Hid (Below w.heap.size w wr))
                  (fun _ vp _ => m - (intOf vp).toNat)
                case atStart => exact ⟨0, by omega, rfl, Lib.hid (by rw [List.replicate_zero, List.append_nil]; exact HOP.out), Lib.hid HBP.out⟩
                case round =>
                  obtain ⟨k, hk, rfl, ho, hbw⟩ := hrel
                  have HO := Aside0.mk ho.out
                  have HBW := Aside0.mk hbw.out
                  clear ho hbw
                  obtain ⟨a, ha⟩ : ∃ a, a = q + k := ⟨_, rfl⟩
                  rw [← ha]
                  by_cases hlt : a < m
                  · have hkl : (V ++ List.replicate k (48 : UInt8)).length = V.length + k := by rw [List.length_append, List.length_replicate]
                    have HKL := Aside0.mk hkl
                    have ho := HO.out
                    unfold OwnB at ho
                    rw [hkl] at ho
                    have HOO := Aside0.mk ho
                    have hbs := HBW.out.size
                    have kk : k ≤ 9 := by omega
                    have hk1 : q + (k + 1) ≤ m := by omega
                    have HAA := Aside0.mk ha
                    clear ha ho hkl
                    go_wp2_with (at_builtin; refine wpList_append_own _ rfl _ _ 58 rfl w.heap.size 5 i0 (.int .u8 0) 1 1 Tryd.underlying58 hi iz0 iz1 iz2 rfl (by decide) _ _ _ rfl (HOO.out.alloc _) ⟨wr.heap.size, 0, none⟩ 1 1 [.int .u8 48] rfl rfl (cell_one_new _ _ _) (by simp [Value.oneCell']) (by unfold maxLen; omega) (by omega) (by simp; omega) ?_; intro v' w1 hown' hgrow hx; clear hx)
                    refine ⟨⟨k + 1, hk1, by rw [HAA.out]; rfl, Lib.hid (by rw [List.replicate_succ', ← List.append_assoc]; exact own_snoc (by rw [HKL.out]; exact hown')), Lib.hid (own_grown HBW.out HOO.out hbs hgrow)⟩, ?_⟩
                    simp [intOf]; omega
                  · have hkm : k = m - q := by omega
                    have hOW := Aside0.mk (show OwnB w.heap.size wr u8 (V ++ List.replicate (m - q) 48) by rw [← hkm]; exact HO.out)
                    clear ha hkm
                    go_wp2
                    go_meet
                    exact ⟨Lib.hid hOW.out, Lib.hid HBW.out⟩
              case rest =>
                obtain ⟨hoA, hbA⟩ := hcut
                have HBA := Aside0.mk hbA.out
                obtain ⟨ALL, hALL⟩ : ∃ ALL, ALL = V ++ List.replicate (m - q) 48 := ⟨_, rfl⟩
                rw [← hALL] at hoA HXX
                have hAp : 0 < ALL.length := by rw [hALL, List.length_append]; omega
                have hAn : ALL.length ≤ 9223372036854775806 := by rw [hALL, List.length_append, List.length_replicate]; omega
                have HAD := Aside0.mk (show ∀ i, i < ALL.length → isDig (ALL.getD i 0) = true by
                  intro i hi
                  have hm : ALL.getD i 0 ∈ ALL := by rw [List.getD_eq_getElem?_getD, List.getElem?_eq_getElem hi]; exact List.getElem_mem _
                  generalize ALL.getD i 0 = c at hm
                  rw [hALL, HV.out, List.mem_append, List.mem_append] at hm
                  rcases hm with (h | h) | h
                  · rw [HW.out] at h; exact (tw_split isDig _).1 _ h
                  · exact HPD.out _ h
                  · rw [(List.mem_replicate.1 h).2]; rfl)
                obtain ⟨g, cap, rfl, hcap, hcell⟩ := hoA.out.form hAp
                have HCE := Aside0.mk hcell
                have HALL := Aside0.mk hALL
                clear hcell hoA hbA hALL hVp hVn hAp
                obtain ⟨Y, hY⟩ : ∃ Y, Y = refGo 0 ALL := ⟨_, rfl⟩
                have HXY := Aside0.mk (show X = match (match Y with | none => none | some n => if b = true then some n else if n = -9223372036854775808 then none else some (-n)) with | some n => (n, 0) | none => (0, 70) by rw [HXX.out, hY]; rfl)
                have HY := Aside0.mk hY
                clear hY
                go_wp2_with (fail)
                go_loop [11, 12] (fun vn vi => ∃ i acc : Nat, vn = .int .i64 (-(acc : Int)) ∧ vi = .int .i64 (i : Int) ∧ i ≤ ALL.length ∧ acc ≤ 9223372036854775808 ∧ Hid (refGo (-(acc : Int)) (ALL.drop i) = Y))
                  (fun _ vi => ALL.length - (intOf vi).toNat)
                case atStart => exact ⟨0, 0, rfl, rfl, Nat.zero_le _, Nat.zero_le _, Lib.hid HY.out.symm⟩
                case round =>
                  obtain ⟨i, acc, rfl, rfl, hi, hacc, hgo⟩ := hrel
                  have HG := Aside0.mk hgo.out
                  clear hgo
                  by_cases hlt : i < ALL.length
                  · have hc := HCE.out i hlt
                    have hdg := (isDig_iff _).1 (HAD.out i hlt)
                    have hg := HG.out
                    rw [List.drop_eq_getElem_cons hlt, refGo, show ALL[i] = ALL.getD i 0 by rw [List.getD_eq_getElem?_getD, List.getElem?_eq_getElem hlt]; rfl] at hg
                    generalize ALL.getD i 0 = c at hc hdg hg
                    obtain ⟨d, hd⟩ : ∃ d : Nat, c.toNat = d + 48 := ⟨c.toNat - 48, by omega⟩
                    have hd9 : d ≤ 9 := by omega
                    rw [show ((c.toNat : Int) - 48) = (d : Int) by omega] at hg
                    rw [hd] at hc
                    have hts := tdiv_step acc d hd9
                    obtain ⟨Q, hQ⟩ : ∃ Q, Q = (-9223372036854775808 + (d : Int)).tdiv 10 := ⟨_, rfl⟩
                    have hQ' : Q = -((9223372036854775808 - (d : Int)) / 10) := by
                      rw [hQ, show (-9223372036854775808 + (d : Int)) = -(9223372036854775808 - (d : Int)) by omega, Int.neg_tdiv, Int.tdiv_eq_ediv_of_nonneg (by omega)]
                    rw [← hQ] at hg hts
                    have hcc : wc.cell? ⟨g, i, none⟩ = some (.int .u8 ((d : Int) + 48)) := by rw [hc]; congr 2
                    have HTD := Aside0.mk (show (-9223372036854775808 + (d : Int)).tdiv 10 = Q from hQ.symm)
                    have q1 : -9223372036854775808 ≤ Q := by omega
                    have q2 : Q ≤ 0 := by omega
                    have d0 : (0 : Int) ≤ (d : Int) := by omega
                    have d9 : (d : Int) ≤ 9 := by omega
                    have i0 : (0 : Int) ≤ (i : Int) := by omega
                    have i1 : (i : Int) < (ALL.length : Int) := by omega
                    have hltc : i < cap := by omega
                    by_cases ht : -(acc : Int) < Q
                    · have HYN := Aside0.mk (show Y = none by rw [← hg, if_pos ht])
                      have HXN := Aside0.mk (show X = (0, 70) by rw [HXY.out, HYN.out])
                      have dt : decide (-(acc : Int) < Q) = true := decide_eq_true ht
                      have w8d : IntKind.u8.wrap ((d : Int) + 48 - 48) = (d : Int) := by rw [Int.add_sub_cancel]; exact w8 _ (by omega) (by omega)
                      have wl : IntKind.i64.wrap (-9223372036854775808 + (d : Int)) = -9223372036854775808 + (d : Int) := IntWalk.i64_in _ (by omega)
                      have wq : IntKind.i64.wrap Q = Q := IntWalk.i64_in _ (by omega)
                      have td := HTD.out
                      clear hg hc hd hdg hts hQ hQ' hacc
                      go_wp2
                      go_ret2
                      exact ⟨by rw [HXN.out]; rfl, HBA.out⟩
                    · have hle : acc * 10 + d ≤ 9223372036854775808 := by
                        rcases Nat.lt_or_ge 9223372036854775808 (acc * 10 + d) with h | h
                        · exact absurd (hts.2 h) ht
                        · exact h
                      rw [if_neg ht, show 10 * -(acc : Int) - (d : Int) = -((acc * 10 + d : Nat) : Int) by omega] at hg
                      have HG1 := Aside0.mk hg
                      have dt : decide (-(acc : Int) < Q) = false := decide_eq_false ht
                      have w8d : IntKind.u8.wrap ((d : Int) + 48 - 48) = (d : Int) := by rw [Int.add_sub_cancel]; exact w8 _ (by omega) (by omega)
                      have wl : IntKind.i64.wrap (-9223372036854775808 + (d : Int)) = -9223372036854775808 + (d : Int) := IntWalk.i64_in _ (by omega)
                      have wq : IntKind.i64.wrap Q = Q := IntWalk.i64_in _ (by omega)
                      have wm : IntKind.i64.wrap (10 * -(acc : Int)) = 10 * -(acc : Int) := IntWalk.i64_in _ (by omega)
                      have ws : IntKind.i64.wrap (10 * -(acc : Int) - (d : Int)) = 10 * -(acc : Int) - (d : Int) := IntWalk.i64_in _ (by omega)
                      have td := HTD.out
                      clear hg hc hd hdg hts hQ hQ' hacc
                      go_wp2
                      refine ⟨⟨i + 1, acc * 10 + d, by rw [show 10 * -(acc : Int) - (d : Int) = -((acc * 10 + d : Nat) : Int) by omega], rfl, hlt, hle, Lib.hid HG1.out⟩, ?_⟩
                      simp [intOf]; omega
                  · have hE : i = ALL.length := by omega
                    have hg := HG.out
                    rw [hE, List.drop_length, refGo] at hg
                    have i1 : ¬ (i : Int) < (ALL.length : Int) := by omega
                    have HYS := Aside0.mk hg
                    clear hE hg
                    cases b
                    case true =>
                      have HXS := Aside0.mk (show X = (-(acc : Int), 0) by rw [HXY.out, ← HYS.out]; rfl)
                      go_wp2
                      go_ret2
                      exact ⟨by rw [HXS.out]; rfl, HBA.out⟩
                    case false =>
                      by_cases hm : acc = 9223372036854775808
                      · have HXS := Aside0.mk (show X = (0, 70) by rw [HXY.out, ← HYS.out, hm]; rfl)
                        rw [hm]
                        clear hm hacc
                        go_wp2
                        go_ret2
                        exact ⟨by rw [HXS.out]; rfl, HBA.out⟩
                      · have hme : ¬ (-(acc : Int)) = -9223372036854775808 := by omega
                        have HXS := Aside0.mk (show X = ((acc : Int), 0) by
                          rw [HXY.out, ← HYS.out]
                          show (match (if (-(acc : Int)) = -9223372036854775808 then none else some (-(-(acc : Int)))) with | some n => (n, 0) | none => ((0 : Int), (70 : Int))) = _
                          rw [if_neg hme, Int.neg_neg])
                        have hmb : ((-(acc : Int)) == -9223372036854775808) = false := beq_false_of_ne hme
                        have wn : IntKind.i64.wrap (-(-(acc : Int))) = (acc : Int) := by rw [Int.neg_neg]; exact IntWalk.i64_in _ (by omega)
                        have wn' : IntKind.i64.wrap (acc : Int) = (acc : Int) := IntWalk.i64_in _ (by omega)
                        clear hm
                        go_wp2
                        go_ret2
                        exact ⟨by rw [HXS.out]; rfl, HBA.out⟩

theorem trim_drop (l : List UInt8) : trimPrefix l [45] = l.drop (if decide (0 < l.length ∧ l.getD 0 0 = 45) = true then 1 else 0) ∧ hasPrefix l [45] = decide (0 < l.length ∧ l.getD 0 0 = 45) := by
  cases l with
  | nil => exact ⟨rfl, rfl⟩
  | cons c r =>
    by_cases h : c = 45
    · subst h; exact ⟨rfl, rfl⟩
    · have e : hasPrefix (c :: r) [45] = false := by unfold hasPrefix; simp [List.isPrefixOf, Ne.symm h]
      have e2 : decide (0 < (c :: r).length ∧ (c :: r).getD 0 0 = 45) = false := decide_eq_false (fun hh => h hh.2)
      rw [e2]
      refine ⟨?_, e⟩
      unfold trimPrefix
      rw [e]; rfl
/-- The document's Decimal answers what its rule says. -/
theorem ref_decimal (l : List UInt8) (hl : l.length ≤ 140737488351232) (scale : Int) (w : World) :
    Calls Tryd.prog 6 #[.string (txt l), .int .i64 scale] w fun e w' => e = .returned (two (decD refShape l scale)) ∧ Below w.heap.size w w' := by
  by_cases h0 : scale < 0
  · have e : decD refShape l scale = (0, 1) := by unfold decD; rw [if_neg (by omega)]
    rw [e]
    clear e
    go_enter Tryd.func6, Tryd.ntmps6
    go_wp2
    go_ret2
    exact ⟨rfl, Below.refl _ _⟩
  by_cases h9 : 9 < scale
  · have e : decD refShape l scale = (0, 1) := by unfold decD; rw [if_neg (by omega)]
    rw [e]
    clear e
    go_enter Tryd.func6, Tryd.ntmps6
    go_wp2
    go_ret2
    exact ⟨rfl, Below.refl _ _⟩
  obtain ⟨m, rfl⟩ : ∃ m : Nat, scale = m := ⟨scale.toNat, by omega⟩
  obtain ⟨e1, e2⟩ := trim_drop l
  refine ref_walk l hl m (by omega) _ _ ?_ rfl rfl _ ?_ w
  · split
    · rename_i h; have := (of_decide_eq_true h).1; omega
    · omega
  · unfold decD
    rw [if_pos (by omega), Int.toNat_natCast, e1, e2]
    rfl
theorem dec_same (l : List UInt8) (scale : Int) : decD progShape l scale = decD refShape l scale := by
  unfold decD
  rw [shape_law]
end Go.Proofs.YtkndegjjiimheaaDoor.Ord
