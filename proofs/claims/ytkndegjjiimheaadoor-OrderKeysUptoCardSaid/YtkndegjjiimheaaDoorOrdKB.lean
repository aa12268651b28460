/- What Keys reads, said plainly; package order's Keys walked; rows that are lent, kept and written over. -/
import Derived.Test.YtkndegjjiimheaaDoorOrdKA
import Derived.Laws.EntriesVeiled
import Derived.ArgAppend
set_option linter.unusedVariables false
set_option linter.unusedSimpArgs false
set_option linter.unusedSectionVars false
namespace Go.Proofs.YtkndegjjiimheaaDoor.Ord
open Go Go.RowKit Go.Proofs.YtkndegjjiimheaaDoorW.PrintWords Go.Proofs.YtkndegjjiimheaaDoorW.PrintLast Go.Proofs.OrdPlain Go.Lib Go.Proofs.YtkndegjjiimheaaDoor.QKey

/-- A text's bytes up to its end. -/
def textP : Nat → List Int → List UInt8 → Option (List Int × List UInt8)
  | 0, _, _ => none
  | _ + 1, _, [] => none
  | f + 1, acc, c :: r => if c = 0 then (if r = [] then none else if r.getD 0 0 = 1 then some (acc, r.drop 1) else if r.getD 0 0 = 255 then textP f (acc ++ [0]) (r.drop 1) else none) else textP f (acc ++ [(c.toNat : Int)]) r
def stepU (u : Int) (c : UInt8) : Int := Go.bits .or .u64 (IntKind.u64.wrap (u * 256)) (c.toNat : Int)
def numU (l : List UInt8) : Int := l.foldl stepU 0
def numK (l : List UInt8) : Int := wrap64 (upZ (numU l))
def keysP : Nat → List S45 → List UInt8 → Option (List S45)
  | _, acc, [] => some acc
  | 0, _, _ :: _ => none
  | f + 1, acc, c :: r =>
    if c = 0 then keysP f (acc ++ [⟨0, 0, ⟨#[]⟩⟩]) r
    else if c = 1 then (if 8 ≤ r.length then keysP f (acc ++ [⟨1, numK (r.take 8), ⟨#[]⟩⟩]) (r.drop 8) else none)
    else if c = 2 then (match textP (r.length + 1) [] r with | some (t, r') => keysP f (acc ++ [⟨2, 0, strOfNums t⟩]) r' | none => none)
    else none
def ansK : Option (List S45) → List S45 × Int
  | some ks => (ks, 0)
  | none => ([], 1)
def keysD (l : List UInt8) : List S45 × Int := ansK (keysP l.length [] l)

theorem text_rest : ∀ (f : Nat) (acc t : List Int) (l r : List UInt8), textP f acc l = some (t, r) → r.length + 2 ≤ l.length ∧ r = l.drop (l.length - r.length) ∧ t.length + r.length + 2 ≤ acc.length + l.length
  | 0, _, _, _, _, h => by simp [textP] at h
  | f + 1, acc, t, [], r, h => by simp [textP] at h
  | f + 1, acc, t, c :: l, r, h => by
    rw [textP] at h
    by_cases hc : c = 0
    · rw [if_pos hc] at h
      cases l with
      | nil => simp at h
      | cons d l' =>
        rw [if_neg (by simp), show (d :: l').getD 0 0 = d from rfl, show (d :: l').drop 1 = l' from rfl] at h
        by_cases h1 : d = 1
        · rw [if_pos h1] at h
          simp only [Option.some.injEq, Prod.mk.injEq] at h
          obtain ⟨rfl, rfl⟩ := h
          refine ⟨by simp, ?_, by simp only [List.length_cons]; omega⟩
          rw [show (c :: d :: l').length - l'.length = 2 by simp only [List.length_cons]; omega]; rfl
        · rw [if_neg h1] at h
          by_cases h2 : d = 255
          · rw [if_pos h2] at h
            obtain ⟨a, b, e⟩ := text_rest f _ t l' r h
            refine ⟨by simp only [List.length_cons]; omega, ?_, by rw [List.length_append] at e; simp only [List.length_cons, List.length_nil] at e ⊢; omega⟩
            rw [show (c :: d :: l').length - r.length = (l'.length - r.length) + 1 + 1 by simp only [List.length_cons]; omega, List.drop_succ_cons, List.drop_succ_cons]
            exact b
          · rw [if_neg h2] at h; cases h
    · rw [if_neg hc] at h
      obtain ⟨a, b, e⟩ := text_rest f _ t l r h
      refine ⟨by simp only [List.length_cons]; omega, ?_, by rw [List.length_append] at e; simp only [List.length_cons, List.length_nil] at e ⊢; omega⟩
      rw [show (c :: l).length - r.length = (l.length - r.length) + 1 by simp only [List.length_cons]; omega, List.drop_succ_cons]
      exact b
theorem l0_more {k k' : Nat} (h : k ≤ k') (s : ByteArray) (x4 : List S45) (x5 : Int) (R : List S45 × Int) (hr : lecternref07_Keys.l0 k s x4 x5 = some R) : lecternref07_Keys.l0 k' s x4 x5 = some R :=
  at_rounds (g := fun q => lecternref07_Keys.l0 q s x4 x5) (fun q => (lecternref07_Keys.mono_l q).1 s x4 x5) h hr
theorem l2_more {k k' : Nat} (h : k ≤ k') (s : ByteArray) (x4 : List S45) (x5 : Int) (x9 : List Int) (a b : Int) (t : ByteArray) (R : List S45 × Int) (hr : lecternref07_Keys.l2 k s x4 x5 x9 a b t = some R) : lecternref07_Keys.l2 k' s x4 x5 x9 a b t = some R :=
  at_rounds (g := fun q => lecternref07_Keys.l2 q s x4 x5 x9 a b t) (fun q => (lecternref07_Keys.mono_l q).2.2.1 s x4 x5 x9 a b t) h hr
theorem stepU_wrap (u : Int) (c : UInt8) : ∃ x, stepU u c = IntKind.u64.wrap x := ⟨_, rfl⟩
theorem fold_wrap : ∀ (l : List UInt8) (u : Int), (∃ x, u = IntKind.u64.wrap x) → ∃ x, l.foldl stepU u = IntKind.u64.wrap x
  | [], u, h => h
  | c :: r, u, h => fold_wrap r _ (stepU_wrap u c)
theorem wrap_wrap (x : Int) : IntKind.u64.wrap (IntKind.u64.wrap x) = IntKind.u64.wrap x := by rw [u64_mod, u64_mod]; omega
theorem numU_xor (l : List UInt8) : Go.bits .xor .u64 (l.foldl stepU 0) 9223372036854775808 = upZ (numU l) := by
  obtain ⟨x, hx⟩ := fold_wrap l 0 ⟨0, by rw [u64_mod]; rfl⟩
  have := xor_up (numU l)
  unfold numU at this
  rw [hx, wrap_wrap, ← hx] at this
  exact this
theorem w64_1 (i : Nat) (h : i ≤ 2000000) : Aside0 (wrap64 ((i : Int) + 1) = ((i + 1 : Nat) : Int)) := ⟨by unfold wrap64; omega⟩
theorem w64_11 (i : Nat) (h : i ≤ 2000000) : Aside0 (wrap64 (((i + 1 : Nat) : Int) + 1) = ((i + 2 : Nat) : Int)) := ⟨by unfold wrap64; omega⟩
theorem w64_2 (i : Nat) (h : i ≤ 2000000) : Aside0 (wrap64 ((i : Int) + 2) = ((i + 2 : Nat) : Int)) := ⟨by unfold wrap64; omega⟩
section
variable (s : ByteArray) (hs : s.size ≤ 1048576)
include hs
theorem drop_at (i : Nat) (h : i < s.size) : s.data.toList.drop i = s.data.toList.getD i 0 :: s.data.toList.drop (i + 1) := by
  have hsl := sz_list s
  rw [List.drop_eq_getElem_cons (by omega : i < s.data.toList.length), List.getD_eq_getElem?_getD, List.getElem?_eq_getElem (by omega : i < s.data.toList.length)]; rfl
theorem reftext_l (x4 : List S45) (hx4 : x4.length ≤ 1048576) (b : Int) (t0 : ByteArray) : ∀ (f i : Nat) (x9 : List Int), s.size < i + f → i ≤ s.size → x9.length + (s.size - i) ≤ 1048576 →
    (∀ t r K R, textP f x9 (s.data.toList.drop i) = some (t, r) → lecternref07_Keys.l0 K s (x4 ++ [⟨2, b, strOfNums t⟩]) ((s.size - r.length : Nat) : Int) = some R → lecternref07_Keys.l2 (K + 2 * f) s x4 (i : Int) x9 2 b t0 = some R) ∧
    (textP f x9 (s.data.toList.drop i) = none → lecternref07_Keys.l2 (2 * f) s x4 (i : Int) x9 2 b t0 = some ([], 1))
  | 0, i, x9, h, hi, _ => by omega
  | f + 1, i, x9, h, hi, hl9 => by
    have hsl := sz_list s
    by_cases h1 : i < s.size
    · rw [drop_at s hs i h1]
      have hbt := bt_nat s i
      have hbt1 := bt_nat s (i + 1)
      have ew := w64_1 i (by omega)
      have ew2 := w64_11 i (by omega)
      have ew3 := w64_2 i (by omega)
      generalize s.data.toList.getD i 0 = c at hbt
      rw [textP]
      by_cases hc : c = 0
      · subst hc
        rw [if_pos rfl]
        have hbz : bt s (i : Int) = 0 := hbt
        by_cases h2 : i + 1 < s.size
        · rw [drop_at s hs (i + 1) h2]
          generalize s.data.toList.getD (i + 1) 0 = d at hbt1
          rw [if_neg (by simp), List.getD_cons_zero, List.drop_succ_cons, List.drop_zero]
          by_cases hd1 : d = 1
          · subst hd1
            rw [if_pos rfl]
            have hb1 : bt s ((i + 1 : Nat) : Int) = 1 := hbt1
            refine ⟨fun t r K R e1 e2 => ?_, (fun e => by cases e)⟩
            simp only [Option.some.injEq, Prod.mk.injEq] at e1
            obtain ⟨rfl, rfl⟩ := e1
            rw [List.length_drop, hsl, show s.size - (s.size - (i + 1 + 1)) = i + 2 by omega] at e2
            rw [show K + 2 * (f + 1) = (K + 2 * f + 1) + 1 by omega, lecternref07_Keys.l2, if_pos (by omega), if_pos (by omega), if_pos hbz, ew.out, if_pos (by omega), if_pos (by omega), hb1,
              lecternref07_Keys.j4, if_neg (by decide), if_neg (by omega), if_pos (by omega), ew3.out]
            exact l0_more (by omega : K ≤ K + 2 * f) _ _ _ _ e2
          · have hn1 : ((d.toNat : Int) == 1) = false := beq_false_of_ne (fun e => hd1 (UInt8.toNat_inj.1 (show _ = 1 by omega)))
            rw [if_neg hd1]
            by_cases hd2 : d = 255
            · subst hd2
              rw [if_pos rfl]
              have hb255 : bt s ((i + 1 : Nat) : Int) = 255 := hbt1
              obtain ⟨ih1, ih2⟩ := reftext_l x4 hx4 b t0 f (i + 2) (x9 ++ [0]) (by omega) (by omega) (by rw [List.length_append]; simp only [List.length_cons, List.length_nil]; omega)
              have step : ∀ q, lecternref07_Keys.l2 (q + 1 + 1) s x4 (i : Int) x9 2 b t0 = lecternref07_Keys.l2 q s x4 ((i + 2 : Nat) : Int) (x9 ++ [0]) 2 b t0 := by
                intro q
                rw [lecternref07_Keys.l2, if_pos (by omega), if_pos (by omega), if_pos hbz, ew.out, if_pos (by omega), if_pos (by omega), hb255,
                  lecternref07_Keys.j4, if_pos (by decide), if_pos (by omega), if_pos (by omega), if_pos hbz, ew.out, if_neg (by omega), if_pos (by omega), if_pos (by omega), hb255, if_pos rfl, if_pos (by omega), ew2.out]
              refine ⟨fun t r K R e1 e2 => ?_, fun e => ?_⟩
              · rw [show K + 2 * (f + 1) = (K + 2 * f) + 1 + 1 by omega, step]
                exact ih1 t r K R e1 e2
              · rw [show 2 * (f + 1) = 2 * f + 1 + 1 by omega, step]
                exact ih2 e
            · rw [if_neg hd2]
              have hn2 : ¬ bt s ((i + 1 : Nat) : Int) = 255 := fun e => hd2 (UInt8.toNat_inj.1 (show _ = 255 by rw [hbt1] at e; omega))
              refine ⟨(fun t r K R e1 => by cases e1), fun _ => ?_⟩
              rw [show 2 * (f + 1) = 2 * f + 1 + 1 by omega, lecternref07_Keys.l2, if_pos (by omega), if_pos (by omega), if_pos hbz, ew.out, if_pos (by omega), if_pos (by omega), hbt1, hn1,
                lecternref07_Keys.j4, if_pos (by rfl), if_pos (by omega), if_pos (by omega), if_pos hbz, ew.out, if_neg (by omega), if_pos (by omega), if_pos (by omega), if_neg hn2]
        · have e : s.data.toList.drop (i + 1) = [] := List.drop_eq_nil_of_le (by omega)
          rw [e, if_pos rfl]
          refine ⟨(fun t r K R e1 => by cases e1), fun _ => ?_⟩
          rw [show 2 * (f + 1) = 2 * f + 1 + 1 by omega, lecternref07_Keys.l2, if_pos (by omega), if_pos (by omega), if_pos hbz, ew.out, if_neg (by omega),
            lecternref07_Keys.j4, if_pos (by rfl), if_pos (by omega), if_pos (by omega), if_pos hbz, ew.out, if_pos (by omega)]
      · rw [if_neg hc]
        have hbn : ¬ bt s (i : Int) = 0 := fun e => hc (UInt8.toNat_inj.1 (show _ = 0 by rw [hbt] at e; omega))
        obtain ⟨ih1, ih2⟩ := reftext_l x4 hx4 b t0 f (i + 1) (x9 ++ [(c.toNat : Int)]) (by omega) (by omega) (by rw [List.length_append]; simp only [List.length_cons, List.length_nil]; omega)
        have step : ∀ q, lecternref07_Keys.l2 (q + 1 + 1) s x4 (i : Int) x9 2 b t0 = lecternref07_Keys.l2 q s x4 ((i + 1 : Nat) : Int) (x9 ++ [(c.toNat : Int)]) 2 b t0 := by
          intro q
          rw [lecternref07_Keys.l2, if_pos (by omega), if_pos (by omega), if_neg hbn,
            lecternref07_Keys.j4, if_pos (by rfl), if_pos (by omega), if_pos (by omega), if_neg hbn, if_pos (by omega), ew.out, hbt]
        refine ⟨fun t r K R e1 e2 => ?_, fun e => ?_⟩
        · rw [show K + 2 * (f + 1) = (K + 2 * f) + 1 + 1 by omega, step]
          exact ih1 t r K R e1 e2
        · rw [show 2 * (f + 1) = 2 * f + 1 + 1 by omega, step]
          exact ih2 e
    · have e : s.data.toList.drop i = [] := List.drop_eq_nil_of_le (by omega)
      rw [e]
      refine ⟨(fun t r K R e1 => by simp [textP] at e1), fun _ => ?_⟩
      rw [show 2 * (f + 1) = 2 * f + 1 + 1 by omega, lecternref07_Keys.l2, if_neg (by omega), lecternref07_Keys.j4, if_neg (by decide), if_pos (by omega)]
theorem refnum_l (x4 : List S45) (a : Nat) (ha : a + 8 ≤ s.size) (x1 n : Int) (t : ByteArray) : ∀ (d k : Nat) (u : Int) (K : Nat), k + d = 8 →
    lecternref07_Keys.l1 (K + d + 1) s x4 (a : Int) u (k : Int) x1 n t = lecternref07_Keys.j2 K s x4 ((a + 8 : Nat) : Int) x1 (wrap64 (Go.bits .xor .u64 (((s.data.toList.drop (a + k)).take d).foldl stepU u) 9223372036854775808)) t
  | 0, k, u, K, h => by
    have e : Aside0 (wrap64 ((a : Int) + 8) = ((a + 8 : Nat) : Int)) := ⟨by unfold wrap64; omega⟩
    rw [Nat.add_zero, lecternref07_Keys.l1, if_neg (by omega), e.out, List.take_zero, List.foldl_nil]
  | d + 1, k, u, K, h => by
    have e1 : Aside0 (wrap64 ((a : Int) + (k : Int)) = ((a + k : Nat) : Int)) := ⟨by unfold wrap64; omega⟩
    have e2 := w64_1 k (by omega)
    have hb := bt_nat s (a + k)
    have e3 : Aside0 (IntKind.u64.wrap (bt s ((a + k : Nat) : Int)) = ((s.data.toList.getD (a + k) 0).toNat : Int)) := ⟨by
      rw [hb, u64_mod]
      have := (s.data.toList.getD (a + k) 0).toNat_lt
      omega⟩
    rw [show K + (d + 1) + 1 = (K + d + 1) + 1 by omega, lecternref07_Keys.l1, if_pos (by omega), e1.out, if_pos (by omega), if_pos (by omega), e2.out, e3.out,
      refnum_l x4 a ha x1 n t d (k + 1) _ K (by omega), drop_at s hs (a + k) (by omega), List.take_succ_cons, List.foldl_cons]
    rfl
set_option maxHeartbeats 1000000 in
theorem refkeys_l : ∀ (f i : Nat) (acc : List S45), s.size ≤ i + f → i ≤ s.size → acc.length + (s.size - i) ≤ 1048576 →
    lecternref07_Keys.l0 (f * (2 * s.size + 20) + 1) s acc (i : Int) = some (ansK (keysP f acc (s.data.toList.drop i)))
  | 0, i, acc, h, hi, _ => by
    have hsl := sz_list s
    rw [Nat.zero_mul, lecternref07_Keys.l0, if_neg (by omega), List.drop_eq_nil_of_le (by omega : s.data.toList.length ≤ i), keysP]; rfl
  | f + 1, i, acc, h, hi, hl => by
    have hsl := sz_list s
    have hK : (f + 1) * (2 * s.size + 20) + 1 = f * (2 * s.size + 20) + 1 + (2 * s.size + 19) + 1 := by rw [Nat.add_mul]; omega
    rw [hK]
    generalize hFK : f * (2 * s.size + 20) + 1 = FK
    have ih := fun i' acc' a b c => refkeys_l f i' acc' a b c
    rw [hFK] at ih
    clear hK hFK
    rw [lecternref07_Keys.l0]
    by_cases h1 : i < s.size
    · rw [drop_at s hs i h1, if_pos (by omega), if_pos (by omega)]
      have hbt := bt_nat s i
      have ew := w64_1 i (by omega)
      generalize s.data.toList.getD i 0 = c at hbt
      have hcl := c.toNat_lt
      have hwb : Aside0 (wrap64 (bt s (i : Int)) = (c.toNat : Int)) := ⟨by rw [hbt]; unfold wrap64; omega⟩
      rw [hwb.out, keysP]
      by_cases hc0 : c = 0
      · have hcv : (c.toNat : Int) = 0 := by rw [hc0]; rfl
        rw [hcv, if_pos hc0, if_neg (show ¬ ((0 : Int) > 2) by decide), if_neg (show ¬ ((0 : Int) = 1) by decide), ew.out, show FK + (2 * s.size + 19) = (FK + (2 * s.size + 18)) + 1 by omega, lecternref07_Keys.j2, if_neg (show ¬ ((0 : Int) = 2) by decide), if_pos (by omega)]
        exact l0_more (show FK ≤ FK + (2 * s.size + 18) by omega) _ _ _ _ (ih (i + 1) _ (by omega) (by omega) (by rw [List.length_append]; simp only [List.length_cons, List.length_nil]; omega))
      rw [if_neg hc0]
      by_cases hc1 : c = 1
      · have hcv : (c.toNat : Int) = 1 := by rw [hc1]; rfl
        rw [hcv, if_pos hc1, if_neg (show ¬ ((1 : Int) > 2) by decide), if_pos (show (1 : Int) = 1 from rfl), ew.out]
        have e8 : Aside0 (wrap64 ((s.size : Int) - ((i + 1 : Nat) : Int)) = (s.size : Int) - ((i + 1 : Nat) : Int)) := ⟨by unfold wrap64; omega⟩
        rw [e8.out, List.length_drop, hsl]
        by_cases h8 : 8 ≤ s.size - (i + 1)
        · rw [if_neg (by omega), if_pos h8, show FK + (2 * s.size + 19) = (FK + (2 * s.size + 10)) + 8 + 1 by omega]
          have hn := refnum_l s hs acc (i + 1) (by omega) 1 0 ⟨#[]⟩ 8 0 0 (FK + (2 * s.size + 10)) (by omega)
          rw [Nat.add_zero, numU_xor] at hn
          refine hn.trans ?_
          rw [show FK + (2 * s.size + 10) = (FK + (2 * s.size + 9)) + 1 by omega, lecternref07_Keys.j2, if_neg (show ¬ ((1 : Int) = 2) by decide), if_pos (by omega), List.drop_drop]
          exact l0_more (show FK ≤ FK + (2 * s.size + 9) by omega) _ _ _ _ (ih (i + 1 + 8) _ (by omega) (by omega) (by rw [List.length_append]; simp only [List.length_cons, List.length_nil]; omega))
        · rw [if_pos (by omega), if_neg h8]; rfl
      rw [if_neg hc1]
      by_cases hc2 : c = 2
      · have hcv : (c.toNat : Int) = 2 := by rw [hc2]; rfl
        rw [hcv, if_pos hc2, if_neg (show ¬ ((2 : Int) > 2) by decide), if_neg (show ¬ ((2 : Int) = 1) by decide), ew.out, show FK + (2 * s.size + 19) = (FK + (2 * s.size + 18)) + 1 by omega, lecternref07_Keys.j2, if_pos (show (2 : Int) = 2 from rfl), List.length_drop, hsl]
        obtain ⟨t1, t2⟩ := reftext_l s hs acc (by omega) 0 ⟨#[]⟩ (s.size - (i + 1) + 1) (i + 1) [] (by omega) (by omega) (by simp only [List.length_nil]; omega)
        cases ht : textP (s.size - (i + 1) + 1) [] (s.data.toList.drop (i + 1)) with
        | none =>
          exact l2_more (show 2 * (s.size - (i + 1) + 1) ≤ FK + (2 * s.size + 18) by omega) _ _ _ _ _ _ _ _ (t2 ht)
        | some p =>
          obtain ⟨t, r⟩ := p
          obtain ⟨q1, q2, _⟩ := text_rest _ _ _ _ _ ht
          rw [List.length_drop, hsl] at q1 q2
          have hj : s.data.toList.drop (s.size - r.length) = r := by
            rw [List.drop_drop] at q2
            rw [show s.size - r.length = i + 1 + (s.size - (i + 1) - r.length) by omega]
            exact q2.symm
          have hI := ih (s.size - r.length) (acc ++ [⟨2, 0, strOfNums t⟩]) (by omega) (by omega) (by rw [List.length_append]; simp only [List.length_cons, List.length_nil]; omega)
          rw [hj] at hI
          exact l2_more (show FK + 2 * (s.size - (i + 1) + 1) ≤ FK + (2 * s.size + 18) by omega) _ _ _ _ _ _ _ _ (t1 t r FK _ ht hI)
      · have hgt : (c.toNat : Int) > 2 := by
          have n0 : c.toNat ≠ 0 := fun e => hc0 (UInt8.toNat_inj.1 e)
          have n1 : c.toNat ≠ 1 := fun e => hc1 (UInt8.toNat_inj.1 e)
          have n2 : c.toNat ≠ 2 := fun e => hc2 (UInt8.toNat_inj.1 e)
          omega
        rw [if_neg hc2, if_pos hgt]; rfl
    · rw [if_neg (by omega), List.drop_eq_nil_of_le (by omega : s.data.toList.length ≤ i), keysP]; rfl
theorem refkeys_f : ∃ K, lecternref07_Keys.f K s = some ((keysD s.data.toList).1, (keysD s.data.toList).2) := by
  have hsl := sz_list s
  have := refkeys_l s hs s.size 0 [] (by omega) (by omega) (by simp only [List.length_nil]; omega)
  rw [List.drop_zero, ← hsl] at this
  exact ⟨_, this⟩
end
end Go.Proofs.YtkndegjjiimheaaDoor.Ord

set_option linter.unusedVariables false
set_option linter.unusedSimpArgs false
namespace Go.Proofs.YtkndegjjiimheaaDoor.Ord
open Go Go.RowKit Go.Proofs.YtkndegjjiimheaaDoorW.PrintWords Go.Proofs.YtkndegjjiimheaaDoorW.PrintLast Go.Proofs.OrdPlain Go.Lib Go.Proofs.YtkndegjjiimheaaDoor.QKey

/-- The text that is left, and the word whether all is well, each in a box; the function that takes a byte, in a third. -/
structure Nx (W : World) (b1 b5 : Nat) (l : List UInt8) (ok : Bool) : Prop where
  s : W.heap[b1]? = some (.cells #[.string (txt l)] 9 (0, 0))
  o : W.heap[b5]? = some (.cells #[.bool ok] 4 (0, 0))
  ne : b1 ≠ b5
theorem set_one (W : World) (b : Nat) (v u : Value) (t : TypeId) (h : W.heap[b]? = some (.cells #[v] t (0, 0))) : (W.setCell ⟨b, 0, none⟩ u).heap[b]? = some (.cells #[u] t (0, 0)) := by
  simp [World.setCell, Array.getElem?_modify, h]
theorem set_far (W : World) (b g : Nat) (u : Value) (o : Option Obj) (h : W.heap[b]? = o) (hne : b ≠ g) : (W.setCell ⟨g, 0, none⟩ u).heap[b]? = o :=
  (Below.heap_setCell W ⟨g, 0, none⟩ u b hne).trans h
theorem free_one {W : World} {b : Nat} {v : Value} {t : TypeId} (h : W.heap[b]? = some (.cells #[v] t (0, 0))) : W.frozen? ⟨b, 0, none⟩ = false := by simp [World.frozen?, h]
theorem cell_one {W : World} {b : Nat} {v : Value} {t : TypeId} (h : W.heap[b]? = some (.cells #[v] t (0, 0))) : W.cell? ⟨b, 0, none⟩ = some v := cell_of_row W b 0 _ _ _ h
theorem next_none (W : World) (b1 b5 : Nat) (ok : Bool) (h : Nx W b1 b5 [] ok) :
    Calls Tryd.prog 36 #[.pointer (some ⟨b1, 0, none⟩), .pointer (some ⟨b5, 0, none⟩)] W fun e w' => e = .returned (.int .u8 0) ∧ W.setCell ⟨b5, 0, none⟩ (.bool false) = w' := by
  have q1 := cell_one h.s
  have q2 := cell_one h.o
  have f2 := free_one h.o
  have hz : (txt []).toList = [] := by rw [Lib.toList_data, txt_list]
  have hzb : (txt []).toList.isEmpty = true := by rw [hz]; rfl
  generalize txt [] = S at q1 hz hzb
  clear h
  go_enter Tryd.func36, Tryd.ntmps36
  go_wp2
  go_ret
  exact ⟨rfl, rfl⟩
theorem next_some (W : World) (b1 b5 : Nat) (ok : Bool) (c : UInt8) (r : List UInt8) (hl : (c :: r).length ≤ 9223372036854775806) (h : Nx W b1 b5 (c :: r) ok) :
    Calls Tryd.prog 36 #[.pointer (some ⟨b1, 0, none⟩), .pointer (some ⟨b5, 0, none⟩)] W fun e w' => e = .returned (.int .u8 (c.toNat : Int)) ∧ W.setCell ⟨b1, 0, none⟩ (.string (txt r)) = w' := by
  have q1 := cell_one h.s
  have f1 := free_one h.s
  have hz : ¬ (txt (c :: r)).toList = [] := by rw [Lib.toList_data, txt_list]; simp
  have hzb : (txt (c :: r)).toList.isEmpty = false := by rw [Lib.toList_data, txt_list]; rfl
  have hs : (txt (c :: r)).size = r.length + 1 := by rw [txt_size]; rfl
  have hat : ∀ h, (txt (c :: r))[0]'h = c := fun h => by rw [txt_at]; rfl
  have hx : (txt (c :: r)).extract 1 (r.length + 1) = txt r := by
    rw [txt_extract, show r.length + 1 = (c :: r).length from rfl, List.take_length]; rfl
  generalize txt (c :: r) = S at q1 f1 hz hzb hs hat hx
  generalize r.length = n at hs hx
  clear h
  have n1 : (1 : Int) ≤ (n : Int) + 1 := by omega
  go_enter Tryd.func36, Tryd.ntmps36
  go_wp2
  go_ret
  exact ⟨rfl, rfl⟩

/-- Beside the blocks b1 and b5 all that lay lies as it did. -/
structure Only2 (b1 b5 : Nat) (a w : World) : Prop where
  os : w.os = a.os
  tape : w.tape = a.tape
  output : w.output = a.output
  size : a.heap.size ≤ w.heap.size
  block : ∀ k, k < a.heap.size → k ≠ b1 → k ≠ b5 → w.heap[k]? = a.heap[k]?
theorem Only2.refl (b1 b5 : Nat) (a : World) : Only2 b1 b5 a a := ⟨rfl, rfl, rfl, Nat.le_refl _, fun _ _ _ _ => rfl⟩
theorem Only2.trans {b1 b5 : Nat} {a b c : World} (h : Only2 b1 b5 a b) (g : Only2 b1 b5 b c) : Only2 b1 b5 a c :=
  ⟨g.os.trans h.os, g.tape.trans h.tape, g.output.trans h.output, Nat.le_trans h.size g.size, fun k h1 h2 h3 => (g.block k (Nat.lt_of_lt_of_le h1 h.size) h2 h3).trans (h.block k h1 h2 h3)⟩
theorem Only2.set1 (b1 b5 : Nat) (W : World) (u : Value) : Only2 b1 b5 W (W.setCell ⟨b1, 0, none⟩ u) := ⟨rfl, rfl, rfl, by simp [World.setCell], fun k _ h2 _ => Below.heap_setCell W ⟨b1, 0, none⟩ u k h2⟩
theorem Only2.set5 (b1 b5 : Nat) (W : World) (u : Value) : Only2 b1 b5 W (W.setCell ⟨b5, 0, none⟩ u) := ⟨rfl, rfl, rfl, by simp [World.setCell], fun k _ _ h3 => Below.heap_setCell W ⟨b5, 0, none⟩ u k h3⟩
theorem Only2.of_below {b1 b5 : Nat} {a w : World} (h : Below a.heap.size a w) : Only2 b1 b5 a w := ⟨h.os, h.tape, h.output, h.size, fun k h1 _ _ => h.block k h1⟩
theorem Only2.of_grown {b1 b5 : Nat} {a w : World} {v : Value} (h : a.grownBy w v.ownBlock) (hv : ∀ k, v.ownBlock = some k → a.heap.size ≤ k) : Only2 b1 b5 a w :=
  ⟨h.os, h.tape, h.output, h.size, fun k h1 _ _ => h.block k h1 (fun e => by have := hv k e.symm; omega)⟩
abbrev fnNext (b1 b5 : Nat) : Value := .func (.func 36) #[] #[.pointer (some ⟨b1, 0, none⟩), .pointer (some ⟨b5, 0, none⟩)]
structure Nx3 (W : World) (b1 b5 b6 : Nat) (l : List UInt8) (ok : Bool) : Prop where
  nx : Nx W b1 b5 l ok
  f : W.heap[b6]? = some (.cells #[fnNext b1 b5] 68 (0, 0))
  n1 : b6 ≠ b1
  n5 : b6 ≠ b5
theorem Nx3.lt {W : World} {b1 b5 b6 : Nat} {l : List UInt8} {ok : Bool} (h : Nx3 W b1 b5 b6 l ok) : b1 < W.heap.size ∧ b5 < W.heap.size ∧ b6 < W.heap.size := by
  refine ⟨?_, ?_, ?_⟩
  · rcases Nat.lt_or_ge b1 W.heap.size with q | q
    · exact q
    · have := h.nx.s; rw [Array.getElem?_eq_none q] at this; cases this
  · rcases Nat.lt_or_ge b5 W.heap.size with q | q
    · exact q
    · have := h.nx.o; rw [Array.getElem?_eq_none q] at this; cases this
  · rcases Nat.lt_or_ge b6 W.heap.size with q | q
    · exact q
    · have := h.f; rw [Array.getElem?_eq_none q] at this; cases this
theorem Nx3.eaten {W : World} {b1 b5 b6 : Nat} {l l' : List UInt8} {ok : Bool} (h : Nx3 W b1 b5 b6 l ok) : Nx3 (W.setCell ⟨b1, 0, none⟩ (.string (txt l'))) b1 b5 b6 l' ok :=
  ⟨⟨set_one _ _ _ _ _ h.nx.s, set_far _ _ _ _ _ h.nx.o (Ne.symm h.nx.ne), h.nx.ne⟩, set_far _ _ _ _ _ h.f h.n1, h.n1, h.n5⟩
theorem Nx3.failed {W : World} {b1 b5 b6 : Nat} {l : List UInt8} {ok ok' : Bool} (h : Nx3 W b1 b5 b6 l ok) : Nx3 (W.setCell ⟨b5, 0, none⟩ (.bool ok')) b1 b5 b6 l ok' :=
  ⟨⟨set_far _ _ _ _ _ h.nx.s h.nx.ne, set_one _ _ _ _ _ h.nx.o, h.nx.ne⟩, set_far _ _ _ _ _ h.f h.n5, h.n1, h.n5⟩
theorem Nx3.kept {W W' : World} {b1 b5 b6 : Nat} {l : List UInt8} {ok : Bool} (h : Nx3 W b1 b5 b6 l ok) (hk : ∀ k, k < W.heap.size → (k = b1 ∨ k = b5 ∨ k = b6) → W'.heap[k]? = W.heap[k]?) : Nx3 W' b1 b5 b6 l ok :=
  ⟨⟨(hk b1 h.lt.1 (.inl rfl)).trans h.nx.s, (hk b5 h.lt.2.1 (.inr (.inl rfl))).trans h.nx.o, h.nx.ne⟩, (hk b6 h.lt.2.2 (.inr (.inr rfl))).trans h.f, h.n1, h.n5⟩

/-- What a number leaves. -/
def NumPost (b1 b5 b6 : Nat) (l : List UInt8) (W : World) (e : Ending) (w' : World) : Prop :=
  ∃ u ok' l', e = .returned (.int .u64 u) ∧ Nx3 w' b1 b5 b6 l' ok' ∧ Only2 b1 b5 W w' ∧ (8 ≤ l.length → u = upZ (numU (l.take 8)) ∧ ok' = true ∧ l' = l.drop 8) ∧ (l.length < 8 → ok' = false) ∧ l'.length ≤ l.length
def NumRel (b1 b5 b6 : Nat) (l : List UInt8) (W : World) (k : Nat) (u : Int) (wr : World) : Prop :=
  ∃ ok' l', Nx3 wr b1 b5 b6 l' ok' ∧ Only2 b1 b5 W wr ∧ (k ≤ l.length → u = (l.take k).foldl stepU 0 ∧ ok' = true ∧ l' = l.drop k) ∧ (l.length < k → ok' = false) ∧ l'.length ≤ l.length
set_option maxRecDepth 100000 in
set_option maxHeartbeats 2000000 in
theorem number_c (W : World) (b1 b5 b6 : Nat) (l : List UInt8) (hl : l.length ≤ 9223372036854775806) (h : Nx3 W b1 b5 b6 l true) :
    Calls Tryd.prog 37 #[.pointer (some ⟨b6, 0, none⟩)] W (NumPost b1 b5 b6 l W) := by
  have HN := Aside0.mk h
  clear h
  go_enter Tryd.func37, Tryd.ntmps37
  go_wp2
  go_loopw [1, 2] (fun vu vi wr => ∃ (k : Nat) (u : Int), vu = .int .u64 u ∧ vi = .int .i64 (k : Int) ∧ k ≤ 8 ∧ Hid (NumRel b1 b5 b6 l W k u wr))
    (fun _ vi _ => 8 - (intOf vi).toNat)
  case atStart => exact ⟨0, 0, rfl, rfl, Nat.zero_le _, Lib.hid ⟨true, l, HN.out, Only2.refl _ _ _, fun _ => ⟨rfl, rfl, rfl⟩, fun h => by omega, Nat.le_refl _⟩⟩
  case round =>
    obtain ⟨k, u, rfl, rfl, hk8, hr⟩ := hrel
    obtain ⟨ok', l', hn, ho, ha, hb, hll⟩ := hr.out
    clear hr
    have HNX := Aside0.mk hn
    have HON := Aside0.mk ho
    have HA := Aside0.mk ha
    have HBB := Aside0.mk hb
    have q6 := cell_one hn.f
    clear hn ho ha hb
    by_cases h8 : k < 8
    · have k0 : (0 : Int) ≤ (k : Int) := by omega
      have k8 : (k : Int) < 8 := by omega
      cases l' with
      | nil =>
        have hnx := next_none wr b1 b5 ok' HNX.out.nx
        go_wp2_with (go_at_call 36; (with_reducible refine hnx.mono ?_); clear hnx; rintro e w1 ⟨rfl, rfl⟩)
        refine ⟨⟨k + 1, _, rfl, rfl, h8, Lib.hid ⟨false, [], HNX.out.failed, HON.out.trans (Only2.set5 _ _ _ _), fun hk => ?_, fun _ => rfl, Nat.zero_le _⟩⟩, ?_⟩
        · exfalso
          have := congrArg List.length (HA.out (by omega)).2.2
          rw [List.length_drop] at this
          simp at this; omega
        · simp [intOf]; omega
      | cons c r =>
        have hnx := next_some wr b1 b5 ok' c r (by omega) HNX.out.nx
        go_wp2_with (go_at_call 36; (with_reducible refine hnx.mono ?_); clear hnx; rintro e w1 ⟨rfl, rfl⟩)
        have hcw : IntKind.u64.wrap (c.toNat : Int) = (c.toNat : Int) := by have := c.toNat_lt; rw [u64_mod]; omega
        refine ⟨⟨k + 1, stepU u c, by rw [hcw]; rfl, rfl, h8, Lib.hid ⟨ok', r, HNX.out.eaten, HON.out.trans (Only2.set1 _ _ _ _), fun hk => ?_, fun hk => ?_, ?_⟩⟩, ?_⟩
        · obtain ⟨e1, e2, e3⟩ := HA.out (by omega)
          have hkl : k < l.length := by omega
          have hd := List.drop_eq_getElem_cons hkl
          rw [← e3] at hd
          injection hd with hd1 hd2
          refine ⟨?_, e2, hd2⟩
          rw [e1, List.take_succ_eq_append_getElem hkl, List.foldl_append, ← hd1]; rfl
        · rcases Nat.lt_or_ge l.length k with q | q
          · exact HBB.out q
          · have := congrArg List.length (HA.out q).2.2
            rw [List.length_drop] at this
            simp only [List.length_cons] at this; omega
        · simp only [List.length_cons] at hll; omega
        · simp [intOf]; omega
    · have e8 : k = 8 := by omega
      have HAE := Aside0.mk (show (8 ≤ l.length → IntKind.u64.wrap (u + 9223372036854775808) = upZ (numU (l.take 8)) ∧ ok' = true ∧ l' = l.drop 8) ∧ (l.length < 8 → ok' = false) by
        rw [e8] at HA HBB
        refine ⟨fun q => ?_, HBB.out⟩
        obtain ⟨e1, e2, e3⟩ := HA.out q
        refine ⟨?_, e2, e3⟩
        obtain ⟨x, hx⟩ := fold_wrap (l.take 8) 0 ⟨0, by rw [u64_mod]; rfl⟩
        have hn : numU (l.take 8) = u := e1.symm
        unfold upZ
        rw [hn, e1, hx, wrap_wrap])
      clear e8
      go_wp2
      go_ret
      exact ⟨_, ok', l', rfl, HNX.out, HON.out, HAE.out.1, HAE.out.2, hll⟩

/-! ### a text -/
theorem textP_more : ∀ (f g : Nat) (acc : List Int) (l : List UInt8), l.length < f → l.length < g → textP f acc l = textP g acc l
  | 0, g, acc, l, h, _ => by omega
  | f + 1, 0, acc, l, _, h => by omega
  | f + 1, g + 1, acc, [], _, _ => rfl
  | f + 1, g + 1, acc, c :: r, h, k => by
    simp only [List.length_cons] at h k
    rw [textP, textP]
    by_cases hc : c = 0
    · rw [if_pos hc, if_pos hc]
      by_cases hr : r = []
      · rw [if_pos hr, if_pos hr]
      · rw [if_neg hr, if_neg hr]
        by_cases h1 : r.getD 0 0 = 1
        · rw [if_pos h1, if_pos h1]
        · rw [if_neg h1, if_neg h1]
          by_cases h2 : r.getD 0 0 = 255
          · rw [if_pos h2, if_pos h2]
            exact textP_more f g _ _ (by rw [List.length_drop]; omega) (by rw [List.length_drop]; omega)
          · rw [if_neg h2, if_neg h2]
    · rw [if_neg hc, if_neg hc]
      exact textP_more f g _ _ (by omega) (by omega)
def TextPost (b1 b5 b6 : Nat) (l : List UInt8) (W : World) (e : Ending) (w' : World) : Prop :=
  ∃ s ok' l', e = .returned (.string s) ∧ Nx3 w' b1 b5 b6 l' ok' ∧ Only2 b1 b5 W w' ∧ (∀ t r, textP (l.length + 1) [] l = some (t, r) → s = strOfNums t ∧ ok' = true ∧ l' = r) ∧ (textP (l.length + 1) [] l = none → ok' = false) ∧ l'.length ≤ l.length
def TextRel (b1 b5 b6 : Nat) (l : List UInt8) (W : World) (v : Value) (l' : List UInt8) (ok' : Bool) (wr : World) : Prop :=
  ∃ acc, Nx3 wr b1 b5 b6 l' ok' ∧ Only2 b1 b5 W wr ∧ OwnN W.heap.size wr v acc ∧ (ok' = true → textP (l'.length + 1) acc l' = textP (l.length + 1) [] l) ∧ (ok' = false → textP (l.length + 1) [] l = none) ∧ l'.length ≤ l.length ∧ (ok' = true → acc.length + l'.length ≤ l.length)
theorem own_kept {base : Nat} {W W' : World} {v : Value} {xs : List Int} (h : OwnN base W v xs) (hk : ∀ k, base ≤ k → k < W.heap.size → W'.heap[k]? = W.heap[k]?) : OwnN base W' v xs :=
  own_move h (fun g hg => hk g (own_base h g hg) (own_lt h g hg))
theorem next_none3 {W : World} {b1 b5 b6 : Nat} {ok : Bool} (h : Nx3 W b1 b5 b6 [] ok) :
    Calls Tryd.prog 36 #[.pointer (some ⟨b1, 0, none⟩), .pointer (some ⟨b5, 0, none⟩)] W fun e w' => e = .returned (.int .u8 0) ∧ Nx3 w' b1 b5 b6 [] false ∧ Only2 b1 b5 W w' :=
  (next_none W b1 b5 ok h.nx).mono fun _ _ ⟨he, hw⟩ => ⟨he, hw ▸ h.failed, hw ▸ Only2.set5 _ _ _ _⟩
theorem next_some3 {W : World} {b1 b5 b6 : Nat} {ok : Bool} {c : UInt8} {r : List UInt8} (hl : (c :: r).length ≤ 9223372036854775806) (h : Nx3 W b1 b5 b6 (c :: r) ok) :
    Calls Tryd.prog 36 #[.pointer (some ⟨b1, 0, none⟩), .pointer (some ⟨b5, 0, none⟩)] W fun e w' => e = .returned (.int .u8 (c.toNat : Int)) ∧ Nx3 w' b1 b5 b6 r ok ∧ Only2 b1 b5 W w' :=
  (next_some W b1 b5 ok c r hl h.nx).mono fun _ _ ⟨he, hw⟩ => ⟨he, hw ▸ h.eaten, hw ▸ Only2.set1 _ _ _ _⟩
/-- A row of the call's own stays where only the two boxes turn. -/
theorem own_only {base b1 b5 : Nat} {W W' : World} {v : Value} {xs : List Int} (h : OwnN base W v xs) (hb : b1 < base ∧ b5 < base) (ho : Only2 b1 b5 W W') : OwnN base W' v xs :=
  own_kept h (fun k h1 h2 => ho.block k h2 (by omega) (by omega))
theorem grown_only {base b1 b5 b6 n : Nat} {W w1 : World} {v : Value} {xs : List Value} {tmp : Obj} {l : List UInt8} {ok : Bool} (hrow : W.ownsRow base 5 1 v n xs) (hb : b1 < base ∧ b5 < base ∧ b6 < base) (hgrow : (W.alloc tmp).grownBy w1 v.ownBlock) (hn : Nx3 W b1 b5 b6 l ok) : Nx3 w1 b1 b5 b6 l ok :=
  hn.kept (fun k hk he => (hgrow.block k (by rw [World.size_alloc]; omega) (fun e => by have := own_base hrow k e.symm; rcases he with rfl | rfl | rfl <;> omega)).trans (Below.heap_alloc W tmp k hk))
theorem only_grown {base b1 b5 n : Nat} {W0 W w1 : World} {v : Value} {xs : List Value} {tmp : Obj} (hO : Only2 b1 b5 W0 W) (hrow : W.ownsRow base 5 1 v n xs) (hbase : W0.heap.size ≤ base) (hgrow : (W.alloc tmp).grownBy w1 v.ownBlock) : Only2 b1 b5 W0 w1 :=
  ⟨hgrow.os.trans hO.os, hgrow.tape.trans hO.tape, hgrow.output.trans hO.output, by have := hgrow.size; have := hO.size; simp at *; omega,
    fun k h1 h2 h3 => ((hgrow.block k (by rw [World.size_alloc]; have := hO.size; omega) (fun e => by have := own_base hrow k e.symm; omega)).trans (Below.heap_alloc W tmp k (by have := hO.size; omega))).trans (hO.block k h1 h2 h3)⟩
set_option maxRecDepth 100000 in
set_option maxHeartbeats 4000000 in
theorem text_fn (W : World) (b1 b5 b6 : Nat) (l : List UInt8) (hl : l.length ≤ 1048576) (h : Nx3 W b1 b5 b6 l true) :
    Calls Tryd.prog 38 #[.pointer (some ⟨b5, 0, none⟩), .pointer (some ⟨b6, 0, none⟩)] W (TextPost b1 b5 b6 l W) := by
  obtain ⟨i0, hi, iz0, iz1, iz2⟩ := info_parts info5
  have HN := Aside0.mk h
  have hlt3 := h.lt
  obtain ⟨hb1, hb5, hb6⟩ := hlt3
  obtain ⟨Y, hY⟩ : ∃ Y, Y = textP (l.length + 1) [] l := ⟨_, rfl⟩
  have HY := Aside0.mk hY
  clear h hY
  go_enter Tryd.func38, Tryd.ntmps38
  go_wp2
  go_loopg [3] (l.length + 1) (fun g v wr => ∃ (l' : List UInt8) (ok' : Bool), l'.length + (if ok' = true then 1 else 0) ≤ g ∧ Hid (TextRel b1 b5 b6 l W v l' ok' wr))
  case atStart => exact ⟨l, true, by simp, Lib.hid ⟨[], HN.out, Only2.refl _ _ _, OwnN.nil _ _, fun _ => rfl, (fun h => by cases h), Nat.le_refl _, (fun _ => by simp only [List.length_nil]; omega)⟩⟩
  case round =>
    obtain ⟨l', ok', hg, hr⟩ := hrel
    obtain ⟨acc, hn, ho, hown, ht, hf, hla, hlb⟩ := hr.out
    clear hr
    have HNX := Aside0.mk hn
    have HON := Aside0.mk ho
    have HT := Aside0.mk ht
    have HF := Aside0.mk hf
    have HLB := Aside0.mk hlb
    have HOW := Aside0.mk hown
    have q5 := cell_one hn.nx.o
    have q6 := cell_one hn.f
    have hwz : W.heap.size ≤ wr.heap.size := ho.size
    clear hn ho ht hf hlb hown
    cases ok' with
    | false =>
      have HFN := Aside0.mk (HF.out rfl)
      go_wp2
      go_ret
      exact ⟨_, false, l', rfl, HNX.out, HON.out, (fun t r e => by rw [HFN.out] at e; cases e), fun _ => rfl, hla⟩
    | true =>
      have hlb := HLB.out rfl
      have ht := HT.out rfl
      rw [← HY.out] at ht
      simp only [if_true] at hg
      cases l' with
      | nil =>
        have HYN := Aside0.mk (show Y = none from ht.symm)
        have hnx := next_none3 HNX.out
        clear ht
        go_wp2_with (first
          | (go_at_call 36; (with_reducible refine hnx.mono ?_); clear hnx; rintro e w1 ⟨rfl, hn1, ho1⟩; have HN1 := Aside0.mk hn1; have HO1 := Aside0.mk ho1; have r5 := cell_one hn1.nx.o; have r6 := cell_one hn1.f; have hnx2 := next_none3 hn1; clear hn1 ho1)
          | (go_at_call 36; (with_reducible refine hnx2.mono ?_); clear hnx2; rintro e w2 ⟨rfl, hn2, ho2⟩; have HN2 := Aside0.mk hn2; have HO2 := Aside0.mk (HO1.out.trans ho2); have HS2 := Aside0.mk HO2.out.size; have s5 := cell_one hn2.nx.o; have t5 := free_one hn2.nx.o; clear hn2 ho2)
          | (at_builtin; have hrow := own_only HOW.out ⟨hb1, hb5⟩ (HO2.out.trans (Only2.set5 b1 b5 _ (.bool false))); have hbw := Nat.le_trans hwz HS2.out; refine wpList_append_own _ rfl _ _ 58 rfl W.heap.size 5 i0 (.int .u8 0) 1 1 Tryd.underlying58 hi iz0 iz1 iz2 rfl (by decide) _ _ _ rfl (World.ownsRow.alloc hrow _) ⟨w2.heap.size, 0, none⟩ 1 1 [.int .u8 0] rfl rfl (by first | exact cell_one_new _ _ _ | (intro j u hj; have := cell_one_new (w2.setCell ⟨b5, 0, none⟩ (.bool false)) (.int .u8 0) 5 j u hj; simpa using this)) (by simp [Value.oneCell']) (by unfold maxLen; omega) (by omega) (by simp; omega) ?_; intro v9 w9 hown9 hgrow9 hx; clear hx))
        go_roundg (gk - 1)
        case rel => exact ⟨[], false, (by first | (simp; done) | (simp; omega)), Lib.hid ⟨acc ++ [0], grown_only hrow ⟨hb1, hb5, hb6⟩ hgrow9 HN2.out.failed, only_grown (HON.out.trans (HO2.out.trans (Only2.set5 b1 b5 _ (.bool false)))) hrow (Nat.le_refl _) hgrow9, ownN_snoc hown9, (fun h => by cases h), fun _ => by rw [← HY.out]; exact HYN.out, Nat.zero_le _, (fun h => by cases h)⟩⟩
        case measure => omega
      | cons c r =>
        simp only [List.length_cons] at hg hla hlb
        have hcl : (c :: r).length ≤ 9223372036854775806 := by simp only [List.length_cons]; omega
        have hnx := next_some3 hcl HNX.out
        rw [textP] at ht
        by_cases hc : c = 0
        · have hc0 : ((c.toNat : Nat) : Int) = 0 := by rw [hc]; rfl
          rw [hc0] at hnx
          rw [if_pos hc] at ht
          cases r with
          | nil =>
            rw [if_pos rfl] at ht
            have HYN := Aside0.mk (show Y = none from ht.symm)
            clear ht hcl
            go_wp2_with (first
              | (go_at_call 36; (with_reducible refine hnx.mono ?_); clear hnx; rintro e w1 ⟨rfl, hn1, ho1⟩; have HN1 := Aside0.mk hn1; have HO1 := Aside0.mk ho1; have HS1 := Aside0.mk ho1.size; have r5 := cell_one hn1.nx.o; have r6 := cell_one hn1.f; have hnx2 := next_none3 hn1; clear hn1 ho1)
              | (go_at_call 36; (with_reducible refine hnx2.mono ?_); clear hnx2; rintro e w2 ⟨rfl, hn2, ho2⟩; have HN2 := Aside0.mk hn2; have HO2 := Aside0.mk (HO1.out.trans ho2); have HS2 := Aside0.mk HO2.out.size; have s5 := cell_one hn2.nx.o; have t5 := free_one hn2.nx.o; clear hn2 ho2)
              | (at_builtin; have hrow := own_only HOW.out ⟨hb1, hb5⟩ (HO2.out.trans (Only2.set5 b1 b5 _ (.bool false))); have hbw := Nat.le_trans hwz HS2.out; refine wpList_append_own _ rfl _ _ 58 rfl W.heap.size 5 i0 (.int .u8 0) 1 1 Tryd.underlying58 hi iz0 iz1 iz2 rfl (by decide) _ _ _ rfl (World.ownsRow.alloc hrow _) ⟨w2.heap.size, 0, none⟩ 1 1 [.int .u8 0] rfl rfl (by first | exact cell_one_new _ _ _ | (intro j u hj; have := cell_one_new (w2.setCell ⟨b5, 0, none⟩ (.bool false)) (.int .u8 0) 5 j u hj; simpa using this)) (by simp [Value.oneCell']) (by unfold maxLen; omega) (by omega) (by simp; omega) ?_; intro v9 w9 hown9 hgrow9 hx; clear hx))
            go_roundg (gk - 1)
            case rel => exact ⟨[], false, (by first | (simp; done) | (simp; omega)), Lib.hid ⟨acc ++ [0], grown_only hrow ⟨hb1, hb5, hb6⟩ hgrow9 HN2.out.failed, only_grown (HON.out.trans (HO2.out.trans (Only2.set5 b1 b5 _ (.bool false)))) hrow (Nat.le_refl _) hgrow9, ownN_snoc hown9, (fun h => by cases h), fun _ => by rw [← HY.out]; exact HYN.out, Nat.zero_le _, (fun h => by cases h)⟩⟩
            case measure => omega
          | cons d r' =>
            rw [if_neg (by simp), List.getD_cons_zero, List.drop_succ_cons, List.drop_zero] at ht
            simp only [List.length_cons] at hg hla hlb
            have hcl2 : (d :: r').length ≤ 9223372036854775806 := by simp only [List.length_cons] at hcl ⊢; omega
            have n2c := fun (W' : World) (h : Nx3 W' b1 b5 b6 (d :: r') true) => next_some3 hcl2 h
            have N2C := Aside0.mk n2c
            by_cases hd1 : d = 1
            · rw [if_pos hd1] at ht
              have HYS := Aside0.mk (show Y = some (acc, r') from ht.symm)
              have hd : ((d.toNat : Nat) : Int) = 1 := by rw [hd1]; rfl
              clear ht hcl hcl2 n2c hd1 hc hc0
              go_wp2_with (first
                | (go_at_call 36; (with_reducible refine hnx.mono ?_); clear hnx; rintro e w1 ⟨rfl, hn1, ho1⟩; have HN1 := Aside0.mk hn1; have HO1 := Aside0.mk ho1; have HS1 := Aside0.mk ho1.size; have r5 := cell_one hn1.nx.o; have r6 := cell_one hn1.f; have hnx2 := N2C.out _ hn1; rw [hd] at hnx2; clear hn1 ho1)
                | (go_at_call 36; (with_reducible refine hnx2.mono ?_); clear hnx2; rintro e w2 ⟨rfl, hn2, ho2⟩; have HN2 := Aside0.mk hn2; have HO2 := Aside0.mk (HO1.out.trans ho2); have hcv := own_string (P := Tryd.prog) (xs := acc) Tryd.underlying58 Tryd.underlying5 Tryd.underlying9 (own_only HOW.out ⟨hb1, hb5⟩ HO2.out); clear hn2 ho2))
              go_ret
              exact ⟨_, true, r', rfl, HN2.out, HON.out.trans HO2.out, (fun t r e => by rw [← HY.out, HYS.out] at e; simp only [Option.some.injEq, Prod.mk.injEq] at e; obtain ⟨rfl, rfl⟩ := e; exact ⟨rfl, rfl, rfl⟩), (fun e => by rw [← HY.out, HYS.out] at e; cases e), (by omega)⟩
            · have hn1' : ((d.toNat : Int) == 1) = false := beq_false_of_ne (fun e => hd1 (UInt8.toNat_inj.1 (show _ = 1 by omega)))
              rw [if_neg hd1] at ht
              by_cases hd2 : d = 255
              · rw [if_pos hd2] at ht
                have HTT := Aside0.mk (ht.symm.trans (textP_more _ (r'.length + 1) _ _ (by simp only [List.length_cons]; omega) (by omega)))
                have hd : ((d.toNat : Nat) : Int) = 255 := by rw [hd2]; rfl
                clear ht hcl hcl2 n2c hd1 hd2 hc hc0 hn1'
                go_wp2_with (first
                  | (go_at_call 36; (with_reducible refine hnx.mono ?_); clear hnx; rintro e w1 ⟨rfl, hn1, ho1⟩; have HN1 := Aside0.mk hn1; have HO1 := Aside0.mk ho1; have HS1 := Aside0.mk ho1.size; have r5 := cell_one hn1.nx.o; have r6 := cell_one hn1.f; have hnx2 := N2C.out _ hn1; rw [hd] at hnx2; clear hn1 ho1)
                  | (go_at_call 36; (with_reducible refine hnx2.mono ?_); clear hnx2; rintro e w2 ⟨rfl, hn2, ho2⟩; have HN2 := Aside0.mk hn2; have HO2 := Aside0.mk (HO1.out.trans ho2); have HS2 := Aside0.mk HO2.out.size; have s5 := cell_one hn2.nx.o; have t5 := free_one hn2.nx.o; clear hn2 ho2)
                  | (at_builtin; have hrow := own_only HOW.out ⟨hb1, hb5⟩ HO2.out; have hbw := Nat.le_trans hwz HS2.out; refine wpList_append_own _ rfl _ _ 58 rfl W.heap.size 5 i0 (.int .u8 0) 1 1 Tryd.underlying58 hi iz0 iz1 iz2 rfl (by decide) _ _ _ rfl (World.ownsRow.alloc hrow _) ⟨w2.heap.size, 0, none⟩ 1 1 [.int .u8 0] rfl rfl (cell_one_new _ _ _) (by simp [Value.oneCell']) (by unfold maxLen; omega) (by omega) (by simp; omega) ?_; intro v9 w9 hown9 hgrow9 hx; clear hx))
                go_roundg (gk - 1)
                case rel => exact ⟨r', true, (by first | (simp; done) | (simp; omega)), Lib.hid ⟨acc ++ [0], grown_only hrow ⟨hb1, hb5, hb6⟩ hgrow9 HN2.out, only_grown (HON.out.trans HO2.out) hrow (Nat.le_refl _) hgrow9, ownN_snoc hown9, (fun _ => by rw [← HY.out, HTT.out]), (fun h => by cases h), (by omega), (fun _ => by rw [List.length_append]; simp only [List.length_cons, List.length_nil]; omega)⟩⟩
                case measure => omega
              · rw [if_neg hd2] at ht
                have HYN := Aside0.mk (show Y = none from ht.symm)
                have hn2' : ((d.toNat : Int) == 255) = false := beq_false_of_ne (fun e => hd2 (UInt8.toNat_inj.1 (show _ = 255 by omega)))
                clear ht hcl hcl2 n2c hd1 hd2 hc hc0
                go_wp2_with (first
                  | (go_at_call 36; (with_reducible refine hnx.mono ?_); clear hnx; rintro e w1 ⟨rfl, hn1, ho1⟩; have HN1 := Aside0.mk hn1; have HO1 := Aside0.mk ho1; have HS1 := Aside0.mk ho1.size; have r5 := cell_one hn1.nx.o; have r6 := cell_one hn1.f; have hnx2 := N2C.out _ hn1; clear hn1 ho1)
                  | (go_at_call 36; (with_reducible refine hnx2.mono ?_); clear hnx2; rintro e w2 ⟨rfl, hn2, ho2⟩; have HN2 := Aside0.mk hn2; have HO2 := Aside0.mk (HO1.out.trans ho2); have HS2 := Aside0.mk HO2.out.size; have s5 := cell_one hn2.nx.o; have t5 := free_one hn2.nx.o; clear hn2 ho2)
                  | (at_builtin; have hrow := own_only HOW.out ⟨hb1, hb5⟩ (HO2.out.trans (Only2.set5 b1 b5 _ (.bool false))); have hbw := Nat.le_trans hwz HS2.out; refine wpList_append_own _ rfl _ _ 58 rfl W.heap.size 5 i0 (.int .u8 0) 1 1 Tryd.underlying58 hi iz0 iz1 iz2 rfl (by decide) _ _ _ rfl (World.ownsRow.alloc hrow _) ⟨w2.heap.size, 0, none⟩ 1 1 [.int .u8 0] rfl rfl (by first | exact cell_one_new _ _ _ | (intro j u hj; have := cell_one_new (w2.setCell ⟨b5, 0, none⟩ (.bool false)) (.int .u8 0) 5 j u hj; simpa using this)) (by simp [Value.oneCell']) (by unfold maxLen; omega) (by omega) (by simp; omega) ?_; intro v9 w9 hown9 hgrow9 hx; clear hx))
                go_roundg (gk - 1)
                case rel => exact ⟨r', false, (by first | (simp; done) | (simp; omega)), Lib.hid ⟨acc ++ [0], grown_only hrow ⟨hb1, hb5, hb6⟩ hgrow9 HN2.out.failed, only_grown (HON.out.trans (HO2.out.trans (Only2.set5 b1 b5 _ (.bool false)))) hrow (Nat.le_refl _) hgrow9, ownN_snoc hown9, (fun h => by cases h), fun _ => by rw [← HY.out]; exact HYN.out, by omega, (fun h => by cases h)⟩⟩
                case measure => omega
        · rw [if_neg hc] at ht
          have HTT := Aside0.mk ht.symm
          have hcz : ((c.toNat : Int) == 0) = false := beq_false_of_ne (fun e => hc (UInt8.toNat_inj.1 (show _ = 0 by omega)))
          clear ht hc hcl
          go_wp2_with (first
            | (go_at_call 36; (with_reducible refine hnx.mono ?_); clear hnx; rintro e w1 ⟨rfl, hn1, ho1⟩; have HN1 := Aside0.mk hn1; have HO1 := Aside0.mk ho1; have HS1 := Aside0.mk ho1.size; have r5 := cell_one hn1.nx.o; have r6 := cell_one hn1.f; clear hn1 ho1)
            | (at_builtin; have hrow := own_only HOW.out ⟨hb1, hb5⟩ HO1.out; have hbw := Nat.le_trans hwz HS1.out; refine wpList_append_own _ rfl _ _ 58 rfl W.heap.size 5 i0 (.int .u8 0) 1 1 Tryd.underlying58 hi iz0 iz1 iz2 rfl (by decide) _ _ _ rfl (World.ownsRow.alloc hrow _) ⟨w1.heap.size, 0, none⟩ 1 1 [.int .u8 (c.toNat : Int)] rfl rfl (cell_one_new _ _ _) (by simp [Value.oneCell']) (by unfold maxLen; omega) (by omega) (by simp; omega) ?_; intro v9 w9 hown9 hgrow9 hx; clear hx))
          go_roundg (gk - 1)
          case rel => exact ⟨r, true, (by first | (simp; done) | (simp; omega)), Lib.hid ⟨acc ++ [(c.toNat : Int)], grown_only hrow ⟨hb1, hb5, hb6⟩ hgrow9 HN1.out, only_grown (HON.out.trans HO1.out) hrow (Nat.le_refl _) hgrow9, ownN_snoc hown9, (fun _ => by rw [← HY.out, HTT.out]; rfl), (fun h => by cases h), (by omega), (fun _ => by rw [List.length_append]; simp only [List.length_cons, List.length_nil]; omega)⟩⟩
          case measure => omega
end Go.Proofs.YtkndegjjiimheaaDoor.Ord

set_option linter.unusedVariables false
set_option linter.unusedSimpArgs false
namespace Go.Proofs.YtkndegjjiimheaaDoor.Ord
open Go Go.RowKit Go.Proofs.YtkndegjjiimheaaDoorW.PrintWords Go.Proofs.YtkndegjjiimheaaDoorW.PrintLast Go.Proofs.OrdPlain Go.Lib Go.Proofs.YtkndegjjiimheaaDoor.QKey

abbrev KRow (W : World) (base : Nat) (v : Value) (ks : List S45) : Prop := Kd.R k45 45 W base (fun _ => True) v ks
theorem krow_move {W W' : World} {base : Nat} {v : Value} {ks : List S45} (h : KRow W base v ks) (hk : ∀ k, base ≤ k → k < W.heap.size → W'.heap[k]? = W.heap[k]?) : KRow W' base v ks :=
  Kd.R_mono (Kd.R_step (Kd.R_bound h) (fun k h1 h2 => hk k h1.2.1 h2)) (fun _ _ => trivial)
theorem clip_c (A : Option Addr) (n c : Nat) (hnc : n ≤ c) (w : World) (hn : n ≤ 1048576) :
    Calls Tryd.prog 39 #[.slice A n c] w fun e w' => e = .returned (.slice A n n) ∧ w = w' := by
  have n0 : (0 : Int) ≤ (n : Int) := by omega
  have nc : (n : Int) ≤ (c : Int) := by omega
  go_enter Tryd.func39, Tryd.ntmps39
  go_wp2
  go_ret
  exact ⟨rfl, rfl⟩
theorem keysP_more : ∀ (f g : Nat) (acc : List S45) (l : List UInt8), l.length ≤ f → l.length ≤ g → keysP f acc l = keysP g acc l
  | f, g, acc, [], _, _ => by rw [keysP, keysP]
  | 0, g, acc, _ :: _, h, _ => by simp at h
  | f + 1, 0, acc, _ :: _, _, h => by simp at h
  | f + 1, g + 1, acc, c :: r, h, k => by
    simp only [List.length_cons] at h k
    rw [keysP, keysP]
    by_cases h0 : c = 0
    · rw [if_pos h0, if_pos h0]
      exact keysP_more f g _ _ (by omega) (by omega)
    · rw [if_neg h0, if_neg h0]
      by_cases h1 : c = 1
      · rw [if_pos h1, if_pos h1]
        by_cases h8 : 8 ≤ r.length
        · rw [if_pos h8, if_pos h8]
          exact keysP_more f g _ _ (by rw [List.length_drop]; omega) (by rw [List.length_drop]; omega)
        · rw [if_neg h8, if_neg h8]
      · rw [if_neg h1, if_neg h1]
        by_cases h2 : c = 2
        · rw [if_pos h2, if_pos h2]
          cases ht : textP (r.length + 1) [] r with
          | none => rfl
          | some p =>
            obtain ⟨t, r'⟩ := p
            have := (text_rest _ _ _ _ _ ht).1
            exact keysP_more f g _ _ (by omega) (by omega)
        · rw [if_neg h2, if_neg h2]
def KeysPost (ks : List S45) (ee : Int) (w : World) (e : Ending) (w' : World) : Prop :=
  ∃ A c, e = .returned (.tuple #[.slice A ks.length ks.length, .int .i64 ee]) ∧ KRow w' w.heap.size (.slice A ks.length c) ks ∧ Below w.heap.size w w'
def KeysRel (w : World) (base b1 b5 b6 N : Nat) (Y : Option (List S45)) (v : Value) (l' : List UInt8) (wr : World) : Prop :=
  ∃ acc, Nx3 wr b1 b5 b6 l' true ∧ Below w.heap.size w wr ∧ base ≤ wr.heap.size ∧ KRow wr base v acc ∧ keysP l'.length acc l' = Y ∧ acc.length + l'.length ≤ N
theorem set_mid1 {W : World} {b : Nat} {a0 a1 a2 : Value} (h : W.heap[b]? = some (.cells #[a0, a1, a2] 45 (0, 0))) (X : Value) : (W.setCell ⟨b, 1, none⟩ X).heap[b]? = some (.cells #[a0, X, a2] 45 (0, 0)) := by
  simp [World.setCell, Array.getElem?_modify, h]
theorem set_mid2 {W : World} {b : Nat} {a0 a1 a2 : Value} (h : W.heap[b]? = some (.cells #[a0, a1, a2] 45 (0, 0))) (X : Value) : (W.setCell ⟨b, 2, none⟩ X).heap[b]? = some (.cells #[a0, a1, X] 45 (0, 0)) := by
  simp [World.setCell, Array.getElem?_modify, h]
theorem free_mid {W : World} {b : Nat} {cs : Array Value} {t : TypeId} (h : W.heap[b]? = some (.cells cs t (0, 0))) (j : Nat) : W.frozen? ⟨b, j, none⟩ = false := by simp [World.frozen?, h]
theorem size_set (W : World) (p : Addr) (u : Value) : (W.setCell p u).heap.size = W.heap.size := by simp [World.setCell]
theorem Only2.alloc {b1 b5 : Nat} {a w : World} (h : Only2 b1 b5 a w) (o : Obj) : Only2 b1 b5 a (w.alloc o) :=
  ⟨h.os, h.tape, h.output, by have := h.size; rw [World.size_alloc]; omega, fun k h1 h2 h3 => (Below.heap_alloc w o k (Nat.lt_of_lt_of_le h1 h.size)).trans (h.block k h1 h2 h3)⟩
theorem Only2.setFar {b1 b5 g j : Nat} {a w : World} (h : Only2 b1 b5 a w) (hg : a.heap.size ≤ g) (u : Value) : Only2 b1 b5 a (w.setCell ⟨g, j, none⟩ u) :=
  ⟨h.os, h.tape, h.output, by have := h.size; simp [World.setCell]; exact this, fun k h1 h2 h3 => (Below.heap_setCell w ⟨g, j, none⟩ u k (by show k ≠ g; omega)).trans (h.block k h1 h2 h3)⟩
theorem below_only {B b1 b5 : Nat} {w wr W : World} (hb : Below B w wr) (hB : B ≤ wr.heap.size) (h1 : B ≤ b1) (h5 : B ≤ b5) (ho : Only2 b1 b5 wr W) : Below B w W :=
  ⟨ho.os.trans hb.os, ho.tape.trans hb.tape, ho.output.trans hb.output, Nat.le_trans hb.size ho.size, fun k hk => (ho.block k (by omega) (by omega) (by omega)).trans (hb.block k hk)⟩
theorem Nx3.alloc {W : World} {b1 b5 b6 : Nat} {l : List UInt8} {ok : Bool} (h : Nx3 W b1 b5 b6 l ok) (o : Obj) : Nx3 (W.alloc o) b1 b5 b6 l ok := h.kept (fun k hk _ => Below.heap_alloc W o k hk)
theorem Nx3.setFar {W : World} {b1 b5 b6 g j : Nat} {l : List UInt8} {ok : Bool} (h : Nx3 W b1 b5 b6 l ok) (h1 : b1 ≠ g) (h5 : b5 ≠ g) (h6 : b6 ≠ g) (u : Value) : Nx3 (W.setCell ⟨g, j, none⟩ u) b1 b5 b6 l ok :=
  h.kept (fun k hk he => Below.heap_setCell W ⟨g, j, none⟩ u k (by show k ≠ g; rcases he with rfl | rfl | rfl <;> assumption))
/-- One key more. -/
theorem rel_next {w wr W w9 : World} {N : Nat} {Y : Option (List S45)} {v9 : Value} {r : List UInt8} {acc : List S45} {x : S45} (hb : Below w.heap.size w wr) (hsz : w.heap.size + 3 ≤ wr.heap.size)
    (ho : Only2 w.heap.size (w.heap.size + 1) wr W) (hn : Nx3 W w.heap.size (w.heap.size + 1) (w.heap.size + 1 + 1) r true) (hb9 : Below (w.heap.size + 3) W w9) (hr9 : KRow w9 (w.heap.size + 3) v9 (acc ++ [x]))
    (hk : keysP r.length (acc ++ [x]) r = Y) (hl : acc.length + 1 + r.length ≤ N) : KeysRel w (w.heap.size + 3) w.heap.size (w.heap.size + 1) (w.heap.size + 1 + 1) N Y v9 r w9 :=
  ⟨acc ++ [x], hn.kept (fun k hk he => hb9.block k (by rcases he with rfl | rfl | rfl <;> omega)), (below_only hb (by omega) (by omega) (by omega) ho).trans (hb9.mono (by omega)), by have := hb9.size; have := ho.size; omega, hr9, hk, by rw [List.length_append]; simp only [List.length_cons, List.length_nil]; omega⟩
theorem row_only {w wr W : World} {v : Value} {acc : List S45} (h : KRow wr (w.heap.size + 3) v acc) (ho : Only2 w.heap.size (w.heap.size + 1) wr W) : KRow W (w.heap.size + 3) v acc :=
  krow_move h (fun k h1 h2 => ho.block k h2 (by omega) (by omega))
set_option maxRecDepth 100000 in
set_option maxHeartbeats 8000000 in
theorem order_keys (l : List UInt8) (hl : l.length ≤ 1048576) (w : World) : Calls Tryd.prog 13 #[.string (txt l)] w (KeysPost (keysD l).1 (keysD l).2 w) := by
  have hu45 := Tryd.underlying45
  obtain ⟨Y, hY⟩ : ∃ Y, Y = keysP l.length [] l := ⟨_, rfl⟩
  have HD := Aside0.mk (show keysD l = ansK Y by rw [hY]; rfl)
  have HY := Aside0.mk hY
  clear hY
  obtain ⟨K, hK⟩ : ∃ K, K = keysD l := ⟨_, rfl⟩
  rw [← hK] at HD ⊢
  clear hK
  obtain ⟨S, hS⟩ : ∃ S, S = txt l := ⟨_, rfl⟩
  have HS := Aside0.mk hS
  rw [← hS]
  clear hS
  have hN0 : Nx3 (((w.alloc (.cells #[.string S] 9)).alloc (.cells #[.bool true] 4)).alloc (.cells #[fnNext w.heap.size (w.heap.size + 1)] 68)) w.heap.size (w.heap.size + 1) (w.heap.size + 1 + 1) l true := by
    have a1 := heap_alloc_new w (.cells #[.string S] 9)
    have a2 := heap_alloc_new (w.alloc (.cells #[.string S] 9)) (.cells #[.bool true] 4)
    have a3 := heap_alloc_new ((w.alloc (.cells #[.string S] 9)).alloc (.cells #[.bool true] 4)) (.cells #[fnNext w.heap.size (w.heap.size + 1)] 68)
    simp only [World.size_alloc] at a2 a3
    refine ⟨⟨?_, ?_, by omega⟩, a3, by omega, by omega⟩
    · rw [Below.heap_alloc _ _ _ (by simp only [World.size_alloc]; omega), Below.heap_alloc _ _ _ (by simp only [World.size_alloc]; omega), a1, HS.out]
    · rw [Below.heap_alloc _ _ _ (by simp only [World.size_alloc]; omega), a2]
  have HN0 := Aside0.mk hN0
  clear hN0
  go_enter Tryd.func13, Tryd.ntmps13
  go_wp2
  go_loopg [4] l.length (fun g v wr => ∃ l' : List UInt8, l'.length ≤ g ∧ Hid (KeysRel w (w.heap.size + 3) w.heap.size (w.heap.size + 1) (w.heap.size + 1 + 1) l.length Y v l' wr))
  case atStart => exact ⟨l, Nat.le_refl _, Lib.hid ⟨[], HN0.out, below_alloc (below_alloc (below_alloc (Below.refl _ _) _) _) _, by simp, Kd.R_nil _ _ _ _ _, HY.out.symm, by simp⟩⟩
  case round =>
    obtain ⟨l', hg, hr⟩ := hrel
    obtain ⟨acc, hn, hb, hsz, hrow, hkp, hla⟩ := hr.out
    clear hr
    have HNX := Aside0.mk hn
    have HB := Aside0.mk hb
    have HROW := Aside0.mk hrow
    have q1 := cell_one hn.nx.s
    have q5 := cell_one hn.nx.o
    have q6 := cell_one hn.f
    clear hn hb hrow
    cases l' with
    | nil =>
      have HYS := Aside0.mk (show Y = some acc by rw [← hkp, keysP])
      have hz : (txt []).toList = [] := by rw [Lib.toList_data, txt_list]
      have hzb : (txt []).toList.isEmpty = true := by rw [hz]; rfl
      generalize txt [] = T at q1 hz hzb
      obtain ⟨A, c, rfl⟩ := Kd.R_slice HROW.out
      have hrd := Kd.R_reads' HROW.out
      have hcl := clip_c A acc.length c hrd.2.1 wr (by omega)
      clear hkp hrd
      go_wp2_with (go_at_call 39; (with_reducible refine hcl.mono ?_); clear hcl; rintro e w9 ⟨rfl, rfl⟩)
      go_ret2
      have e : K = (acc, 0) := by rw [HD.out, HYS.out]; rfl
      rw [e]
      exact ⟨A, c, rfl, Kd.R_lower HROW.out (by omega), HB.out⟩
    | cons c r =>
      simp only [List.length_cons] at hg hla
      have hcl : (c :: r).length ≤ 9223372036854775806 := by simp only [List.length_cons]; omega
      have hnx := next_some3 hcl HNX.out
      have hz : ¬ (txt (c :: r)).toList = [] := by rw [Lib.toList_data, txt_list]; simp
      have hzb : (txt (c :: r)).toList.isEmpty = false := by rw [Lib.toList_data, txt_list]; rfl
      generalize txt (c :: r) = T at q1 hz hzb
      simp only [List.length_cons] at hkp
      rw [keysP] at hkp
      have hcn := c.toNat_lt
      have hcw : IntKind.i64.wrap (c.toNat : Int) = (c.toNat : Int) := IntWalk.i64_in _ (by omega)
      have c0 : (0 : Int) ≤ (c.toNat : Int) := by omega
      have c1 : (c.toNat : Int) ≤ 255 := by omega
      obtain ⟨A4, c4, rfl⟩ := Kd.R_slice HROW.out
      by_cases h0 : c = 0
      · rw [if_pos h0] at hkp
        have HKP := Aside0.mk hkp
        have hct : (c.toNat : Int) = 0 := by rw [h0]; rfl
        rw [hct] at hnx
        clear hkp h0 hct hcn hcw c0 c1 hcl
        go_wp2_with (first
          | (go_at_call 36; (with_reducible refine hnx.mono ?_); clear hnx; rintro e w1 ⟨rfl, hn1, ho1⟩; have HN1 := Aside0.mk hn1; have HO1 := Aside0.mk ho1; have HS1 := Aside0.mk ho1.size; have hlt := hn1.lt; have r1 := hlt.1; have r2 := hlt.2.1; have r3 := hlt.2.2; clear hlt; have r5 := cell_one hn1.nx.o; clear hn1 ho1)
          | ((with_reducible refine gate_builtin (b := .append) (xs := #[.tmp 36, .tmp 38]) rfl ?_); at_builtin; have hro := row_only HROW.out (HO1.out.alloc (.cells #[.int .i64 0, .int .i64 0, .string ⟨#[]⟩] 45)); have hbz := Nat.le_trans hsz ((HO1.out.alloc (.cells #[.int .i64 0, .int .i64 0, .string ⟨#[]⟩] 45))).size; refine Kd.R_append k45 (w0 := (w1.alloc (.cells #[.int .i64 0, .int .i64 0, .string ⟨#[]⟩] 45))) (w.heap.size + 3) rfl (.tmp 36) (.tmp 38) 33 45 (.agg #[(.int .i64 0), (.int .i64 0), (.string ⟨#[]⟩)]) 32 rfl Tryd.underlying33 info45 rfl (by decide) (by omega) (.slice A4 acc.length c4) acc (⟨0, 0, ⟨#[]⟩⟩ : S45) [.int .i64 0, .int .i64 0, .string ⟨#[]⟩] (fun _ => True) (fun _ => False) (by rfl) (by first | rfl | (rw [World.size_alloc]; rfl) | (rw [size_set]; rfl)) (k45_mkM _ _ _ _) (fun _ h => h.elim) (fun _ _ => trivial) hro (Below.refl _ _) hbz (by omega) ?_; intro v9 w9 ho9 hb9 hg9 hat9; clear hg9 hat9))
        go_roundg (gk - 1)
        case rel => exact ⟨r, by omega, Lib.hid (rel_next HB.out hsz (HO1.out.alloc _) (HN1.out.alloc _) hb9 ho9 HKP.out (by omega))⟩
        case measure => omega
      rw [if_neg h0] at hkp
      by_cases h1 : c = 1
      · rw [if_pos h1] at hkp
        have hct : (c.toNat : Int) = 1 := by rw [h1]; rfl
        rw [hct] at hnx
        by_cases h8 : 8 ≤ r.length
        · rw [if_pos h8] at hkp
          have HKP := Aside0.mk hkp
          clear hkp h0 h1 hct hcn hcw c0 c1 hcl
          go_wp2_with (first
            | (go_at_call 36; (with_reducible refine hnx.mono ?_); clear hnx; rintro e w1 ⟨rfl, hn1, ho1⟩; have HN1 := Aside0.mk hn1; have HO1 := Aside0.mk ho1; have HS1 := Aside0.mk ho1.size; have hs1 := ho1.size; have hlt := hn1.lt; have r1 := hlt.1; have r2 := hlt.2.1; have r3 := hlt.2.2; clear hlt; have r5 := cell_one hn1.nx.o; have hnum := number_c _ _ _ _ r (by omega) (hn1.alloc (.cells #[.int .i64 1, .int .i64 0, .string ⟨#[]⟩] 45)); clear hn1 ho1)
            | (go_at_call 37; (with_reducible refine hnum.mono ?_); clear hnum; rintro e w2 ⟨u, ok', l2, rfl, hn2, ho2, ha, hb2, hl2⟩; obtain ⟨hu, hok, hl2e⟩ := ha h8; have HU := Aside0.mk hu; subst hok; subst hl2e; clear hu; have HN2 := Aside0.mk hn2; have HO2 := Aside0.mk ((HO1.out.alloc _).trans ho2); have hbx := (ho2.block w1.heap.size (by simp) (by omega) (by omega)).trans (heap_alloc_new w1 _); have x9 := free_mid hbx 1; have hbw := set_mid1 hbx (.int .i64 (wrap64 u)); obtain ⟨x0, x1, x2⟩ := box_cells hbx; obtain ⟨y0, y1, y2⟩ := box_cells hbw; have hnw := hn2.setFar (g := w1.heap.size) (j := 1) (by omega) (by omega) (by omega) (.int .i64 (wrap64 u)); have HNW := Aside0.mk hnw; have y5 := cell_one hnw.nx.o; have HOW := Aside0.mk (HO2.out.setFar (g := w1.heap.size) (j := 1) hs1 (.int .i64 (wrap64 u))); clear hbx hbw hnw hn2 ho2 ha hb2 hl2)
            | ((with_reducible refine gate_builtin (b := .append) (xs := #[.tmp 36, .tmp 38]) rfl ?_); at_builtin; have hro := row_only HROW.out HOW.out; have hbz := Nat.le_trans hsz (HOW.out).size; refine Kd.R_append k45 (w0 := (w2.setCell ⟨w1.heap.size, 1, none⟩ (.int .i64 (wrap64 u)))) (w.heap.size + 3) rfl (.tmp 36) (.tmp 38) 33 45 (.agg #[(.int .i64 0), (.int .i64 0), (.string ⟨#[]⟩)]) 32 rfl Tryd.underlying33 info45 rfl (by decide) (by omega) (.slice A4 acc.length c4) acc (⟨1, (wrap64 u), ⟨#[]⟩⟩ : S45) [.int .i64 1, .int .i64 (wrap64 u), .string ⟨#[]⟩] (fun _ => True) (fun _ => False) (by rfl) (by first | rfl | (rw [World.size_alloc]; rfl) | (rw [size_set]; rfl)) (k45_mkM _ _ _ _) (fun _ h => h.elim) (fun _ _ => trivial) hro (Below.refl _ _) hbz (by omega) ?_; intro v9 w9 ho9 hb9 hg9 hat9; clear hg9 hat9))
          go_roundg (gk - 1)
          case rel => exact ⟨r.drop 8, by rw [List.length_drop]; omega, Lib.hid (rel_next HB.out hsz HOW.out HNW.out hb9 ho9 (by rw [HU.out]; exact (keysP_more _ _ _ _ (Nat.le_refl _) (by rw [List.length_drop]; omega)).trans HKP.out) (by rw [List.length_drop]; omega))⟩
          case measure => omega
        · rw [if_neg h8] at hkp
          have HYN := Aside0.mk (show Y = none from hkp.symm)
          clear hkp h0 h1 hct hcn hcw c0 c1 hcl
          go_wp2_with (first
            | (go_at_call 36; (with_reducible refine hnx.mono ?_); clear hnx; rintro e w1 ⟨rfl, hn1, ho1⟩; have HN1 := Aside0.mk hn1; have HO1 := Aside0.mk ho1; have HS1 := Aside0.mk ho1.size; have hs1 := ho1.size; have hlt := hn1.lt; have r1 := hlt.1; have r2 := hlt.2.1; have r3 := hlt.2.2; clear hlt; have r5 := cell_one hn1.nx.o; have hnum := number_c _ _ _ _ r (by omega) (hn1.alloc (.cells #[.int .i64 1, .int .i64 0, .string ⟨#[]⟩] 45)); clear hn1 ho1)
            | (go_at_call 37; (with_reducible refine hnum.mono ?_); clear hnum; rintro e w2 ⟨u, ok', l2, rfl, hn2, ho2, ha, hb2, hl2⟩; have hok := hb2 (by omega); subst hok; have HN2 := Aside0.mk hn2; have HO2 := Aside0.mk ((HO1.out.alloc _).trans ho2); have hbx := (ho2.block w1.heap.size (by simp) (by omega) (by omega)).trans (heap_alloc_new w1 _); have x9 := free_mid hbx 1; have hbw := set_mid1 hbx (.int .i64 (wrap64 u)); obtain ⟨x0, x1, x2⟩ := box_cells hbx; obtain ⟨y0, y1, y2⟩ := box_cells hbw; have hnw := hn2.setFar (g := w1.heap.size) (j := 1) (by omega) (by omega) (by omega) (.int .i64 (wrap64 u)); have HNW := Aside0.mk hnw; have y5 := cell_one hnw.nx.o; have HOW := Aside0.mk (HO2.out.setFar (g := w1.heap.size) (j := 1) hs1 (.int .i64 (wrap64 u))); clear hbx hbw hnw hn2 ho2 ha hb2 hl2))
          go_ret2
          have e : K = ([], 1) := by rw [HD.out, HYN.out]; rfl
          rw [e]
          exact ⟨none, 0, rfl, Kd.R_nil _ _ _ _ _, below_only HB.out (by omega) (by omega) (by omega) HOW.out⟩
      · rw [if_neg h1] at hkp
        by_cases h2 : c = 2
        · rw [if_pos h2] at hkp
          have hct : (c.toNat : Int) = 2 := by rw [h2]; rfl
          rw [hct] at hnx
          cases htx : textP (r.length + 1) [] r with
          | none =>
            rw [htx] at hkp
            have HYN := Aside0.mk (show Y = none from hkp.symm)
            have HTX := Aside0.mk htx
            clear hkp h0 h1 h2 hct hcn hcw c0 c1 hcl htx
            go_wp2_with (first
              | (go_at_call 36; (with_reducible refine hnx.mono ?_); clear hnx; rintro e w1 ⟨rfl, hn1, ho1⟩; have HN1 := Aside0.mk hn1; have HO1 := Aside0.mk ho1; have HS1 := Aside0.mk ho1.size; have hs1 := ho1.size; have hlt := hn1.lt; have r1 := hlt.1; have r2 := hlt.2.1; have r3 := hlt.2.2; clear hlt; have r5 := cell_one hn1.nx.o; have htf := text_fn _ _ _ _ r (by omega) (hn1.alloc (.cells #[.int .i64 2, .int .i64 0, .string ⟨#[]⟩] 45)); clear hn1 ho1)
              | (go_at_call 38; (with_reducible refine htf.mono ?_); clear htf; rintro e w2 ⟨u, ok', l2, rfl, hn2, ho2, ha, hb2, hl2⟩; have hok := hb2 HTX.out; subst hok; have HN2 := Aside0.mk hn2; have HO2 := Aside0.mk ((HO1.out.alloc _).trans ho2); have hbx := (ho2.block w1.heap.size (by simp) (by omega) (by omega)).trans (heap_alloc_new w1 _); have x9 := free_mid hbx 2; have hbw := set_mid2 hbx (.string u); obtain ⟨x0, x1, x2⟩ := box_cells hbx; obtain ⟨y0, y1, y2⟩ := box_cells hbw; have hnw := hn2.setFar (g := w1.heap.size) (j := 2) (by omega) (by omega) (by omega) (.string u); have HNW := Aside0.mk hnw; have y5 := cell_one hnw.nx.o; have HOW := Aside0.mk (HO2.out.setFar (g := w1.heap.size) (j := 2) hs1 (.string u)); clear hbx hbw hnw hn2 ho2 ha hb2 hl2))
            go_ret2
            have e : K = ([], 1) := by rw [HD.out, HYN.out]; rfl
            rw [e]
            exact ⟨none, 0, rfl, Kd.R_nil _ _ _ _ _, below_only HB.out (by omega) (by omega) (by omega) HOW.out⟩
          | some p =>
            obtain ⟨t, r'⟩ := p
            rw [htx] at hkp
            have HKP := Aside0.mk (show keysP r.length (acc ++ [⟨2, 0, strOfNums t⟩]) r' = Y from hkp)
            have hrl := (text_rest _ _ _ _ _ htx).1
            have HTX := Aside0.mk htx
            clear hkp h0 h1 h2 hct hcn hcw c0 c1 hcl htx
            go_wp2_with (first
              | (go_at_call 36; (with_reducible refine hnx.mono ?_); clear hnx; rintro e w1 ⟨rfl, hn1, ho1⟩; have HN1 := Aside0.mk hn1; have HO1 := Aside0.mk ho1; have HS1 := Aside0.mk ho1.size; have hs1 := ho1.size; have hlt := hn1.lt; have r1 := hlt.1; have r2 := hlt.2.1; have r3 := hlt.2.2; clear hlt; have r5 := cell_one hn1.nx.o; have htf := text_fn _ _ _ _ r (by omega) (hn1.alloc (.cells #[.int .i64 2, .int .i64 0, .string ⟨#[]⟩] 45)); clear hn1 ho1)
              | (go_at_call 38; (with_reducible refine htf.mono ?_); clear htf; rintro e w2 ⟨u, ok', l2, rfl, hn2, ho2, ha, hb2, hl2⟩; obtain ⟨hu, hok, hl2e⟩ := ha _ _ HTX.out; subst hok; subst hl2e; have HU := Aside0.mk hu; clear hu; have HN2 := Aside0.mk hn2; have HO2 := Aside0.mk ((HO1.out.alloc _).trans ho2); have hbx := (ho2.block w1.heap.size (by simp) (by omega) (by omega)).trans (heap_alloc_new w1 _); have x9 := free_mid hbx 2; have hbw := set_mid2 hbx (.string u); obtain ⟨x0, x1, x2⟩ := box_cells hbx; obtain ⟨y0, y1, y2⟩ := box_cells hbw; have hnw := hn2.setFar (g := w1.heap.size) (j := 2) (by omega) (by omega) (by omega) (.string u); have HNW := Aside0.mk hnw; have y5 := cell_one hnw.nx.o; have HOW := Aside0.mk (HO2.out.setFar (g := w1.heap.size) (j := 2) hs1 (.string u)); clear hbx hbw hnw hn2 ho2 ha hb2 hl2)
              | ((with_reducible refine gate_builtin (b := .append) (xs := #[.tmp 36, .tmp 38]) rfl ?_); at_builtin; have hro := row_only HROW.out HOW.out; have hbz := Nat.le_trans hsz (HOW.out).size; refine Kd.R_append k45 (w0 := (w2.setCell ⟨w1.heap.size, 2, none⟩ (.string u))) (w.heap.size + 3) rfl (.tmp 36) (.tmp 38) 33 45 (.agg #[(.int .i64 0), (.int .i64 0), (.string ⟨#[]⟩)]) 32 rfl Tryd.underlying33 info45 rfl (by decide) (by omega) (.slice A4 acc.length c4) acc (⟨2, 0, u⟩ : S45) [.int .i64 2, .int .i64 0, .string u] (fun _ => True) (fun _ => False) (by rfl) (by first | rfl | (rw [World.size_alloc]; rfl) | (rw [size_set]; rfl)) (k45_mkM _ _ _ _) (fun _ h => h.elim) (fun _ _ => trivial) hro (Below.refl _ _) hbz (by omega) ?_; intro v9 w9 ho9 hb9 hg9 hat9; clear hg9 hat9))
            go_roundg (gk - 1)
            case rel => exact ⟨l2, by omega, Lib.hid (rel_next HB.out hsz HOW.out HNW.out hb9 ho9 (by rw [HU.out]; exact (keysP_more _ _ _ _ (Nat.le_refl _) (by omega)).trans HKP.out) (by omega))⟩
            case measure => omega
        · rw [if_neg h2] at hkp
          have HYN := Aside0.mk (show Y = none from hkp.symm)
          have z0 : ((c.toNat : Int) == 0) = false := beq_false_of_ne (fun e => h0 (UInt8.toNat_inj.1 (show _ = 0 by omega)))
          have z1 : ((c.toNat : Int) == 1) = false := beq_false_of_ne (fun e => h1 (UInt8.toNat_inj.1 (show _ = 1 by omega)))
          have z2 : ((c.toNat : Int) == 2) = false := beq_false_of_ne (fun e => h2 (UInt8.toNat_inj.1 (show _ = 2 by omega)))
          clear hkp h0 h1 h2 hcn hcw hcl
          go_wp2_with ((go_at_call 36; (with_reducible refine hnx.mono ?_); clear hnx; rintro e w1 ⟨rfl, hn1, ho1⟩; have HN1 := Aside0.mk hn1; have HO1 := Aside0.mk ho1; have HS1 := Aside0.mk ho1.size; have hs1 := ho1.size; have hlt := hn1.lt; have r1 := hlt.1; have r2 := hlt.2.1; have r3 := hlt.2.2; clear hlt; have r5 := cell_one hn1.nx.o; have r6 := free_one hn1.nx.o; clear hn1 ho1))
          go_ret2
          have e : K = ([], 1) := by rw [HD.out, HYN.out]; rfl
          rw [e]
          exact ⟨none, 0, rfl, Kd.R_nil _ _ _ _ _, below_only HB.out (by omega) (by omega) (by omega) ((HO1.out.trans (Only2.set5 _ _ _ _)).alloc _)⟩
end Go.Proofs.YtkndegjjiimheaaDoor.Ord

set_option linter.unusedVariables false
set_option linter.unusedSimpArgs false
namespace Go.Proofs.YtkndegjjiimheaaDoor.Ord
open Go Go.RowKit Go.Proofs.YtkndegjjiimheaaDoorW.PrintWords Go.Proofs.YtkndegjjiimheaaDoorW.PrintLast Go.Proofs.OrdPlain Go.Lib Go.Proofs.YtkndegjjiimheaaDoor.QKey

theorem keys_same_l (l : List S45) (hl : l.length ≤ 1152921504606846976) : ∀ (n i : Nat), l.length ≤ i + n → i ≤ l.length → lecternkit_Keys.l0 (n + 1) l l (i : Int) = some true
  | n, i, h, hi => by
    rw [lecternkit_Keys.l0]
    by_cases h1 : i < l.length
    · obtain ⟨n', rfl⟩ : ∃ n', n = n' + 1 := ⟨n - 1, by omega⟩
      rw [if_pos (by omega), if_pos (by omega), if_pos (by omega)]
      have e : Aside0 (wrap64 ((i : Int) + 1) = ((i + 1 : Nat) : Int)) := ⟨by unfold wrap64; omega⟩
      rw [if_neg (by simp), e.out]
      exact keys_same_l l hl n' (i + 1) (by omega) (by omega)
    · rw [if_neg (by omega)]
theorem keys_same (l : List S45) (hl : l.length ≤ 1152921504606846976) : lecternkit_Keys.f (l.length + 1) l l = some true := by
  unfold lecternkit_Keys.f
  rw [if_pos rfl]
  exact keys_same_l l hl l.length 0 (by omega) (by omega)
theorem drawn_below {w w' : World} (h : Drawn0 w w') : Below w.heap.size w w' := by
  obtain ⟨n, rfl⟩ := h.out
  exact below_drewN (Below.refl _ _) n
theorem same_k (l : List S45) (hl : l.length ≤ 1152921504606846976) (A0 A1 : Option Addr) (c0 c1 : Nat) (hc0 : l.length ≤ c0) (hc1 : l.length ≤ c1) (W : World) (h0 : Kd.C k45 W A0 l.length l) (h1 : Kd.C k45 W A1 l.length l) :
    Calls Tryd.prog 17 #[.slice A0 l.length c0, .slice A1 l.length c1] W fun e w' => e = .returned (.bool true) ∧ Below W.heap.size W w' :=
  (lecternkit_Keys.calls _ A0 c0 l A1 c1 l true W h0 hc0 h1 hc1 (keys_same l hl)).mono fun _ _ ⟨a, b⟩ => ⟨a, by first | exact drawn_below b | exact b⟩
section
variable {P : Program}
theorem cut_over (t e : TypeId) (kh : IntKind) {i : TypeInfo} (ht : P.underlying t = some (.slice e)) (hi : P.info? e = some i) (A : Option Addr) (n c : Nat) (j : Int) (h0 : 0 ≤ j) (hc : j ≤ c) :
    ∀ W : World, (Instr.slice t (.slice A n c) none (some (.int kh j)) none).run P W = .ok (.slice A j.toNat c) W := by
  intro W
  have hel : P.elem t = e := by simp [Program.elem, ht]
  have hu : P.underlying t = some (.slice (P.elem t)) := by rw [hel]; exact ht
  have ha : (A.map fun x => x.add 0) = A := by cases A <;> simp [Addr.add]
  rw [run_slice_h W t A n c hu kh j h0 hc, hel]
  simp [sizeOf, typeInfo, hi, sliced, Result.andThen, ha]
end
def markK : S45 := ⟨71, 0, ⟨#[]⟩⟩
theorem info45i : ∃ i, Tryd.prog.info? 45 = some i := by
  obtain ⟨i0, hi, _⟩ := info_parts info45
  exact ⟨i0, hi⟩
set_option maxRecDepth 100000 in
set_option maxHeartbeats 4000000 in
theorem lent_c (ks : List S45) (A : Option Addr) (cap : Nat) (hl : ks.length ≤ 1048576) (w : World) (hC : Kd.C k45 w A ks.length ks) :
    Calls Tryd.prog 10 #[.slice A ks.length cap] w fun e w' => (∃ A2 c2, e = .returned (.slice A2 ks.length c2) ∧ KRow w' w.heap.size (.slice A2 (ks.length + 1) c2) (ks ++ [markK])) ∧ Below w.heap.size w w' := by
  have hu45 := Tryd.underlying45
  obtain ⟨i45, hi45⟩ := info45i
  have HI := Aside0.mk hi45
  have HC := Aside0.mk hC
  clear hC hi45
  go_enter Tryd.func10, Tryd.ntmps10
  go_wp2_with (first
    | ((with_reducible refine gate_builtin (b := .append) (xs := #[.tmp 4, .tmp 5]) rfl ?_); at_builtin; refine Kd.R_append_rows k45 (w0 := w) w.heap.size rfl (.tmp 4) (.tmp 5) 33 45 (.agg #[(.int .i64 0), (.int .i64 0), (.string ⟨#[]⟩)]) 32 rfl Tryd.underlying33 info45 rfl (by decide) (by omega) (.slice none 0 0) [] ks A _ cap (fun _ => True) (fun _ => False) rfl rfl (Kd.R_nil _ _ _ _ _) HC.out (fun _ _ h => h) (fun _ h => h.elim) (fun _ _ => trivial) (Below.refl _ _) (Nat.le_refl _) (by simp; omega) ?_; intro v1 w1 ho1 hb1 hg1 hat1; obtain ⟨A1, c1, rfl⟩ := Kd.R_slice ho1; have HO1 := Aside0.mk ho1; have HB1 := Aside0.mk hb1; clear ho1 hb1 hg1 hat1)
    | ((with_reducible refine gate_builtin (b := .append) (xs := #[.tmp 7, .tmp 9]) rfl ?_); at_builtin; refine Kd.R_append k45 (w0 := w) w.heap.size rfl (.tmp 7) (.tmp 9) 33 45 (.agg #[(.int .i64 0), (.int .i64 0), (.string ⟨#[]⟩)]) 32 rfl Tryd.underlying33 info45 rfl (by decide) (by omega) (.slice A1 ([] ++ ks).length c1) ([] ++ ks) markK [.int .i64 71, .int .i64 0, .string ⟨#[]⟩] (fun _ => True) (fun _ => False) (by rfl) (by rfl) (k45_mkM _ _ _ _) (fun _ h => h.elim) (fun _ _ => trivial) HO1.out HB1.out HB1.out.size (by simp; omega) ?_; intro v2 w2 ho2 hb2 hg2 hat2; rw [List.nil_append] at ho2; obtain ⟨A2, c2, rfl⟩ := Kd.R_slice ho2; rw [show (ks ++ [markK]).length = ks.length + 1 by simp] at ho2 ⊢; have hlc := (Kd.R_reads' ho2).2.1; have hct := cut_over (P := Tryd.prog) 33 45 .i64 Tryd.underlying33 HI.out A2 (ks.length + 1) c2 (ks.length : Int) (by omega) (by omega); rw [Int.toNat_natCast] at hct; have HO2 := Aside0.mk ho2; have HB2 := Aside0.mk hb2; clear ho2 hb2 hg2 hat2))
  go_ret
  exact ⟨⟨A2, c2, rfl, HO2.out⟩, HB2.out⟩
set_option maxRecDepth 100000 in
set_option maxHeartbeats 4000000 in
theorem kept_c (ks : List S45) (A A1 : Option Addr) (cap c1 : Nat) (hl : ks.length ≤ 1048576) (hcap : ks.length ≤ cap) (hc1 : ks.length + 1 ≤ c1) (w : World) (h0 : Kd.C k45 w A1 (ks ++ [markK]).length (ks ++ [markK])) (h1 : Kd.C k45 w A ks.length ks) :
    Calls Tryd.prog 18 #[.slice A1 ks.length c1, .slice A ks.length cap] w fun e w' => e = .returned (.bool true) ∧ Below w.heap.size w w' := by
  have hu45 := Tryd.underlying45
  obtain ⟨i45, hi45⟩ := info45i
  have h2 := Kd.C_take (m := ks.length) h0 (by simp)
  rw [show (ks ++ [markK]).take ks.length = ks by simp] at h2
  have hsm := same_k ks (by omega) A1 A c1 cap (by omega) hcap w h2 h1
  obtain ⟨ad, rfl, q0, _, _⟩ := at_K h0 ks.length (by simp)
  rw [show (ks ++ [markK]).getD ks.length z45 = markK by simp [List.getD_eq_getElem?_getD]] at q0
  have hct := cut_over (P := Tryd.prog) 33 45 .i64 Tryd.underlying33 hi45 (some ad) ks.length c1 ((ks.length : Int) + 1) (by omega) (by omega)
  rw [show ((ks.length : Int) + 1).toNat = ks.length + 1 by omega] at hct
  have cm : w.cell? (ad.add (ks.length * 3)) = some (.int .i64 71) := q0
  have CM := Aside0.mk cm
  generalize ks.length = n at *
  clear h0 h1 h2 q0 cm hi45
  go_enter Tryd.func18, Tryd.ntmps18
  go_wp2_with (go_at_call 17; (with_reducible refine hsm.mono ?_); clear hsm; rintro e w2 ⟨rfl, hb2⟩; have cm2 := pw_cell_below hb2 CM.out)
  go_ret
  exact ⟨rfl, hb2⟩
end Go.Proofs.YtkndegjjiimheaaDoor.Ord

set_option linter.unusedVariables false
set_option linter.unusedSimpArgs false
namespace Go.Proofs.YtkndegjjiimheaaDoor.OwnK
open Go Go.RowKit Go.Proofs.YtkndegjjiimheaaDoorW.PrintWords Go.Proofs.YtkndegjjiimheaaDoorW.PrintLast Go.Lib Go.Proofs.YtkndegjjiimheaaDoor.QKey
open Go.Proofs.YtkndegjjiimheaaDoor.Ord (KRow)

theorem grownBy_setAt (W : World) (b j : Nat) (v : Value) : W.grownBy (W.setCell ⟨b, j, none⟩ v) (some b) := by
  refine ⟨rfl, rfl, rfl, by simp, fun k hk hne => Below.heap_setCell W ⟨b, j, none⟩ v k (fun e => hne (by rw [e]))⟩
theorem own_setCell {w : World} {base e size n g cap : Nat} {xs : List Value} (h : w.ownsRow base e size (.slice (some ⟨g, 0, none⟩) n cap) n xs) (j : Nat) (u : Value) :
    (w.setCell ⟨g, j, none⟩ u).ownsRow base e size (.slice (some ⟨g, 0, none⟩) n cap) n (xs.set j u) ∧ w.grownBy (w.setCell ⟨g, j, none⟩ u) (some g) := by
  obtain ⟨h1, h2⟩ := h
  rcases h2 with ⟨hv, _⟩ | ⟨g', cap', cur, hv, hb, hh, hnc, hcm, hcs, ht⟩
  · cases hv
  · injection hv with e1 _ e3
    injection e1 with e1
    injection e1 with e1 _ _
    subst e1
    subst e3
    have hj : ∀ c : Array Value, (c.setIfInBounds j u).toList = c.toList.set j u := fun c => by simp
    refine ⟨⟨by rw [List.length_set]; exact h1, .inr ⟨g, cap, cur.setIfInBounds j u, rfl, hb, ?_, hnc, hcm, by simpa using hcs, ?_⟩⟩, grownBy_setAt w g j u⟩
    · simp [World.setCell, Array.getElem?_modify, hh]
    · rw [hj, ← ht]
      simp [List.take_set]
theorem own_cells {w : World} {base e size n g cap : Nat} {xs : List Value} (h : w.ownsRow base e size (.slice (some ⟨g, 0, none⟩) n cap) n xs) (j : Nat) (hj : j < n * size) : (∃ u, w.cell? ⟨g, j, none⟩ = some u) ∧ w.frozen? ⟨g, j, none⟩ = false := by
  obtain ⟨h1, h2⟩ := h
  rcases h2 with ⟨hv, _⟩ | ⟨g', cap', cur, hv, hb, hh, hnc, hcm, hcs, ht⟩
  · cases hv
  · injection hv with e1 _ e3
    injection e1 with e1
    injection e1 with e1 _ _
    subst e1
    subst e3
    have hlt : j < cur.size := by rw [hcs]; exact Nat.lt_of_lt_of_le hj (Nat.mul_le_mul_right _ hnc)
    exact ⟨⟨cur[j], by simp [World.cell?, hh, hlt]⟩, by simp [World.frozen?, hh]⟩
theorem krow_keep {W W' : World} {g base : Nat} {v : Value} {ts : List S45} (h : KRow W base v ts) (hg : W.grownBy W' (some g)) (hlt : g < base) : KRow W' base v ts :=
  Kd.R_mono (Kd.R_step (Kd.R_bound h) (fun k hk hk2 => hg.block k hk2 (by intro e; injection e with e; have := hk.2.1; omega))) (fun _ _ => trivial)
theorem own_nil {W : World} {base n c : Nat} {A : Option Addr} {xs : List Value} (h : W.ownsRow base 45 3 (.slice A n c) n xs) : (A = none → n = 0 ∧ n = 0) ∧ ∀ b, A = some b → ∀ j u, xs[j]? = some u → W.cell? (b.add j) = some u := by
  obtain ⟨h1, h2⟩ := h
  rcases h2 with ⟨hv, hn⟩ | ⟨g, cap, cur, hv, hb, hh, hnc, hcm, hcs, ht⟩
  · injection hv with e1 e2 e3
    subst e1
    exact ⟨fun _ => ⟨e2, e2⟩, fun b hb => by cases hb⟩
  · injection hv with e1 e2 e3
    subst e1
    refine ⟨fun hA => (by cases hA), fun b hb' j u hj => ?_⟩
    injection hb' with hb'
    subst hb'
    have hjl := (List.getElem?_eq_some_iff.1 hj).1
    rw [← ht, List.getElem?_take] at hj
    split at hj
    · have : (⟨g, 0, none⟩ : Addr).add j = ⟨g, j, none⟩ := by unfold Addr.add; split <;> simp_all
      rw [this]
      simp [World.cell?, hh]
      simpa using hj
    · cases hj
/-- A row of keys from an own row of cells that repeat them. -/
theorem row_of {W W' : World} {b B : Nat} {ok ok' : Nat → Prop} {v : Value} {xs : List S45} {inner : List Value} (p : S45) (hr : Reps (k45.M W b ok) 3 xs inner)
    (ho : W'.ownsRow B 45 3 v (xs.length + 1) (inner ++ [.int .i64 p.f0, .int .i64 p.f1, .string p.f2])) (hok : ∀ k, v.ownBlock = some k → ok' k) : Kd.R k45 45 W' B ok' v (xs ++ [p]) := by
  refine ⟨hok, inner ++ [.int .i64 p.f0, .int .i64 p.f1, .string p.f2], by rw [List.length_append, List.length_singleton]; exact ho, ?_⟩
  have h2 : Reps (k45.M W' B (fun k => ok' k ∧ some k ≠ v.ownBlock)) 3 xs inner := hr.imp_ (fun q c hq => by rw [k45_openM hq]; exact k45_mkM _ _ _ _)
  exact h2.snoc (k45_mkM _ _ _ _) rfl
theorem own_new {W W' : World} {B n : Nat} {v : Value} {xs : List Value} (h : W'.ownsRow W.heap.size 45 3 v n xs) (hB : B ≤ W.heap.size) : W'.ownsRow B 45 3 v n xs ∧ ∀ k, v.ownBlock = some k → W.heap.size ≤ k := ⟨own_weaken h hB, own_base h⟩
def Mk8 (n k : Nat) (inner : List Value) : Prop := ∀ j, j < k → inner[(n + j) * 3]? = some (.int .i64 (-8))
def c8 : List Value := [.int .i64 (-8), .int .i64 0, .string ⟨#[]⟩]
theorem mk8_step {n k : Nat} {inner : List Value} (h : Mk8 n k inner) (hl : inner.length = (n + k) * 3) : Mk8 n (k + 1) (inner ++ c8) := by
  intro j hj
  by_cases hjk : j < k
  · rw [List.getElem?_append_left (by rw [hl]; omega)]
    exact h j hjk
  · obtain rfl : j = k := by omega
    rw [List.getElem?_append_right (by omega), hl, Nat.sub_self]
    rfl
theorem mk8_at {W : World} {B n k : Nat} {v : Value} {inner : List Value} (h : W.ownsRow B 45 3 v (n + k) inner) (hm : Mk8 n k inner) (hk : 0 < k) : ∃ g c, v = .slice (some ⟨g, 0, none⟩) (n + k) c ∧ ∀ j, j < k → W.cell? ⟨g, (n + j) * 3, none⟩ = some (.int .i64 (-8)) := by
  obtain ⟨g, c, hv, _⟩ := h.form (by omega)
  subst hv
  refine ⟨g, c, rfl, fun j hj => ?_⟩
  have := h.cells rfl _ _ (hm j hj)
  have ha : (⟨g, 0, none⟩ : Addr).add ((n + j) * 3) = ⟨g, (n + j) * 3, none⟩ := by unfold Addr.add; split <;> simp_all
  rwa [ha] at this
/-- The first append to a cut row: a new block. -/
theorem first_app {W w0 : World} {ops : Array Oper} {rest : List Oper} {o : Oper} {a : Act} {Q : Exit → Act → World → Prop} (B : Nat) (hgd : o.guard = none) (s x : Operand) (ho : o.op = .call { callee := .builtin .append, args := #[s, x], argTypes := #[33, 33] })
    (A : Option Addr) (n c b : Nat) (inner cs : List Value) (hs : a.eval s = .slice A n n) (hx : a.eval x = .slice (some ⟨W.heap.size, 0, none⟩) 1 1) (hcs : cs.length = 3) (h1 : ∀ u ∈ cs, u.oneCell' = true)
    (hin : W.ownsRow b 45 3 (.slice A n c) n inner) (hB : B ≤ W.heap.size) (HB : Below B w0 W) (hn : n ≤ 1048576)
    (h : ∀ v1 w1, w1.ownsRow B 45 3 v1 (n + 1) (inner ++ cs) → (∀ k, v1.ownBlock = some k → W.heap.size ≤ k ∧ k < w1.heap.size) → Below B w0 w1 → Below W.heap.size W w1 → wpList Tryd.prog ops Q rest (a.put o.dst v1) w1) :
    wpList Tryd.prog ops Q (o :: rest) a (W.alloc (.cells cs.toArray 45)) := by
  obtain ⟨i0, hi, hz0, hz1, hz2⟩ := info_parts info45
  have hal := hin.alloc (.cells cs.toArray 45)
  refine wpList_append_grows (W.alloc (.cells cs.toArray 45)) hgd s x 33 ho 45 i0 (.agg #[(.int .i64 0), (.int .i64 0), (.string ⟨#[]⟩)]) 3 32 Tryd.underlying33 hi hz0 hz1 hz2 rfl (by decide) A n n inner hs (own_nil hal).1 hin.1 (own_nil hal).2
    ⟨W.heap.size, 0, none⟩ 1 1 cs hx (by rw [hcs]) (by simpa using World.news_of_block (cs := cs.toArray) (t := 45) (fr := (0, 0)) (heap_alloc_new W (.cells cs.toArray 45))) h1 (by omega) (by simp only [maxLen]; omega) (by omega) ?_
  intro v1 w1 ho1 hg1
  have hsz : (W.alloc (.cells cs.toArray 45)).heap.size = W.heap.size + 1 := by simp
  have hnone : ∀ k, (none : Option Nat) = some k → W.heap.size ≤ k := fun k hk => by cases hk
  exact h v1 w1 (own_weaken ho1 (by omega)) (fun k hk => ⟨by have := own_base ho1 k hk; omega, own_lt ho1 k hk⟩)
    ((HB.alloc hB _).grown hg1 (by omega) (fun k hk => by cases hk)) (((Below.refl W.heap.size W).alloc (Nat.le_refl _) _).grown hg1 (by omega) hnone)
theorem m_past {W W1 : World} {B : Nat} {vl v1 vm : Value} {xs : List S45} (h : Kd.R k45 45 W B (fun j => some j ≠ vl.ownBlock) vm xs) (hg : W.grownBy W1 vl.ownBlock) (hat : v1.ownBlock = vl.ownBlock ∨ ∃ b, v1.ownBlock = some b ∧ W.heap.size ≤ b) :
    Kd.R k45 45 W1 B (fun j => some j ≠ v1.ownBlock) vm xs := by
  refine Kd.R_mono (Kd.R_grown (Kd.R_bound h) hg (fun k hk => hk.1)) (fun k hk => ?_)
  rcases hat with e | ⟨b, e, hb⟩
  · rw [e]; exact hk.1
  · rw [e]; intro e2; injection e2 with e2; have := hk.2.2.1; omega
theorem l_past {W W1 : World} {B n : Nat} {vl vm : Value} {xs : List S45} {inner : List Value} (h : W.ownsRow B 45 3 vl n inner) (hm : Kd.R k45 45 W B (fun j => some j ≠ vl.ownBlock) vm xs) (hg : W.grownBy W1 vm.ownBlock) : W1.ownsRow B 45 3 vl n inner :=
  own_move h (fun k hk => hg.block k (own_lt h k hk) (fun e => hm.1 k e.symm hk.symm))
end Go.Proofs.YtkndegjjiimheaaDoor.OwnK
