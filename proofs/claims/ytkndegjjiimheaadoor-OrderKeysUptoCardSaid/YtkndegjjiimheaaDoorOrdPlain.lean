/- Plain law of decimals: what package order makes of a text is what the document makes of it. -/
import Derived.Lib.ParseIntB
set_option linter.unusedVariables false
set_option linter.unusedSimpArgs false
namespace Go.Proofs.OrdPlain
open Go.Lib

def isDig (c : UInt8) : Bool := decide (48 ≤ c.toNat ∧ c.toNat ≤ 57)
theorem isDig_iff (c : UInt8) : isDig c = true ↔ 48 ≤ c.toNat ∧ c.toNat ≤ 57 := by unfold isDig; exact decide_eq_true_iff
/-- What digits spell behind acc. -/
def valG (acc : Nat) (l : List UInt8) : Nat := l.foldl (fun a c => a * 10 + (c.toNat - 48)) acc
theorem valG_nil (acc : Nat) : valG acc [] = acc := List.foldl_nil
theorem valG_cons (acc : Nat) (c : UInt8) (r : List UInt8) : valG acc (c :: r) = valG (acc * 10 + (c.toNat - 48)) r := List.foldl_cons ..
theorem valG_ge : ∀ (l : List UInt8) (acc : Nat), acc ≤ valG acc l
  | [], acc => by rw [valG_nil]; exact Nat.le_refl _
  | c :: r, acc => by rw [valG_cons]; have := valG_ge r (acc * 10 + (c.toNat - 48)); omega
theorem uint_law : ∀ (l : List UInt8) (acc : Nat), (∀ c ∈ l, isDig c = true) → acc ≤ 18446744073709551615 → parseUintM 18446744073709551615 acc l = if valG acc l ≤ 18446744073709551615 then .ok (valG acc l) else .range
  | [], acc, _, h => by rw [parseUintM, valG_nil, if_pos h]
  | c :: r, acc, hd, h => by
    have hc := (isDig_iff c).1 (hd c (by simp))
    have hg := valG_ge r (acc * 10 + (c.toNat - 48))
    rw [parseUintM, if_pos hc, valG_cons]
    by_cases h1 : 1844674407370955162 ≤ acc
    · rw [if_pos h1, if_neg (by omega)]
    · rw [if_neg h1]
      by_cases h2 : 18446744073709551615 < acc * 10 + (c.toNat - 48)
      · rw [if_pos h2, if_neg (by omega)]
      · rw [if_neg h2, uint_law r _ (fun x hx => hd x (by simp [hx])) (by omega)]
/-- The document's number: below 0, digit by digit. -/
def refGo : Int → List UInt8 → Option Int
  | n, [] => some n
  | n, c :: r => if n < (-9223372036854775808 + ((c.toNat : Int) - 48)).tdiv 10 then none else refGo (10 * n - ((c.toNat : Int) - 48)) r
theorem tdiv_step (acc d : Nat) (hd : d ≤ 9) : (-(acc : Int) < (-9223372036854775808 + (d : Int)).tdiv 10) ↔ 9223372036854775808 < acc * 10 + d := by
  have e : (-9223372036854775808 + (d : Int)) = -(((9223372036854775808 - d : Nat)) : Int) := by omega
  rw [e, Int.neg_tdiv, Int.tdiv_eq_ediv_of_nonneg (by omega)]
  omega
theorem ref_law : ∀ (l : List UInt8) (acc : Nat), (∀ c ∈ l, isDig c = true) → acc ≤ 9223372036854775808 → refGo (-(acc : Int)) l = if valG acc l ≤ 9223372036854775808 then some (-(valG acc l : Int)) else none
  | [], acc, _, h => by rw [refGo, valG_nil, if_pos h]
  | c :: r, acc, hd, h => by
    have hc := (isDig_iff c).1 (hd c (by simp))
    have hg := valG_ge r (acc * 10 + (c.toNat - 48))
    rw [refGo, valG_cons, show ((c.toNat : Int) - 48) = ((c.toNat - 48 : Nat) : Int) by omega]
    by_cases h2 : 9223372036854775808 < acc * 10 + (c.toNat - 48)
    · rw [if_pos ((tdiv_step acc _ (by omega)).2 h2), if_neg (by omega)]
    · rw [if_neg (fun h => h2 ((tdiv_step acc _ (by omega)).1 h)), show 10 * -(acc : Int) - ((c.toNat - 48 : Nat) : Int) = -((acc * 10 + (c.toNat - 48) : Nat) : Int) by omega,
        ref_law r _ (fun x hx => hd x (by simp [hx])) (by omega)]
/-- The document's number of a text's digits. -/
def refNum (below : Bool) (all : List UInt8) : Option Int :=
  match refGo 0 all with
  | none => none
  | some n => if below = true then some n else if n = -9223372036854775808 then none else some (-n)
theorem num_below (all : List UInt8) (h : ∀ c ∈ all, isDig c = true) (hne : all ≠ []) :
    parseIntB 64 (45 :: all) = match refNum true all with | some n => .ok n | none => .range := by
  have h1 := uint_law all 0 h (by omega)
  have h2 := ref_law all 0 h (by omega)
  unfold parseIntB refNum
  simp only [show (45 : UInt8).toNat = 45 from rfl, or_true, if_true]
  unfold parseUintB
  rw [if_neg hne, show (2 : Nat) ^ 64 - 1 = 18446744073709551615 from rfl, h1]
  rw [show -((0 : Nat) : Int) = 0 from rfl] at h2
  rw [h2]
  by_cases hv : valG 0 all ≤ 18446744073709551615
  · rw [if_pos hv]
    by_cases hv2 : valG 0 all ≤ 9223372036854775808
    · simp only [hv2, if_true]
      rw [if_neg (by simp), if_neg (by simp; omega)]
    · simp only [hv2, if_false]
      rw [if_neg (by simp), if_pos (by simp; omega)]
  · rw [if_neg hv, if_neg (by omega)]
theorem num_above (all : List UInt8) (h : ∀ c ∈ all, isDig c = true) (hne : all ≠ []) :
    parseIntB 64 all = match refNum false all with | some n => .ok n | none => .range := by
  have h1 := uint_law all 0 h (by omega)
  have h2 := ref_law all 0 h (by omega)
  rw [show -((0 : Nat) : Int) = 0 from rfl] at h2
  cases all with
  | nil => exact absurd rfl hne
  | cons c r =>
    have hc := (isDig_iff c).1 (h c (by simp))
    unfold parseIntB refNum
    rw [h2]
    simp only [show ¬ c.toNat = 43 by omega, show ¬ c.toNat = 45 by omega, or_self, if_false]
    unfold parseUintB
    rw [if_neg hne, show (2 : Nat) ^ 64 - 1 = 18446744073709551615 from rfl, h1]
    by_cases hv : valG 0 (c :: r) ≤ 18446744073709551615
    · rw [if_pos hv]
      by_cases hv2 : valG 0 (c :: r) ≤ 9223372036854775808
      · simp only [hv2, if_true]
        by_cases hv3 : valG 0 (c :: r) = 9223372036854775808
        · rw [if_pos (by simp; omega), hv3]; rfl
        · rw [if_neg (by simp; omega), if_neg (by simp), if_neg (by simp), if_neg (by omega)]; simp
      · simp only [hv2, if_false]
        rw [if_pos (by simp; omega)]
    · rw [if_neg hv, if_neg (by omega)]

/-! ### the shape -/
def isDot (c : UInt8) : Bool := c == 46
def notDot (c : UInt8) : Bool := !(c == 46)
def progShape (rest : List UInt8) (scale : Nat) : Option (List UInt8) :=
  if ((1 ≤ (rest.takeWhile notDot).length ∧ (rest.takeWhile notDot).length ≤ 19 ∧ (rest.takeWhile notDot).all isDig = true) ∧ ¬ (1 < (rest.takeWhile notDot).length ∧ (rest.takeWhile notDot).head? = some 48) ∧
      ((rest.dropWhile notDot) ≠ [] → 1 ≤ ((rest.dropWhile notDot).drop 1).length ∧ ((rest.dropWhile notDot).drop 1).length ≤ scale ∧ ((rest.dropWhile notDot).drop 1).all isDig = true))
  then some (rest.takeWhile notDot ++ (rest.dropWhile notDot).drop 1 ++ List.replicate (scale - ((rest.dropWhile notDot).drop 1).length) 48) else none
def refShape (rest : List UInt8) (scale : Nat) : Option (List UInt8) :=
  if (rest.takeWhile isDig) = [] ∨ 19 < (rest.takeWhile isDig).length ∨ ((rest.takeWhile isDig).head? = some 48 ∧ 1 < (rest.takeWhile isDig).length) then none
  else match rest.dropWhile isDig with
    | [] => some (rest.takeWhile isDig ++ List.replicate scale 48)
    | c :: r => if c = 46 then
        (if r.takeWhile isDig = [] then none else if r.dropWhile isDig ≠ [] ∨ scale < (r.takeWhile isDig).length then none else some (rest.takeWhile isDig ++ r.takeWhile isDig ++ List.replicate (scale - (r.takeWhile isDig).length) 48))
      else none
theorem tw_split (p : UInt8 → Bool) : ∀ l : List UInt8, (∀ c ∈ l.takeWhile p, p c = true) ∧ l = l.takeWhile p ++ l.dropWhile p ∧ (∀ c r, l.dropWhile p = c :: r → p c = false)
  | [] => ⟨by simp, by simp, by simp⟩
  | x :: l => by
    obtain ⟨a, b, d⟩ := tw_split p l
    by_cases h : p x = true
    · rw [List.takeWhile_cons, List.dropWhile_cons, if_pos h, if_pos h]
      refine ⟨fun c hc => ?_, by rw [List.cons_append, ← b], d⟩
      rcases List.mem_cons.1 hc with rfl | hc
      · exact h
      · exact a c hc
    · rw [List.takeWhile_cons, List.dropWhile_cons, if_neg h, if_neg h]
      refine ⟨by simp, rfl, fun c r e => ?_⟩
      injection e with e _; subst e; simpa using h
theorem tw_app (p : UInt8 → Bool) : ∀ (u v : List UInt8), (∀ c ∈ u, p c = true) → (u ++ v).takeWhile p = u ++ v.takeWhile p ∧ (u ++ v).dropWhile p = v.dropWhile p
  | [], v, _ => ⟨rfl, rfl⟩
  | x :: u, v, h => by
    obtain ⟨a, b⟩ := tw_app p u v (fun c hc => h c (by simp [hc]))
    rw [List.cons_append, List.takeWhile_cons, List.dropWhile_cons, if_pos (h x (by simp)), if_pos (h x (by simp)), a, b]
    exact ⟨rfl, rfl⟩
theorem dig_notDot (c : UInt8) (h : isDig c = true) : notDot c = true := by
  have := (isDig_iff c).1 h
  unfold notDot
  by_cases e : c = 46
  · subst e; simp at this
  · simp [e]
theorem shape_law (rest : List UInt8) (scale : Nat) : progShape rest scale = refShape rest scale := by
  obtain ⟨hw, hs, hn⟩ := tw_split isDig rest
  have hwd := fun c hc => dig_notDot c (hw c hc)
  unfold progShape refShape
  cases hr : rest.dropWhile isDig with
  | nil =>
    rw [hr, List.append_nil] at hs
    have e1 : rest.takeWhile notDot = rest.takeWhile isDig ∧ rest.dropWhile notDot = [] := by
      have := tw_app notDot (rest.takeWhile isDig) [] hwd
      rw [List.append_nil] at this
      rw [← hs] at this
      refine ⟨by rw [this.1, List.takeWhile_nil, List.append_nil, ← hs], by rw [this.2]; rfl⟩
    rw [e1.1, e1.2]
    generalize rest.takeWhile isDig = w at hw
    have hall : w.all isDig = true := List.all_eq_true.2 hw
    by_cases hbad : w = [] ∨ 19 < w.length ∨ (w.head? = some 48 ∧ 1 < w.length)
    · rw [if_pos hbad, if_neg]
      rintro ⟨⟨a, b, _⟩, c, _⟩
      rcases hbad with rfl | h | h
      · simp at a
      · omega
      · exact c ⟨h.2, h.1⟩
    · rw [if_neg hbad, if_pos]
      · simp
      · have hne : w ≠ [] := fun h => hbad (.inl h)
        have hl : 1 ≤ w.length := by cases w with | nil => exact absurd rfl hne | cons _ _ => simp
        exact ⟨⟨hl, by omega, hall⟩, fun h => hbad (.inr (.inr ⟨h.2, h.1⟩)), fun h => absurd rfl h⟩
  | cons c r =>
    have hcn := hn c r hr
    rw [hr] at hs
    by_cases hdot : c = 46
    · subst hdot
      have e1 : rest.takeWhile notDot = rest.takeWhile isDig ∧ rest.dropWhile notDot = 46 :: r := by
        have := tw_app notDot (rest.takeWhile isDig) (46 :: r) hwd
        rw [← hs] at this
        refine ⟨by rw [this.1]; simp [List.takeWhile_cons, notDot], by rw [this.2]; simp [List.dropWhile_cons, notDot]⟩
      rw [e1.1, e1.2]
      generalize rest.takeWhile isDig = w at hw
      have hall : w.all isDig = true := List.all_eq_true.2 hw
      obtain ⟨hp, hps, hpn⟩ := tw_split isDig r
      by_cases hbad : w = [] ∨ 19 < w.length ∨ (w.head? = some 48 ∧ 1 < w.length)
      · rw [if_pos hbad, if_neg]
        rintro ⟨⟨a, b, _⟩, c, _⟩
        rcases hbad with rfl | h | h
        · simp at a
        · omega
        · exact c ⟨h.2, h.1⟩
      · have hne : w ≠ [] := fun h => hbad (.inl h)
        have hl : 1 ≤ w.length := by cases w with | nil => exact absurd rfl hne | cons _ _ => simp
        rw [if_neg hbad]
        simp only [if_true, List.drop_succ_cons, List.drop_zero]
        cases hd : r.dropWhile isDig with
        | nil =>
          rw [hd, List.append_nil] at hps
          rw [← hps] at hp ⊢
          have hra : r.all isDig = true := List.all_eq_true.2 hp
          by_cases h0 : r = []
          · rw [if_pos h0, if_neg]
            rintro ⟨_, _, h⟩
            have := (h (by simp)).1
            rw [h0] at this; simp at this
          · have hrl : 1 ≤ r.length := by cases r with | nil => exact absurd rfl h0 | cons _ _ => simp
            rw [if_neg h0]
            by_cases hsc : scale < r.length
            · rw [if_pos (show ([] : List UInt8) ≠ [] ∨ scale < r.length from .inr hsc), if_neg]
              rintro ⟨_, _, h⟩
              have := (h (by simp)).2.1
              omega
            · rw [if_neg (show ¬ (([] : List UInt8) ≠ [] ∨ scale < r.length) from fun h => h.elim (fun h => h rfl) hsc), if_pos]
              exact ⟨⟨hl, by omega, hall⟩, fun h => hbad (.inr (.inr ⟨h.2, h.1⟩)), fun _ => ⟨hrl, by omega, hra⟩⟩
        | cons d r' =>
          have hdn := hpn d r' hd
          have hra : ¬ r.all isDig = true := by
            intro h
            have := List.all_eq_true.1 h d (by rw [hps, hd]; simp)
            rw [hdn] at this; simp at this
          rw [if_neg (fun h => hra (h.2.2 (by simp)).2.2)]
          by_cases h0 : r.takeWhile isDig = []
          · rw [if_pos h0]
          · rw [if_neg h0, if_pos (show d :: r' ≠ [] ∨ _ from .inl (by simp))]
    · have hcd : notDot c = true := by unfold notDot; simp [hdot]
      have e1 : c ∈ rest.takeWhile notDot := by
        have := (tw_app notDot (rest.takeWhile isDig) (c :: r) hwd).1
        rw [← hs] at this
        rw [this, List.takeWhile_cons, if_pos hcd]; simp
      rw [if_neg]
      · simp [hdot]
      · rintro ⟨⟨_, _, h⟩, _⟩
        have := List.all_eq_true.1 h c e1
        rw [hcn] at this; simp at this
end Go.Proofs.OrdPlain
