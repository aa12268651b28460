/- The document's tokens and its Run walked. -/
import Derived.Test.YtgbphkckiekehaaDoorBD
import Derived.Test.YtgbphkckiekehaaDoorBS
import Derived.Deep.DeepCutAuto
import Derived.Test.YtgbphkckiekehaaDoorBG
set_option linter.unusedVariables false
set_option linter.unusedSimpArgs false
namespace Go.Proofs.YtgbphkckiekehaaDoor.Ana
open Go Go.RowKit Go.Proofs.YtgbphkckiekehaaDoor.QRef Go.Proofs.YtgbphkckiekehaaDoorW.PrintWords Go.Proofs.FoldPlain Go.Proofs.FoldText Go.Proofs.YtgbphkckiekehaaDoor.FoldRef

/-- Where a run that is open at k ends. -/
def rEnd (may : Int → Bool) (l : List Int) (k : Nat) : Nat := k + ((l.drop k).takeWhile may).length
theorem rEnd_stop (may : Int → Bool) (l : List Int) (k : Nat) (h : l.length ≤ k) : rEnd may l k = k := by unfold rEnd; rw [List.drop_eq_nil_of_le h]; rfl
theorem rEnd_no (may : Int → Bool) (l : List Int) (k : Nat) (h : k < l.length) (hm : may l[k] = false) : rEnd may l k = k := by
  unfold rEnd; rw [List.drop_eq_getElem_cons h, List.takeWhile_cons, hm]; rfl
theorem rEnd_yes (may : Int → Bool) (l : List Int) (k : Nat) (h : k < l.length) (hm : may l[k] = true) : rEnd may l k = rEnd may l (k + 1) := by
  unfold rEnd; rw [List.drop_eq_getElem_cons h, List.takeWhile_cons, hm]; simp only [if_true, List.length_cons]; omega
theorem rEnd_le (may : Int → Bool) (l : List Int) (k : Nat) (h : k ≤ l.length) : k ≤ rEnd may l k ∧ rEnd may l k ≤ l.length := by
  unfold rEnd
  have := (List.takeWhile_sublist may (l := l.drop k)).length_le
  rw [List.length_drop] at this
  omega
/-- The runs from i on. -/
def rrGo (may begins : Int → Bool) (l : List Int) : Nat → Nat → List (Nat × Nat)
  | 0, _ => []
  | f + 1, i => if h : i < l.length then (if may l[i] = true ∧ begins l[i] = true then (i, rEnd may l i) :: rrGo may begins l f (rEnd may l i) else rrGo may begins l f (i + 1)) else []
theorem rrGo_more (may begins : Int → Bool) (l : List Int) : ∀ (f g i : Nat), l.length ≤ i + f → l.length ≤ i + g → rrGo may begins l f i = rrGo may begins l g i
  | 0, 0, i, _, _ => rfl
  | 0, g + 1, i, hf, _ => by rw [rrGo, rrGo, dif_neg (by omega)]
  | f + 1, 0, i, _, hg => by rw [rrGo, rrGo, dif_neg (by omega)]
  | f + 1, g + 1, i, hf, hg => by
    rw [rrGo, rrGo]
    by_cases h : i < l.length
    · rw [dif_pos h, dif_pos h]
      by_cases hm : may l[i] = true ∧ begins l[i] = true
      · have h1 := rEnd_yes may l i h hm.1
        have h2 := rEnd_le may l (i + 1) (by omega)
        rw [if_pos hm, if_pos hm, rrGo_more may begins l f g _ (by omega) (by omega)]
      · rw [if_neg hm, if_neg hm, rrGo_more may begins l f g _ (by omega) (by omega)]
    · rw [dif_neg h, dif_neg h]
def rr (may begins : Int → Bool) (l : List Int) (i : Nat) : List (Nat × Nat) := rrGo may begins l l.length i
theorem rr_stop (may begins : Int → Bool) (l : List Int) (i : Nat) (h : l.length ≤ i) : rr may begins l i = [] := by
  unfold rr; rw [rrGo_more may begins l l.length 0 i (by omega) (by omega)]; rfl
theorem rr_yes (may begins : Int → Bool) (l : List Int) (i : Nat) (h : i < l.length) (hm : may l[i] = true) (hb : begins l[i] = true) : rr may begins l i = (i, rEnd may l i) :: rr may begins l (rEnd may l i) := by
  have h1 := rEnd_yes may l i h hm
  have h2 := rEnd_le may l (i + 1) (by omega)
  unfold rr
  rw [rrGo_more may begins l l.length (l.length + 1) i (by omega) (by omega), rrGo, dif_pos h, if_pos ⟨hm, hb⟩]
theorem rr_no (may begins : Int → Bool) (l : List Int) (i : Nat) (h : i < l.length) (hm : ¬ (may l[i] = true ∧ begins l[i] = true)) : rr may begins l i = rr may begins l (i + 1) := by
  unfold rr
  rw [rrGo_more may begins l l.length (l.length + 1) i (by omega) (by omega), rrGo, dif_pos h, if_neg hm]
/-- Cuts as tokens, numbered from n on. -/
def tokOf (s : ByteArray) (n : Nat) (c : Nat × Nat) : S58 := ⟨s.extract ((placesD s.data.toList).getD c.1 0).toNat ((placesD s.data.toList).getD c.2 0).toNat, (n : Int), (placesD s.data.toList).getD c.1 0, (placesD s.data.toList).getD c.2 0⟩
def toksOf (s : ByteArray) : Nat → List (Nat × Nat) → List S58
  | _, [] => []
  | n, c :: cs => tokOf s n c :: toksOf s (n + 1) cs
theorem toksOf_len (s : ByteArray) : ∀ (cs : List (Nat × Nat)) (n : Nat), (toksOf s n cs).length = cs.length
  | [], n => rfl
  | c :: cs, n => by rw [toksOf, List.length_cons, List.length_cons, toksOf_len s cs]
theorem toksOf_app (s : ByteArray) : ∀ (cs ds : List (Nat × Nat)) (n : Nat), toksOf s n (cs ++ ds) = toksOf s n cs ++ toksOf s (n + cs.length) ds
  | [], ds, n => by simp [toksOf]
  | c :: cs, ds, n => by
    rw [List.cons_append, toksOf, toksOf, toksOf_app s cs ds (n + 1), List.cons_append, List.length_cons, show n + 1 + cs.length = n + (cs.length + 1) by omega]

theorem runes_num (s : ByteArray) (i : Nat) (h : i < (runes s.data.toList).length) : (placesD s.data.toList).getD i 0 = ((runes s.data.toList)[i].1 : Int) := by
  rw [placesD_at _ i h]; simp [List.getD_eq_getElem?_getD, h]
/-- The fold of the runes from i on. -/
theorem run_law (s : ByteArray) (may begins : Int → Bool) (l : List Int) (hl : l = runesZ (runes s.data.toList)) : ∀ (d i : Nat) (out : List S58), l.length - i ≤ d → i ≤ l.length →
    (runEnd s (((runes s.data.toList).drop i).foldl (runStep s may begins) (out, -1)) s.size).1 = out ++ toksOf s out.length (rr may begins l i) ∧
    ∀ j, (runEnd s (((runes s.data.toList).drop i).foldl (runStep s may begins) (out, (placesD s.data.toList).getD j 0)) s.size).1 = out ++ tokOf s out.length (j, rEnd may l i) :: toksOf s (out.length + 1) (rr may begins l (rEnd may l i)) := by
  have hN : l.length = (runes s.data.toList).length := by rw [hl]; simp [runesZ]
  have hpl : (placesD s.data.toList).getD l.length 0 = (s.size : Int) := by rw [hN, placesD_last, size_data]
  intro d
  induction d with
  | zero =>
    intro i out hd hi
    obtain rfl : i = l.length := by omega
    rw [List.drop_eq_nil_of_le (by omega), rr_stop _ _ _ _ (Nat.le_refl _), rEnd_stop _ _ _ (Nat.le_refl _), rr_stop _ _ _ _ (Nat.le_refl _)]
    refine ⟨by simp [runEnd, toksOf], fun j => ?_⟩
    have h0 := (placesD_bounds s.data.toList j).1
    rw [List.foldl_nil]
    unfold runEnd
    rw [if_pos h0]
    show out ++ [_] = out ++ [tokOf s out.length (j, l.length)]
    unfold tokOf
    rw [hpl]
  | succ d ih =>
    intro i out hd hi
    by_cases hlt : i < l.length
    · have hlr : i < (runes s.data.toList).length := by omega
      have hx2 : l[i] = ((runes s.data.toList)[i].2 : Int) := by simp [hl, runesZ]
      have hx1 := runes_num s i hlr
      rw [List.drop_eq_getElem_cons hlr]
      simp only [List.foldl_cons]
      obtain ⟨ihA, ihB⟩ := ih (i + 1) out (by omega) (by omega)
      by_cases hm : may l[i] = true
      · have hm' : ¬ may ((runes s.data.toList)[i].2 : Int) = false := by rw [← hx2, hm]; simp
        refine ⟨?_, fun j => ?_⟩
        · by_cases hb : begins l[i] = true
          · have e : runStep s may begins (out, -1) (runes s.data.toList)[i] = (out, (placesD s.data.toList).getD i 0) := by
              unfold runStep
              rw [if_neg hm', if_pos ⟨by show (-1 : Int) < 0; omega, by rw [← hx2]; exact hb⟩, hx1]
            rw [e, ihB i, rr_yes may begins l i hlt hm hb, rEnd_yes may l i hlt hm]
            rfl
          · have e : runStep s may begins (out, -1) (runes s.data.toList)[i] = (out, -1) := by
              unfold runStep
              rw [if_neg hm', if_neg (fun h => hb (by rw [hx2]; exact h.2))]
            rw [e, ihA, rr_no may begins l i hlt (fun h => hb h.2)]
        · have h0 := (placesD_bounds s.data.toList j).1
          have e : runStep s may begins (out, (placesD s.data.toList).getD j 0) (runes s.data.toList)[i] = (out, (placesD s.data.toList).getD j 0) := by
            unfold runStep
            rw [if_neg hm', if_neg (fun h => by have h1 : (placesD s.data.toList).getD j 0 < 0 := h.1; omega)]
          rw [e, ihB j, rEnd_yes may l i hlt hm]
      · have hmf : may l[i] = false := by simpa using hm
        have hm' : may ((runes s.data.toList)[i].2 : Int) = false := by rw [← hx2]; exact hmf
        have hrn := rr_no may begins l i hlt (fun h => hm h.1)
        refine ⟨?_, fun j => ?_⟩
        · have e : runStep s may begins (out, -1) (runes s.data.toList)[i] = (out, -1) := by
            unfold runStep; rw [if_pos hm']; rfl
          rw [e, ihA, hrn]
        · have h0 := (placesD_bounds s.data.toList j).1
          have e : runStep s may begins (out, (placesD s.data.toList).getD j 0) (runes s.data.toList)[i] = (out ++ [tokOf s out.length (j, i)], -1) := by
            unfold runStep
            rw [if_pos hm']
            unfold runEnd
            rw [if_pos h0]
            unfold tokOf
            simp only [hx1]
          rw [e, rEnd_no may l i hlt hmf, (ih (i + 1) (out ++ [tokOf s out.length (j, i)]) (by omega) (by omega)).1, hrn]
          simp
    · exact ih i out (by omega) hi
theorem runsD_rr (s : ByteArray) (may begins : Int → Bool) : runsD s may begins = toksOf s 0 (rr may begins (runesZ (runes s.data.toList)) 0) := by
  have := (run_law s may begins _ rfl (runesZ (runes s.data.toList)).length 0 [] (by omega) (Nat.zero_le _)).1
  rw [List.drop_zero] at this
  unfold runsD runState
  rw [this]; rfl
end Go.Proofs.YtgbphkckiekehaaDoor.Ana

set_option linter.unusedVariables false
set_option linter.unusedSimpArgs false
namespace Go.Proofs.YtgbphkckiekehaaDoor.Ana
open Go Go.RowKit Go.Proofs.YtgbphkckiekehaaDoor.QRef Go.Proofs.YtgbphkckiekehaaDoorW.PrintWords Go.Proofs.FoldPlain Go.Proofs.FoldText Go.Proofs.YtgbphkckiekehaaDoor.FoldRef

theorem tw_take (p : UInt8 → Bool) : ∀ (u : List UInt8) (k : Nat), (u.take k).takeWhile p = (u.takeWhile p).take k
  | [], k => by simp
  | x :: u, 0 => by simp
  | x :: u, k + 1 => by
    rw [List.take_succ_cons, List.takeWhile_cons, List.takeWhile_cons]
    by_cases h : p x = true
    · rw [if_pos h, if_pos h, List.take_succ_cons, tw_take p u k]
    · rw [if_neg h, if_neg h]; rfl
theorem decT_take (b : Nat) (T : List UInt8) (k : Nat) (h : (decT b T).2 ≤ k + 1) : decT b (T.take k) = decT b T := by
  rcases k with _ | _ | _ | k
  all_goals rcases T with _ | ⟨x, _ | ⟨y, _ | ⟨z, T⟩⟩⟩
  all_goals first
    | rfl
    | (simp [decT] at h ⊢; done)
    | (simp [decT] at h ⊢
       repeat' (first | rfl | omega | split at h | split)
       all_goals first | rfl | omega | simp_all)
theorem dec_take (l : List UInt8) (m : Nat) (h : (dec l).2 ≤ m) : dec (l.take m) = dec l := by
  cases l with
  | nil => rw [List.take_nil]
  | cons b u =>
    have h1 := dec_ge1 (b :: u)
    obtain ⟨k, rfl⟩ : ∃ k, m = k + 1 := ⟨m - 1, by omega⟩
    rw [List.take_succ_cons, dec_T, dec_T, tw_take]
    rw [dec_T] at h
    exact decT_take _ _ _ h
/-- The runes of a piece of a text that begins and ends where runes do. -/
theorem runesAt_piece (l : List UInt8) (p0 q : Nat) (hq : q ≤ l.length) : ∀ (pre : List (Nat × Nat)) (p : Nat), p0 ≤ p → p ≤ q → runesAt l p = pre ++ runesAt l q →
    runesAt ((l.drop p0).take (q - p0)) (p - p0) = pre.map fun x => (x.1 - p0, x.2) := by
  intro pre
  have hlen : ((l.drop p0).take (q - p0)).length = q - p0 := by rw [List.length_take, List.length_drop]; omega
  induction pre with
  | nil =>
    intro p h0 hpq h
    by_cases hlt : p < q
    · rw [runesAt_step l p (by omega), List.nil_append] at h
      have hm : (p, (dec (l.drop p)).1) ∈ runesAt l q := by rw [← h]; exact List.mem_cons_self
      have := (runesAt_bounds l l.length q (by omega)).1 _ hm
      have h2 : q ≤ p := this.1
      omega
    · rw [runesAt_end _ _ (by rw [hlen]; omega)]; rfl
  | cons x pre ih =>
    intro p h0 hpq h
    have hp : p < l.length := by
      by_cases hp : p < l.length
      · exact hp
      · rw [runesAt_end l p (by omega)] at h; simp at h
    have h' := h
    rw [runesAt_step l p hp, List.cons_append, List.cons.injEq] at h'
    obtain ⟨hx, hr⟩ := h'
    have hin := dec_in hp
    have hw1 := dec_ge1 (l.drop p)
    have hw : p + (dec (l.drop p)).2 ≤ q := by
      by_cases hql : q < l.length
      · rw [runesAt_step l q hql] at hr
        have hm : (q, (dec (l.drop q)).1) ∈ runesAt l (p + (dec (l.drop p)).2) := by rw [hr]; simp
        exact ((runesAt_bounds l l.length _ (by omega)).1 _ hm).1
      · omega
    have e : ((l.drop p0).take (q - p0)).drop (p - p0) = (l.drop p).take (q - p) := by
      rw [List.drop_take, List.drop_drop, show p0 + (p - p0) = p by omega, show q - p0 - (p - p0) = q - p by omega]
    have ed : dec (((l.drop p0).take (q - p0)).drop (p - p0)) = dec (l.drop p) := by rw [e]; exact dec_take _ _ (by omega)
    rw [runesAt_step _ _ (by rw [hlen]; omega), ed, show p - p0 + (dec (l.drop p)).2 = p + (dec (l.drop p)).2 - p0 by omega, ih _ (by omega) hw hr, ← hx]
    rfl
/-- The runes from the a-th on. -/
theorem runesAt_nth (l : List UInt8) : ∀ a, a ≤ (runes l).length → runesAt l ((placesD l).getD a 0).toNat = (runes l).drop a := by
  intro a
  induction a with
  | zero =>
    intro _
    have : ((placesD l).getD 0 0).toNat = 0 := by
      by_cases h : 0 < (runes l).length
      · rw [placesD_at l 0 h]
        have hl : 0 < l.length := by have := runes_length l; omega
        have e := runesAt_step l 0 hl
        show (((runes l).getD 0 (0, 0)).1 : Int).toNat = 0
        unfold runes
        rw [e]; rfl
      · have h0 : (runes l).length = 0 := by omega
        have hl : l.length = 0 := by
          by_cases hl : 0 < l.length
          · have e := runesAt_step l 0 hl
            unfold runes at h0; rw [e] at h0; simp at h0
          · omega
        have := placesD_last l
        rw [h0] at this
        rw [this, hl]; rfl
    rw [this]; rfl
  | succ a ih =>
    intro ha
    have hb := placesD_bounds l a
    have ih' := ih (by omega)
    have hp : ((placesD l).getD a 0).toNat < l.length := by
      rw [placesD_at l a (by omega)]
      have := (runesAt_bounds l l.length 0 (by omega)).1 ((runes l).getD a (0, 0)) (by simp [List.getD_eq_getElem?_getD, show a < (runes l).length by omega])
      omega
    rw [List.drop_eq_getElem_cons (by omega), runesAt_step l _ hp, List.cons.injEq] at ih'
    obtain ⟨_, ih2⟩ := ih'
    have hin := dec_in hp
    rw [← ih2]
    congr 1
    by_cases hn : a + 1 < (runes l).length
    · rw [List.drop_eq_getElem_cons hn] at ih2
      have hlt : ((placesD l).getD a 0).toNat + (dec (l.drop ((placesD l).getD a 0).toNat)).2 < l.length := by
        by_cases hh : ((placesD l).getD a 0).toNat + (dec (l.drop ((placesD l).getD a 0).toNat)).2 < l.length
        · exact hh
        · rw [runesAt_end l _ (by omega)] at ih2; exact absurd ih2 (List.cons_ne_nil _ _).symm
      rw [runesAt_step l _ hlt, List.cons.injEq] at ih2
      rw [placesD_at l (a + 1) hn]
      rw [show (runes l).getD (a + 1) (0, 0) = (runes l)[a + 1] by simp [List.getD_eq_getElem?_getD, hn], ← ih2.1]
      exact (Int.toNat_natCast _).symm
    · have ea : a + 1 = (runes l).length := by omega
      rw [ea, placesD_last]
      by_cases hh : ((placesD l).getD a 0).toNat + (dec (l.drop ((placesD l).getD a 0).toNat)).2 < l.length
      · rw [ea, List.drop_length, runesAt_step l _ hh] at ih2; simp at ih2
      · omega
/-- The places of a piece of a text. -/
theorem places_piece (s : ByteArray) (a b : Nat) (hab : a ≤ b) (hb : b ≤ (runes s.data.toList).length) :
    (runes (s.extract ((placesD s.data.toList).getD a 0).toNat ((placesD s.data.toList).getD b 0).toNat).data.toList).length = b - a ∧
    ∀ i, i ≤ b - a → (placesD (s.extract ((placesD s.data.toList).getD a 0).toNat ((placesD s.data.toList).getD b 0).toNat).data.toList).getD i 0 = (placesD s.data.toList).getD (a + i) 0 - (placesD s.data.toList).getD a 0 := by
  have hPa := placesD_bounds s.data.toList a
  have hPb := placesD_bounds s.data.toList b
  have hle := placesD_le s.data.toList a b hab (by rw [placesD_len]; omega)
  have hsz : s.data.toList.length = s.size := by rw [size_data]
  have e : (s.extract ((placesD s.data.toList).getD a 0).toNat ((placesD s.data.toList).getD b 0).toNat).data.toList = (s.data.toList.drop ((placesD s.data.toList).getD a 0).toNat).take (((placesD s.data.toList).getD b 0).toNat - ((placesD s.data.toList).getD a 0).toNat) := by
    rw [ByteArray.data_extract, Array.toList_extract, List.extract_eq_take_drop]
  have hr : runes (s.extract ((placesD s.data.toList).getD a 0).toNat ((placesD s.data.toList).getD b 0).toNat).data.toList = (((runes s.data.toList).drop a).take (b - a)).map fun x => (x.1 - ((placesD s.data.toList).getD a 0).toNat, x.2) := by
    rw [e]
    have := runesAt_piece s.data.toList ((placesD s.data.toList).getD a 0).toNat ((placesD s.data.toList).getD b 0).toNat (by omega) (((runes s.data.toList).drop a).take (b - a)) ((placesD s.data.toList).getD a 0).toNat (Nat.le_refl _) (by omega) (by
      rw [runesAt_nth _ a (by omega), runesAt_nth _ b hb]
      have : (runes s.data.toList).drop b = ((runes s.data.toList).drop a).drop (b - a) := by rw [List.drop_drop]; congr 1; omega
      rw [this, List.take_append_drop])
    rw [Nat.sub_self] at this
    exact this
  have hlen : (runes (s.extract ((placesD s.data.toList).getD a 0).toNat ((placesD s.data.toList).getD b 0).toNat).data.toList).length = b - a := by
    rw [hr, List.length_map, List.length_take, List.length_drop]; omega
  refine ⟨hlen, fun i hi => ?_⟩
  by_cases hlt : i < b - a
  · rw [placesD_at _ i (by omega), placesD_at _ (a + i) (by omega), hr]
    have hai : a + i < (runes s.data.toList).length := by omega
    have h1 := placesD_le s.data.toList a (a + i) (by omega) (by rw [placesD_len]; omega)
    rw [placesD_at _ (a + i) hai] at h1
    have e1 : (((((runes s.data.toList).drop a).take (b - a)).map fun x => (x.1 - ((placesD s.data.toList).getD a 0).toNat, x.2)).getD i (0, 0)).1 = ((runes s.data.toList).getD (a + i) (0, 0)).1 - ((placesD s.data.toList).getD a 0).toNat := by
      simp [List.getD_eq_getElem?_getD, List.getElem?_take, hlt, hai]
    rw [e1]
    omega
  · obtain rfl : i = b - a := by omega
    have := placesD_last (s.extract ((placesD s.data.toList).getD a 0).toNat ((placesD s.data.toList).getD b 0).toNat).data.toList
    rw [hlen] at this
    rw [this, e, List.length_take, List.length_drop, show a + (b - a) = b by omega]
    omega

/-! ### grams -/
def expand (c : Nat × Nat) : List (Nat × Nat) := (if c.2 = c.1 + 1 then [c] else []) ++ (List.range (c.2 - 1 - c.1)).map fun i => (c.1 + i, c.1 + i + 2)
theorem expand_eq (c : Nat × Nat) (h : c.1 < c.2) : expand c = (List.range (c.2 - c.1 + 1 - min 2 (c.2 - c.1))).map fun i => (c.1 + i, c.1 + i + min 2 (c.2 - c.1)) := by
  unfold expand
  by_cases h1 : c.2 = c.1 + 1
  · obtain ⟨a, b⟩ := c
    simp only at h1
    subst h1
    simp
  · rw [if_neg h1, List.nil_append, show min 2 (c.2 - c.1) = 2 by omega, show c.2 - 1 - c.1 = c.2 - c.1 + 1 - 2 by omega]
theorem toksOf_map (s : ByteArray) (f : Nat → Nat × Nat) : ∀ (k n : Nat), toksOf s n ((List.range k).map f) = (List.range k).map fun i => tokOf s (n + i) (f i) := by
  intro k
  induction k with
  | zero => intro n; rfl
  | succ k ih => intro n; rw [List.range_succ, List.map_append, List.map_append, toksOf_app, ih]; simp [toksOf]
theorem tok_piece (s : ByteArray) (p q : Int) (n : Nat) (x y u v : Int) (hp : 0 ≤ p) (hx : p ≤ x) (hxy : x ≤ y) (hy : y ≤ q) (hq : q ≤ s.size) (hu : u = x - p) (hv : v = y - p) :
    (⟨(s.extract p.toNat q.toNat).extract u.toNat v.toNat, (n : Int), p + u, p + v⟩ : S58) = ⟨s.extract x.toNat y.toNat, (n : Int), x, y⟩ := by
  subst hu hv
  rw [extract_extract s _ _ _ _ (by omega) (by omega)]
  rw [show p.toNat + (x - p).toNat = x.toNat by omega, show p.toNat + (y - p).toNat = y.toNat by omega, show p + (x - p) = x by omega, show p + (y - p) = y by omega]
theorem gTok_eq (s : ByteArray) (n j i : Nat) (c : Nat × Nat) (h : c.1 < c.2) (hc : c.2 ≤ (runes s.data.toList).length) (hi : i + min 2 (c.2 - c.1) ≤ c.2 - c.1) (hg : gN (tokOf s n c) = min 2 (c.2 - c.1)) :
    gTok (tokOf s n c) j i = tokOf s j (c.1 + i, c.1 + i + min 2 (c.2 - c.1)) := by
  obtain ⟨hl, hp⟩ := places_piece s c.1 c.2 (by omega) hc
  have e1 := hp i (by omega)
  have e2 := hp (i + min 2 (c.2 - c.1)) hi
  have m1 := placesD_le s.data.toList c.1 (c.1 + i) (by omega) (by rw [placesD_len]; omega)
  have m2 := placesD_le s.data.toList (c.1 + i) (c.1 + (i + min 2 (c.2 - c.1))) (by omega) (by rw [placesD_len]; omega)
  have m3 := placesD_le s.data.toList (c.1 + (i + min 2 (c.2 - c.1))) c.2 (by omega) (by rw [placesD_len]; omega)
  have b1 := placesD_bounds s.data.toList c.1
  have b2 := placesD_bounds s.data.toList c.2
  have hsz : s.data.toList.length = s.size := by rw [size_data]
  unfold gTok
  rw [hg]
  show (⟨_, _, _, _⟩ : S58) = ⟨_, _, _, _⟩
  rw [show c.1 + i + min 2 (c.2 - c.1) = c.1 + (i + min 2 (c.2 - c.1)) by omega]
  exact tok_piece s _ _ j _ _ _ _ b1.1 m1 m2 m3 (by omega) e1 e2
theorem gAll_tok (s : ByteArray) (out : List S58) (n : Nat) (c : Nat × Nat) (h : c.1 < c.2) (hc : c.2 ≤ (runes s.data.toList).length) : gAll out (tokOf s n c) = out ++ toksOf s out.length (expand c) := by
  have hl : (runes (tokOf s n c).f0.data.toList).length = c.2 - c.1 := (places_piece s c.1 c.2 (by omega) hc).1
  have hpl : (pl (tokOf s n c)).length = c.2 - c.1 + 1 := by unfold pl; rw [placesD_len, hl]
  have hg : gN (tokOf s n c) = min 2 (c.2 - c.1) := by unfold gN; rw [hpl, Nat.add_sub_cancel]
  unfold gAll gRow
  rw [hpl, hg, expand_eq c h, toksOf_map]
  refine congrArg (out ++ ·) ?_
  refine List.map_congr_left fun i hi => ?_
  rw [List.mem_range] at hi
  exact gTok_eq s n _ i c h hc (by omega) hg
theorem grams_law (s : ByteArray) : ∀ (cs : List (Nat × Nat)) (n : Nat) (out : List S58), (∀ c ∈ cs, c.1 < c.2 ∧ c.2 ≤ (runes s.data.toList).length) → (toksOf s n cs).foldl gAll out = out ++ toksOf s out.length (cs.flatMap expand)
  | [], n, out, _ => by simp [toksOf]
  | c :: cs, n, out, h => by
    have hc := h c (by simp)
    rw [toksOf, List.foldl_cons, gAll_tok s out n c hc.1 hc.2, grams_law s cs (n + 1) _ (fun d hd => h d (by simp [hd])), List.flatMap_cons, toksOf_app, List.length_append, toksOf_len, List.append_assoc]
theorem rrGo_in (may begins : Int → Bool) (l : List Int) : ∀ (f i : Nat), i ≤ l.length → ∀ c ∈ rrGo may begins l f i, i ≤ c.1 ∧ c.1 < c.2 ∧ c.2 ≤ l.length
  | 0, i, _, c, hc => by simp [rrGo] at hc
  | f + 1, i, hi, c, hc => by
    rw [rrGo] at hc
    by_cases h : i < l.length
    · rw [dif_pos h] at hc
      by_cases hm : may l[i] = true ∧ begins l[i] = true
      · rw [if_pos hm] at hc
        have h1 := rEnd_yes may l i h hm.1
        have h2 := rEnd_le may l (i + 1) (by omega)
        rcases List.mem_cons.1 hc with rfl | hc
        · exact ⟨Nat.le_refl _, by show i < rEnd may l i; omega, by show rEnd may l i ≤ _; omega⟩
        · have := rrGo_in may begins l f (rEnd may l i) (by omega) c hc; omega
      · rw [if_neg hm] at hc
        have := rrGo_in may begins l f (i + 1) (by omega) c hc; omega
    · rw [dif_neg h] at hc; simp at hc
theorem rr_in (may begins : Int → Bool) (l : List Int) (i : Nat) (hi : i ≤ l.length) : ∀ c ∈ rr may begins l i, i ≤ c.1 ∧ c.1 < c.2 ∧ c.2 ≤ l.length := rrGo_in may begins l _ i hi
theorem rrGo_begins (may b1 b2 : Int → Bool) (l : List Int) (h : ∀ x, may x = true → b1 x = b2 x) : ∀ (f i : Nat), rrGo may b1 l f i = rrGo may b2 l f i
  | 0, i => rfl
  | f + 1, i => by
    rw [rrGo, rrGo]
    by_cases hi : i < l.length
    · rw [dif_pos hi, dif_pos hi]
      by_cases hm : may l[i] = true
      · rw [h _ hm, rrGo_begins may b1 b2 l h f, rrGo_begins may b1 b2 l h f]
      · rw [if_neg (fun x => hm x.1), if_neg (fun x => hm x.1), rrGo_begins may b1 b2 l h f]
    · rw [dif_neg hi, dif_neg hi]
theorem tw_all : ∀ l : List Int, l.takeWhile allB = l
  | [] => rfl
  | x :: l => by rw [List.takeWhile_cons]; show x :: l.takeWhile allB = _; rw [tw_all l]
theorem rEnd_all (l : List Int) (k : Nat) (h : k ≤ l.length) : rEnd allB l k = l.length := by
  unfold rEnd
  rw [tw_all, List.length_drop]; omega
/-- What the document's runs may hold, and what begins one. -/
def mayN (n : Int) (r : Int) : Bool := if n = 2 then openB r else mayB r
def begN (n : Int) (r : Int) : Bool := n == 2 || wordB r
def rrN (n : Int) (l : List Int) : List (Nat × Nat) := rr (mayN n) (begN n) l 0
/-- The document's cuts of a text. -/
def cutsD (n : Int) (l : List Int) : List (Nat × Nat) := if n = 3 then (if 0 < l.length then [(0, l.length)] else []) else if n = 4 then (rrN 1 l).flatMap expand else rrN n l
theorem cutsD_in (n : Int) (l : List Int) : ∀ c ∈ cutsD n l, c.1 < c.2 ∧ c.2 ≤ l.length := by
  intro c hc
  have hr := fun m => rr_in (mayN m) (begN m) l 0 (Nat.zero_le _)
  unfold cutsD at hc
  split at hc
  · split at hc
    · simp only [List.mem_cons, List.not_mem_nil, or_false] at hc; subst hc; exact ⟨‹_›, Nat.le_refl _⟩
    · simp at hc
  · split at hc
    · obtain ⟨d, hd, he⟩ := List.mem_flatMap.1 hc
      have := hr 1 d hd
      rw [expand_eq d this.2.1] at he
      obtain ⟨i, hi, rfl⟩ := List.mem_map.1 he
      rw [List.mem_range] at hi
      dsimp only
      omega
    · have := hr n c hc; exact this.2
theorem tokens_law (n : Int) (s : ByteArray) (h : 1 ≤ n ∧ n ≤ 4) : tokensD n s = toksOf s 0 (cutsD n (runesZ (runes s.data.toList))) := by
  have hL : lettersD s = toksOf s 0 (rrN 1 (runesZ (runes s.data.toList))) := by
    unfold lettersD
    rw [runsD_rr]
    rfl
  unfold tokensD cutsD
  rcases (by omega : n = 1 ∨ n = 2 ∨ n = 3 ∨ n = 4) with rfl | rfl | rfl | rfl
  · exact hL
  · show runsD s openB openB = toksOf s 0 (rrN 2 _)
    rw [runsD_rr]
    unfold rrN rr
    show toksOf s 0 (rrGo openB openB _ _ _) = toksOf s 0 (rrGo openB (fun _ => true) _ _ _)
    rw [rrGo_begins openB openB (fun _ => true) _ (fun _ h => h)]
  · show runsD s allB allB = _
    rw [runsD_rr]
    by_cases h0 : 0 < (runesZ (runes s.data.toList)).length
    · rw [rr_yes allB allB _ 0 h0 rfl rfl, rEnd_all _ _ (Nat.zero_le _), rr_stop _ _ _ _ (Nat.le_refl _)]
      simp [h0]
    · rw [rr_stop _ _ _ _ (by omega)]; simp [h0]
  · show gramsD (lettersD s) = _
    rw [hL]
    unfold gramsD
    rw [grams_law s _ 0 [] (fun c hc => by have := rr_in (mayN 1) (begN 1) _ 0 (Nat.zero_le _) c hc; rw [show (runesZ (runes s.data.toList)).length = (runes s.data.toList).length by simp [runesZ]] at this; exact this.2)]
    rfl
end Go.Proofs.YtgbphkckiekehaaDoor.Ana

set_option linter.unusedVariables false
set_option linter.unusedSimpArgs false
namespace Go.Proofs.YtgbphkckiekehaaDoor.Ana
open Go.RowKit Go.Shelf Go.Proofs.YtgbphkckiekehaaDoor.QRef Go.Proofs.YtgbphkckiekehaaDoorW.PrintWords Go.Proofs.YtgbphkckiekehaaDoorW.PrintLast Go.Proofs.FoldPlain Go.Proofs.FoldText Go.Proofs.YtgbphkckiekehaaDoor.FoldRef Go.Proofs.YtgbphkckiekehaaDoor.FoldW Go.Proofs.YtgbphkckiekehaaDoor.FoldF Go.Proofs.YtgbphkckiekehaaDoor.FoldP

/-- Pairs of numbers in a row of one's own. -/
def kp : Kd (Nat × Nat) := Kd.iso (Kd.pair (Kd.int .i64) (Kd.int .i64)) (fun c : Nat × Nat => ((c.1 : Int), (c.2 : Int)))
theorem kp_mkM (w : World) (base : Nat) (ok : Nat → Prop) (c : Nat × Nat) : kp.M w base ok c [.int .i64 c.1, .int .i64 c.2] := ⟨[.int .i64 c.1], [.int .i64 c.2], rfl, rfl, rfl⟩
theorem info97 : (Tryd.prog.info? 97).map (fun i => (i.zero, i.size, i.bytes)) = some (some (.agg #[(.int .i64 0), (.int .i64 0)]), kp.sz, 16) := by kernel_rfl
abbrev PRow (w : World) (base : Nat) (v : Value) (cs : List (Nat × Nat)) : Prop := Kd.R kp 97 w base (fun _ => True) v cs
theorem refMay_c (n x : Int) (w : World) : Calls Tryd.prog 89 #[.int .i64 n, .int .i32 x] w fun e w' => e = .returned (.bool (mayN n x)) ∧ Below w.heap.size w w' :=
  (lecternref06_may.calls 100 n x _ w (refMay_f n x)).mono fun _ _ h => h
theorem refWord_c (x : Int) (w : World) : Calls Tryd.prog 90 #[.int .i32 x] w fun e w' => e = .returned (.bool (wordB x)) ∧ Below w.heap.size w w' :=
  (lecternref06_word.calls 100 x _ w (refWord_f x)).mono fun _ _ h => h
/-- What the document begins no run at. -/
def skipB (n x : Int) : Bool := !(mayN n x) || (!(decide (n = 2)) && !(wordB x))
theorem skipB_no (n x : Int) (h : skipB n x = true) : ¬ (mayN n x = true ∧ begN n x = true) := by
  unfold skipB at h; unfold begN
  intro ⟨a, b⟩
  rw [a] at h
  by_cases h2 : n = 2 <;> simp_all
theorem skipB_yes (n x : Int) (h : skipB n x = false) : mayN n x = true ∧ begN n x = true := by
  unfold skipB at h; unfold begN
  by_cases h2 : n = 2 <;> simp_all
theorem rr_length (may begins : Int → Bool) (l : List Int) : ∀ (f i : Nat), i ≤ l.length → (rrGo may begins l f i).length ≤ l.length - i
  | 0, i, _ => by simp [rrGo]
  | f + 1, i, hi => by
    rw [rrGo]
    by_cases h : i < l.length
    · rw [dif_pos h]
      by_cases hm : may l[i] = true ∧ begins l[i] = true
      · rw [if_pos hm]
        have h1 := rEnd_yes may l i h hm.1
        have h2 := rEnd_le may l (i + 1) (by omega)
        have := rr_length may begins l f (rEnd may l i) (by omega)
        simp; omega
      · rw [if_neg hm]
        have := rr_length may begins l f (i + 1) (by omega)
        omega
    · rw [dif_neg h]; simp

set_option maxRecDepth 100000 in
set_option maxHeartbeats 600000 in
theorem refRuns_w (n : Int) (l : List Int) (hl : l.length ≤ 1099511627776) (A : Option Addr) (cap : Nat) (w : World) (hC : Kd.C (Kd.int .i32) w A l.length l) :
    Calls Tryd.prog 82 #[.int .i64 n, .slice A l.length cap] w fun e w' => (∃ u, e = .returned u ∧ PRow w' w.heap.size u (rrN n l)) ∧ Below w.heap.size w w' := by
  have HC := Aside0.mk hC
  clear hC
  have hmc := refMay_c n
  have hwc := refWord_c
  go_enter Tryd.func82, Tryd.ntmps82
  go_wp2
  go_loopw [5, 6] (fun v vi wr => ∃ (i : Nat) (ds : List (Nat × Nat)), i ≤ l.length ∧ ds.length ≤ i ∧ vi = .int .i64 i ∧ Hid (rrN n l = ds ++ rr (mayN n) (begN n) l i) ∧ Hid (PRow wr w.heap.size v ds) ∧ Hid (Below w.heap.size w wr))
    (fun _ vi _ => l.length - (intOf vi).toNat)
  case atStart => exact ⟨0, [], Nat.zero_le _, Nat.le_refl _, rfl, Lib.hid rfl, Lib.hid (Kd.R_nil _ _ _ _ _), Lib.hid (Below.refl _ _)⟩
  case round =>
    obtain ⟨i, ds, hi, hds, rfl, hrr, hR, hB⟩ := hrel
    have HRR := Aside0.mk hrr.out
    have HR := Aside0.mk hR.out
    have HB := Aside0.mk hB.out
    clear hrr hR hB
    by_cases hlt : i < l.length
    · have hCi := Kd.C_below HC.out HB.out
      obtain ⟨ad, rfl, ck⟩ := Kd.at_int hCi (i : Int) (by omega) (by omega)
      rw [rd_get l i hlt, Int.toNat_natCast] at ck
      have i1 : (i : Int) < (l.length : Int) := by omega
      have i2 : (0 : Int) ≤ (i : Int) := by omega
      have w1 : IntKind.i64.wrap ((i : Int) + 1) = (i : Int) + 1 := wrap_small _ (by omega) (by omega)
      have HX := Aside0.mk (show skipB n l[i] = true → rr (mayN n) (begN n) l i = rr (mayN n) (begN n) l (i + 1) from fun h => rr_no _ _ l i hlt (skipB_no n _ h))
      have HY := Aside0.mk (show skipB n l[i] = false → rr (mayN n) (begN n) l i = (i, rEnd (mayN n) l i) :: rr (mayN n) (begN n) l (rEnd (mayN n) l i) from fun h => rr_yes _ _ l i hlt (skipB_yes n _ h).1 (skipB_yes n _ h).2)
      have hmx := hmc l[i]
      have hwx := hwc l[i]
      have HMC := Aside0.mk hmc
      clear hmc hwc hCi
      have HSK := Aside0.mk (show skipB n l[i] = (!(mayN n l[i]) || (!(decide (n = 2)) && !(wordB l[i]))) from rfl)
      obtain ⟨x, hx⟩ : ∃ x, x = l[i] := ⟨_, rfl⟩
      rw [← hx] at ck hmx hwx HX HY HSK
      have HXE := Aside0.mk hx
      clear hx
      obtain ⟨M, hM⟩ : ∃ M, M = mayN n x := ⟨_, rfl⟩
      obtain ⟨Wd, hW⟩ : ∃ Wd, Wd = wordB x := ⟨_, rfl⟩
      rw [← hM] at hmx HSK
      rw [← hW] at hwx HSK
      have HMM := Aside0.mk hM
      clear hM hW
      by_cases h2 : n = 2
      · subst h2
        rw [show decide ((2 : Int) = 2) = true from rfl] at HSK
        cases M
        · have HE := Aside0.mk (HX.out (by rw [HSK.out]; rfl))
          go_wp2_with (first
            | (go_at_call 89; refine (hmx _).mono ?_; clear hmx; rintro e w1 ⟨rfl, hb1⟩; have HB1 := Aside0.mk (below_step HB.out hb1); have ck1 := pw_cell_below hb1 ck; have HR1 := Aside0.mk (Kd.R_below HR.out hb1))
            | (go_at_call 90; refine (hwx _).mono ?_; clear hwx; rintro e w2 ⟨rfl, hb2⟩; have HB2 := Aside0.mk (below_step HB1.out hb2); have HR2 := Aside0.mk (Kd.R_below HR1.out hb2)))
          exact ⟨⟨i + 1, ds, by omega, by omega, by go_num, Lib.hid (by rw [HRR.out, HE.out]), Lib.hid HR1.out, Lib.hid HB1.out⟩, by simp [intOf]; omega⟩
        · go_wp2_with (first
            | (go_at_call 89; refine (hmx _).mono ?_; clear hmx; rintro e w1 ⟨rfl, hb1⟩; have HB1 := Aside0.mk (below_step HB.out hb1); have ck1 := pw_cell_below hb1 ck; have HR1 := Aside0.mk (Kd.R_below HR.out hb1))
            | (go_at_call 90; refine (hwx _).mono ?_; clear hwx; rintro e w2 ⟨rfl, hb2⟩; have HB2 := Aside0.mk (below_step HB1.out hb2); have HR2 := Aside0.mk (Kd.R_below HR1.out hb2)))
          have HE := Aside0.mk (HY.out (by rw [HSK.out]; rfl))
          have HK1 := Aside0.mk (show i + 1 ≤ rEnd (mayN 2) l i by rw [rEnd_yes _ l i hlt (by rw [← HXE.out, ← HMM.out])]; exact (rEnd_le _ l (i + 1) (by omega)).1)
          go_loopw [7] (fun vk wr => ∃ k : Nat, i ≤ k ∧ k ≤ l.length ∧ vk = .int .i64 k ∧ Hid (rEnd (mayN 2) l i = rEnd (mayN 2) l k) ∧ Hid (Below w1.heap.size w1 wr))
            (fun vk _ => l.length - (intOf vk).toNat)
          case atStart => exact ⟨i, Nat.le_refl _, by omega, rfl, Lib.hid rfl, Lib.hid (Below.refl _ _)⟩
          case round =>
            obtain ⟨k, hik, hk, rfl, hre, hbk⟩ := hrel
            have HRE := Aside0.mk hre.out
            have HBK := Aside0.mk (below_step HB1.out hbk.out)
            have HRK := Aside0.mk (Kd.R_below HR1.out hbk.out)
            have HBR := Aside0.mk hbk.out
            clear hre hbk
            by_cases hkl : k < l.length
            · have hCk := Kd.C_below HC.out HBK.out
              obtain ⟨ad', hA', ckk⟩ := Kd.at_int hCk (k : Int) (by omega) (by omega)
              injection hA' with hA'
              subst hA'
              rw [rd_get l k hkl, Int.toNat_natCast] at ckk
              have i1 : (k : Int) < (l.length : Int) := by omega
              have i2 : (0 : Int) ≤ (k : Int) := by omega
              have w1k : IntKind.i64.wrap ((k : Int) + 1) = (k : Int) + 1 := wrap_small _ (by omega) (by omega)
              have hmy := HMC.out l[k]
              have HNO := Aside0.mk (fun h => rEnd_no (mayN 2) l k hkl h)
              have HYE := Aside0.mk (fun h => rEnd_yes (mayN 2) l k hkl h)
              generalize l[k] = y at ckk hmy HNO HYE
              obtain ⟨My, hMy⟩ : ∃ My, My = mayN 2 y := ⟨_, rfl⟩
              rw [← hMy] at hmy HNO HYE
              clear hCk hMy
              cases My
              · go_wp2_with (first
                  | (go_at_call 89; refine (hmy _).mono ?_; clear hmy; rintro e w3 ⟨rfl, hb3⟩; have HB3 := Aside0.mk (below_step HBK.out hb3); have HR3 := Aside0.mk (Kd.R_below HRK.out hb3); obtain ⟨A5, c5, rfl⟩ := Kd.R_slice HR3.out)
                  | ((with_reducible refine gate_builtin (b := .append) (xs := #[.tmp 48, .tmp 52]) rfl ?_); at_builtin; refine Kd.R_append kp (w0 := w) w.heap.size rfl (.tmp 48) (.tmp 52) 96 97 (.agg #[(.int .i64 0), (.int .i64 0)]) 16 rfl Tryd.underlying96 info97 rfl (by decide) (by omega) (.slice A5 ds.length c5) ds ((i, k) : Nat × Nat) [.int .i64 (i : Int), .int .i64 ((k : Nat) : Int)] (fun _ => True) (fun _ => False) (by rfl) (by rfl) (kp_mkM _ _ _ _) (fun _ h => h.elim) (fun _ _ => trivial) HR3.out HB3.out HB3.out.size (by omega) ?_; intro v4 w4 ho4 hb4 hg4 hat4; have HO4 := Aside0.mk ho4; have HB4 := Aside0.mk hb4; clear ho4 hb4 hg4 hat4))
                have hke : rEnd (mayN 2) l i = k := by rw [HRE.out, HNO.out (by trivial)]
                have hk1 := HK1.out
                rw [hke] at hk1
                have he := HE.out
                rw [hke] at he
                exact ⟨⟨k, ds ++ [(i, k)], hk, by simp; omega, by go_num, Lib.hid (by rw [HRR.out, he]; simp), Lib.hid HO4.out, Lib.hid HB4.out⟩, by simp [intOf]; omega⟩
              · go_wp2_with (go_at_call 89; refine (hmy _).mono ?_; clear hmy; rintro e w3 ⟨rfl, hb3⟩; have HB3 := Aside0.mk (below_step HBR.out hb3))
                exact ⟨⟨k + 1, by omega, by omega, by go_num, Lib.hid (by rw [HRE.out, HYE.out (by trivial)]), Lib.hid HB3.out⟩, by simp [intOf]; omega⟩
            · obtain rfl : k = l.length := by omega
              have hke : rEnd (mayN 2) l i = l.length := by rw [HRE.out, rEnd_stop _ _ _ (Nat.le_refl _)]
              have hk1 := HK1.out
              rw [hke] at hk1
              have he := HE.out
              rw [hke] at he
              have HE2 := Aside0.mk he
              clear he hke
              obtain ⟨A5, c5, rfl⟩ := Kd.R_slice HRK.out
              go_wp2_with ((with_reducible refine gate_builtin (b := .append) (xs := #[.tmp 48, .tmp 52]) rfl ?_); at_builtin; refine Kd.R_append kp (w0 := w) w.heap.size rfl (.tmp 48) (.tmp 52) 96 97 (.agg #[(.int .i64 0), (.int .i64 0)]) 16 rfl Tryd.underlying96 info97 rfl (by decide) (by omega) (.slice A5 ds.length c5) ds ((i, l.length) : Nat × Nat) [.int .i64 (i : Int), .int .i64 ((l.length : Nat) : Int)] (fun _ => True) (fun _ => False) (by rfl) (by rfl) (kp_mkM _ _ _ _) (fun _ h => h.elim) (fun _ _ => trivial) HRK.out HBK.out HBK.out.size (by omega) ?_; intro v4 w4 ho4 hb4 hg4 hat4; have HO4 := Aside0.mk ho4; have HB4 := Aside0.mk hb4; clear ho4 hb4 hg4 hat4)
              exact ⟨⟨l.length, ds ++ [(i, l.length)], Nat.le_refl _, by simp; omega, by go_num, Lib.hid (by rw [HRR.out, HE2.out]; simp), Lib.hid HO4.out, Lib.hid HB4.out⟩, by simp [intOf]; omega⟩
      · have d2 : decide (n = 2) = false := decide_eq_false h2
        rw [d2] at HSK
        cases M
        · have HE := Aside0.mk (HX.out (by rw [HSK.out]; rfl))
          go_wp2_with (first
            | (go_at_call 89; refine (hmx _).mono ?_; clear hmx; rintro e w1 ⟨rfl, hb1⟩; have HB1 := Aside0.mk (below_step HB.out hb1); have ck1 := pw_cell_below hb1 ck; have HR1 := Aside0.mk (Kd.R_below HR.out hb1))
            | (go_at_call 90; refine (hwx _).mono ?_; clear hwx; rintro e w2 ⟨rfl, hb2⟩; have HB2 := Aside0.mk (below_step HB1.out hb2); have HR2 := Aside0.mk (Kd.R_below HR1.out hb2)))
          exact ⟨⟨i + 1, ds, by omega, by omega, by go_num, Lib.hid (by rw [HRR.out, HE.out]), Lib.hid HR1.out, Lib.hid HB1.out⟩, by simp [intOf]; omega⟩
        · cases Wd
          · have HE := Aside0.mk (HX.out (by rw [HSK.out]; rfl))
            go_wp2_with (first
            | (go_at_call 89; refine (hmx _).mono ?_; clear hmx; rintro e w1 ⟨rfl, hb1⟩; have HB1 := Aside0.mk (below_step HB.out hb1); have ck1 := pw_cell_below hb1 ck; have HR1 := Aside0.mk (Kd.R_below HR.out hb1))
            | (go_at_call 90; refine (hwx _).mono ?_; clear hwx; rintro e w2 ⟨rfl, hb2⟩; have HB2 := Aside0.mk (below_step HB1.out hb2); have HR2 := Aside0.mk (Kd.R_below HR1.out hb2)))
            exact ⟨⟨i + 1, ds, by omega, by omega, by go_num, Lib.hid (by rw [HRR.out, HE.out]), Lib.hid HR2.out, Lib.hid HB2.out⟩, by simp [intOf]; omega⟩
          · have HZ9 := Aside0.mk h2
            go_wp2_with (first
              | (go_at_call 89; refine (hmx _).mono ?_; clear hmx; rintro e w1 ⟨rfl, hb1⟩; have HB1 := Aside0.mk (below_step HB.out hb1); have ck1 := pw_cell_below hb1 ck; have HR1 := Aside0.mk (Kd.R_below HR.out hb1))
              | (go_at_call 90; refine (hwx _).mono ?_; clear hwx; rintro e w2 ⟨rfl, hb2⟩; have HB2 := Aside0.mk (below_step HB1.out hb2); have HR2 := Aside0.mk (Kd.R_below HR1.out hb2)))
            have HE := Aside0.mk (HY.out (by rw [HSK.out]; rfl))
            have HK1 := Aside0.mk (show i + 1 ≤ rEnd (mayN n) l i by rw [rEnd_yes _ l i hlt (by rw [← HXE.out, ← HMM.out])]; exact (rEnd_le _ l (i + 1) (by omega)).1)
            go_loopw [7] (fun vk wr => ∃ k : Nat, i ≤ k ∧ k ≤ l.length ∧ vk = .int .i64 k ∧ Hid (rEnd (mayN n) l i = rEnd (mayN n) l k) ∧ Hid (Below w2.heap.size w2 wr))
              (fun vk _ => l.length - (intOf vk).toNat)
            case atStart => exact ⟨i, Nat.le_refl _, by omega, rfl, Lib.hid rfl, Lib.hid (Below.refl _ _)⟩
            case round =>
              obtain ⟨k, hik, hk, rfl, hre, hbk⟩ := hrel
              have HRE := Aside0.mk hre.out
              have HBK := Aside0.mk (below_step HB2.out hbk.out)
              have HRK := Aside0.mk (Kd.R_below HR2.out hbk.out)
              have HBR := Aside0.mk hbk.out
              clear hre hbk
              by_cases hkl : k < l.length
              · have hCk := Kd.C_below HC.out HBK.out
                obtain ⟨ad', hA', ckk⟩ := Kd.at_int hCk (k : Int) (by omega) (by omega)
                injection hA' with hA'
                subst hA'
                rw [rd_get l k hkl, Int.toNat_natCast] at ckk
                have i1 : (k : Int) < (l.length : Int) := by omega
                have i2 : (0 : Int) ≤ (k : Int) := by omega
                have w1k : IntKind.i64.wrap ((k : Int) + 1) = (k : Int) + 1 := wrap_small _ (by omega) (by omega)
                have hmy := HMC.out l[k]
                have HNO := Aside0.mk (fun h => rEnd_no (mayN n) l k hkl h)
                have HYE := Aside0.mk (fun h => rEnd_yes (mayN n) l k hkl h)
                generalize l[k] = y at ckk hmy HNO HYE
                obtain ⟨My, hMy⟩ : ∃ My, My = mayN n y := ⟨_, rfl⟩
                rw [← hMy] at hmy HNO HYE
                clear hCk hMy
                cases My
                · go_wp2_with (first
                    | (go_at_call 89; refine (hmy _).mono ?_; clear hmy; rintro e w3 ⟨rfl, hb3⟩; have HB3 := Aside0.mk (below_step HBK.out hb3); have HR3 := Aside0.mk (Kd.R_below HRK.out hb3); obtain ⟨A5, c5, rfl⟩ := Kd.R_slice HR3.out)
                    | ((with_reducible refine gate_builtin (b := .append) (xs := #[.tmp 48, .tmp 52]) rfl ?_); at_builtin; refine Kd.R_append kp (w0 := w) w.heap.size rfl (.tmp 48) (.tmp 52) 96 97 (.agg #[(.int .i64 0), (.int .i64 0)]) 16 rfl Tryd.underlying96 info97 rfl (by decide) (by omega) (.slice A5 ds.length c5) ds ((i, k) : Nat × Nat) [.int .i64 (i : Int), .int .i64 ((k : Nat) : Int)] (fun _ => True) (fun _ => False) (by rfl) (by rfl) (kp_mkM _ _ _ _) (fun _ h => h.elim) (fun _ _ => trivial) HR3.out HB3.out HB3.out.size (by omega) ?_; intro v4 w4 ho4 hb4 hg4 hat4; have HO4 := Aside0.mk ho4; have HB4 := Aside0.mk hb4; clear ho4 hb4 hg4 hat4))
                  have hke : rEnd (mayN n) l i = k := by rw [HRE.out, HNO.out (by trivial)]
                  have hk1 := HK1.out
                  rw [hke] at hk1
                  have he := HE.out
                  rw [hke] at he
                  exact ⟨⟨k, ds ++ [(i, k)], hk, by simp; omega, by go_num, Lib.hid (by rw [HRR.out, he]; simp), Lib.hid HO4.out, Lib.hid HB4.out⟩, by simp [intOf]; omega⟩
                · go_wp2_with (go_at_call 89; refine (hmy _).mono ?_; clear hmy; rintro e w3 ⟨rfl, hb3⟩; have HB3 := Aside0.mk (below_step HBR.out hb3))
                  exact ⟨⟨k + 1, by omega, by omega, by go_num, Lib.hid (by rw [HRE.out, HYE.out (by trivial)]), Lib.hid HB3.out⟩, by simp [intOf]; omega⟩
              · obtain rfl : k = l.length := by omega
                have hke : rEnd (mayN n) l i = l.length := by rw [HRE.out, rEnd_stop _ _ _ (Nat.le_refl _)]
                have hk1 := HK1.out
                rw [hke] at hk1
                have he := HE.out
                rw [hke] at he
                have HE2 := Aside0.mk he
                clear he hke
                obtain ⟨A5, c5, rfl⟩ := Kd.R_slice HRK.out
                go_wp2_with ((with_reducible refine gate_builtin (b := .append) (xs := #[.tmp 48, .tmp 52]) rfl ?_); at_builtin; refine Kd.R_append kp (w0 := w) w.heap.size rfl (.tmp 48) (.tmp 52) 96 97 (.agg #[(.int .i64 0), (.int .i64 0)]) 16 rfl Tryd.underlying96 info97 rfl (by decide) (by omega) (.slice A5 ds.length c5) ds ((i, l.length) : Nat × Nat) [.int .i64 (i : Int), .int .i64 ((l.length : Nat) : Int)] (fun _ => True) (fun _ => False) (by rfl) (by rfl) (kp_mkM _ _ _ _) (fun _ h => h.elim) (fun _ _ => trivial) HRK.out HBK.out HBK.out.size (by omega) ?_; intro v4 w4 ho4 hb4 hg4 hat4; have HO4 := Aside0.mk ho4; have HB4 := Aside0.mk hb4; clear ho4 hb4 hg4 hat4)
                exact ⟨⟨l.length, ds ++ [(i, l.length)], Nat.le_refl _, by simp; omega, by go_num, Lib.hid (by rw [HRR.out, HE2.out]; simp), Lib.hid HO4.out, Lib.hid HB4.out⟩, by simp [intOf]; omega⟩
    · obtain rfl : i = l.length := by omega
      have hdone : rrN n l = ds := by rw [HRR.out, rr_stop _ _ _ _ (Nat.le_refl _), List.append_nil]
      obtain ⟨Ai, ci, rfl⟩ := Kd.R_slice HR.out
      go_wp2
      go_ret
      exact ⟨⟨_, rfl, by rw [hdone]; exact HR.out⟩, HB.out⟩
end Go.Proofs.YtgbphkckiekehaaDoor.Ana

set_option linter.unusedVariables false
set_option linter.unusedSimpArgs false
namespace Go.Proofs.YtgbphkckiekehaaDoor.Ana
open Go.RowKit Go.Shelf Go.Proofs.YtgbphkckiekehaaDoor.QRef Go.Proofs.YtgbphkckiekehaaDoorW.PrintWords Go.Proofs.YtgbphkckiekehaaDoorW.PrintLast Go.Proofs.FoldPlain Go.Proofs.FoldText Go.Proofs.YtgbphkckiekehaaDoor.FoldRef Go.Proofs.YtgbphkckiekehaaDoor.FoldW Go.Proofs.YtgbphkckiekehaaDoor.FoldF Go.Proofs.YtgbphkckiekehaaDoor.FoldP

theorem kp_open {w : World} {c : Nat × Nat} {cs : List Value} (h : kp.K w c cs) : cs = [.int .i64 c.1, .int .i64 c.2] := by
  obtain ⟨c0, c1, rfl, h0, h1⟩ := h
  have e0 : c0 = [.int .i64 (c.1 : Int)] := h0
  have e1 : c1 = [.int .i64 (c.2 : Int)] := h1
  rw [e0, e1]; rfl
theorem at_kp {w : World} {A : Option Addr} {n : Nat} {xs : List (Nat × Nat)} (h : Kd.C kp w A n xs) (i : Nat) (h1 : i < n) : ∃ ad, A = some ad ∧ w.cell? (ad.add (i * 2)) = some (.int .i64 ((xs.getD i (0, 0)).1 : Nat)) ∧ w.cell? ⟨(ad.add (i * 2)).block, (ad.add (i * 2)).off + 1, none⟩ = some (.int .i64 ((xs.getD i (0, 0)).2 : Nat)) := by
  obtain ⟨ad, c, e, _, hK, hc0⟩ := Kd.C_get h (0, 0) (i : Int) (by omega) (by omega)
  have hc : ∀ j u, c[j]? = some u → w.cell? (ad.add (i * 2 + j)) = some u := hc0
  obtain rfl := kp_open hK
  exact ⟨ad, e, hc 0 _ rfl, by rw [← add_field _ _ 1 (by omega)]; exact hc 1 _ rfl⟩
theorem kp_mkI (w : World) (base : Nat) (ok : Nat → Prop) (x y : Nat) (u v : Int) (hu : u = (x : Int)) (hv : v = (y : Int)) : kp.M w base ok (x, y) [.int .i64 u, .int .i64 v] := by subst hu hv; exact kp_mkM _ _ _ _
theorem below_drewN {base : Nat} {w W : World} (h : Below base w W) (m : Nat) : Below base w (W.drewN m) := ⟨h.os, h.tape, h.output, h.size, h.block⟩
theorem expand_len (c : Nat × Nat) (h : c.1 < c.2) : (expand c).length ≤ c.2 - c.1 := by
  rw [expand_eq c h, List.length_map, List.length_range]; omega
theorem expands_length (may begins : Int → Bool) (l : List Int) : ∀ (f i : Nat), i ≤ l.length → ((rrGo may begins l f i).flatMap expand).length ≤ l.length - i
  | 0, i, _ => by simp [rrGo]
  | f + 1, i, hi => by
    rw [rrGo]
    by_cases h : i < l.length
    · rw [dif_pos h]
      by_cases hm : may l[i] = true ∧ begins l[i] = true
      · rw [if_pos hm]
        have h1 := rEnd_yes may l i h hm.1
        have h2 := rEnd_le may l (i + 1) (by omega)
        have := expands_length may begins l f (rEnd may l i) (by omega)
        have he := expand_len (i, rEnd may l i) (by show i < rEnd may l i; omega)
        dsimp only at he
        rw [List.flatMap_cons, List.length_append]; omega
      · rw [if_neg hm]
        have := expands_length may begins l f (i + 1) (by omega)
        omega
    · rw [dif_neg h]; simp
theorem cutsD_length (n : Int) (l : List Int) : (cutsD n l).length ≤ l.length + 1 := by
  unfold cutsD
  split
  · split <;> simp
  · split
    · have := expands_length (mayN 1) (begN 1) l l.length 0 (Nat.zero_le _); unfold rrN rr; omega
    · have := rr_length (mayN n) (begN n) l l.length 0 (Nat.zero_le _); unfold rrN rr; omega

set_option maxRecDepth 100000 in
set_option maxHeartbeats 4000000 in
theorem refTok_c (n : Int) (hn : 1 ≤ n ∧ n ≤ 4) (s : ByteArray) (hs : s.size ≤ 1099511627776) (w : World) :
    Calls Tryd.prog 62 #[.int .i64 n, .string s] w fun e w' => (∃ v, e = .returned v ∧ TRow w' w.heap.size v (tokensD n s)) ∧ Below w.heap.size w w' := by
  rw [tokens_law n s hn]
  have hrc := refRunes_c s hs
  have hrl := runes_length s.data.toList
  rw [size_data] at hrl
  have hbn := fun i => placesD_bounds s.data.toList i
  simp only [size_data] at hbn
  have HBN := Aside0.mk hbn
  have HMO := Aside0.mk (fun i j => placesD_le s.data.toList i j)
  clear hbn
  have HPZ := Aside0.mk (show (placesZ (runes s.data.toList)).length ≤ s.size ∧ (runesZ (runes s.data.toList)).length ≤ s.size by rw [placesZ_len, runesZ_len]; omega)
  have hrz := show (runesZ (runes s.data.toList)).length + 1 = (placesD s.data.toList).length by rw [runesZ_len, placesD_len]
  have HPA := Aside0.mk (pz_places s)
  have HTO := Aside0.mk (show ∀ k c, tokOf s k c = ⟨s.extract ((placesD s.data.toList).getD c.1 0).toNat ((placesD s.data.toList).getD c.2 0).toNat, (k : Int), (placesD s.data.toList).getD c.1 0, (placesD s.data.toList).getD c.2 0⟩ from fun _ _ => rfl)
  clear hrl
  generalize placesZ (runes s.data.toList) = pz at hrc HPZ HPA
  generalize runesZ (runes s.data.toList) = rz at hrc HPZ hrz ⊢
  generalize placesD s.data.toList = p at hrz HPA HMO HBN HTO
  have hrs := HPZ.out.2
  have HCI := Aside0.mk (cutsD_in n rz)
  have HCL := Aside0.mk (cutsD_length n rz)
  have HRZ := Aside0.mk hrz
  clear hrz
  obtain ⟨cs, hcs⟩ : ∃ cs, cs = cutsD n rz := ⟨_, rfl⟩
  rw [← hcs] at HCI HCL ⊢
  have HCS := Aside0.mk hcs
  clear hcs
  go_enter Tryd.func62, Tryd.ntmps62
  go_upto_block 0 with (first
    | (go_at_call 19; refine (hrc _).mono ?_; clear hrc; rintro e w1 ⟨v0, v1, rfl, hr0, hr1, hb⟩; obtain ⟨A0, c0, rfl⟩ := Kd.R_slice hr0; obtain ⟨A1, c1, rfl⟩ := Kd.R_slice hr1; have HR0 := Aside0.mk hr0; have HR1 := Aside0.mk hr1; have HB1 := Aside0.mk hb; clear hr0 hr1 hb)
    | ((with_reducible refine gate_builtin (b := .append) (xs := #[.tmp 20, .tmp 23]) rfl ?_); at_builtin; refine Kd.R_append (Kd.int .i64) (w0 := w) w.heap.size rfl (.tmp 20) (.tmp 23) 25 3 (.int .i64 0) 8 rfl Tryd.underlying25 infoI rfl (by decide) (by omega) (.slice A0 pz.length c0) pz ((s.size : Nat) : Int) [.int .i64 s.size] (fun _ => True) (fun _ => False) (by rfl) (by rfl) rfl (fun _ h => h.elim) (fun _ _ => trivial) HR0.out HB1.out HB1.out.size (by have := HPZ.out.1; omega) ?_; intro v2 w2 ho2 hb2 hg2 hat2; have HB2 := Aside0.mk hb2; have HRL := Aside0.mk (row_apart HR1.out rfl HR0.out (by decide) hg2); rw [HPA.out] at ho2; obtain ⟨Ap, cp, rfl⟩ := Kd.R_slice ho2; have HRP := Aside0.mk ho2; clear ho2 hb2 hg2 hat2))
  have HCP := Aside0.mk (Kd.R_reads' HRP.out).2.2
  have HCR := Aside0.mk (Kd.R_reads' HRL.out).2.2
  go_cut [7] (fun v wx => Hid (PRow wx w2.heap.size v cs) ∧ Hid (Below w2.heap.size w2 wx))
  case first =>
    by_cases h3 : n = 3
    · subst h3
      have hcs := HCS.out
      by_cases h0 : 0 < rz.length
      · have HE := Aside0.mk (show cs = [(0, rz.length)] by rw [hcs]; unfold cutsD; rw [if_pos rfl, if_pos h0])
        have h0i : (0 : Int) < (rz.length : Int) := by omega
        clear hcs
        go_wp2_with (((with_reducible refine gate_builtin (b := .append) (xs := #[.tmp 34, .tmp 38]) rfl ?_); at_builtin; refine Kd.R_append kp (w0 := w2) w2.heap.size rfl (.tmp 34) (.tmp 38) 96 97 (.agg #[(.int .i64 0), (.int .i64 0)]) 16 rfl Tryd.underlying96 info97 rfl (by decide) (by omega) (.slice none 0 0) [] ((0, rz.length) : Nat × Nat) [.int .i64 ((0 : Nat) : Int), .int .i64 ((rz.length : Nat) : Int)] (fun _ => True) (fun _ => False) (by rfl) (by rfl) (kp_mkM _ _ _ _) (fun _ h => h.elim) (fun _ _ => trivial) (Kd.R_nil _ _ _ _ _) (Below.refl _ _) (Nat.le_refl _) (by simp) ?_; intro v4 w4 ho4 hb4 hg4 hat4; have HO4 := Aside0.mk ho4; have HB4 := Aside0.mk hb4; clear ho4 hb4 hg4 hat4))
        go_meet
        exact ⟨Lib.hid (by rw [HE.out]; exact HO4.out), Lib.hid HB4.out⟩
      · have HE := Aside0.mk (show cs = [] by rw [hcs]; unfold cutsD; rw [if_pos rfl, if_neg h0])
        have h0i : ¬ (0 : Int) < (rz.length : Int) := by omega
        clear hcs
        go_wp2
        go_meet
        exact ⟨Lib.hid (by rw [HE.out]; exact Kd.R_nil _ _ _ _ _), Lib.hid (Below.refl _ _)⟩
    by_cases h4 : n = 4
    · subst h4
      have hru := refRuns_w 1 rz (by omega) A1 c1 w2 HCR.out
      obtain ⟨al, hal⟩ : ∃ al, al = rrN 1 rz := ⟨_, rfl⟩
      have HALL := Aside0.mk (show cs = al.flatMap expand by rw [HCS.out, hal]; rfl)
      have HAI := Aside0.mk (show ∀ c ∈ al, c.1 < c.2 ∧ c.2 ≤ rz.length by intro c hc; rw [hal] at hc; exact (rr_in (mayN 1) (begN 1) rz 0 (Nat.zero_le _) c hc).2)
      have hall := show al.length ≤ rz.length by rw [hal]; have := rr_length (mayN 1) (begN 1) rz rz.length 0 (Nat.zero_le _); unfold rrN rr; omega
      rw [← hal] at hru
      have hcl := HCL.out
      clear hal
      go_wp2_with (go_at_call 82; refine hru.mono ?_; clear hru; rintro e w4 ⟨⟨v4, rfl, ho4⟩, hb4⟩; have HO4 := Aside0.mk ho4; have HB4 := Aside0.mk hb4; clear ho4 hb4)
      obtain ⟨A8, c8, rfl, hc8, hC8⟩ := Kd.R_reads HO4.out
      have HC8 := Aside0.mk hC8
      clear hC8
      go_loopw [7, 9] (fun v vi wr => ∃ i : Nat, i ≤ al.length ∧ vi = .int .i64 i ∧ Hid (PRow wr w4.heap.size v ((al.take i).flatMap expand)) ∧ Hid (Below w4.heap.size w4 wr))
        (fun _ vi _ => al.length - (intOf vi).toNat)
      case atStart => exact ⟨0, Nat.zero_le _, rfl, Lib.hid (Kd.R_nil _ _ _ _ _), Lib.hid (Below.refl _ _)⟩
      case round =>
        obtain ⟨i, hi, rfl, hRi, hBi⟩ := hrel
        have HRi := Aside0.mk hRi.out
        have HBi := Aside0.mk hBi.out
        clear hRi hBi
        obtain ⟨Ai, ci, rfl⟩ := Kd.R_slice HRi.out
        by_cases hil : i < al.length
        · have hCk := Kd.C_below HC8.out HBi.out
          obtain ⟨ad, rfl, k1, k2⟩ := at_kp hCk i hil
          have hcx := HAI.out (al.getD i (0, 0)) (by simp [List.getD_eq_getElem?_getD, hil])
          have hsn : (al.take (i + 1)).flatMap expand = (al.take i).flatMap expand ++ expand (al.getD i (0, 0)) := by
            rw [show al.getD i (0, 0) = al[i] by simp [List.getD_eq_getElem?_getD, hil], List.take_succ_eq_append_getElem hil, List.flatMap_append, List.flatMap_cons, List.flatMap_nil, List.append_nil]
          have hbd : ((al.take (i + 1)).flatMap expand).length ≤ cs.length := by
            have := congrArg (fun x => (x.flatMap expand).length) (List.take_append_drop (i + 1) al)
            simp only [List.flatMap_append, List.length_append] at this
            rw [HALL.out]; omega
          rw [hsn, List.length_append] at hbd
          have HSN := Aside0.mk hsn
          have HC8W := Aside0.mk (fun W (h : Below w4.heap.size w4 W) => show W.cell? (ad.add (i * 2)) = some (.int .i64 ((al.getD i (0, 0)).1 : Nat)) ∧ W.cell? ⟨(ad.add (i * 2)).block, (ad.add (i * 2)).off + 1, none⟩ = some (.int .i64 ((al.getD i (0, 0)).2 : Nat)) by
            obtain ⟨ad', had', q1, q2⟩ := at_kp (Kd.C_below HC8.out h) i hil
            injection had' with had'; subst had'; exact ⟨q1, q2⟩)
          generalize (al.take i).flatMap expand = pre at HRi hbd HSN
          generalize al.getD i (0, 0) = c at k1 k2 hcx HSN hbd HC8W
          obtain ⟨a, b⟩ := c
          dsimp only at k1 k2 hcx hbd
          have hxl := expand_len (a, b) hcx.1
          dsimp only at hxl
          have i1 : (i : Int) < (al.length : Int) := by omega
          have i2 : (0 : Int) ≤ (i : Int) := by omega
          have w1i : IntKind.i64.wrap ((i : Int) + 1) = (i : Int) + 1 := wrap_small _ (by omega) (by omega)
          have w1a : IntKind.i64.wrap ((a : Int) + 1) = (a : Int) + 1 := wrap_small _ (by omega) (by omega)
          clear hsn hCk
          by_cases hab : b = a + 1
          · subst hab
            have HEX := Aside0.mk (show expand (a, a + 1) = [(a, a + 1)] by unfold expand; simp)
            have k2' : wr.cell? ⟨(ad.add (i * 2)).block, (ad.add (i * 2)).off + 1, none⟩ = some (.int .i64 ((a : Int) + 1)) := by rw [k2]; simp
            have HCA := Aside0.mk (show ∀ W, Below w4.heap.size w4 W → W.cell? (ad.add (i * 2)) = some (.int .i64 (a : Int)) ∧ W.cell? ⟨(ad.add (i * 2)).block, (ad.add (i * 2)).off + 1, none⟩ = some (.int .i64 ((a : Int) + 1)) from fun W h => ⟨(HC8W.out W h).1, by rw [(HC8W.out W h).2]; simp⟩)
            have hpl : pre.length + 1 ≤ cs.length := by rw [HEX.out] at hbd; simpa using hbd
            have HRD := Aside0.mk (show ∀ m, PRow (wr.drewN m) w4.heap.size (.slice Ai pre.length ci) pre from fun m => HRi.out)
            have HBD := Aside0.mk (fun m => below_drewN HBi.out m)
            have dab : decide ((a : Int) + 1 = (a : Int) + 1) = true := decide_eq_true rfl
            clear hbd hxl k2
            go_wp2
            refine wp_normal ?_
            go_quiet (fail)
            go_wp2_with (first | ((with_reducible refine gate_builtin (b := .append) (xs := #[.tmp 62, .tmp 67]) rfl ?_); at_builtin; refine Kd.R_append kp (w0 := w4) w4.heap.size rfl (.tmp 62) (.tmp 67) 96 97 (.agg #[(.int .i64 0), (.int .i64 0)]) 16 rfl Tryd.underlying96 info97 rfl (by decide) (by omega) (.slice Ai pre.length ci) pre ((a, a + 1) : Nat × Nat) [.int .i64 (a : Int), .int .i64 ((a : Int) + 1)] (fun _ => True) (fun _ => False) (by rfl) (by rfl) (kp_mkI _ _ _ _ _ _ _ rfl (by omega)) (fun _ h => h.elim) (fun _ _ => trivial) (HRD.out _) (HBD.out _) HBi.out.size (by omega) ?_; intro v6 w6 ho6 hb6 hg6 hat6; obtain ⟨q1, q2⟩ := HCA.out w6 hb6; have HO6 := Aside0.mk ho6; have HB6 := Aside0.mk hb6; clear ho6 hb6 hg6 hat6 k1 k2'))
            clear q1 q2
            go_loopw [7, 10] (fun v vk wr => vk = .int .i64 a ∧ Hid (PRow wr w4.heap.size v (pre ++ [(a, a + 1)])) ∧ Hid (Below w4.heap.size w4 wr))
              (fun _ _ _ => 0)
            case atStart => exact ⟨rfl, Lib.hid HO6.out, Lib.hid HB6.out⟩
            case round =>
              obtain ⟨rfl, hR9, hB9⟩ := hrel
              have HO9 := Aside0.mk hR9.out
              have HB9 := Aside0.mk hB9.out
              clear hR9 hB9
              obtain ⟨q1, q2⟩ := HCA.out wr HB9.out
              have w2a : IntKind.i64.wrap ((a : Int) + 2) = (a : Int) + 2 := wrap_small _ (by omega) (by omega)
              have j1 : ¬ (a : Int) + 2 ≤ (a : Int) + 1 := by omega
              go_wp2
              exact ⟨⟨i + 1, by omega, by go_num, Lib.hid (by rw [HSN.out, HEX.out]; exact HO9.out), Lib.hid HB9.out⟩, by simp [intOf]; omega⟩
          · have HEX := Aside0.mk (show expand (a, b) = (List.range (b - 1 - a)).map fun j => (a + j, a + j + 2) by unfold expand; rw [if_neg hab, List.nil_append])
            have hdab : ¬ (b : Int) = (a : Int) + 1 := by omega
            have dab : decide ((b : Int) = (a : Int) + 1) = false := decide_eq_false hdab
            have bab : ((b : Int) == (a : Int) + 1) = false := beq_false_of_ne hdab
            have hpl : pre.length + (b - 1 - a) ≤ cs.length := by rw [HEX.out, List.length_map, List.length_range] at hbd; omega
            have HRD := Aside0.mk (show ∀ m, PRow (wr.drewN m) w4.heap.size (.slice Ai pre.length ci) pre from fun m => HRi.out)
            have HBD := Aside0.mk (fun m => below_drewN HBi.out m)
            have HAB := Aside0.mk hab
            clear hbd hxl hab
            go_wp2
            refine wp_normal ?_
            go_quiet (fail)
            go_wp2
            go_loopw [7, 10] (fun v vk wr => ∃ j : Nat, j ≤ b - 1 - a ∧ vk = .int .i64 ((a : Int) + (j : Int)) ∧ Hid (PRow wr w4.heap.size v (pre ++ (List.range j).map fun j => (a + j, a + j + 2))) ∧ Hid (Below w4.heap.size w4 wr))
              (fun _ vk _ => b - (intOf vk).toNat)
            case atStart => exact ⟨0, Nat.zero_le _, by go_num, Lib.hid (by simpa using HRD.out _), Lib.hid (HBD.out _)⟩
            case round =>
              obtain ⟨j, hj, rfl, hR9, hB9⟩ := hrel
              have HO9 := Aside0.mk hR9.out
              have HB9 := Aside0.mk hB9.out
              clear hR9 hB9
              obtain ⟨A9, c9, rfl⟩ := Kd.R_slice HO9.out
              have HL9 := Aside0.mk (show (pre ++ (List.range j).map fun j => (a + j, a + j + 2)).length = pre.length + j by simp)
              have ho9 := HO9.out
              rw [HL9.out] at ho9 ⊢
              have HO9 := Aside0.mk ho9
              clear ho9
              obtain ⟨q1, q2⟩ := HC8W.out wr HB9.out
              have w2a : IntKind.i64.wrap ((a : Int) + (j : Int) + 2) = (a : Int) + (j : Int) + 2 := wrap_small _ (by omega) (by omega)
              have w3a : IntKind.i64.wrap ((a : Int) + (j : Int) + 1) = (a : Int) + (j : Int) + 1 := wrap_small _ (by omega) (by omega)
              by_cases hjl : j < b - 1 - a
              · have j1 : (a : Int) + (j : Int) + 2 ≤ (b : Int) := by omega
                have HSJ := Aside0.mk (show pre ++ (List.range (j + 1)).map (fun j => (a + j, a + j + 2)) = (pre ++ (List.range j).map fun j => (a + j, a + j + 2)) ++ [(a + j, a + j + 2)] by rw [List.range_succ, List.map_append, List.append_assoc]; rfl)
                go_wp2_with (first | ((with_reducible refine gate_builtin (b := .append) (xs := #[.tmp 84, .tmp 89]) rfl ?_); at_builtin; refine Kd.R_append kp (w0 := w4) w4.heap.size rfl (.tmp 84) (.tmp 89) 96 97 (.agg #[(.int .i64 0), (.int .i64 0)]) 16 rfl Tryd.underlying96 info97 rfl (by decide) (by omega) (.slice A9 (pre.length + j) c9) (pre ++ (List.range j).map fun j => (a + j, a + j + 2)) ((a + j, a + j + 2) : Nat × Nat) [.int .i64 ((a : Int) + (j : Int)), .int .i64 ((a : Int) + (j : Int) + 2)] (fun _ => True) (fun _ => False) (by rfl) (by rfl) (kp_mkI _ _ _ _ _ _ _ (by omega) (by omega)) (fun _ h => h.elim) (fun _ _ => trivial) HO9.out HB9.out HB9.out.size (by rw [HL9.out]; omega) ?_; intro v6 w6 ho6 hb6 hg6 hat6; have HO6 := Aside0.mk ho6; have HB6 := Aside0.mk hb6; clear ho6 hb6 hg6 hat6))
                go_roundw
                case rel => exact ⟨j + 1, by omega, by go_num, Lib.hid (by rw [HSJ.out]; exact HO6.out), Lib.hid HB6.out⟩
                case measure => simp [intOf]; omega
              · obtain rfl : j = b - 1 - a := by omega
                have j1 : ¬ (a : Int) + ((b - 1 - a : Nat) : Int) + 2 ≤ (b : Int) := by omega
                go_wp2
                exact ⟨⟨i + 1, by omega, by go_num, Lib.hid (by rw [HSN.out, HEX.out]; exact HO9.out), Lib.hid HB9.out⟩, by simp [intOf]; omega⟩
        · obtain rfl : i = al.length := by omega
          go_wp2
          go_meet
          refine ⟨Lib.hid ?_, Lib.hid (below_step HB4.out HBi.out)⟩
          have := HRi.out
          rw [List.take_length, ← HALL.out] at this ⊢
          exact Kd.R_lower this HB4.out.size
    · have HE := Aside0.mk (show cs = rrN n rz by rw [HCS.out]; unfold cutsD; rw [if_neg h3, if_neg h4])
      have hru := refRuns_w n rz (by omega) A1 c1 w2 HCR.out
      go_wp2_with (go_at_call 82; refine hru.mono ?_; clear hru; rintro e w4 ⟨⟨v4, rfl, ho4⟩, hb4⟩; have HO4 := Aside0.mk ho4; have HB4 := Aside0.mk hb4; clear ho4 hb4)
      go_meet
      exact ⟨Lib.hid (by rw [HE.out]; exact HO4.out), Lib.hid HB4.out⟩
  case rest =>
    obtain ⟨hrow, hbx⟩ := hcut
    have HRW := Aside0.mk hrow.out
    have HBX := Aside0.mk hbx.out
    clear hrow hbx
    obtain ⟨wx, rfl⟩ : ∃ wx : World, wx = wc := ⟨_, rfl⟩
    have HCW := Aside0.mk (Kd.R_reads HRW.out)
    obtain ⟨A7, c7, rfl, hc7, hC7⟩ := HCW.out
    have HC7 := Aside0.mk hC7
    clear HCW hC7
    have hcl := HCL.out
    go_wp2
    go_loopw [11, 12] (fun v vi wr => ∃ i : Nat, i ≤ cs.length ∧ vi = .int .i64 i ∧ Hid (TRow wr wx.heap.size v (toksOf s 0 (cs.take i))) ∧ Hid (Below wx.heap.size wx wr))
      (fun _ vi _ => cs.length - (intOf vi).toNat)
    case atStart => exact ⟨0, Nat.zero_le _, rfl, Lib.hid (Kd.R_nil _ _ _ _ _), Lib.hid (Below.refl _ _)⟩
    case round =>
      obtain ⟨i, hi, rfl, hRi, hBi⟩ := hrel
      have HRi := Aside0.mk hRi.out
      have HBi := Aside0.mk hBi.out
      clear hRi hBi
      obtain ⟨Ai, ci, rfl⟩ := Kd.R_slice HRi.out
      have HLI := Aside0.mk (show (toksOf s 0 (cs.take i)).length = i by rw [toksOf_len, List.length_take]; omega)
      have hRi := HRi.out
      rw [HLI.out] at hRi ⊢
      have HRi := Aside0.mk hRi
      clear hRi
      by_cases hil : i < cs.length
      · have hCk := Kd.C_below HC7.out HBi.out
        obtain ⟨ad, rfl, k1, k2⟩ := at_kp hCk i hil
        have hbb := below_step HBX.out HBi.out
        have hcx := HCI.out (cs.getD i (0, 0)) (by simp [List.getD_eq_getElem?_getD, hil])
        have HSN := Aside0.mk (show toksOf s 0 (cs.take (i + 1)) = toksOf s 0 (cs.take i) ++ [tokOf s i (cs.getD i (0, 0))] by
          rw [List.take_succ_eq_append_getElem hil, toksOf_app]; simp [toksOf, List.getD_eq_getElem?_getD, hil, Nat.min_eq_left hi])
        have hto := HTO.out i (cs.getD i (0, 0))
        generalize cs.getD i (0, 0) = c at k1 k2 hcx HSN hto
        obtain ⟨a, b⟩ := c
        dsimp only at k1 k2 hcx hto
        have hCp := Kd.C_below HCP.out hbb
        have hp := HRZ.out
        obtain ⟨adp, rfl, ka⟩ := Kd.at_int hCp (a : Int) (by omega) (by omega)
        obtain ⟨adp', hadp, kb⟩ := Kd.at_int hCp (b : Int) (by omega) (by omega)
        injection hadp with hadp
        subst hadp
        rw [Int.toNat_natCast] at ka kb
        have z1 := HBN.out a
        have z2 := HBN.out b
        have z3 := HMO.out a b (by omega) (by omega)
        rw [show rd p (a : Int) = p.getD a 0 from rfl] at ka
        rw [show rd p (b : Int) = p.getD b 0 from rfl] at kb
        generalize p.getD a 0 = x at ka z1 z3 hto
        generalize p.getD b 0 = y at kb z2 z3 hto
        have HTK := Aside0.mk hto
        have HPL := Aside0.mk hp
        have i1 : (i : Int) < (cs.length : Int) := by omega
        have i2 : (0 : Int) ≤ (i : Int) := by omega
        have i3 : (a : Int) < (p.length : Int) := by omega
        have i4 : (0 : Int) ≤ (a : Int) := by omega
        have i5 : (b : Int) < (p.length : Int) := by omega
        have i6 : (0 : Int) ≤ (b : Int) := by omega
        have z4 := z1.1
        have z5 := z2.2
        have w1i : IntKind.i64.wrap ((i : Int) + 1) = (i : Int) + 1 := wrap_small _ (by omega) (by omega)
        clear hto hp hCk hCp hbb
        go_wp2_with (((with_reducible refine gate_builtin (b := .append) (xs := #[.tmp 113, .tmp 122]) rfl ?_); at_builtin; refine Kd.R_append k58 (w0 := wx) wx.heap.size rfl (.tmp 113) (.tmp 122) 42 58 (.agg #[(.string ⟨#[]⟩), (.int .i64 0), (.int .i64 0), (.int .i64 0)]) 40 rfl Tryd.underlying42 info58' rfl (by decide) (by omega) (.slice Ai i ci) (toksOf s 0 (cs.take i)) (⟨s.extract x.toNat y.toNat, (i : Int), x, y⟩ : S58) (cellsT1 ⟨s.extract x.toNat y.toNat, (i : Int), x, y⟩) (fun _ => True) (fun _ => False) (by rfl) (by rfl) (k58_mkM _ _ _ _) (fun _ h => h.elim) (fun _ _ => trivial) HRi.out HBi.out HBi.out.size (by rw [HLI.out]; omega) ?_; intro v4 w4 ho4 hb4 hg4 hat4; have HO4 := Aside0.mk ho4; have HB4 := Aside0.mk hb4; clear ho4 hb4 hg4 hat4))
        exact ⟨⟨i + 1, by omega, by go_num, Lib.hid (by rw [HSN.out, HTK.out]; exact HO4.out), Lib.hid HB4.out⟩, by simp [intOf]; omega⟩
      · obtain rfl : i = cs.length := by omega
        go_wp2
        go_ret
        refine ⟨⟨_, rfl, ?_⟩, ?_⟩
        · have := HRi.out
          rw [List.take_length] at this
          exact Kd.R_lower this (Nat.le_trans HB2.out.size HBX.out.size)
        · exact below_step HB2.out (below_step HBX.out HBi.out)
end Go.Proofs.YtgbphkckiekehaaDoor.Ana

set_option linter.unusedVariables false
set_option linter.unusedSimpArgs false
namespace Go.Proofs.YtgbphkckiekehaaDoor.Ana
open Go.RowKit Go.Shelf Go.Proofs.YtgbphkckiekehaaDoor.QRef Go.Proofs.YtgbphkckiekehaaDoorW.PrintWords Go.Proofs.YtgbphkckiekehaaDoorW.PrintLast Go.Proofs.FoldPlain Go.Proofs.FoldText Go.Proofs.YtgbphkckiekehaaDoor.FoldRef Go.Proofs.YtgbphkckiekehaaDoor.FoldW Go.Proofs.YtgbphkckiekehaaDoor.FoldF Go.Proofs.YtgbphkckiekehaaDoor.FoldP

def gX (xs : List Int) (m : Nat) : Bool := (filtF (xs.getD m 0)).isSome && !(xs.take m).contains (xs.getD m 0)
def gAllX (xs : List Int) : Nat → Nat → Bool
  | _, 0 => true
  | i, d + 1 => gX xs i && gAllX xs (i + 1) d
theorem gAllX_iff (xs : List Int) : ∀ (d i : Nat), gAllX xs i d = true ↔ ∀ m, i ≤ m → m < i + d → gX xs m = true
  | 0, i => by simp only [gAllX, true_iff]; intro m h1 h2; omega
  | d + 1, i => by
    rw [gAllX, Bool.and_eq_true, gAllX_iff xs d (i + 1)]
    constructor
    · intro ⟨a, b⟩ m h1 h2
      by_cases e : m = i
      · rw [e]; exact a
      · exact b m (by omega) (by omega)
    · intro h
      exact ⟨h i (Nat.le_refl _) (by omega), fun m h1 h2 => h m (by omega) (by omega)⟩
theorem chk_l1 (xs : List Int) (hn : xs.length ≤ 100) (i : Nat) (hi : i < xs.length) (R : Int) (F : Nat) (hnext : ∀ K, F ≤ K → lecternref06_Check.l0 K xs ((i + 1 : Nat) : Int) = some R) :
    ∀ (e j : Nat), j + e = i → ∀ K, F + e + 1 ≤ K → lecternref06_Check.l1 K xs (i : Int) (j : Int) = some (if ((xs.take i).drop j).contains xs[i] = true then 60 else R) := by
  intro e
  induction e with
  | zero =>
    intro j hj K hK
    obtain ⟨K, rfl⟩ : ∃ k, K = k + 1 := ⟨K - 1, by omega⟩
    rw [lecternref06_Check.l1, if_neg (by omega), w64' (by omega) (by omega), show ((i : Int) + 1) = ((i + 1 : Nat) : Int) by omega, hnext K (by omega), List.drop_eq_nil_of_le (by rw [List.length_take]; omega)]
    rfl
  | succ e ih =>
    intro j hj K hK
    obtain ⟨K, rfl⟩ : ∃ k, K = k + 1 := ⟨K - 1, by omega⟩
    have hjt : j < (xs.take i).length := by rw [List.length_take]; omega
    rw [lecternref06_Check.l1, if_pos (by omega), if_pos (by omega), if_pos (by omega), if_pos (by omega), if_pos (by omega), rd_get xs j (by omega), rd_get xs i hi, List.drop_eq_getElem_cons hjt, List.getElem_take, List.contains_cons]
    by_cases h : xs[j] = xs[i]
    · rw [if_pos h, h]; simp
    · rw [if_neg h, w64' (by omega) (by omega), show ((j : Int) + 1) = ((j + 1 : Nat) : Int) by omega, ih (j + 1) (by omega) K (by omega)]
      rw [show (xs[i] == xs[j]) = false from beq_false_of_ne (fun e => h e.symm), Bool.false_or]
theorem chk_l0 (xs : List Int) (hn : xs.length ≤ 100) : ∀ (d i : Nat), 1 ≤ i → i + d = xs.length → ∀ K, 120 * d + 1 ≤ K → lecternref06_Check.l0 K xs (i : Int) = some (if gAllX xs i d = true then 0 else 60) := by
  intro d
  induction d with
  | zero =>
    intro i h1 hi K hK
    obtain ⟨K, rfl⟩ : ∃ k, K = k + 1 := ⟨K - 1, by omega⟩
    rw [lecternref06_Check.l0, if_neg (by omega)]; rfl
  | succ d ih =>
    intro i h1 hi K hK
    obtain ⟨K, rfl⟩ : ∃ k, K = k + 1 + 1 := ⟨K - 2, by omega⟩
    have hlt : i < xs.length := by omega
    rw [lecternref06_Check.l0, if_pos (by omega), if_neg (by omega), if_pos (by omega), if_pos (by omega), filter_f, Option.bind_some, rd_get xs i hlt, lecternref06_Check.j2]
    have hg : xs.getD i 0 = xs[i] := by simp [List.getD_eq_getElem?_getD, hlt]
    rw [gAllX]
    unfold gX
    rw [hg]
    cases (filtF xs[i]).isSome
    · rfl
    · rw [if_neg (by decide), show (0 : Int) = ((0 : Nat) : Int) from rfl, chk_l1 xs hn i hlt _ (120 * d + 1) (fun K h => ih (i + 1) (by omega) (by omega) K h) i 0 (by omega) K (by omega), List.drop_zero]
      cases (xs.take i).contains xs[i] <;> simp
theorem goodR_X (h : Int) (r : List Int) (h4 : h ≤ 4) : gAllX (h :: r) 1 r.length = goodR r := by
  rw [Bool.eq_iff_iff, gAllX_iff, goodR_eq]
  have key : ∀ i, gX (h :: r) (i + 1) = goodAt r i := by
    intro i
    unfold gX goodAt
    rw [show (h :: r).getD (i + 1) 0 = r.getD i 0 from rfl, List.take_succ_cons, List.contains_cons]
    cases hf : filtF (r.getD i 0) with
    | none => rfl
    | some f =>
      have hne : (r.getD i 0 == h) = false := beq_false_of_ne (fun e => by
        rw [e] at hf
        unfold filtF at hf
        rw [if_neg (by omega), if_neg (by omega), if_neg (by omega), if_neg (by omega), if_neg (by omega), if_neg (by omega)] at hf
        cases hf)
      rw [hne, Bool.false_or]
  constructor
  · intro hh i hi; rw [← key]; exact hh (i + 1) (by omega) (by omega)
  · intro hh m h1 h2
    obtain ⟨m, rfl⟩ : ∃ k, m = k + 1 := ⟨m - 1, by omega⟩
    rw [key]; exact hh m (by omega)
theorem refCheck_f (xs : List Int) : lecternref06_Check.f 20000 xs = some (checkD xs) := by
  unfold lecternref06_Check.f checkD
  cases xs with
  | nil => rfl
  | cons h r =>
    rw [if_neg (by simp only [List.length_cons]; omega)]
    by_cases h8 : 8 < r.length + 1
    · rw [decide_eq_true (by simp only [List.length_cons]; omega)]
      show some (60 : Int) = some (if _ then _ else _)
      rw [if_pos (.inl h8)]
    · rw [decide_eq_false (by simp only [List.length_cons]; omega)]
      have e0 : lecternref06_Check.j0 20000 (h :: r) false = lecternref06_Check.l0 19999 (h :: r) 0 := by rw [lecternref06_Check.j0]; rfl
      rw [e0, lecternref06_Check.l0, if_pos (by simp only [List.length_cons]; omega), if_pos rfl, if_pos (by decide), show rd (h :: r) 0 = h from rfl]
      by_cases h1 : h < 1
      · rw [if_pos h1, lecternref06_Check.j2, if_pos rfl]
        show some (60 : Int) = some (if _ then _ else _)
        rw [if_pos (.inr (.inl h1))]
      · rw [if_neg h1]
        by_cases h4 : h > 4
        · rw [if_pos h4, lecternref06_Check.j2, if_pos rfl]
          show some (60 : Int) = some (if _ then _ else _)
          rw [if_pos (.inr (.inr h4))]
        · rw [if_neg h4, if_neg (by decide), lecternref06_Check.j2, if_neg (by decide), lecternref06_Check.l1, if_neg (by decide), w64' (by decide) (by decide), show ((0 : Int) + 1) = ((1 : Nat) : Int) from rfl,
            chk_l0 (h :: r) (by simp only [List.length_cons]; omega) r.length 1 (Nat.le_refl _) (by simp only [List.length_cons]; omega) _ (by omega), goodR_X h r (by omega)]
          show _ = some (if _ then _ else _)
          rw [if_neg (show ¬ (8 < r.length + 1 ∨ h < 1 ∨ 4 < h) by omega)]
theorem refCheck_c (xs : List Int) (A : Option Addr) (cap : Nat) (hcap : xs.length ≤ cap) (w : World) (hC : Kd.C (Kd.int .i64) w A xs.length xs) :
    Calls Tryd.prog 42 #[.slice A xs.length cap] w fun e w' => e = .returned (.int .i64 (checkD xs)) ∧ Below w.heap.size w w' :=
  (lecternref06_Check.calls _ A cap xs _ w hC hcap (refCheck_f xs)).mono fun _ _ h => ⟨h.1, drawn_below h.2⟩
set_option maxRecDepth 100000 in
set_option maxHeartbeats 4000000 in
theorem refRun_c (xs : List Int) (A : Option Addr) (cap : Nat) (hcap : xs.length ≤ cap) (s : ByteArray) (hss : s.size ≤ 140737488355328) (w : World) (hC : Kd.C (Kd.int .i64) w A xs.length xs) :
    Calls Tryd.prog 40 #[.slice A xs.length cap, .string s] w fun e w' => (∃ v, e = .returned (.tuple #[v, .int .i64 (runD xs s).2]) ∧ TRow w' w.heap.size v (runD xs s).1) ∧ Below w.heap.size w w' := by
  have hck := refCheck_c xs A cap hcap w hC
  by_cases h0 : checkD xs = 60
  · have e : runD xs s = ([], 60) := by unfold runD; rw [if_pos (by rw [h0]; decide)]
    rw [e]
    rw [h0] at hck
    clear e h0 hC
    go_enter Tryd.func40, Tryd.ntmps40
    go_wp2_with (go_at_call 42; refine hck.mono ?_; clear hck; rintro e w1 ⟨rfl, hb1⟩)
    go_ret2
    exact ⟨⟨_, rfl, Kd.R_nil _ _ _ _ _⟩, hb1⟩
  have h0' : checkD xs = 0 := (checkD_cases xs).resolve_right h0
  rw [h0'] at hck
  obtain ⟨a, r, hxs, hr7, ha1, ha4, _⟩ := checkD_zero h0'
  have hln : xs.length = r.length + 1 := by rw [hxs]; rfl
  by_cases hs : 4096 < s.size
  · have e : runD xs s = ([], 3) := by unfold runD; rw [if_neg (by rw [h0']; decide), if_pos hs]
    rw [e]
    have hs' : (4096 : Int) < (s.size : Int) := by omega
    clear e h0 h0' hC hxs hln
    go_enter Tryd.func40, Tryd.ntmps40
    go_wp2_with (go_at_call 42; refine hck.mono ?_; clear hck; rintro e w1 ⟨rfl, hb1⟩)
    go_ret2
    exact ⟨⟨_, rfl, Kd.R_nil _ _ _ _ _⟩, hb1⟩
  have hs' : ¬ (4096 : Int) < (s.size : Int) := by omega
  have hrun : runD xs s = if 4096 < (tokensD a s).length then ([], 84) else linksD r (tokensD a s) := by
    unfold runD; rw [if_neg (by rw [h0']; decide), if_neg hs, hxs]; rfl
  obtain ⟨ad, rfl, c0⟩ := Kd.at_int hC 0 (by omega) (by omega)
  rw [show rd xs 0 = a by rw [hxs]; rfl] at c0
  have had : ad.add (0 : Int).toNat = ad := by show ad.add 0 = ad; unfold Addr.add; rw [if_pos rfl]
  rw [had] at c0
  have hrx : ∀ k, k < r.length → rd xs ((k : Int) + 1) = r.getD k 0 := by
    intro k hk
    show xs.getD ((k : Int) + 1).toNat 0 = _
    rw [show ((k : Int) + 1).toNat = k + 1 by omega, hxs]; rfl
  have HRX := Aside0.mk hrx
  have HCX := Aside0.mk hC
  have htk := fun W => refTok_c a ⟨ha1, ha4⟩ s (by omega) W
  have hsm := small_tokens a s
  rw [hln] at hck ⊢
  rw [hrun]
  have HLN := Aside0.mk hln
  clear had hC h0 h0' hxs hrun hcap hln hrx
  generalize tokensD a s = ts at htk hsm ⊢
  by_cases hbig : 4096 < ts.length
  · rw [if_pos hbig]
    have hbig' : (4096 : Int) < (ts.length : Int) := by omega
    clear hsm
    have HTK := Aside0.mk htk
    clear htk
    go_enter Tryd.func40, Tryd.ntmps40
    go_wp2_with (first
      | (go_at_call 42; refine hck.mono ?_; clear hck; rintro e w1 ⟨rfl, hb1⟩; have c0' := pw_cell_below hb1 c0; clear c0; have htk := HTK.out w1)
      | (go_at_call 62; refine htk.mono ?_; clear htk; rintro e w2 ⟨⟨v, rfl, hr⟩, hb2⟩; obtain ⟨A2, cap2, rfl⟩ := Kd.R_slice hr; clear hr))
    go_ret2
    exact ⟨⟨_, rfl, Kd.R_nil _ _ _ _ _⟩, below_step hb1 hb2⟩
  · rw [if_neg hbig]
    have hbig' : ¬ (4096 : Int) < (ts.length : Int) := by omega
    have HTK := Aside0.mk htk
    have HSM := Aside0.mk (show Small 4096 ts from fun t h => by have := hsm t h; omega)
    clear htk hsm
    obtain ⟨RES, hRES⟩ : ∃ R, R = linksD r ts := ⟨_, rfl⟩
    rw [← hRES]
    have HRES := Aside0.mk hRES
    clear hRES
    go_enter Tryd.func40, Tryd.ntmps40
    go_wp2_with (first
      | (go_at_call 42; refine hck.mono ?_; clear hck; rintro e w1 ⟨rfl, hb1⟩; have c0' := pw_cell_below hb1 c0; clear c0; have htk := HTK.out w1; have HB1 := Aside0.mk hb1; clear hb1)
      | (go_at_call 62; refine htk.mono ?_; clear htk; rintro e w2 ⟨⟨v, rfl, hr⟩, hb2⟩; obtain ⟨A2, cap2, rfl⟩ := Kd.R_slice hr; have HR2 := Aside0.mk (Kd.R_lower hr HB1.out.size); have HB2 := Aside0.mk (below_step HB1.out hb2); clear hr hb2))
    go_loopw [7, 8] (fun v vi wr => ∃ (k : Nat) (us : List S58), k ≤ r.length ∧ vi = .int .i64 ((k : Int) + 1) ∧ Hid (RES = linksD (r.drop k) us ∧ Small 4096 us ∧ us.length ≤ 4096) ∧ Hid (TRow wr w.heap.size v us) ∧ Hid (Below w.heap.size w wr))
      (fun _ vi _ => r.length + 1 - (intOf vi).toNat)
    case atStart => exact ⟨0, ts, Nat.zero_le _, by go_num, Lib.hid ⟨by rw [List.drop_zero]; exact HRES.out, HSM.out, by omega⟩, Lib.hid HR2.out, Lib.hid HB2.out⟩
    case round =>
      obtain ⟨k, us, hk, rfl, hgo, hrow, hB⟩ := hrel
      obtain ⟨A3, cap3, rfl, hcap3, hC3⟩ := Kd.R_reads hrow.out
      by_cases hlt : k < r.length
      · obtain ⟨ad', hA', ck⟩ := Kd.at_int (Kd.C_below HCX.out hB.out) ((k : Int) + 1) (by omega) (by rw [HLN.out]; omega)
        injection hA' with hA'
        subst hA'
        rw [HRX.out k hlt, show r.getD k 0 = r[k] by simp [List.getD_eq_getElem?_getD, hlt], show ((k : Int) + 1).toNat = k + 1 by omega, show ad.add (k + 1) = ⟨ad.block, ad.off + (k + 1), none⟩ by unfold Addr.add; rw [if_neg (by omega)]] at ck
        have hlk := refLink_c r[k] wr us A3 cap3 hC3 (fun t ht => by have := hgo.out.2.1 t ht; omega)
        have HST := Aside0.mk (linksD_step r k hlt us)
        have HSL := Aside0.mk (small_link r[k] hgo.out.2.1)
        have HLY := Aside0.mk (linkD_yes r[k] us)
        have i1 : (k : Int) + 1 < (r.length : Int) + 1 := by omega
        have i2 : (0 : Int) ≤ (k : Int) + 1 := by omega
        have w1k : IntKind.i64.wrap ((k : Int) + 1 + 1) = (k : Int) + 1 + 1 := wrap_small _ (by omega) (by omega)
        clear hC3 c0'
        generalize r[k] = x at ck hlk HST HSL HLY
        by_cases he : (linkD x us).2 = 0
        · obtain ⟨_, _, _, hl4⟩ := HLY.out he
          rw [he] at hlk HST
          clear HLY he
          generalize (linkD x us).1 = vs at hlk HST HSL hl4
          go_wp2_with (go_at_call 31; refine hlk.mono ?_; clear hlk; rintro e w3 ⟨⟨v3, rfl, hr3⟩, hb3⟩; have HR3 := Aside0.mk hr3; have HB3 := Aside0.mk hb3; clear hr3 hb3)
          go_roundw
          case rel => exact ⟨k + 1, vs, by omega, by go_num, Lib.hid ⟨by rw [hgo.out.1, HST.out]; simp, HSL.out, hl4⟩, Lib.hid (Kd.R_lower HR3.out hB.out.size), Lib.hid (below_step hB.out HB3.out)⟩
          case measure => simp [intOf]; omega
        · have HNO := Aside0.mk (show RES = ([], (linkD x us).2) by rw [hgo.out.1, HST.out, if_neg he])
          clear HLY HST HSL
          generalize (linkD x us).1 = vs at hlk
          generalize (linkD x us).2 = ee at hlk he HNO
          have he1 : (ee == 0) = false := beq_eq_false_iff_ne.2 he
          have he2 : (ee != 0) = true := bne_iff_ne.2 he
          go_wp2_with (go_at_call 31; refine hlk.mono ?_; clear hlk; rintro e w3 ⟨⟨v3, rfl, hr3⟩, hb3⟩; have HR3 := Aside0.mk hr3; have HB3 := Aside0.mk hb3; clear hr3 hb3)
          go_ret2
          exact ⟨⟨.slice none 0 0, ret_t (by rw [HNO.out]), by rw [HNO.out]; exact Kd.R_nil _ _ _ _ _⟩, below_step hB.out HB3.out⟩
      · obtain rfl : k = r.length := by omega
        have HZ := Aside0.mk (show RES = (us, 0) by rw [hgo.out.1, List.drop_length]; rfl)
        have hlt' : ¬ ((r.length : Nat) : Int) + 1 < (r.length : Int) + 1 := by omega
        clear hC3 c0'
        go_wp2
        go_ret2
        exact ⟨⟨.slice A3 us.length cap3, ret_t (by rw [HZ.out]), by rw [HZ.out]; exact hrow.out⟩, hB.out⟩
end Go.Proofs.YtgbphkckiekehaaDoor.Ana
