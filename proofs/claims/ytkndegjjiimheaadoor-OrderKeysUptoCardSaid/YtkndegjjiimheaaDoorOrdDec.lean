/- order.Decimal's answer, said plainly. -/
import Derived.Test.YtkndegjjiimheaaDoorOrdDecW
import Derived.Lib.AtoiErrMem
set_option linter.unusedVariables false
set_option linter.unusedSimpArgs false
namespace Go.Proofs.YtkndegjjiimheaaDoor.Ord
open Go Go.RowKit Go.Proofs.YtkndegjjiimheaaDoorW.PrintWords Go.Proofs.YtkndegjjiimheaaDoorW.PrintLast Go.Proofs.OrdPlain Go.Lib

/-- The answer to a text, over a reading of its shape. -/
def decD (shape : List UInt8 → Nat → Option (List UInt8)) (l : List UInt8) (scale : Int) : Int × Int :=
  if 0 ≤ scale ∧ scale ≤ 9 then
    match shape (trimPrefix l [45]) scale.toNat with
    | none => (0, 70)
    | some all => match refNum (hasPrefix l [45]) all with | some n => (n, 0) | none => (0, 70)
  else (0, 1)
def two (x : Int × Int) : Value := .tuple #[.int .i64 x.1, .int .i64 x.2]

theorem parse_ok (l : List UInt8) (hl : l.length ≤ 200) (v : Int) (h : parseIntB 64 l = .ok v) (w : World) :
    Calls Tryd.prog 27 #[.string (txt l), .int .i64 10, .int .i64 64] w fun e w' => e = .returned (.tuple #[.int .i64 v, .nilIface]) ∧ Below w.heap.size w w' :=
  (Tryd.strconv_ParseInt_10_at64_ok (txt l) (by rw [txt_size]; omega) v (by rw [txt_list]; exact h) w).mono fun _ _ ⟨he, hw⟩ => ⟨he, by
    rcases hw with rfl | ⟨t, rfl⟩
    · exact Below.refl _ _
    · exact bytesWorld_below _ _ _⟩
theorem parse_range (l : List UInt8) (hl : l.length ≤ 200) (h : parseIntB 64 l = .range) (w : World) (hT : Tb w) :
    Calls Tryd.prog 27 #[.string (txt l), .int .i64 10, .int .i64 64] w fun e w' => (∃ N v, e = .returned (.tuple #[.int .i64 v, .iface 104 (.pointer (some ⟨N, 0, none⟩))])) ∧ Below w.heap.size w w' := by
  obtain ⟨tp, p, hv⟩ := hT.range
  exact (Tryd.strconv_ParseInt_10_at64_range_var (txt l) (by rw [txt_size]; omega) (by rw [txt_list]; exact h) tp p w hv).mono fun _ _ ⟨N, he, _, _, hb⟩ => ⟨⟨N, _, he⟩, hb⟩
theorem head_at (l : List UInt8) (h : 0 < (txt l).size) : (txt l)[0] = l.getD 0 0 := by
  have h' : 0 < l.length := by rw [← txt_size]; exact h
  rw [List.getD_eq_getElem?_getD, List.getElem?_eq_getElem h']
  rfl
theorem parse_num (b : Bool) (all : List UInt8) (h : ∀ c ∈ all, isDig c = true) (hne : all ≠ []) :
    parseIntB 64 (if b = true then 45 :: all else all) = match refNum b all with | some n => .ok n | none => .range := by
  cases b
  · exact num_above all h hne
  · exact num_below all h hne

theorem order_decimal (l : List UInt8) (hl : l.length ≤ 9223372036854775807) (scale : Int) (w : World) (hT : Tb w) :
    Calls Tryd.prog 5 #[.string (txt l), .int .i64 scale] w fun e w' => e = .returned (two (decD progShape l scale)) ∧ Below w.heap.size w w' := by
  by_cases h0 : scale < 0
  · have e : decD progShape l scale = (0, 1) := by unfold decD; rw [if_neg (by omega)]
    rw [e]
    clear e
    go_enter Tryd.func5, Tryd.ntmps5
    go_wp2
    go_ret2
    exact ⟨rfl, Below.refl _ _⟩
  by_cases h9 : 9 < scale
  · have e : decD progShape l scale = (0, 1) := by unfold decD; rw [if_neg (by omega)]
    rw [e]
    clear e
    go_enter Tryd.func5, Tryd.ntmps5
    go_wp2
    go_ret2
    exact ⟨rfl, Below.refl _ _⟩
  obtain ⟨m, rfl⟩ : ∃ m : Nat, scale = m := ⟨scale.toNat, by omega⟩
  have hm : m ≤ 9 := by omega
  unfold decD
  rw [if_pos (by omega), Int.toNat_natCast]
  have hRl : (trimPrefix l [45]).length ≤ 9223372036854775807 := by
    unfold trimPrefix
    split
    · rw [List.length_drop]; omega
    · exact hl
  have h23 := fun W => cutprefix_c l W
  generalize trimPrefix l [45] = R at hRl h23
  generalize hasPrefix l [45] = b at h23
  have h24 := fun W => cut_c R hRl W
  obtain ⟨A, hA⟩ : ∃ A, A = R.takeWhile notDot := ⟨_, rfl⟩
  obtain ⟨D, hD⟩ : ∃ D, D = R.dropWhile notDot := ⟨_, rfl⟩
  obtain ⟨B, hB⟩ : ∃ B, B = D.drop 1 := ⟨_, rfl⟩
  unfold progShape
  rw [← hA, ← hD, ← hB]
  rw [← hA, ← hD, ← hB] at h24
  have h25a := fun W => digits_c A 1 19 W
  have h25b := fun W => digits_c B 1 m W
  have kA : (txt A).size = A.length := txt_size A
  have kB : (txt B).size = B.length := txt_size B
  by_cases c1 : (1 ≤ A.length ∧ A.length ≤ 19 ∧ A.all isDig = true)
  · have e1 : dgB A 1 19 = true := by unfold dgB; rw [decide_eq_true (by omega), c1.2.2]; rfl
    by_cases c2 : 1 < A.length ∧ A.head? = some 48
    · rw [if_neg (fun h => h.2.1 c2)]
      refine dec_bad2 (txt l) (txt A) (txt B) R b _ _ m hm w h23 h24 h25a e1 _ kA c2.1 (fun h => ?_)
      rw [head_at]
      cases A with
      | nil => simp at c2
      | cons x r => have := c2.2; simp at this; subst this; rfl
    · have h00 : ¬ 1 < A.length ∨ ∀ h, ((((txt A)[0]'h).toNat : Int) == 48) = false := by
        by_cases hk : 1 < A.length
        · refine .inr (fun h => ?_)
          rw [head_at]
          cases A with
          | nil => simp at hk
          | cons x r =>
            have hx : ¬ x = 48 := fun e => c2 ⟨hk, by rw [e]; rfl⟩
            refine beq_false_of_ne (fun e => hx ?_)
            have e2 : x.toNat = 48 := by have e' : (x.toNat : Int) = 48 := e; omega
            exact UInt8.toNat_inj.1 e2
        · exact .inl hk
      by_cases c3 : D ≠ [] → 1 ≤ B.length ∧ B.length ≤ m ∧ B.all isDig = true
      · rw [if_pos ⟨c1, c2, c3⟩]
        have hBm : B.length ≤ m ∧ ∀ c ∈ B, isDig c = true := by
          by_cases hD0 : D = []
          · subst hD0; subst hB; simp
          · exact ⟨(c3 hD0).2.1, List.all_eq_true.1 (c3 hD0).2.2⟩
        have hp : decide (D ≠ []) = false ∨ decide (D ≠ []) = true ∧ dgB B 1 m = true := by
          by_cases hD0 : D = []
          · exact .inl (decide_eq_false (fun h => h hD0))
          · refine .inr ⟨decide_eq_true hD0, ?_⟩
            have := c3 hD0
            unfold dgB; rw [decide_eq_true (by omega), this.2.2]; rfl
        obtain ⟨all, hall⟩ : ∃ all, all = A ++ B ++ List.replicate (m - B.length) 48 := ⟨_, rfl⟩
        have hdig : ∀ c ∈ all, isDig c = true := by
          intro c hc
          rw [hall, List.mem_append, List.mem_append] at hc
          rcases hc with (hc | hc) | hc
          · exact List.all_eq_true.1 c1.2.2 c hc
          · exact hBm.2 c hc
          · rw [(List.mem_replicate.1 hc).2]; rfl
        have hlen : all.length ≤ 40 := by rw [hall, List.length_append, List.length_append, List.length_replicate]; omega
        have hne : all ≠ [] := by
          intro e
          have := congrArg List.length (hall.symm.trans e)
          rw [List.length_append, List.length_append, List.length_replicate, List.length_nil] at this; omega
        rw [← hall]
        dsimp only
        have hpn := parse_num b all hdig hne
        have h26 : ∀ (X : Int) W, X = (m : Int) - (B.length : Int) → Calls Tryd.prog 26 #[.string ⟨#[48]⟩, .int .i64 X] W fun e w' => e = .returned (.string (txt (List.replicate (m - B.length) 48))) ∧ Below W.heap.size W w' := by
          intro X W hX
          have : X = ((m - B.length : Nat) : Int) := by omega
          rw [this]
          exact repeat_c _ (by omega) W
        have hX : (if b = true then txt (45 :: all) else txt all) = txt (if b = true then 45 :: all else all) := by cases b <;> rfl
        have hXl : (if b = true then 45 :: all else all).length ≤ 200 := by cases b <;> simp <;> omega
        cases hr : refNum b all with
        | some v =>
          rw [hr] at hpn
          exact dec_ok (txt l) (txt A) (txt B) R b _ _ _ m hm w h23 h24 h25a h25b e1 hp A.length B.length kA kB (by omega) hBm.1 h00 _ _ _ _ (txt_app A B) (by rw [txt_size, List.length_append]) (by rw [txt_size, List.length_replicate]) ((txt_app _ _).trans (by rw [hall])) (by rw [txt_size]; omega) (dash_txt all) hT v h26
            (fun W _ => by rw [hX]; exact parse_ok _ hXl v hpn W)
        | none =>
          rw [hr] at hpn
          exact dec_range (txt l) (txt A) (txt B) R b _ _ _ m hm w h23 h24 h25a h25b e1 hp A.length B.length kA kB (by omega) hBm.1 h00 _ _ _ _ (txt_app A B) (by rw [txt_size, List.length_append]) (by rw [txt_size, List.length_replicate]) ((txt_app _ _).trans (by rw [hall])) (by rw [txt_size]; omega) (dash_txt all) hT h26
            (fun W hTW => by rw [hX]; exact parse_range _ hXl hpn W hTW)
      · rw [if_neg (fun h => c3 h.2.2)]
        have hD0 : D ≠ [] := fun e => c3 (fun h => absurd e h)
        have e3 : dgB B 1 m = false := by
          unfold dgB
          rw [Bool.and_eq_false_iff]
          by_cases hh : 1 ≤ B.length ∧ B.length ≤ m
          · refine .inr ?_
            by_cases ha : B.all isDig = true
            · exact absurd (fun _ => ⟨hh.1, hh.2, ha⟩) c3
            · exact Bool.eq_false_iff.2 ha
          · exact .inl (decide_eq_false (by omega))
        exact dec_bad3 (txt l) (txt A) (txt B) R b _ _ _ m hm w h23 h24 h25a h25b e1 (decide_eq_true hD0) e3 _ kA h00
  · rw [if_neg (fun h => c1 h.1)]
    have e1 : dgB A 1 19 = false := by
      unfold dgB
      rw [Bool.and_eq_false_iff]
      by_cases hh : 1 ≤ A.length ∧ A.length ≤ 19
      · refine .inr ?_
        by_cases ha : A.all isDig = true
        · exact absurd ⟨hh.1, hh.2, ha⟩ c1
        · exact Bool.eq_false_iff.2 ha
      · exact .inl (decide_eq_false (by omega))
    exact dec_bad1 (txt l) (txt A) (txt B) R b _ _ m hm w h23 h24 h25a e1
end Go.Proofs.YtkndegjjiimheaaDoor.Ord
