/- Law FoldBack: the plain part: which numbers are kept, the text of their forms. -/
import Derived.Test.YtgbphkckiekehaaDoorFoldFacts
import Derived.Test.YtgbphkckiekehaaDoorFoldRef
import Derived.Test.YtgbphkckiekehaaDoorFoldWalks
set_option linter.unusedVariables false
namespace Go.Proofs.YtgbphkckiekehaaDoor.backLaw
open Go.RowKit Go.Shelf Go.Proofs.FoldPlain Go.Proofs.FoldText Go.Proofs.YtgbphkckiekehaaDoor.FoldW Go.Lib Go.Proofs.YtgbphkckiekehaaDoor.FoldRef

def kept (zs : List Int) : List Int := zs.filter Lib.validRune
def flatI (l : List Int) : List UInt8 := l.flatMap Lib.encodeRune
theorem kept_snoc (zs : List Int) (x : Int) : kept (zs ++ [x]) = kept zs ++ (if Lib.validRune x = true then [x] else []) := by
  unfold kept; rw [List.filter_append]; by_cases h : Lib.validRune x = true <;> simp [h]
theorem take_snoc (zs : List Int) (k : Nat) (h : k < zs.length) : zs.take (k + 1) = zs.take k ++ [zs.getD k 0] := by
  rw [List.take_succ_eq_append_getElem h]; simp [List.getD_eq_getElem?_getD, h]
theorem kept_yes (zs : List Int) (k : Nat) (h : k < zs.length) (hv : Lib.validRune (zs.getD k 0) = true) : kept (zs.take (k + 1)) = kept (zs.take k) ++ [zs.getD k 0] := by
  rw [take_snoc zs k h, kept_snoc, if_pos hv]
theorem kept_no (zs : List Int) (k : Nat) (h : k < zs.length) (hv : Lib.validRune (zs.getD k 0) = false) : kept (zs.take (k + 1)) = kept (zs.take k) := by
  rw [take_snoc zs k h, kept_snoc, hv]; simp
theorem flatI_snoc (l : List Int) (x : Int) : flatI (l ++ [x]) = flatI l ++ Lib.encodeRune x := by simp [flatI]
theorem kept_len (zs : List Int) (k : Nat) : (kept (zs.take k)).length ≤ k :=
  Nat.le_trans (List.length_filter_le _ _) (by rw [List.length_take]; omega)
theorem enc_le (x : Int) : (Lib.encodeRune x).length ≤ 4 := by unfold Lib.encodeRune; rw [List.length_map]; exact (encodeRuneZ_length x).2
theorem flatI_len (l : List Int) : (flatI l).length ≤ 4 * l.length := by
  induction l with
  | nil => simp [flatI]
  | cons x l ih =>
    have := enc_le x
    simp only [flatI, List.flatMap_cons, List.length_append, List.length_cons] at ih ⊢
    omega
theorem size_strOf (l : List UInt8) : (strOf l).size = l.length := by rw [← size_data]; simp [strOf]
theorem cat_size (zs : List Int) (k : Nat) (x : Int) (hk : k < 35184372088832) : (strOf (flatI (kept (zs.take k)))).size + (strOf (Lib.encodeRune x)).size ≤ 140737488355328 := by
  rw [size_strOf, size_strOf]
  have h1 := flatI_len (kept (zs.take k)); have h2 := kept_len zs k; have h3 := enc_le x; omega
theorem cat_is (l : List Int) (x : Int) : strOf (flatI l) ++ strOf (Lib.encodeRune x) = strOf (flatI (l ++ [x])) := by
  rw [flatI_snoc]; simp [strOf, ByteArray.ext_iff]
theorem kept_ok (zs : List Int) : ∀ x ∈ kept zs, Lib.validRune x = true := fun x hx => (List.mem_filter.1 hx).2
theorem flat_of (l : List Int) (h : ∀ x ∈ l, Lib.validRune x = true) : flatI l = flat (l.map Int.toNat) ∧ ∀ r ∈ l.map Int.toNat, okRune r := by
  constructor
  · induction l with
    | nil => rfl
    | cons x l ih =>
      have hx := (valid_iff x).1 (h x (by simp))
      have e : ((x.toNat : Nat) : Int) = x := by omega
      have := ih (fun y hy => h y (by simp [hy]))
      simp only [flatI, flat, List.flatMap_cons, List.map_cons, e] at this ⊢
      rw [this]
  · intro r hr
    obtain ⟨x, hx, rfl⟩ := List.mem_map.1 hr
    have := (valid_iff x).1 (h x hx)
    unfold okRune; omega
theorem runes_kept (zs : List Int) : (runes (flatI (kept zs))).map (fun x => ((x.2 : Nat) : Int)) = kept zs ∧ Lib.validD (flatI (kept zs)) = true := by
  obtain ⟨e, ho⟩ := flat_of (kept zs) (kept_ok zs)
  obtain ⟨h1, h2⟩ := flat_runes _ ho
  rw [e]
  refine ⟨?_, h2⟩
  have : (runes (flat ((kept zs).map Int.toNat))).map (fun x => ((x.2 : Nat) : Int)) = ((kept zs).map Int.toNat).map (fun n : Nat => (n : Int)) := by
    have := congrArg (List.map (fun n : Nat => (n : Int))) h1
    rw [List.map_map] at this; exact this
  rw [this, List.map_map]
  have key : ∀ l : List Int, (∀ x ∈ l, Lib.validRune x = true) → l.map ((fun n : Nat => (n : Int)) ∘ Int.toNat) = l := by
    intro l
    induction l with
    | nil => intro _; rfl
    | cons x l ih =>
      intro hl
      have hx := (valid_iff x).1 (hl x (by simp))
      rw [List.map_cons, ih (fun y hy => hl y (by simp [hy]))]
      congr 1
      show ((x.toNat : Nat) : Int) = x
      omega
  exact key _ (kept_ok zs)
theorem runes_count (zs : List Int) : (runes (flatI (kept zs))).length = (kept zs).length := by
  have := congrArg List.length (runes_kept zs).1; rwa [List.length_map] at this
theorem runes_mid (zs : List Int) {pre rest : List (Nat × Nat)} {x : Nat × Nat} (h : runes (flatI (kept zs)) = pre ++ x :: rest) : pre.length < (kept zs).length ∧ (kept zs).getD pre.length 0 = (x.2 : Int) := by
  have h1 := (runes_kept zs).1
  have h2 := runes_count zs
  rw [h] at h1 h2
  refine ⟨by rw [← h2]; simp, ?_⟩
  rw [← h1]; simp [List.getD_eq_getElem?_getD]
end Go.Proofs.YtgbphkckiekehaaDoor.backLaw
