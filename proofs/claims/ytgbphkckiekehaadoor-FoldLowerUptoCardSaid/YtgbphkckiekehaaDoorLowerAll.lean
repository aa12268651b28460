/- Law FoldLower: the walks joined. -/
import Derived.Test.YtgbphkckiekehaaDoorLowerWalk
import Derived.Test.YtgbphkckiekehaaDoorFoldLow
set_option linter.unusedVariables false
set_option linter.unusedSimpArgs false
namespace Go.Proofs.YtgbphkckiekehaaDoor.lowerLaw
open Go.RowKit Go.Shelf Go.Proofs.YtgbphkckiekehaaDoor.QFold Go.Proofs.YtgbphkckiekehaaDoorW.PrintWords Go.Proofs.FoldPlain Go.Proofs.FoldText Go.Proofs.YtgbphkckiekehaaDoor.FoldRef Go.Proofs.YtgbphkckiekehaaDoor.FoldW Go.Proofs.YtgbphkckiekehaaDoor.FoldF Go.Proofs.YtgbphkckiekehaaDoor.FoldK Go.Proofs.YtgbphkckiekehaaDoor.FoldP

theorem lowerD_props (r : Int) : (letterD (lowerD r) = letterD r ∧ digitD (lowerD r) = digitD r ∧ markD (lowerD r) = markD r) ∧ ((lowerD r != r) = false ∨ letterD r = true) := by
  rcases lowerD_letter r with h | ⟨h1, h2, h3, h4, h5, h6⟩
  · rw [h]; simp
  · exact ⟨⟨by rw [h1, h2], by rw [h3, h4], by rw [h5, h6]⟩, .inr h1⟩

theorem size_strOf (l : List UInt8) : (strOf l).size = l.length := by rw [← size_data, strOf_data']

theorem head_conts (t : List UInt8) (b : UInt8) (u : List UInt8) (h : t = b :: u) (hb : isCont b = false) : t.takeWhile isCont = [] := by
  subst h; simp [List.takeWhile, hb]

set_option maxHeartbeats 1000000 in
theorem walk (s t : ByteArray) (r : Int) (hs1 : s.size ≤ 2000000) (hs2 : t.size ≤ 2000000) (_ : -2147483648 ≤ r) (_ : r ≤ 2147483647) (w : World) (ht : Tabs w) :
    Calls Tryd.prog 7 #[.string s, .string t, .int .i32 r] w fun e w' => e = .returned (.bool true) ∧ Below w.heap.size w w' := by
  have hs : s.size + t.size ≤ 4000000 := by omega
  obtain ⟨⟨q1, q2, q3⟩, hLr⟩ := lowerD_props r
  have z1 : (strOf (foldD s.data.toList)).size = s.size := by rw [size_strOf, foldD_length, size_data]
  have z2 : (strOf (foldD t.data.toList)).size = t.size := by rw [size_strOf, foldD_length, size_data]
  have z3 : (s ++ t).size = s.size + t.size := by simp
  have c25a : ∀ W, Calls Tryd.prog 25 #[.int .i32 r] W fun e w' => e = .returned (.int .i32 (lowerD r)) ∧ Below W.heap.size W w' := fun W => lower_c r W
  have c25b : ∀ W, Calls Tryd.prog 25 #[.int .i32 (lowerD r)] W fun e w' => e = .returned (.int .i32 (lowerD r)) ∧ Below W.heap.size W w' := fun W => by have h := lower_c (lowerD r) W; rwa [lowerD_lowerD] at h
  have c26a : ∀ W, Calls Tryd.prog 26 #[.int .i32 (lowerD r)] W fun e w' => e = .returned (.bool (letterD r)) ∧ Below W.heap.size W w' := fun W => by have h := letter_c (lowerD r) W; rwa [q1] at h
  have c26b : ∀ W, Calls Tryd.prog 26 #[.int .i32 r] W fun e w' => e = .returned (.bool (letterD r)) ∧ Below W.heap.size W w' := fun W => letter_c r W
  have c27a : ∀ W, Calls Tryd.prog 27 #[.int .i32 (lowerD r)] W fun e w' => e = .returned (.bool (digitD r)) ∧ Below W.heap.size W w' := fun W => by have h := digit_c (lowerD r) W; rwa [q2] at h
  have c27b : ∀ W, Calls Tryd.prog 27 #[.int .i32 r] W fun e w' => e = .returned (.bool (digitD r)) ∧ Below W.heap.size W w' := fun W => digit_c r W
  have c28a : ∀ W, Calls Tryd.prog 28 #[.int .i32 (lowerD r)] W fun e w' => e = .returned (.bool (markD r)) ∧ Below W.heap.size W w' := fun W => by have h := mark_c (lowerD r) W; rwa [q3] at h
  have c28b : ∀ W, Calls Tryd.prog 28 #[.int .i32 r] W fun e w' => e = .returned (.bool (markD r)) ∧ Below W.heap.size W w' := fun W => mark_c r W
  have c21a : ∀ W, Tabs W → Calls Tryd.prog 21 #[.string s] W fun e w' => e = .returned (.string (strOf (foldD s.data.toList))) ∧ Below W.heap.size W w' := fun W hW => fold_c s (by omega) W hW
  have c21c : ∀ W, Tabs W → Calls Tryd.prog 21 #[.string t] W fun e w' => e = .returned (.string (strOf (foldD t.data.toList))) ∧ Below W.heap.size W w' := fun W hW => fold_c t (by omega) W hW
  have c21b : ∀ W, Tabs W → Calls Tryd.prog 21 #[.string (strOf (foldD s.data.toList))] W fun e w' => e = .returned (.string (strOf (foldD s.data.toList))) ∧ Below W.heap.size W w' := fun W hW => by
    have h := fold_c (strOf (foldD s.data.toList)) (by omega) W hW; rwa [strOf_data', fold_fold] at h
  have c17b : ∀ W, Tabs W → Calls Tryd.prog 17 #[.string s] W fun e w' => e = .returned (.bool (Lib.validD s.data.toList)) ∧ Below W.heap.size W w' := fun W hW => valid_c s (by omega) W hW
  have c17a : ∀ W, Tabs W → Calls Tryd.prog 17 #[.string (strOf (foldD s.data.toList))] W fun e w' => e = .returned (.bool (Lib.validD s.data.toList)) ∧ Below W.heap.size W w' := fun W hW => by
    have h := valid_c (strOf (foldD s.data.toList)) (by omega) W hW; rwa [strOf_data', fold_valid] at h
  have c21d : (Lib.validD s.data.toList = true ∨ t.data.toList.takeWhile isCont = []) → ∀ W, Tabs W → Calls Tryd.prog 21 #[.string (s ++ t)] W fun e w' => e = .returned (.string (strOf (foldD s.data.toList) ++ strOf (foldD t.data.toList))) ∧ Below W.heap.size W w' := fun hc W hW => by
    have h := fold_c (s ++ t) (by omega) W hW
    have e : strOf (foldD (s ++ t).data.toList) = strOf (foldD s.data.toList) ++ strOf (foldD t.data.toList) := by
      apply ba_ext; rw [strOf_data', ba_append, ba_append, strOf_data', strOf_data', fold_append _ _ hc]
    rwa [e] at h
  by_cases hV : Lib.validD s.data.toList = true
  · exact walk_valid s t _ _ r _ _ _ _ _ w ht hs (by omega) c25a c25b c26a c26b c27a c27b c28a c28b c21a c21b c21c (c21d (.inl hV)) c17a c17b hLr hV
  · have hV' : Lib.validD s.data.toList = false := by simpa using hV
    by_cases h0 : t.size = 0
    · exact walk_empty s t _ _ r _ _ _ _ _ w ht hs (by omega) c25a c25b c26a c26b c27a c27b c28a c28b c21a c21b c21c (c21d (.inr (by rw [← size_data] at h0; rw [List.length_eq_zero_iff.1 h0]; rfl))) c17a c17b hLr hV' h0
    · have h0' : 0 < t.size := by omega
      have hne : ¬ t = ByteArray.empty := by rintro rfl; exact h0 rfl
      have hd : ∃ u, t.data.toList = t[0]'h0' :: u := by
        have hl : 0 < t.data.toList.length := by rw [size_data]; exact h0'
        cases hx : t.data.toList with
        | nil => rw [hx] at hl; exact absurd hl (by simp)
        | cons b u =>
          refine ⟨u, ?_⟩
          have e : t[0]'h0' = t.data.toList[0]'hl := rfl
          rw [e]; simp [hx]
      obtain ⟨u, hu⟩ := hd
      by_cases hb : ((t[0]'h0').toNat : Int) < 128
      · exact walk_low s t _ _ r _ _ _ _ _ w ht hs (by omega) c25a c25b c26a c26b c27a c27b c28a c28b c21a c21b c21c (c21d (.inr (head_conts _ _ _ hu (by unfold isCont; rw [beq_eq_false_iff_ne]; omega)))) c17a c17b hLr hV' h0' hne hb
      · by_cases hb2 : 192 ≤ ((t[0]'h0').toNat : Int)
        · exact walk_high s t _ _ r _ _ _ _ _ w ht hs (by omega) c25a c25b c26a c26b c27a c27b c28a c28b c21a c21b c21c (c21d (.inr (head_conts _ _ _ hu (by unfold isCont; rw [beq_eq_false_iff_ne]; omega)))) c17a c17b hLr hV' h0' hne hb hb2
        · exact walk_mid s t _ _ r _ _ _ _ _ w ht hs (by omega) c25a c25b c26a c26b c27a c27b c28a c28b c21a c21b c21c c17a c17b hLr hV' h0' hne hb hb2

end Go.Proofs.YtgbphkckiekehaaDoor.lowerLaw
