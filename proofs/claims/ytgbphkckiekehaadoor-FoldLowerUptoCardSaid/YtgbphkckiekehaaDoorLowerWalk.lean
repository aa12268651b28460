/- Law FoldLower walked. -/
import Derived.Test.YtgbphkckiekehaaDoorFoldKnown
import Derived.Test.YtgbphkckiekehaaDoorFoldFacts
set_option linter.unusedVariables false
set_option linter.unusedSimpArgs false
namespace Go.Proofs.YtgbphkckiekehaaDoor.lowerLaw
open Go.RowKit Go.Shelf Go.Proofs.YtgbphkckiekehaaDoor.QFold Go.Proofs.YtgbphkckiekehaaDoorW.PrintWords Go.Proofs.FoldPlain Go.Proofs.FoldText Go.Proofs.YtgbphkckiekehaaDoor.FoldRef Go.Proofs.YtgbphkckiekehaaDoor.FoldW Go.Proofs.YtgbphkckiekehaaDoor.FoldF Go.Proofs.YtgbphkckiekehaaDoor.FoldK Go.Proofs.YtgbphkckiekehaaDoor.FoldP

theorem ba_ext {a b : ByteArray} (h : a.data.toList = b.data.toList) : a = b := by
  cases a; cases b; congr 1; exact Array.toList_inj.1 h
theorem ba_append (a b : ByteArray) : (a ++ b).data.toList = a.data.toList ++ b.data.toList := by simp [ByteArray.data_append]
theorem strOf_data' (l : List UInt8) : (strOf l).data.toList = l := by simp [strOf]

set_option maxRecDepth 100000 in
set_option maxHeartbeats 4000000 in
theorem walk_valid (s t F G : ByteArray) (r L : Int) (T D M V : Bool) (w : World) (ht : Tabs w) (hsz : s.size + t.size ≤ 4000000) (hFG : F.size + G.size ≤ 4000000)
    (c25a : ∀ W, Calls Tryd.prog 25 #[.int .i32 r] W fun e w' => e = .returned (.int .i32 L) ∧ Below W.heap.size W w')
    (c25b : ∀ W, Calls Tryd.prog 25 #[.int .i32 L] W fun e w' => e = .returned (.int .i32 L) ∧ Below W.heap.size W w')
    (c26a : ∀ W, Calls Tryd.prog 26 #[.int .i32 L] W fun e w' => e = .returned (.bool T) ∧ Below W.heap.size W w')
    (c26b : ∀ W, Calls Tryd.prog 26 #[.int .i32 r] W fun e w' => e = .returned (.bool T) ∧ Below W.heap.size W w')
    (c27a : ∀ W, Calls Tryd.prog 27 #[.int .i32 L] W fun e w' => e = .returned (.bool D) ∧ Below W.heap.size W w')
    (c27b : ∀ W, Calls Tryd.prog 27 #[.int .i32 r] W fun e w' => e = .returned (.bool D) ∧ Below W.heap.size W w')
    (c28a : ∀ W, Calls Tryd.prog 28 #[.int .i32 L] W fun e w' => e = .returned (.bool M) ∧ Below W.heap.size W w')
    (c28b : ∀ W, Calls Tryd.prog 28 #[.int .i32 r] W fun e w' => e = .returned (.bool M) ∧ Below W.heap.size W w')
    (c21a : ∀ W, Tabs W → Calls Tryd.prog 21 #[.string s] W fun e w' => e = .returned (.string F) ∧ Below W.heap.size W w')
    (c21b : ∀ W, Tabs W → Calls Tryd.prog 21 #[.string F] W fun e w' => e = .returned (.string F) ∧ Below W.heap.size W w')
    (c21c : ∀ W, Tabs W → Calls Tryd.prog 21 #[.string t] W fun e w' => e = .returned (.string G) ∧ Below W.heap.size W w')
    (c21d : ∀ W, Tabs W → Calls Tryd.prog 21 #[.string (s ++ t)] W fun e w' => e = .returned (.string (F ++ G)) ∧ Below W.heap.size W w')
    (c17a : ∀ W, Tabs W → Calls Tryd.prog 17 #[.string F] W fun e w' => e = .returned (.bool V) ∧ Below W.heap.size W w')
    (c17b : ∀ W, Tabs W → Calls Tryd.prog 17 #[.string s] W fun e w' => e = .returned (.bool V) ∧ Below W.heap.size W w')
    (hLr : (L != r) = false ∨ T = true) (hV : V = true) :
    Calls Tryd.prog 7 #[.string s, .string t, .int .i32 r] w fun e w' => e = .returned (.bool true) ∧ Below w.heap.size w w' := by
  have HB := Aside0.mk (Below.refl w.heap.size w)
  subst hV
  rcases hLr with hLr | rfl
  · go_enter Tryd.func7, Tryd.ntmps7
    go_wp2_with
        (first
        | (go_at_call 23; refine (known_c _ (ht.step HB.out)).mono ?_; rintro e w1 ⟨rfl, hb⟩; have n0_ := Aside0.mk (below_step HB.out hb); clear HB hb; have HB := n0_; clear n0_)
        | (go_at_call 25; (first | (with_reducible refine (c25a _).mono ?_) | (with_reducible refine (c25b _).mono ?_)); rintro e w1 ⟨rfl, hb⟩; have n0_ := Aside0.mk (below_step HB.out hb); clear HB hb; have HB := n0_; clear n0_)
        | (go_at_call 26; (first | (with_reducible refine (c26a _).mono ?_) | (with_reducible refine (c26b _).mono ?_)); rintro e w1 ⟨rfl, hb⟩; have n0_ := Aside0.mk (below_step HB.out hb); clear HB hb; have HB := n0_; clear n0_)
        | (go_at_call 27; (first | (with_reducible refine (c27a _).mono ?_) | (with_reducible refine (c27b _).mono ?_)); rintro e w1 ⟨rfl, hb⟩; have n0_ := Aside0.mk (below_step HB.out hb); clear HB hb; have HB := n0_; clear n0_)
        | (go_at_call 28; (first | (with_reducible refine (c28a _).mono ?_) | (with_reducible refine (c28b _).mono ?_)); rintro e w1 ⟨rfl, hb⟩; have n0_ := Aside0.mk (below_step HB.out hb); clear HB hb; have HB := n0_; clear n0_)
        | (go_at_call 21; (first | (with_reducible refine (c21a _ (ht.step HB.out)).mono ?_) | (with_reducible refine (c21b _ (ht.step HB.out)).mono ?_) | (with_reducible refine (c21c _ (ht.step HB.out)).mono ?_) | (with_reducible refine (c21d _ (ht.step HB.out)).mono ?_)); rintro e w1 ⟨rfl, hb⟩; have n0_ := Aside0.mk (below_step HB.out hb); clear HB hb; have HB := n0_; clear n0_)
        | (go_at_call 17; (first | (with_reducible refine (c17a _ (ht.step HB.out)).mono ?_) | (with_reducible refine (c17b _ (ht.step HB.out)).mono ?_)); rintro e w1 ⟨rfl, hb⟩; have n0_ := Aside0.mk (below_step HB.out hb); clear HB hb; have HB := n0_; clear n0_))
    go_ret
    exact ⟨rfl, HB.out⟩
  · by_cases hLr : (L != r) = true
    · go_enter Tryd.func7, Tryd.ntmps7
      go_wp2_with
          (first
          | (go_at_call 23; refine (known_c _ (ht.step HB.out)).mono ?_; rintro e w1 ⟨rfl, hb⟩; have n0_ := Aside0.mk (below_step HB.out hb); clear HB hb; have HB := n0_; clear n0_)
          | (go_at_call 25; (first | (with_reducible refine (c25a _).mono ?_) | (with_reducible refine (c25b _).mono ?_)); rintro e w1 ⟨rfl, hb⟩; have n0_ := Aside0.mk (below_step HB.out hb); clear HB hb; have HB := n0_; clear n0_)
          | (go_at_call 26; (first | (with_reducible refine (c26a _).mono ?_) | (with_reducible refine (c26b _).mono ?_)); rintro e w1 ⟨rfl, hb⟩; have n0_ := Aside0.mk (below_step HB.out hb); clear HB hb; have HB := n0_; clear n0_)
          | (go_at_call 27; (first | (with_reducible refine (c27a _).mono ?_) | (with_reducible refine (c27b _).mono ?_)); rintro e w1 ⟨rfl, hb⟩; have n0_ := Aside0.mk (below_step HB.out hb); clear HB hb; have HB := n0_; clear n0_)
          | (go_at_call 28; (first | (with_reducible refine (c28a _).mono ?_) | (with_reducible refine (c28b _).mono ?_)); rintro e w1 ⟨rfl, hb⟩; have n0_ := Aside0.mk (below_step HB.out hb); clear HB hb; have HB := n0_; clear n0_)
          | (go_at_call 21; (first | (with_reducible refine (c21a _ (ht.step HB.out)).mono ?_) | (with_reducible refine (c21b _ (ht.step HB.out)).mono ?_) | (with_reducible refine (c21c _ (ht.step HB.out)).mono ?_) | (with_reducible refine (c21d _ (ht.step HB.out)).mono ?_)); rintro e w1 ⟨rfl, hb⟩; have n0_ := Aside0.mk (below_step HB.out hb); clear HB hb; have HB := n0_; clear n0_)
          | (go_at_call 17; (first | (with_reducible refine (c17a _ (ht.step HB.out)).mono ?_) | (with_reducible refine (c17b _ (ht.step HB.out)).mono ?_)); rintro e w1 ⟨rfl, hb⟩; have n0_ := Aside0.mk (below_step HB.out hb); clear HB hb; have HB := n0_; clear n0_))
      go_ret
      exact ⟨rfl, HB.out⟩
    · have hLr' : (L != r) = false := by simpa using hLr
      clear hLr
      go_enter Tryd.func7, Tryd.ntmps7
      go_wp2_with
          (first
          | (go_at_call 23; refine (known_c _ (ht.step HB.out)).mono ?_; rintro e w1 ⟨rfl, hb⟩; have n0_ := Aside0.mk (below_step HB.out hb); clear HB hb; have HB := n0_; clear n0_)
          | (go_at_call 25; (first | (with_reducible refine (c25a _).mono ?_) | (with_reducible refine (c25b _).mono ?_)); rintro e w1 ⟨rfl, hb⟩; have n0_ := Aside0.mk (below_step HB.out hb); clear HB hb; have HB := n0_; clear n0_)
          | (go_at_call 26; (first | (with_reducible refine (c26a _).mono ?_) | (with_reducible refine (c26b _).mono ?_)); rintro e w1 ⟨rfl, hb⟩; have n0_ := Aside0.mk (below_step HB.out hb); clear HB hb; have HB := n0_; clear n0_)
          | (go_at_call 27; (first | (with_reducible refine (c27a _).mono ?_) | (with_reducible refine (c27b _).mono ?_)); rintro e w1 ⟨rfl, hb⟩; have n0_ := Aside0.mk (below_step HB.out hb); clear HB hb; have HB := n0_; clear n0_)
          | (go_at_call 28; (first | (with_reducible refine (c28a _).mono ?_) | (with_reducible refine (c28b _).mono ?_)); rintro e w1 ⟨rfl, hb⟩; have n0_ := Aside0.mk (below_step HB.out hb); clear HB hb; have HB := n0_; clear n0_)
          | (go_at_call 21; (first | (with_reducible refine (c21a _ (ht.step HB.out)).mono ?_) | (with_reducible refine (c21b _ (ht.step HB.out)).mono ?_) | (with_reducible refine (c21c _ (ht.step HB.out)).mono ?_) | (with_reducible refine (c21d _ (ht.step HB.out)).mono ?_)); rintro e w1 ⟨rfl, hb⟩; have n0_ := Aside0.mk (below_step HB.out hb); clear HB hb; have HB := n0_; clear n0_)
          | (go_at_call 17; (first | (with_reducible refine (c17a _ (ht.step HB.out)).mono ?_) | (with_reducible refine (c17b _ (ht.step HB.out)).mono ?_)); rintro e w1 ⟨rfl, hb⟩; have n0_ := Aside0.mk (below_step HB.out hb); clear HB hb; have HB := n0_; clear n0_))
      go_ret
      exact ⟨rfl, HB.out⟩
set_option maxRecDepth 100000 in
set_option maxHeartbeats 4000000 in
theorem walk_empty (s t F G : ByteArray) (r L : Int) (T D M V : Bool) (w : World) (ht : Tabs w) (hsz : s.size + t.size ≤ 4000000) (hFG : F.size + G.size ≤ 4000000)
    (c25a : ∀ W, Calls Tryd.prog 25 #[.int .i32 r] W fun e w' => e = .returned (.int .i32 L) ∧ Below W.heap.size W w')
    (c25b : ∀ W, Calls Tryd.prog 25 #[.int .i32 L] W fun e w' => e = .returned (.int .i32 L) ∧ Below W.heap.size W w')
    (c26a : ∀ W, Calls Tryd.prog 26 #[.int .i32 L] W fun e w' => e = .returned (.bool T) ∧ Below W.heap.size W w')
    (c26b : ∀ W, Calls Tryd.prog 26 #[.int .i32 r] W fun e w' => e = .returned (.bool T) ∧ Below W.heap.size W w')
    (c27a : ∀ W, Calls Tryd.prog 27 #[.int .i32 L] W fun e w' => e = .returned (.bool D) ∧ Below W.heap.size W w')
    (c27b : ∀ W, Calls Tryd.prog 27 #[.int .i32 r] W fun e w' => e = .returned (.bool D) ∧ Below W.heap.size W w')
    (c28a : ∀ W, Calls Tryd.prog 28 #[.int .i32 L] W fun e w' => e = .returned (.bool M) ∧ Below W.heap.size W w')
    (c28b : ∀ W, Calls Tryd.prog 28 #[.int .i32 r] W fun e w' => e = .returned (.bool M) ∧ Below W.heap.size W w')
    (c21a : ∀ W, Tabs W → Calls Tryd.prog 21 #[.string s] W fun e w' => e = .returned (.string F) ∧ Below W.heap.size W w')
    (c21b : ∀ W, Tabs W → Calls Tryd.prog 21 #[.string F] W fun e w' => e = .returned (.string F) ∧ Below W.heap.size W w')
    (c21c : ∀ W, Tabs W → Calls Tryd.prog 21 #[.string t] W fun e w' => e = .returned (.string G) ∧ Below W.heap.size W w')
    (c21d : ∀ W, Tabs W → Calls Tryd.prog 21 #[.string (s ++ t)] W fun e w' => e = .returned (.string (F ++ G)) ∧ Below W.heap.size W w')
    (c17a : ∀ W, Tabs W → Calls Tryd.prog 17 #[.string F] W fun e w' => e = .returned (.bool V) ∧ Below W.heap.size W w')
    (c17b : ∀ W, Tabs W → Calls Tryd.prog 17 #[.string s] W fun e w' => e = .returned (.bool V) ∧ Below W.heap.size W w')
    (hLr : (L != r) = false ∨ T = true) (hV : V = false) (h0 : t.size = 0) :
    Calls Tryd.prog 7 #[.string s, .string t, .int .i32 r] w fun e w' => e = .returned (.bool true) ∧ Below w.heap.size w w' := by
  have HB := Aside0.mk (Below.refl w.heap.size w)
  subst hV
  rcases hLr with hLr | rfl
  · go_enter Tryd.func7, Tryd.ntmps7
    go_wp2_with
        (first
        | (go_at_call 23; refine (known_c _ (ht.step HB.out)).mono ?_; rintro e w1 ⟨rfl, hb⟩; have n0_ := Aside0.mk (below_step HB.out hb); clear HB hb; have HB := n0_; clear n0_)
        | (go_at_call 25; (first | (with_reducible refine (c25a _).mono ?_) | (with_reducible refine (c25b _).mono ?_)); rintro e w1 ⟨rfl, hb⟩; have n0_ := Aside0.mk (below_step HB.out hb); clear HB hb; have HB := n0_; clear n0_)
        | (go_at_call 26; (first | (with_reducible refine (c26a _).mono ?_) | (with_reducible refine (c26b _).mono ?_)); rintro e w1 ⟨rfl, hb⟩; have n0_ := Aside0.mk (below_step HB.out hb); clear HB hb; have HB := n0_; clear n0_)
        | (go_at_call 27; (first | (with_reducible refine (c27a _).mono ?_) | (with_reducible refine (c27b _).mono ?_)); rintro e w1 ⟨rfl, hb⟩; have n0_ := Aside0.mk (below_step HB.out hb); clear HB hb; have HB := n0_; clear n0_)
        | (go_at_call 28; (first | (with_reducible refine (c28a _).mono ?_) | (with_reducible refine (c28b _).mono ?_)); rintro e w1 ⟨rfl, hb⟩; have n0_ := Aside0.mk (below_step HB.out hb); clear HB hb; have HB := n0_; clear n0_)
        | (go_at_call 21; (first | (with_reducible refine (c21a _ (ht.step HB.out)).mono ?_) | (with_reducible refine (c21b _ (ht.step HB.out)).mono ?_) | (with_reducible refine (c21c _ (ht.step HB.out)).mono ?_) | (with_reducible refine (c21d _ (ht.step HB.out)).mono ?_)); rintro e w1 ⟨rfl, hb⟩; have n0_ := Aside0.mk (below_step HB.out hb); clear HB hb; have HB := n0_; clear n0_)
        | (go_at_call 17; (first | (with_reducible refine (c17a _ (ht.step HB.out)).mono ?_) | (with_reducible refine (c17b _ (ht.step HB.out)).mono ?_)); rintro e w1 ⟨rfl, hb⟩; have n0_ := Aside0.mk (below_step HB.out hb); clear HB hb; have HB := n0_; clear n0_))
    go_ret
    exact ⟨rfl, HB.out⟩
  · by_cases hLr : (L != r) = true
    · go_enter Tryd.func7, Tryd.ntmps7
      go_wp2_with
          (first
          | (go_at_call 23; refine (known_c _ (ht.step HB.out)).mono ?_; rintro e w1 ⟨rfl, hb⟩; have n0_ := Aside0.mk (below_step HB.out hb); clear HB hb; have HB := n0_; clear n0_)
          | (go_at_call 25; (first | (with_reducible refine (c25a _).mono ?_) | (with_reducible refine (c25b _).mono ?_)); rintro e w1 ⟨rfl, hb⟩; have n0_ := Aside0.mk (below_step HB.out hb); clear HB hb; have HB := n0_; clear n0_)
          | (go_at_call 26; (first | (with_reducible refine (c26a _).mono ?_) | (with_reducible refine (c26b _).mono ?_)); rintro e w1 ⟨rfl, hb⟩; have n0_ := Aside0.mk (below_step HB.out hb); clear HB hb; have HB := n0_; clear n0_)
          | (go_at_call 27; (first | (with_reducible refine (c27a _).mono ?_) | (with_reducible refine (c27b _).mono ?_)); rintro e w1 ⟨rfl, hb⟩; have n0_ := Aside0.mk (below_step HB.out hb); clear HB hb; have HB := n0_; clear n0_)
          | (go_at_call 28; (first | (with_reducible refine (c28a _).mono ?_) | (with_reducible refine (c28b _).mono ?_)); rintro e w1 ⟨rfl, hb⟩; have n0_ := Aside0.mk (below_step HB.out hb); clear HB hb; have HB := n0_; clear n0_)
          | (go_at_call 21; (first | (with_reducible refine (c21a _ (ht.step HB.out)).mono ?_) | (with_reducible refine (c21b _ (ht.step HB.out)).mono ?_) | (with_reducible refine (c21c _ (ht.step HB.out)).mono ?_) | (with_reducible refine (c21d _ (ht.step HB.out)).mono ?_)); rintro e w1 ⟨rfl, hb⟩; have n0_ := Aside0.mk (below_step HB.out hb); clear HB hb; have HB := n0_; clear n0_)
          | (go_at_call 17; (first | (with_reducible refine (c17a _ (ht.step HB.out)).mono ?_) | (with_reducible refine (c17b _ (ht.step HB.out)).mono ?_)); rintro e w1 ⟨rfl, hb⟩; have n0_ := Aside0.mk (below_step HB.out hb); clear HB hb; have HB := n0_; clear n0_))
      go_ret
      exact ⟨rfl, HB.out⟩
    · have hLr' : (L != r) = false := by simpa using hLr
      clear hLr
      go_enter Tryd.func7, Tryd.ntmps7
      go_wp2_with
          (first
          | (go_at_call 23; refine (known_c _ (ht.step HB.out)).mono ?_; rintro e w1 ⟨rfl, hb⟩; have n0_ := Aside0.mk (below_step HB.out hb); clear HB hb; have HB := n0_; clear n0_)
          | (go_at_call 25; (first | (with_reducible refine (c25a _).mono ?_) | (with_reducible refine (c25b _).mono ?_)); rintro e w1 ⟨rfl, hb⟩; have n0_ := Aside0.mk (below_step HB.out hb); clear HB hb; have HB := n0_; clear n0_)
          | (go_at_call 26; (first | (with_reducible refine (c26a _).mono ?_) | (with_reducible refine (c26b _).mono ?_)); rintro e w1 ⟨rfl, hb⟩; have n0_ := Aside0.mk (below_step HB.out hb); clear HB hb; have HB := n0_; clear n0_)
          | (go_at_call 27; (first | (with_reducible refine (c27a _).mono ?_) | (with_reducible refine (c27b _).mono ?_)); rintro e w1 ⟨rfl, hb⟩; have n0_ := Aside0.mk (below_step HB.out hb); clear HB hb; have HB := n0_; clear n0_)
          | (go_at_call 28; (first | (with_reducible refine (c28a _).mono ?_) | (with_reducible refine (c28b _).mono ?_)); rintro e w1 ⟨rfl, hb⟩; have n0_ := Aside0.mk (below_step HB.out hb); clear HB hb; have HB := n0_; clear n0_)
          | (go_at_call 21; (first | (with_reducible refine (c21a _ (ht.step HB.out)).mono ?_) | (with_reducible refine (c21b _ (ht.step HB.out)).mono ?_) | (with_reducible refine (c21c _ (ht.step HB.out)).mono ?_) | (with_reducible refine (c21d _ (ht.step HB.out)).mono ?_)); rintro e w1 ⟨rfl, hb⟩; have n0_ := Aside0.mk (below_step HB.out hb); clear HB hb; have HB := n0_; clear n0_)
          | (go_at_call 17; (first | (with_reducible refine (c17a _ (ht.step HB.out)).mono ?_) | (with_reducible refine (c17b _ (ht.step HB.out)).mono ?_)); rintro e w1 ⟨rfl, hb⟩; have n0_ := Aside0.mk (below_step HB.out hb); clear HB hb; have HB := n0_; clear n0_))
      go_ret
      exact ⟨rfl, HB.out⟩

set_option maxRecDepth 100000 in
set_option maxHeartbeats 4000000 in
theorem walk_low (s t F G : ByteArray) (r L : Int) (T D M V : Bool) (w : World) (ht : Tabs w) (hsz : s.size + t.size ≤ 4000000) (hFG : F.size + G.size ≤ 4000000)
    (c25a : ∀ W, Calls Tryd.prog 25 #[.int .i32 r] W fun e w' => e = .returned (.int .i32 L) ∧ Below W.heap.size W w')
    (c25b : ∀ W, Calls Tryd.prog 25 #[.int .i32 L] W fun e w' => e = .returned (.int .i32 L) ∧ Below W.heap.size W w')
    (c26a : ∀ W, Calls Tryd.prog 26 #[.int .i32 L] W fun e w' => e = .returned (.bool T) ∧ Below W.heap.size W w')
    (c26b : ∀ W, Calls Tryd.prog 26 #[.int .i32 r] W fun e w' => e = .returned (.bool T) ∧ Below W.heap.size W w')
    (c27a : ∀ W, Calls Tryd.prog 27 #[.int .i32 L] W fun e w' => e = .returned (.bool D) ∧ Below W.heap.size W w')
    (c27b : ∀ W, Calls Tryd.prog 27 #[.int .i32 r] W fun e w' => e = .returned (.bool D) ∧ Below W.heap.size W w')
    (c28a : ∀ W, Calls Tryd.prog 28 #[.int .i32 L] W fun e w' => e = .returned (.bool M) ∧ Below W.heap.size W w')
    (c28b : ∀ W, Calls Tryd.prog 28 #[.int .i32 r] W fun e w' => e = .returned (.bool M) ∧ Below W.heap.size W w')
    (c21a : ∀ W, Tabs W → Calls Tryd.prog 21 #[.string s] W fun e w' => e = .returned (.string F) ∧ Below W.heap.size W w')
    (c21b : ∀ W, Tabs W → Calls Tryd.prog 21 #[.string F] W fun e w' => e = .returned (.string F) ∧ Below W.heap.size W w')
    (c21c : ∀ W, Tabs W → Calls Tryd.prog 21 #[.string t] W fun e w' => e = .returned (.string G) ∧ Below W.heap.size W w')
    (c21d : ∀ W, Tabs W → Calls Tryd.prog 21 #[.string (s ++ t)] W fun e w' => e = .returned (.string (F ++ G)) ∧ Below W.heap.size W w')
    (c17a : ∀ W, Tabs W → Calls Tryd.prog 17 #[.string F] W fun e w' => e = .returned (.bool V) ∧ Below W.heap.size W w')
    (c17b : ∀ W, Tabs W → Calls Tryd.prog 17 #[.string s] W fun e w' => e = .returned (.bool V) ∧ Below W.heap.size W w')
    (hLr : (L != r) = false ∨ T = true) (hV : V = false) (h0 : 0 < t.size) (hne : ¬ t = ByteArray.empty) (hb : ((t[0]'h0).toNat : Int) < 128) :
    Calls Tryd.prog 7 #[.string s, .string t, .int .i32 r] w fun e w' => e = .returned (.bool true) ∧ Below w.heap.size w w' := by
  have HB := Aside0.mk (Below.refl w.heap.size w)
  subst hV
  rcases hLr with hLr | rfl
  · go_enter Tryd.func7, Tryd.ntmps7
    go_wp2_with
        (first
        | (go_at_call 23; refine (known_c _ (ht.step HB.out)).mono ?_; rintro e w1 ⟨rfl, hb⟩; have n0_ := Aside0.mk (below_step HB.out hb); clear HB hb; have HB := n0_; clear n0_)
        | (go_at_call 25; (first | (with_reducible refine (c25a _).mono ?_) | (with_reducible refine (c25b _).mono ?_)); rintro e w1 ⟨rfl, hb⟩; have n0_ := Aside0.mk (below_step HB.out hb); clear HB hb; have HB := n0_; clear n0_)
        | (go_at_call 26; (first | (with_reducible refine (c26a _).mono ?_) | (with_reducible refine (c26b _).mono ?_)); rintro e w1 ⟨rfl, hb⟩; have n0_ := Aside0.mk (below_step HB.out hb); clear HB hb; have HB := n0_; clear n0_)
        | (go_at_call 27; (first | (with_reducible refine (c27a _).mono ?_) | (with_reducible refine (c27b _).mono ?_)); rintro e w1 ⟨rfl, hb⟩; have n0_ := Aside0.mk (below_step HB.out hb); clear HB hb; have HB := n0_; clear n0_)
        | (go_at_call 28; (first | (with_reducible refine (c28a _).mono ?_) | (with_reducible refine (c28b _).mono ?_)); rintro e w1 ⟨rfl, hb⟩; have n0_ := Aside0.mk (below_step HB.out hb); clear HB hb; have HB := n0_; clear n0_)
        | (go_at_call 21; (first | (with_reducible refine (c21a _ (ht.step HB.out)).mono ?_) | (with_reducible refine (c21b _ (ht.step HB.out)).mono ?_) | (with_reducible refine (c21c _ (ht.step HB.out)).mono ?_) | (with_reducible refine (c21d _ (ht.step HB.out)).mono ?_)); rintro e w1 ⟨rfl, hb⟩; have n0_ := Aside0.mk (below_step HB.out hb); clear HB hb; have HB := n0_; clear n0_)
        | (go_at_call 17; (first | (with_reducible refine (c17a _ (ht.step HB.out)).mono ?_) | (with_reducible refine (c17b _ (ht.step HB.out)).mono ?_)); rintro e w1 ⟨rfl, hb⟩; have n0_ := Aside0.mk (below_step HB.out hb); clear HB hb; have HB := n0_; clear n0_))
    go_ret
    exact ⟨rfl, HB.out⟩
  · by_cases hLr : (L != r) = true
    · go_enter Tryd.func7, Tryd.ntmps7
      go_wp2_with
          (first
          | (go_at_call 23; refine (known_c _ (ht.step HB.out)).mono ?_; rintro e w1 ⟨rfl, hb⟩; have n0_ := Aside0.mk (below_step HB.out hb); clear HB hb; have HB := n0_; clear n0_)
          | (go_at_call 25; (first | (with_reducible refine (c25a _).mono ?_) | (with_reducible refine (c25b _).mono ?_)); rintro e w1 ⟨rfl, hb⟩; have n0_ := Aside0.mk (below_step HB.out hb); clear HB hb; have HB := n0_; clear n0_)
          | (go_at_call 26; (first | (with_reducible refine (c26a _).mono ?_) | (with_reducible refine (c26b _).mono ?_)); rintro e w1 ⟨rfl, hb⟩; have n0_ := Aside0.mk (below_step HB.out hb); clear HB hb; have HB := n0_; clear n0_)
          | (go_at_call 27; (first | (with_reducible refine (c27a _).mono ?_) | (with_reducible refine (c27b _).mono ?_)); rintro e w1 ⟨rfl, hb⟩; have n0_ := Aside0.mk (below_step HB.out hb); clear HB hb; have HB := n0_; clear n0_)
          | (go_at_call 28; (first | (with_reducible refine (c28a _).mono ?_) | (with_reducible refine (c28b _).mono ?_)); rintro e w1 ⟨rfl, hb⟩; have n0_ := Aside0.mk (below_step HB.out hb); clear HB hb; have HB := n0_; clear n0_)
          | (go_at_call 21; (first | (with_reducible refine (c21a _ (ht.step HB.out)).mono ?_) | (with_reducible refine (c21b _ (ht.step HB.out)).mono ?_) | (with_reducible refine (c21c _ (ht.step HB.out)).mono ?_) | (with_reducible refine (c21d _ (ht.step HB.out)).mono ?_)); rintro e w1 ⟨rfl, hb⟩; have n0_ := Aside0.mk (below_step HB.out hb); clear HB hb; have HB := n0_; clear n0_)
          | (go_at_call 17; (first | (with_reducible refine (c17a _ (ht.step HB.out)).mono ?_) | (with_reducible refine (c17b _ (ht.step HB.out)).mono ?_)); rintro e w1 ⟨rfl, hb⟩; have n0_ := Aside0.mk (below_step HB.out hb); clear HB hb; have HB := n0_; clear n0_))
      go_ret
      exact ⟨rfl, HB.out⟩
    · have hLr' : (L != r) = false := by simpa using hLr
      clear hLr
      go_enter Tryd.func7, Tryd.ntmps7
      go_wp2_with
          (first
          | (go_at_call 23; refine (known_c _ (ht.step HB.out)).mono ?_; rintro e w1 ⟨rfl, hb⟩; have n0_ := Aside0.mk (below_step HB.out hb); clear HB hb; have HB := n0_; clear n0_)
          | (go_at_call 25; (first | (with_reducible refine (c25a _).mono ?_) | (with_reducible refine (c25b _).mono ?_)); rintro e w1 ⟨rfl, hb⟩; have n0_ := Aside0.mk (below_step HB.out hb); clear HB hb; have HB := n0_; clear n0_)
          | (go_at_call 26; (first | (with_reducible refine (c26a _).mono ?_) | (with_reducible refine (c26b _).mono ?_)); rintro e w1 ⟨rfl, hb⟩; have n0_ := Aside0.mk (below_step HB.out hb); clear HB hb; have HB := n0_; clear n0_)
          | (go_at_call 27; (first | (with_reducible refine (c27a _).mono ?_) | (with_reducible refine (c27b _).mono ?_)); rintro e w1 ⟨rfl, hb⟩; have n0_ := Aside0.mk (below_step HB.out hb); clear HB hb; have HB := n0_; clear n0_)
          | (go_at_call 28; (first | (with_reducible refine (c28a _).mono ?_) | (with_reducible refine (c28b _).mono ?_)); rintro e w1 ⟨rfl, hb⟩; have n0_ := Aside0.mk (below_step HB.out hb); clear HB hb; have HB := n0_; clear n0_)
          | (go_at_call 21; (first | (with_reducible refine (c21a _ (ht.step HB.out)).mono ?_) | (with_reducible refine (c21b _ (ht.step HB.out)).mono ?_) | (with_reducible refine (c21c _ (ht.step HB.out)).mono ?_) | (with_reducible refine (c21d _ (ht.step HB.out)).mono ?_)); rintro e w1 ⟨rfl, hb⟩; have n0_ := Aside0.mk (below_step HB.out hb); clear HB hb; have HB := n0_; clear n0_)
          | (go_at_call 17; (first | (with_reducible refine (c17a _ (ht.step HB.out)).mono ?_) | (with_reducible refine (c17b _ (ht.step HB.out)).mono ?_)); rintro e w1 ⟨rfl, hb⟩; have n0_ := Aside0.mk (below_step HB.out hb); clear HB hb; have HB := n0_; clear n0_))
      go_ret
      exact ⟨rfl, HB.out⟩

set_option maxRecDepth 100000 in
set_option maxHeartbeats 4000000 in
theorem walk_high (s t F G : ByteArray) (r L : Int) (T D M V : Bool) (w : World) (ht : Tabs w) (hsz : s.size + t.size ≤ 4000000) (hFG : F.size + G.size ≤ 4000000)
    (c25a : ∀ W, Calls Tryd.prog 25 #[.int .i32 r] W fun e w' => e = .returned (.int .i32 L) ∧ Below W.heap.size W w')
    (c25b : ∀ W, Calls Tryd.prog 25 #[.int .i32 L] W fun e w' => e = .returned (.int .i32 L) ∧ Below W.heap.size W w')
    (c26a : ∀ W, Calls Tryd.prog 26 #[.int .i32 L] W fun e w' => e = .returned (.bool T) ∧ Below W.heap.size W w')
    (c26b : ∀ W, Calls Tryd.prog 26 #[.int .i32 r] W fun e w' => e = .returned (.bool T) ∧ Below W.heap.size W w')
    (c27a : ∀ W, Calls Tryd.prog 27 #[.int .i32 L] W fun e w' => e = .returned (.bool D) ∧ Below W.heap.size W w')
    (c27b : ∀ W, Calls Tryd.prog 27 #[.int .i32 r] W fun e w' => e = .returned (.bool D) ∧ Below W.heap.size W w')
    (c28a : ∀ W, Calls Tryd.prog 28 #[.int .i32 L] W fun e w' => e = .returned (.bool M) ∧ Below W.heap.size W w')
    (c28b : ∀ W, Calls Tryd.prog 28 #[.int .i32 r] W fun e w' => e = .returned (.bool M) ∧ Below W.heap.size W w')
    (c21a : ∀ W, Tabs W → Calls Tryd.prog 21 #[.string s] W fun e w' => e = .returned (.string F) ∧ Below W.heap.size W w')
    (c21b : ∀ W, Tabs W → Calls Tryd.prog 21 #[.string F] W fun e w' => e = .returned (.string F) ∧ Below W.heap.size W w')
    (c21c : ∀ W, Tabs W → Calls Tryd.prog 21 #[.string t] W fun e w' => e = .returned (.string G) ∧ Below W.heap.size W w')
    (c21d : ∀ W, Tabs W → Calls Tryd.prog 21 #[.string (s ++ t)] W fun e w' => e = .returned (.string (F ++ G)) ∧ Below W.heap.size W w')
    (c17a : ∀ W, Tabs W → Calls Tryd.prog 17 #[.string F] W fun e w' => e = .returned (.bool V) ∧ Below W.heap.size W w')
    (c17b : ∀ W, Tabs W → Calls Tryd.prog 17 #[.string s] W fun e w' => e = .returned (.bool V) ∧ Below W.heap.size W w')
    (hLr : (L != r) = false ∨ T = true) (hV : V = false) (h0 : 0 < t.size) (hne : ¬ t = ByteArray.empty) (hb : ¬ ((t[0]'h0).toNat : Int) < 128) (hb2 : 192 ≤ ((t[0]'h0).toNat : Int)) :
    Calls Tryd.prog 7 #[.string s, .string t, .int .i32 r] w fun e w' => e = .returned (.bool true) ∧ Below w.heap.size w w' := by
  have HB := Aside0.mk (Below.refl w.heap.size w)
  subst hV
  rcases hLr with hLr | rfl
  · go_enter Tryd.func7, Tryd.ntmps7
    go_wp2_with
        (first
        | (go_at_call 23; refine (known_c _ (ht.step HB.out)).mono ?_; rintro e w1 ⟨rfl, hb⟩; have n0_ := Aside0.mk (below_step HB.out hb); clear HB hb; have HB := n0_; clear n0_)
        | (go_at_call 25; (first | (with_reducible refine (c25a _).mono ?_) | (with_reducible refine (c25b _).mono ?_)); rintro e w1 ⟨rfl, hb⟩; have n0_ := Aside0.mk (below_step HB.out hb); clear HB hb; have HB := n0_; clear n0_)
        | (go_at_call 26; (first | (with_reducible refine (c26a _).mono ?_) | (with_reducible refine (c26b _).mono ?_)); rintro e w1 ⟨rfl, hb⟩; have n0_ := Aside0.mk (below_step HB.out hb); clear HB hb; have HB := n0_; clear n0_)
        | (go_at_call 27; (first | (with_reducible refine (c27a _).mono ?_) | (with_reducible refine (c27b _).mono ?_)); rintro e w1 ⟨rfl, hb⟩; have n0_ := Aside0.mk (below_step HB.out hb); clear HB hb; have HB := n0_; clear n0_)
        | (go_at_call 28; (first | (with_reducible refine (c28a _).mono ?_) | (with_reducible refine (c28b _).mono ?_)); rintro e w1 ⟨rfl, hb⟩; have n0_ := Aside0.mk (below_step HB.out hb); clear HB hb; have HB := n0_; clear n0_)
        | (go_at_call 21; (first | (with_reducible refine (c21a _ (ht.step HB.out)).mono ?_) | (with_reducible refine (c21b _ (ht.step HB.out)).mono ?_) | (with_reducible refine (c21c _ (ht.step HB.out)).mono ?_) | (with_reducible refine (c21d _ (ht.step HB.out)).mono ?_)); rintro e w1 ⟨rfl, hb⟩; have n0_ := Aside0.mk (below_step HB.out hb); clear HB hb; have HB := n0_; clear n0_)
        | (go_at_call 17; (first | (with_reducible refine (c17a _ (ht.step HB.out)).mono ?_) | (with_reducible refine (c17b _ (ht.step HB.out)).mono ?_)); rintro e w1 ⟨rfl, hb⟩; have n0_ := Aside0.mk (below_step HB.out hb); clear HB hb; have HB := n0_; clear n0_))
    go_ret
    exact ⟨rfl, HB.out⟩
  · by_cases hLr : (L != r) = true
    · go_enter Tryd.func7, Tryd.ntmps7
      go_wp2_with
          (first
          | (go_at_call 23; refine (known_c _ (ht.step HB.out)).mono ?_; rintro e w1 ⟨rfl, hb⟩; have n0_ := Aside0.mk (below_step HB.out hb); clear HB hb; have HB := n0_; clear n0_)
          | (go_at_call 25; (first | (with_reducible refine (c25a _).mono ?_) | (with_reducible refine (c25b _).mono ?_)); rintro e w1 ⟨rfl, hb⟩; have n0_ := Aside0.mk (below_step HB.out hb); clear HB hb; have HB := n0_; clear n0_)
          | (go_at_call 26; (first | (with_reducible refine (c26a _).mono ?_) | (with_reducible refine (c26b _).mono ?_)); rintro e w1 ⟨rfl, hb⟩; have n0_ := Aside0.mk (below_step HB.out hb); clear HB hb; have HB := n0_; clear n0_)
          | (go_at_call 27; (first | (with_reducible refine (c27a _).mono ?_) | (with_reducible refine (c27b _).mono ?_)); rintro e w1 ⟨rfl, hb⟩; have n0_ := Aside0.mk (below_step HB.out hb); clear HB hb; have HB := n0_; clear n0_)
          | (go_at_call 28; (first | (with_reducible refine (c28a _).mono ?_) | (with_reducible refine (c28b _).mono ?_)); rintro e w1 ⟨rfl, hb⟩; have n0_ := Aside0.mk (below_step HB.out hb); clear HB hb; have HB := n0_; clear n0_)
          | (go_at_call 21; (first | (with_reducible refine (c21a _ (ht.step HB.out)).mono ?_) | (with_reducible refine (c21b _ (ht.step HB.out)).mono ?_) | (with_reducible refine (c21c _ (ht.step HB.out)).mono ?_) | (with_reducible refine (c21d _ (ht.step HB.out)).mono ?_)); rintro e w1 ⟨rfl, hb⟩; have n0_ := Aside0.mk (below_step HB.out hb); clear HB hb; have HB := n0_; clear n0_)
          | (go_at_call 17; (first | (with_reducible refine (c17a _ (ht.step HB.out)).mono ?_) | (with_reducible refine (c17b _ (ht.step HB.out)).mono ?_)); rintro e w1 ⟨rfl, hb⟩; have n0_ := Aside0.mk (below_step HB.out hb); clear HB hb; have HB := n0_; clear n0_))
      go_ret
      exact ⟨rfl, HB.out⟩
    · have hLr' : (L != r) = false := by simpa using hLr
      clear hLr
      go_enter Tryd.func7, Tryd.ntmps7
      go_wp2_with
          (first
          | (go_at_call 23; refine (known_c _ (ht.step HB.out)).mono ?_; rintro e w1 ⟨rfl, hb⟩; have n0_ := Aside0.mk (below_step HB.out hb); clear HB hb; have HB := n0_; clear n0_)
          | (go_at_call 25; (first | (with_reducible refine (c25a _).mono ?_) | (with_reducible refine (c25b _).mono ?_)); rintro e w1 ⟨rfl, hb⟩; have n0_ := Aside0.mk (below_step HB.out hb); clear HB hb; have HB := n0_; clear n0_)
          | (go_at_call 26; (first | (with_reducible refine (c26a _).mono ?_) | (with_reducible refine (c26b _).mono ?_)); rintro e w1 ⟨rfl, hb⟩; have n0_ := Aside0.mk (below_step HB.out hb); clear HB hb; have HB := n0_; clear n0_)
          | (go_at_call 27; (first | (with_reducible refine (c27a _).mono ?_) | (with_reducible refine (c27b _).mono ?_)); rintro e w1 ⟨rfl, hb⟩; have n0_ := Aside0.mk (below_step HB.out hb); clear HB hb; have HB := n0_; clear n0_)
          | (go_at_call 28; (first | (with_reducible refine (c28a _).mono ?_) | (with_reducible refine (c28b _).mono ?_)); rintro e w1 ⟨rfl, hb⟩; have n0_ := Aside0.mk (below_step HB.out hb); clear HB hb; have HB := n0_; clear n0_)
          | (go_at_call 21; (first | (with_reducible refine (c21a _ (ht.step HB.out)).mono ?_) | (with_reducible refine (c21b _ (ht.step HB.out)).mono ?_) | (with_reducible refine (c21c _ (ht.step HB.out)).mono ?_) | (with_reducible refine (c21d _ (ht.step HB.out)).mono ?_)); rintro e w1 ⟨rfl, hb⟩; have n0_ := Aside0.mk (below_step HB.out hb); clear HB hb; have HB := n0_; clear n0_)
          | (go_at_call 17; (first | (with_reducible refine (c17a _ (ht.step HB.out)).mono ?_) | (with_reducible refine (c17b _ (ht.step HB.out)).mono ?_)); rintro e w1 ⟨rfl, hb⟩; have n0_ := Aside0.mk (below_step HB.out hb); clear HB hb; have HB := n0_; clear n0_))
      go_ret
      exact ⟨rfl, HB.out⟩

set_option maxRecDepth 100000 in
set_option maxHeartbeats 4000000 in
theorem walk_mid (s t F G : ByteArray) (r L : Int) (T D M V : Bool) (w : World) (ht : Tabs w) (hsz : s.size + t.size ≤ 4000000) (hFG : F.size + G.size ≤ 4000000)
    (c25a : ∀ W, Calls Tryd.prog 25 #[.int .i32 r] W fun e w' => e = .returned (.int .i32 L) ∧ Below W.heap.size W w')
    (c25b : ∀ W, Calls Tryd.prog 25 #[.int .i32 L] W fun e w' => e = .returned (.int .i32 L) ∧ Below W.heap.size W w')
    (c26a : ∀ W, Calls Tryd.prog 26 #[.int .i32 L] W fun e w' => e = .returned (.bool T) ∧ Below W.heap.size W w')
    (c26b : ∀ W, Calls Tryd.prog 26 #[.int .i32 r] W fun e w' => e = .returned (.bool T) ∧ Below W.heap.size W w')
    (c27a : ∀ W, Calls Tryd.prog 27 #[.int .i32 L] W fun e w' => e = .returned (.bool D) ∧ Below W.heap.size W w')
    (c27b : ∀ W, Calls Tryd.prog 27 #[.int .i32 r] W fun e w' => e = .returned (.bool D) ∧ Below W.heap.size W w')
    (c28a : ∀ W, Calls Tryd.prog 28 #[.int .i32 L] W fun e w' => e = .returned (.bool M) ∧ Below W.heap.size W w')
    (c28b : ∀ W, Calls Tryd.prog 28 #[.int .i32 r] W fun e w' => e = .returned (.bool M) ∧ Below W.heap.size W w')
    (c21a : ∀ W, Tabs W → Calls Tryd.prog 21 #[.string s] W fun e w' => e = .returned (.string F) ∧ Below W.heap.size W w')
    (c21b : ∀ W, Tabs W → Calls Tryd.prog 21 #[.string F] W fun e w' => e = .returned (.string F) ∧ Below W.heap.size W w')
    (c21c : ∀ W, Tabs W → Calls Tryd.prog 21 #[.string t] W fun e w' => e = .returned (.string G) ∧ Below W.heap.size W w')
    (c17a : ∀ W, Tabs W → Calls Tryd.prog 17 #[.string F] W fun e w' => e = .returned (.bool V) ∧ Below W.heap.size W w')
    (c17b : ∀ W, Tabs W → Calls Tryd.prog 17 #[.string s] W fun e w' => e = .returned (.bool V) ∧ Below W.heap.size W w')
    (hLr : (L != r) = false ∨ T = true) (hV : V = false) (h0 : 0 < t.size) (hne : ¬ t = ByteArray.empty) (hb : ¬ ((t[0]'h0).toNat : Int) < 128) (hb2 : ¬ 192 ≤ ((t[0]'h0).toNat : Int)) :
    Calls Tryd.prog 7 #[.string s, .string t, .int .i32 r] w fun e w' => e = .returned (.bool true) ∧ Below w.heap.size w w' := by
  have HB := Aside0.mk (Below.refl w.heap.size w)
  subst hV
  rcases hLr with hLr | rfl
  · go_enter Tryd.func7, Tryd.ntmps7
    go_wp2_with
        (first
        | (go_at_call 23; refine (known_c _ (ht.step HB.out)).mono ?_; rintro e w1 ⟨rfl, hb⟩; have n0_ := Aside0.mk (below_step HB.out hb); clear HB hb; have HB := n0_; clear n0_)
        | (go_at_call 25; (first | (with_reducible refine (c25a _).mono ?_) | (with_reducible refine (c25b _).mono ?_)); rintro e w1 ⟨rfl, hb⟩; have n0_ := Aside0.mk (below_step HB.out hb); clear HB hb; have HB := n0_; clear n0_)
        | (go_at_call 26; (first | (with_reducible refine (c26a _).mono ?_) | (with_reducible refine (c26b _).mono ?_)); rintro e w1 ⟨rfl, hb⟩; have n0_ := Aside0.mk (below_step HB.out hb); clear HB hb; have HB := n0_; clear n0_)
        | (go_at_call 27; (first | (with_reducible refine (c27a _).mono ?_) | (with_reducible refine (c27b _).mono ?_)); rintro e w1 ⟨rfl, hb⟩; have n0_ := Aside0.mk (below_step HB.out hb); clear HB hb; have HB := n0_; clear n0_)
        | (go_at_call 28; (first | (with_reducible refine (c28a _).mono ?_) | (with_reducible refine (c28b _).mono ?_)); rintro e w1 ⟨rfl, hb⟩; have n0_ := Aside0.mk (below_step HB.out hb); clear HB hb; have HB := n0_; clear n0_)
        | (go_at_call 21; (first | (with_reducible refine (c21a _ (ht.step HB.out)).mono ?_) | (with_reducible refine (c21b _ (ht.step HB.out)).mono ?_) | (with_reducible refine (c21c _ (ht.step HB.out)).mono ?_)); rintro e w1 ⟨rfl, hb⟩; have n0_ := Aside0.mk (below_step HB.out hb); clear HB hb; have HB := n0_; clear n0_)
        | (go_at_call 17; (first | (with_reducible refine (c17a _ (ht.step HB.out)).mono ?_) | (with_reducible refine (c17b _ (ht.step HB.out)).mono ?_)); rintro e w1 ⟨rfl, hb⟩; have n0_ := Aside0.mk (below_step HB.out hb); clear HB hb; have HB := n0_; clear n0_))
    go_ret
    exact ⟨rfl, HB.out⟩
  · by_cases hLr : (L != r) = true
    · go_enter Tryd.func7, Tryd.ntmps7
      go_wp2_with
          (first
          | (go_at_call 23; refine (known_c _ (ht.step HB.out)).mono ?_; rintro e w1 ⟨rfl, hb⟩; have n0_ := Aside0.mk (below_step HB.out hb); clear HB hb; have HB := n0_; clear n0_)
          | (go_at_call 25; (first | (with_reducible refine (c25a _).mono ?_) | (with_reducible refine (c25b _).mono ?_)); rintro e w1 ⟨rfl, hb⟩; have n0_ := Aside0.mk (below_step HB.out hb); clear HB hb; have HB := n0_; clear n0_)
          | (go_at_call 26; (first | (with_reducible refine (c26a _).mono ?_) | (with_reducible refine (c26b _).mono ?_)); rintro e w1 ⟨rfl, hb⟩; have n0_ := Aside0.mk (below_step HB.out hb); clear HB hb; have HB := n0_; clear n0_)
          | (go_at_call 27; (first | (with_reducible refine (c27a _).mono ?_) | (with_reducible refine (c27b _).mono ?_)); rintro e w1 ⟨rfl, hb⟩; have n0_ := Aside0.mk (below_step HB.out hb); clear HB hb; have HB := n0_; clear n0_)
          | (go_at_call 28; (first | (with_reducible refine (c28a _).mono ?_) | (with_reducible refine (c28b _).mono ?_)); rintro e w1 ⟨rfl, hb⟩; have n0_ := Aside0.mk (below_step HB.out hb); clear HB hb; have HB := n0_; clear n0_)
          | (go_at_call 21; (first | (with_reducible refine (c21a _ (ht.step HB.out)).mono ?_) | (with_reducible refine (c21b _ (ht.step HB.out)).mono ?_) | (with_reducible refine (c21c _ (ht.step HB.out)).mono ?_)); rintro e w1 ⟨rfl, hb⟩; have n0_ := Aside0.mk (below_step HB.out hb); clear HB hb; have HB := n0_; clear n0_)
          | (go_at_call 17; (first | (with_reducible refine (c17a _ (ht.step HB.out)).mono ?_) | (with_reducible refine (c17b _ (ht.step HB.out)).mono ?_)); rintro e w1 ⟨rfl, hb⟩; have n0_ := Aside0.mk (below_step HB.out hb); clear HB hb; have HB := n0_; clear n0_))
      go_ret
      exact ⟨rfl, HB.out⟩
    · have hLr' : (L != r) = false := by simpa using hLr
      clear hLr
      go_enter Tryd.func7, Tryd.ntmps7
      go_wp2_with
          (first
          | (go_at_call 23; refine (known_c _ (ht.step HB.out)).mono ?_; rintro e w1 ⟨rfl, hb⟩; have n0_ := Aside0.mk (below_step HB.out hb); clear HB hb; have HB := n0_; clear n0_)
          | (go_at_call 25; (first | (with_reducible refine (c25a _).mono ?_) | (with_reducible refine (c25b _).mono ?_)); rintro e w1 ⟨rfl, hb⟩; have n0_ := Aside0.mk (below_step HB.out hb); clear HB hb; have HB := n0_; clear n0_)
          | (go_at_call 26; (first | (with_reducible refine (c26a _).mono ?_) | (with_reducible refine (c26b _).mono ?_)); rintro e w1 ⟨rfl, hb⟩; have n0_ := Aside0.mk (below_step HB.out hb); clear HB hb; have HB := n0_; clear n0_)
          | (go_at_call 27; (first | (with_reducible refine (c27a _).mono ?_) | (with_reducible refine (c27b _).mono ?_)); rintro e w1 ⟨rfl, hb⟩; have n0_ := Aside0.mk (below_step HB.out hb); clear HB hb; have HB := n0_; clear n0_)
          | (go_at_call 28; (first | (with_reducible refine (c28a _).mono ?_) | (with_reducible refine (c28b _).mono ?_)); rintro e w1 ⟨rfl, hb⟩; have n0_ := Aside0.mk (below_step HB.out hb); clear HB hb; have HB := n0_; clear n0_)
          | (go_at_call 21; (first | (with_reducible refine (c21a _ (ht.step HB.out)).mono ?_) | (with_reducible refine (c21b _ (ht.step HB.out)).mono ?_) | (with_reducible refine (c21c _ (ht.step HB.out)).mono ?_)); rintro e w1 ⟨rfl, hb⟩; have n0_ := Aside0.mk (below_step HB.out hb); clear HB hb; have HB := n0_; clear n0_)
          | (go_at_call 17; (first | (with_reducible refine (c17a _ (ht.step HB.out)).mono ?_) | (with_reducible refine (c17b _ (ht.step HB.out)).mono ?_)); rintro e w1 ⟨rfl, hb⟩; have n0_ := Aside0.mk (below_step HB.out hb); clear HB hb; have HB := n0_; clear n0_))
      go_ret
      exact ⟨rfl, HB.out⟩

end Go.Proofs.YtgbphkckiekehaaDoor.lowerLaw
