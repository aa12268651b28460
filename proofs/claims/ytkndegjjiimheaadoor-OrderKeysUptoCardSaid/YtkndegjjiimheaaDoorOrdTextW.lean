/- order.Text walked over its callees' contracts (given as hypotheses; the shelf's contracts discharge them). -/
import Derived.Test.YtkndegjjiimheaaDoorOrdRefT
set_option linter.unusedVariables false
set_option linter.unusedSimpArgs false
namespace Go.Proofs.YtkndegjjiimheaaDoor.Ord
open Go Go.RowKit Go.Proofs.YtkndegjjiimheaaDoorW.PrintWords Go.Proofs.YtkndegjjiimheaaDoorW.PrintLast Go.Proofs.OrdPlain Go.Lib

theorem dec_len : ∀ (k u : Nat), u < 10 ^ (k + 1) → (decDigits u).length ≤ k + 1
  | 0, u, h => by rw [dec_small u (by omega)]; simp
  | k + 1, u, h => by
    by_cases h10 : u < 10
    · rw [dec_small u h10]; simp
    · rw [dec_big u h10, List.length_append]
      have := dec_len k (u / 10) (by rw [Nat.pow_succ] at h; omega)
      simp; omega
def progText (n : Int) (m : Nat) : List UInt8 := (if n < 0 then [45] else []) ++ progSize n.natAbs m
theorem prog_ref (n : Int) (m : Nat) : progText n m = refText n m := by unfold progText refText; rw [text_law]

theorem below_drewN {B : Nat} {a w : World} (h : Below B a w) (n : Nat) : Below B a (w.drewN n) := ⟨h.os, h.tape, h.output, h.size, h.block⟩
theorem ret_txt {a b : ByteArray} (h : a = b) : Ending.returned (.tuple #[.string a, .int .i64 0]) = Ending.returned (.tuple #[.string b, .int .i64 0]) := by rw [h]
theorem txt_extract (l : List UInt8) (a b : Nat) : (txt l).extract a b = txt ((l.take b).drop a) := by
  unfold txt
  apply ByteArray.ext
  simp [ByteArray.data_extract, List.extract_eq_take_drop, List.drop_take]
theorem prog_pos (n : Int) (m c k : Nat) (D P : List UInt8) (hD : D = decDigits n.natAbs) (hc : c = m + 1 - D.length) (hP : P = List.replicate c 48 ++ D) (hk : P.length = k + m) (hm : 0 < m) :
    progText n m = (if n < 0 then [45] else []) ++ (P.take k ++ 46 :: P.drop k) := by
  subst hD hc hP
  unfold progText progSize
  rw [if_pos hm, hk, Nat.add_sub_cancel]
theorem prog_zero (n : Int) (m c : Nat) (D P : List UInt8) (hD : D = decDigits n.natAbs) (hc : c = m + 1 - D.length) (hP : P = List.replicate c 48 ++ D) (hm : ¬ 0 < m) :
    progText n m = (if n < 0 then [45] else []) ++ P := by
  subst hD hc hP
  unfold progText progSize
  rw [if_neg hm]
theorem sign_txt (P : List UInt8) : (⟨#[45]⟩ : ByteArray) ++ txt P = txt ([45] ++ P) := txt_app [45] P
theorem dot_mid (A B : List UInt8) : txt A ++ (⟨#[46]⟩ : ByteArray) ++ txt B = txt (A ++ 46 :: B) := by
  rw [show (⟨#[46]⟩ : ByteArray) = txt [46] from rfl, txt_app, txt_app, List.append_assoc]; rfl

set_option maxRecDepth 100000 in
set_option maxHeartbeats 1000000 in
theorem text_c (n : Int) (hn0 : -9223372036854775808 ≤ n) (hn1 : n ≤ 9223372036854775807) (scale : Int) (w : World)
    (hF : Calls Tryd.prog 29 #[.int .i64 n, .int .i64 10] w fun e w' => e = .returned (.string (txt (itoa n))) ∧ Below w.heap.size w w')
    (hP : ∀ W, Calls Tryd.prog 23 #[.string (txt (itoa n)), .string ⟨#[45]⟩] W fun e w' => e = .returned (.tuple #[.string (txt (decDigits n.natAbs)), .bool (decide (n < 0))]) ∧ Below W.heap.size W w')
    (hR : ∀ (c : Nat) W, c ≤ 20 → Calls Tryd.prog 26 #[.string ⟨#[48]⟩, .int .i64 c] W fun e w' => e = .returned (.string (txt (List.replicate c 48))) ∧ Below W.heap.size W w') :
    Calls Tryd.prog 7 #[.int .i64 n, .int .i64 scale] w fun e w' => e = .returned (.tuple (if 0 ≤ scale ∧ scale ≤ 9 then #[.string (txt (progText n scale.toNat)), .int .i64 0] else #[.string ⟨#[]⟩, .int .i64 1])) ∧ Below w.heap.size w w' := by
  by_cases h0 : scale < 0
  · rw [if_neg (by omega)]
    go_enter Tryd.func7, Tryd.ntmps7
    go_wp2
    go_ret2
    exact ⟨rfl, Below.refl _ _⟩
  by_cases h9 : 9 < scale
  · rw [if_neg (by omega)]
    go_enter Tryd.func7, Tryd.ntmps7
    go_wp2
    go_ret2
    exact ⟨rfl, Below.refl _ _⟩
  rw [if_pos (by omega)]
  obtain ⟨m, rfl⟩ : ∃ m : Nat, scale = m := ⟨scale.toNat, by omega⟩
  rw [Int.toNat_natCast]
  have hm : m ≤ 9 := by omega
  have hdl := dec_len 18 n.natAbs (by omega)
  have hd1 := dec_pos n.natAbs
  obtain ⟨D, hD⟩ : ∃ D, D = decDigits n.natAbs := ⟨_, rfl⟩
  rw [← hD] at hP hdl hd1
  obtain ⟨d, hd⟩ : ∃ d, d = D.length := ⟨_, rfl⟩
  rw [← hd] at hdl hd1
  obtain ⟨c, hc⟩ : ∃ c, c = m + 1 - d := ⟨_, rfl⟩
  obtain ⟨k, hk⟩ : ∃ k, k + m = c + d := ⟨c + d - m, by omega⟩
  obtain ⟨P, hPe⟩ : ∃ P, P = List.replicate c 48 ++ D := ⟨_, rfl⟩
  have hPl : P.length = k + m := by rw [hPe, List.length_append, List.length_replicate, ← hd]; omega
  have HG := fun (h : 0 < m) => Aside0.mk (prog_pos n m c k D P hD (by rw [← hd]; exact hc) hPe hPl h)
  have HZ := fun (h : ¬ 0 < m) => Aside0.mk (prog_zero n m c D P hD (by rw [← hd]; exact hc) hPe h)
  have w1 : IntKind.i64.wrap ((m : Int) + 1) = (m : Int) + 1 := wrap_small _ (by omega) (by omega)
  have w4 : IntKind.i64.wrap (((k + m : Nat) : Int) - (m : Int)) = (k : Int) := by rw [wrap_small _ (by omega) (by omega)]; omega
  have hsz : (txt D).size = d := by rw [txt_size, hd]
  have hps : (txt P).size = k + m := by rw [txt_size, hPl]
  have z1 : ¬ 9223372036854775807 < (txt (List.replicate c 48)).size + d := by rw [txt_size, List.length_replicate]; omega
  have happ : txt (List.replicate c 48) ++ txt D = txt P := by rw [txt_app, hPe]
  have k0 : (0 : Int) ≤ (k : Int) := by omega
  have k1 : (k : Int) ≤ (k : Int) + (m : Int) := by omega
  have kb : (k : Int) ≤ 20 := by omega
  have x1 : (txt P).extract 0 k = txt (P.take k) := by rw [txt_extract]; rfl
  have x2 : (txt P).extract k (k + m) = txt (P.drop k) := by rw [txt_extract, ← hPl, List.take_length]
  have z2 : ¬ 9223372036854775807 < (txt (P.take k)).size + 1 := by rw [txt_size, List.length_take]; omega
  have z4 : ¬ 9223372036854775807 < 1 + ((txt (P.take k)).size + 1 + (txt (P.drop k)).size) := by rw [txt_size, txt_size, List.length_take, List.length_drop]; omega
  have z5 : ¬ 9223372036854775807 < 1 + (k + m) := by omega
  have z3 : ¬ 9223372036854775807 < (txt (P.take k)).size + 1 + (txt (P.drop k)).size := by rw [txt_size, txt_size, List.length_take, List.length_drop]; omega
  have hR' : ∀ (X : Int) W, c ≤ X → X ≤ c → Calls Tryd.prog 26 #[.string ⟨#[48]⟩, .int .i64 X] W fun e w' => e = .returned (.string (txt (List.replicate c 48))) ∧ Below W.heap.size W w' := by
    intro X W h1 h2
    obtain rfl : X = c := by omega
    exact hR c W (by omega)
  have c1 : c ≤ m + 1 - d := by omega
  have c2 : m + 1 - d ≤ c := by omega
  clear hR hPe hPl hk hc hd hD
  go_enter Tryd.func7, Tryd.ntmps7
  go_wp2_with (first
    | (go_at_call 29; with_reducible refine hF.mono ?_; clear hF; rintro e w1 ⟨rfl, hb1⟩; have HB1 := Aside0.mk hb1; clear hb1)
    | (go_at_call 23; with_reducible refine (hP _).mono ?_; clear hP; rintro e w2 ⟨rfl, hb2⟩; have HB2 := Aside0.mk (below_step HB1.out hb2); clear hb2)
    | (go_at_call 26; with_reducible refine (hR' _ _ (by omega) (by omega)).mono ?_; rintro e w3 ⟨rfl, hb3⟩; have HB3 := Aside0.mk (below_step HB2.out hb3); clear hb3 c1 c2 hR'))
  all_goals (try (go_quiet (fail); go_wp2))
  all_goals go_ret2
  all_goals first
    | exact ⟨ret_txt (by rw [(HG (by omega)).out, if_pos (by omega), ← sign_txt, ← dot_mid]), below_drewN HB3.out _⟩
    | exact ⟨ret_txt (by rw [(HG (by omega)).out, if_neg (by omega), List.nil_append, ← dot_mid]), below_drewN HB3.out _⟩
    | exact ⟨ret_txt (by rw [(HZ (by omega)).out, if_pos (by omega), ← sign_txt]), HB3.out⟩
    | exact ⟨ret_txt (by rw [(HZ (by omega)).out, if_neg (by omega), List.nil_append]), HB3.out⟩
end Go.Proofs.YtkndegjjiimheaaDoor.Ord
