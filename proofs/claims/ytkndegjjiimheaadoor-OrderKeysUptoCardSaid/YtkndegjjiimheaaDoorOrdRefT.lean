/- The document's Text walked (lecternref07.Text). -/
import Derived.Test.YtkndegjjiimheaaDoorProg
import Derived.Test.YtkndegjjiimheaaDoorWLast
import Derived.Test.YtkndegjjiimheaaDoorWTab
import Derived.Test.YtkndegjjiimheaaDoorOrdText
import Derived.Laws.IdiomStrings
import Derived.Lib.Hide
set_option linter.unusedVariables false
set_option linter.unusedSimpArgs false
namespace Go.Proofs.YtkndegjjiimheaaDoor.Ord
open Go Go.RowKit Go.Proofs.YtkndegjjiimheaaDoorW.PrintWords Go.Proofs.YtkndegjjiimheaaDoorW.PrintLast Go.Proofs.OrdPlain

/-- A text out of its bytes. -/
def txt (l : List UInt8) : ByteArray := ⟨l.toArray⟩
theorem txt_app (a b : List UInt8) : txt a ++ txt b = txt (a ++ b) := by
  unfold txt
  apply ByteArray.ext
  simp
theorem wU (n : Int) (h0 : 0 ≤ n) (h1 : n < 18446744073709551616) : IntKind.u64.wrap n = n := by
  have : IntKind.u64.wrap n = n % 18446744073709551616 := by simp [IntKind.wrap, IntKind.bits, IntKind.signed]
  rw [this]; omega
theorem wUn (U : Int) (h0 : 0 < U) (h1 : U ≤ 9223372036854775808) : IntKind.u64.wrap (-U) = 18446744073709551616 - U := by
  have : IntKind.u64.wrap (-U) = (-U) % 18446744073709551616 := by simp [IntKind.wrap, IntKind.bits, IntKind.signed]
  rw [this]; omega
theorem wUs (U : Int) (h0 : 0 < U) (h1 : U ≤ 9223372036854775808) : IntKind.u64.wrap (U - 18446744073709551616) = U := by
  have : IntKind.u64.wrap (U - 18446744073709551616) = (U - 18446744073709551616) % 18446744073709551616 := by simp only [IntKind.wrap, IntKind.bits, IntKind.signed]; simp
  rw [this]; omega
theorem w8 (n : Int) (h0 : 0 ≤ n) (h1 : n < 256) : IntKind.u8.wrap n = n := by
  have : IntKind.u8.wrap n = n % 256 := by simp [IntKind.wrap, IntKind.bits, IntKind.signed]
  rw [this]; omega
theorem dch_nat (u : Nat) : ((dch u).toNat : Int) = 48 + (u : Int) % 10 := by
  have h1 : u % 10 < 10 := Nat.mod_lt _ (by omega)
  unfold dch
  simp
  omega
theorem conv_one (W : World) (u : Nat) : (convert 58 9 (.slice (some ⟨W.heap.size, 0, none⟩) 1 1)).run Tryd.prog (W.alloc (.cells #[.int .u8 (48 + (u : Int) % 10)] 5)) = .ok (.string (txt [dch u])) (W.alloc (.cells #[.int .u8 (48 + (u : Int) % 10)] 5)) :=
  run_convert_bytes_back _ 58 9 5 ⟨W.heap.size, 0, none⟩ 1 [dch u] Tryd.underlying58 Tryd.underlying5 Tryd.underlying9 (by
    intro j hj
    obtain rfl : j = 0 := by simp at hj; omega
    show (W.alloc _).cell? ((⟨W.heap.size, 0, none⟩ : Addr).add 0) = some (.int .u8 ((dch u).toNat : Int))
    rw [dch_nat]
    simp [World.cell?_alloc_new, Addr.add])
theorem txt_size (l : List UInt8) : (txt l).size = l.length := by unfold txt; simp [ByteArray.size]
theorem dot_txt (s : List UInt8) : (⟨#[46]⟩ : ByteArray) ++ txt s = txt (46 :: s) := txt_app [46] s
theorem dash_txt (s : List UInt8) : (⟨#[45]⟩ : ByteArray) ++ txt s = txt (45 :: s) := txt_app [45] s
def refText (n : Int) (scale : Nat) : List UInt8 := (if n < 0 then [45] else []) ++ finD scale 0 n.natAbs []

set_option maxRecDepth 100000 in
set_option maxHeartbeats 1000000 in
theorem refText_c (n : Int) (hn0 : -9223372036854775808 ≤ n) (hn1 : n ≤ 9223372036854775807) (scale : Int) (w : World) :
    Calls Tryd.prog 8 #[.int .i64 n, .int .i64 scale] w fun e w' => e = .returned (.tuple (if 0 ≤ scale ∧ scale ≤ 9 then #[.string (txt (refText n scale.toNat)), .int .i64 0] else #[.string ⟨#[]⟩, .int .i64 1])) ∧ Below w.heap.size w w' := by
  by_cases h0 : scale < 0
  · rw [if_neg (by omega)]
    go_enter Tryd.func8, Tryd.ntmps8
    go_wp2
    go_ret2
    exact ⟨rfl, Below.refl _ _⟩
  by_cases h9 : 9 < scale
  · rw [if_neg (by omega)]
    go_enter Tryd.func8, Tryd.ntmps8
    go_wp2
    go_ret2
    exact ⟨rfl, Below.refl _ _⟩
  rw [if_pos (by omega)]
  obtain ⟨m, rfl⟩ : ∃ m : Nat, scale = m := ⟨scale.toNat, by omega⟩
  rw [Int.toNat_natCast]
  have hm : m ≤ 9 := by omega
  by_cases hneg : n < 0
  · obtain ⟨U, rfl⟩ : ∃ U : Nat, n = -(U : Int) := ⟨n.natAbs, by omega⟩
    have HG := Aside0.mk (show refText (-(U : Int)) m = 45 :: finD m 0 U [] by unfold refText; rw [if_pos hneg, Int.natAbs_neg, Int.natAbs_natCast]; rfl)
    have wu : IntKind.u64.wrap (-(U : Int)) = 18446744073709551616 - (U : Int) := wUn _ (by omega) (by omega)
    have wv : IntKind.u64.wrap ((U : Int) - 18446744073709551616) = (U : Int) := wUs _ (by omega) (by omega)
    have wv2 : IntKind.u64.wrap (-(18446744073709551616 - (U : Int))) = (U : Int) := by rw [← wv]; congr 1; omega
    have hneg' : (0 : Int) < (U : Int) := by omega
    go_enter Tryd.func8, Tryd.ntmps8
    go_wp2
    go_loopw [6, 7, 8] (fun vu vs vk wr => ∃ (k u : Nat) (s : List UInt8), vu = .int .u64 u ∧ vs = .string (txt s) ∧ vk = .int .i64 k ∧ Hid (finD m k u s = finD m 0 U []) ∧ u * 10 ^ k ≤ 9223372036854775808 ∧ k ≤ 20 ∧ s.length ≤ 2 * k ∧ Hid (Below w.heap.size w wr))
      (fun vu _ vk _ => (m + 1 - (intOf vk).toNat) + (intOf vu).toNat)
    case atStart => exact ⟨0, U, [], rfl, rfl, rfl, Lib.hid rfl, by simp; omega, by omega, by simp, Lib.hid (Below.refl _ _)⟩
    case round =>
      obtain ⟨k, u, s, rfl, rfl, rfl, hf, hu, hk, hsl, hb⟩ := hrel
      have HF := Aside0.mk hf.out
      have HB := Aside0.mk hb.out
      clear hf hb
      have hub : u ≤ 9223372036854775808 := Nat.le_trans (Nat.le_mul_of_pos_right u (Nat.pow_pos (by omega))) hu
      by_cases hc : k ≤ m ∨ 0 < u
      · have HS := Aside0.mk (fin_step m k u s hc)
        have hk19 : k < 20 := by
          by_cases hkm : k ≤ m
          · omega
          · by_cases h20 : k < 20
            · exact h20
            · have hp : 10 ^ 20 ≤ 10 ^ k := Nat.pow_le_pow_right (by omega) (by omega)
              have : 1 * 10 ^ k ≤ u * 10 ^ k := Nat.mul_le_mul_right _ (by omega)
              omega
        have hu2 : u / 10 * 10 ^ (k + 1) ≤ 9223372036854775808 := by
          rw [Nat.pow_succ, Nat.mul_comm (10 ^ k), ← Nat.mul_assoc]
          exact Nat.le_trans (Nat.mul_le_mul_right _ (Nat.div_mul_le_self u 10)) hu
        have hms : (m + 1 - (k + 1)) + u / 10 < (m + 1 - k) + u := by
          by_cases hkm : k ≤ m
          · omega
          · have : 0 < u := by omega
            omega
        have wk : IntKind.i64.wrap ((k : Int) + 1) = (k : Int) + 1 := wrap_small _ (by omega) (by omega)
        have wr1 : IntKind.u64.wrap (48 + (u : Int) % 10) = 48 + (u : Int) % 10 := wU _ (by omega) (by omega)
        have wr2 : IntKind.u8.wrap (48 + (u : Int) % 10) = 48 + (u : Int) % 10 := w8 _ (by omega) (by omega)
        have wr3 : IntKind.u64.wrap ((u : Int) % 10) = (u : Int) % 10 := wU _ (by omega) (by omega)
        have wr4 : IntKind.u64.wrap ((u : Int) / 10) = (u : Int) / 10 := wU _ (by omega) (by omega)
        have t1 : ((u : Int)).tmod 10 = (u : Int) % 10 := Int.tmod_eq_emod_of_nonneg (by omega)
        have t2 : ((u : Int)).tdiv 10 = (u : Int) / 10 := Int.tdiv_eq_ediv_of_nonneg (by omega)
        have u0 : (0 : Int) ≤ (u : Int) := by omega
        have hcv := fun W => conv_one W u
        have z1 : ¬ 9223372036854775807 < 1 + (txt s).size := by rw [txt_size]; omega
        have z2 : ¬ 9223372036854775807 < (txt [dch u]).size + (1 + (txt s).size) := by rw [txt_size, txt_size]; simp; omega
        have z3 : ¬ 9223372036854775807 < (txt [dch u]).size + (txt s).size := by rw [txt_size, txt_size]; simp; omega
        clear hc
        by_cases hkm : k ≤ m
        · have h1 : (k : Int) ≤ (m : Int) := by omega
          have d1 : decide ((k : Int) ≤ (m : Int)) = true := decide_eq_true h1
          by_cases hke : k = m ∧ 0 < m
          · obtain ⟨rfl, hm0⟩ := hke
            have h3 : (0 : Int) < (k : Int) := by omega
            have d3 : decide ((0 : Int) < (k : Int)) = true := decide_eq_true h3
            rw [if_pos ⟨rfl, hm0⟩] at HS
            go_wp2
            go_roundw
            case rel => exact ⟨k + 1, u / 10, dch u :: 46 :: s, by go_num, by rw [dot_txt, txt_app]; rfl, by go_num, Lib.hid (by rw [← HS.out, HF.out]), hu2, by omega, by simp; omega, Lib.hid (HB.out.alloc HB.out.size _)⟩
            case measure => simp [intOf]; omega
          · rw [if_neg hke] at HS
            by_cases hkz : k = m
            · subst hkz
              have h3 : ¬ (0 : Int) < (k : Int) := by omega
              have d3 : decide ((0 : Int) < (k : Int)) = false := decide_eq_false h3
              clear hke
              go_wp2
              go_roundw
              case rel => exact ⟨k + 1, u / 10, dch u :: s, by go_num, by rw [txt_app]; rfl, by go_num, Lib.hid (by rw [← HS.out, HF.out]), hu2, by omega, by simp; omega, Lib.hid (HB.out.alloc HB.out.size _)⟩
              case measure => simp [intOf]; omega
            · have h3 : ¬ (k : Int) = (m : Int) := by omega
              have d3 : decide ((k : Int) = (m : Int)) = false := decide_eq_false h3
              have b3 : ((k : Int) == (m : Int)) = false := beq_false_of_ne h3
              clear hke hkz
              go_wp2
              go_roundw
              case rel => exact ⟨k + 1, u / 10, dch u :: s, by go_num, by rw [txt_app]; rfl, by go_num, Lib.hid (by rw [← HS.out, HF.out]), hu2, by omega, by simp; omega, Lib.hid (HB.out.alloc HB.out.size _)⟩
              case measure => simp [intOf]; omega
        · have h1 : ¬ (k : Int) ≤ (m : Int) := by omega
          have d1 : decide ((k : Int) ≤ (m : Int)) = false := decide_eq_false h1
          have h2 : (0 : Int) < (u : Int) := by omega
          have d2 : decide ((0 : Int) < (u : Int)) = true := decide_eq_true h2
          have h3 : ¬ (k : Int) = (m : Int) := by omega
          have d3 : decide ((k : Int) = (m : Int)) = false := decide_eq_false h3
          have b3 : ((k : Int) == (m : Int)) = false := beq_false_of_ne h3
          rw [if_neg (show ¬ (k = m ∧ 0 < m) by omega)] at HS
          clear hkm
          go_wp2
          go_roundw
          case rel => exact ⟨k + 1, u / 10, dch u :: s, by go_num, by rw [txt_app]; rfl, by go_num, Lib.hid (by rw [← HS.out, HF.out]), hu2, by omega, by simp; omega, Lib.hid (HB.out.alloc HB.out.size _)⟩
          case measure => simp [intOf]; omega
      · have hfe := fin_end m k u s hc
        have h1 : ¬ (k : Int) ≤ (m : Int) := by omega
        have h2 : ¬ (0 : Int) < (u : Int) := by omega
        have d1 : decide ((k : Int) ≤ (m : Int)) = false := decide_eq_false h1
        have d2 : decide ((0 : Int) < (u : Int)) = false := decide_eq_false h2
        have HE := Aside0.mk (show txt (refText (-(U : Int)) m) = txt (45 :: s) by rw [HG.out, ← HF.out, hfe])
        have z1 : ¬ 9223372036854775807 < 1 + (txt s).size := by rw [txt_size]; omega
        clear hfe
        go_wp2
        go_ret2
        exact ⟨by rw [HE.out, ← dash_txt]; rfl, HB.out⟩
  · obtain ⟨U, rfl⟩ : ∃ U : Nat, n = U := ⟨n.toNat, by omega⟩
    have HG := Aside0.mk (show refText (U : Int) m = finD m 0 U [] by unfold refText; rw [if_neg hneg]; rfl)
    have wu : IntKind.u64.wrap (U : Int) = (U : Int) := wU _ (by omega) (by omega)
    go_enter Tryd.func8, Tryd.ntmps8
    go_wp2
    go_loopw [6, 7, 8] (fun vu vs vk wr => ∃ (k u : Nat) (s : List UInt8), vu = .int .u64 u ∧ vs = .string (txt s) ∧ vk = .int .i64 k ∧ Hid (finD m k u s = finD m 0 U []) ∧ u * 10 ^ k ≤ 9223372036854775808 ∧ k ≤ 20 ∧ s.length ≤ 2 * k ∧ Hid (Below w.heap.size w wr))
      (fun vu _ vk _ => (m + 1 - (intOf vk).toNat) + (intOf vu).toNat)
    case atStart => exact ⟨0, U, [], rfl, rfl, rfl, Lib.hid rfl, by simp; omega, by omega, by simp, Lib.hid (Below.refl _ _)⟩
    case round =>
      obtain ⟨k, u, s, rfl, rfl, rfl, hf, hu, hk, hsl, hb⟩ := hrel
      have HF := Aside0.mk hf.out
      have HB := Aside0.mk hb.out
      clear hf hb
      have hub : u ≤ 9223372036854775808 := Nat.le_trans (Nat.le_mul_of_pos_right u (Nat.pow_pos (by omega))) hu
      by_cases hc : k ≤ m ∨ 0 < u
      · have HS := Aside0.mk (fin_step m k u s hc)
        have hk19 : k < 20 := by
          by_cases hkm : k ≤ m
          · omega
          · by_cases h20 : k < 20
            · exact h20
            · have hp : 10 ^ 20 ≤ 10 ^ k := Nat.pow_le_pow_right (by omega) (by omega)
              have : 1 * 10 ^ k ≤ u * 10 ^ k := Nat.mul_le_mul_right _ (by omega)
              omega
        have hu2 : u / 10 * 10 ^ (k + 1) ≤ 9223372036854775808 := by
          rw [Nat.pow_succ, Nat.mul_comm (10 ^ k), ← Nat.mul_assoc]
          exact Nat.le_trans (Nat.mul_le_mul_right _ (Nat.div_mul_le_self u 10)) hu
        have hms : (m + 1 - (k + 1)) + u / 10 < (m + 1 - k) + u := by
          by_cases hkm : k ≤ m
          · omega
          · have : 0 < u := by omega
            omega
        have wk : IntKind.i64.wrap ((k : Int) + 1) = (k : Int) + 1 := wrap_small _ (by omega) (by omega)
        have wr1 : IntKind.u64.wrap (48 + (u : Int) % 10) = 48 + (u : Int) % 10 := wU _ (by omega) (by omega)
        have wr2 : IntKind.u8.wrap (48 + (u : Int) % 10) = 48 + (u : Int) % 10 := w8 _ (by omega) (by omega)
        have wr3 : IntKind.u64.wrap ((u : Int) % 10) = (u : Int) % 10 := wU _ (by omega) (by omega)
        have wr4 : IntKind.u64.wrap ((u : Int) / 10) = (u : Int) / 10 := wU _ (by omega) (by omega)
        have t1 : ((u : Int)).tmod 10 = (u : Int) % 10 := Int.tmod_eq_emod_of_nonneg (by omega)
        have t2 : ((u : Int)).tdiv 10 = (u : Int) / 10 := Int.tdiv_eq_ediv_of_nonneg (by omega)
        have u0 : (0 : Int) ≤ (u : Int) := by omega
        have hcv := fun W => conv_one W u
        have z1 : ¬ 9223372036854775807 < 1 + (txt s).size := by rw [txt_size]; omega
        have z2 : ¬ 9223372036854775807 < (txt [dch u]).size + (1 + (txt s).size) := by rw [txt_size, txt_size]; simp; omega
        have z3 : ¬ 9223372036854775807 < (txt [dch u]).size + (txt s).size := by rw [txt_size, txt_size]; simp; omega
        clear hc
        by_cases hkm : k ≤ m
        · have h1 : (k : Int) ≤ (m : Int) := by omega
          have d1 : decide ((k : Int) ≤ (m : Int)) = true := decide_eq_true h1
          by_cases hke : k = m ∧ 0 < m
          · obtain ⟨rfl, hm0⟩ := hke
            have h3 : (0 : Int) < (k : Int) := by omega
            have d3 : decide ((0 : Int) < (k : Int)) = true := decide_eq_true h3
            rw [if_pos ⟨rfl, hm0⟩] at HS
            go_wp2
            go_roundw
            case rel => exact ⟨k + 1, u / 10, dch u :: 46 :: s, by go_num, by rw [dot_txt, txt_app]; rfl, by go_num, Lib.hid (by rw [← HS.out, HF.out]), hu2, by omega, by simp; omega, Lib.hid (HB.out.alloc HB.out.size _)⟩
            case measure => simp [intOf]; omega
          · rw [if_neg hke] at HS
            by_cases hkz : k = m
            · subst hkz
              have h3 : ¬ (0 : Int) < (k : Int) := by omega
              have d3 : decide ((0 : Int) < (k : Int)) = false := decide_eq_false h3
              clear hke
              go_wp2
              go_roundw
              case rel => exact ⟨k + 1, u / 10, dch u :: s, by go_num, by rw [txt_app]; rfl, by go_num, Lib.hid (by rw [← HS.out, HF.out]), hu2, by omega, by simp; omega, Lib.hid (HB.out.alloc HB.out.size _)⟩
              case measure => simp [intOf]; omega
            · have h3 : ¬ (k : Int) = (m : Int) := by omega
              have d3 : decide ((k : Int) = (m : Int)) = false := decide_eq_false h3
              have b3 : ((k : Int) == (m : Int)) = false := beq_false_of_ne h3
              clear hke hkz
              go_wp2
              go_roundw
              case rel => exact ⟨k + 1, u / 10, dch u :: s, by go_num, by rw [txt_app]; rfl, by go_num, Lib.hid (by rw [← HS.out, HF.out]), hu2, by omega, by simp; omega, Lib.hid (HB.out.alloc HB.out.size _)⟩
              case measure => simp [intOf]; omega
        · have h1 : ¬ (k : Int) ≤ (m : Int) := by omega
          have d1 : decide ((k : Int) ≤ (m : Int)) = false := decide_eq_false h1
          have h2 : (0 : Int) < (u : Int) := by omega
          have d2 : decide ((0 : Int) < (u : Int)) = true := decide_eq_true h2
          have h3 : ¬ (k : Int) = (m : Int) := by omega
          have d3 : decide ((k : Int) = (m : Int)) = false := decide_eq_false h3
          have b3 : ((k : Int) == (m : Int)) = false := beq_false_of_ne h3
          rw [if_neg (show ¬ (k = m ∧ 0 < m) by omega)] at HS
          clear hkm
          go_wp2
          go_roundw
          case rel => exact ⟨k + 1, u / 10, dch u :: s, by go_num, by rw [txt_app]; rfl, by go_num, Lib.hid (by rw [← HS.out, HF.out]), hu2, by omega, by simp; omega, Lib.hid (HB.out.alloc HB.out.size _)⟩
          case measure => simp [intOf]; omega
      · have hfe := fin_end m k u s hc
        have h1 : ¬ (k : Int) ≤ (m : Int) := by omega
        have h2 : ¬ (0 : Int) < (u : Int) := by omega
        have d1 : decide ((k : Int) ≤ (m : Int)) = false := decide_eq_false h1
        have d2 : decide ((0 : Int) < (u : Int)) = false := decide_eq_false h2
        have HE := Aside0.mk (show txt (refText (U : Int) m) = txt s by rw [HG.out, ← HF.out, hfe])
        clear hfe
        go_wp2
        go_ret2
        exact ⟨by rw [HE.out]; rfl, HB.out⟩
end Go.Proofs.YtkndegjjiimheaaDoor.Ord
