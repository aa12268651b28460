/- lecternlaw07.awake walked: some of the chapter's answers. -/
import Derived.Test.YtkndegjjiimheaaDoorOrdCmp
import Derived.Test.YtkndegjjiimheaaDoorOrdRefD
set_option linter.unusedVariables false
set_option linter.unusedSimpArgs false
namespace Go.Proofs.YtkndegjjiimheaaDoor.Ord
open Go Go.RowKit Go.Proofs.YtkndegjjiimheaaDoorW.PrintWords Go.Proofs.YtkndegjjiimheaaDoorW.PrintLast Go.Proofs.OrdPlain Go.Lib Go.Proofs.YtkndegjjiimheaaDoor.QKey

theorem decimal30_c (l : List UInt8) (hl : l.length ≤ 9223372036854775807) (scale want : Int) (h : decD progShape l scale = (want, 0)) (w : World) (hT : Tb w) :
    Calls Tryd.prog 30 #[.string (txt l), .int .i64 scale, .int .i64 want] w fun e w' => e = .returned (.bool true) ∧ Below w.heap.size w w' := by
  have hd := fun W h => order_decimal l hl scale W h
  rw [h] at hd
  have HD : ∀ W, Tb W → Calls Tryd.prog 5 #[.string (txt l), .int .i64 scale] W fun e w' => e = .returned (.tuple #[.int .i64 want, .int .i64 0]) ∧ Below W.heap.size W w' := hd
  clear h hd
  go_enter Tryd.func30, Tryd.ntmps30
  go_wp2_with (go_at_call 5; (with_reducible refine (HD _ hT).mono ?_); clear HD; rintro e w' ⟨rfl, hb⟩)
  go_ret
  exact ⟨rfl, hb⟩
theorem none31_c (l : List UInt8) (hl : l.length ≤ 9223372036854775807) (scale : Int) (h : decD progShape l scale = (0, 70)) (w : World) (hT : Tb w) :
    Calls Tryd.prog 31 #[.string (txt l), .int .i64 scale] w fun e w' => e = .returned (.bool true) ∧ Below w.heap.size w w' := by
  have hd := fun W h => order_decimal l hl scale W h
  rw [h] at hd
  have HD : ∀ W, Tb W → Calls Tryd.prog 5 #[.string (txt l), .int .i64 scale] W fun e w' => e = .returned (.tuple #[.int .i64 0, .int .i64 70]) ∧ Below W.heap.size W w' := hd
  clear h hd
  go_enter Tryd.func31, Tryd.ntmps31
  go_wp2_with (go_at_call 5; (with_reducible refine (HD _ hT).mono ?_); clear HD; rintro e w' ⟨rfl, hb⟩)
  go_ret
  exact ⟨rfl, hb⟩
theorem text32_c (n : Int) (hn0 : -9223372036854775808 ≤ n) (hn1 : n ≤ 9223372036854775807) (scale : Int) (hs : 0 ≤ scale ∧ scale ≤ 9) (l : List UInt8) (h : refText n scale.toNat = l) (w : World) (hT : Tb w) :
    Calls Tryd.prog 32 #[.int .i64 n, .int .i64 scale, .string (txt l)] w fun e w' => e = .returned (.bool true) ∧ Below w.heap.size w w' := by
  have hd := fun W h => order_text n hn0 hn1 scale W h
  rw [if_pos hs, h] at hd
  have HD : ∀ W, Tb W → Calls Tryd.prog 7 #[.int .i64 n, .int .i64 scale] W fun e w' => e = .returned (.tuple #[.string (txt l), .int .i64 0]) ∧ Below W.heap.size W w' := hd
  clear h hd
  go_enter Tryd.func32, Tryd.ntmps32
  go_wp2_with (go_at_call 7; (with_reducible refine (HD _ hT).mono ?_); clear HD; rintro e w' ⟨rfl, hb⟩)
  go_ret
  exact ⟨rfl, hb⟩
theorem C_single (W : World) (B : Nat) (x : S45) (h : W.heap[B]? = some (.cells #[.int .i64 x.f0, .int .i64 x.f1, .string x.f2] 45 (0, 0))) : Kd.C k45 W (some ⟨B, 0, none⟩) 1 [x] := by
  refine ⟨rfl, by simp, fun _ => ⟨_, rfl, fun j p hj => ?_⟩⟩
  have hj0 : j = 0 := by have := (List.getElem?_eq_some_iff.1 hj).1; simp at this; omega
  subst hj0
  obtain rfl : x = p := by simpa using hj
  refine ⟨_, rfl, k45_mk _ _, fun i u hu => ?_⟩
  have e := cell_of_row W B i _ _ _ h
  have : (⟨B, 0, none⟩ : Addr).add (0 * k45.sz + i) = ⟨B, i, none⟩ := by
    rw [Nat.zero_mul, Nat.zero_add]; unfold Addr.add; split <;> simp_all
  rw [this, e, ← hu]
  exact (Array.getElem?_toList (xs := #[Value.int IntKind.i64 x.f0, Value.int IntKind.i64 x.f1, Value.string x.f2]) (i := i)).symm
theorem bytes33_c (x : S45) (hx : totZ [x] ≤ 140737488355328) (l : ByteArray) (hb : bytesD [x] = (l, 0)) (A : Addr) (n c : Nat) (w : World) (hA : A.block < w.heap.size)
    (hcv : ∀ W, Below w.heap.size w W → (convert 58 9 (.slice (some A) n c)).run Tryd.prog W = .ok (.string l) W) :
    Calls Tryd.prog 33 #[.agg #[.int .i64 x.f0, .int .i64 x.f1, .string x.f2], .slice (some A) n c] w fun e w' => e = .returned (.bool true) ∧ Below w.heap.size w w' := by
  have hB := fun (W : World) A c (h : 1 ≤ c) (hC : Kd.C k45 W A 1 [x]) => (show Calls Tryd.prog 11 #[.slice A 1 c] W fun e w' => e = .returned (.tuple #[.string (bytesD [x]).1, .int .i64 (bytesD [x]).2]) ∧ Below W.heap.size W w' from bytes_c [x] hx A c h W hC)
  rw [hb] at hB
  have HB := Aside0.mk hB
  have HCV := Aside0.mk hcv
  have hu45 := Tryd.underlying45
  clear hb hB hcv hx
  go_enter Tryd.func33, Tryd.ntmps33
  go_wp2_with (go_at_call 11; (with_reducible refine (HB.out _ _ _ ?_ ?_).mono ?_); (exact Nat.le_refl _); (exact C_single _ _ x (by have := heap_alloc_new (w.alloc (.cells #[.int .i64 x.f0, .int .i64 x.f1, .string x.f2] 45)) (.cells #[.int .i64 x.f0, .int .i64 x.f1, .string x.f2] 45); rwa [World.size_alloc] at this)); rintro e w1 ⟨rfl, hb1⟩; have hcv := HCV.out w1 (below_step (below_alloc (below_alloc (Below.refl _ _) _) _) hb1); have HB1 := Aside0.mk hb1; clear hb1)
  go_ret
  exact ⟨rfl, below_step (below_alloc (below_alloc (Below.refl _ _) _) _) HB1.out⟩

/-! ### awake -/
theorem kn1 : decD progShape [49, 50, 46, 53] 2 = (1250, 0) := by decide
theorem kn2 : decD progShape [48, 49] 2 = (0, 70) := by decide
theorem kn3 : refText (-7) (2 : Int).toNat = [45, 48, 46, 48, 55] := by
  unfold refText finD
  simp [headD, dec_small, dch]
def kx : S45 := ⟨2, 0, ⟨#[97, 0]⟩⟩
theorem kn4 : bytesD [kx] = (⟨#[2, 97, 0, 255, 0, 1]⟩, 0) := by decide
theorem kn5 : order_Compare.f 9 0 0 ⟨#[]⟩ 1 0 ⟨#[]⟩ = some (-1) := (compare_f 5 ⟨0, 0, ⟨#[]⟩⟩ ⟨1, 0, ⟨#[]⟩⟩).trans rfl
theorem six_conv (w W : World) (h : w.heap.size < W.heap.size ∧ ∃ cs, cs = #[Value.int .u8 2, .int .u8 97, .int .u8 0, .int .u8 255, .int .u8 0, .int .u8 1] ∧ W.heap[w.heap.size]? = some (.cells cs 5 (0, 0))) :
    (convert 58 9 (.slice (some ⟨w.heap.size, 0, none⟩) 6 6)).run Tryd.prog W = .ok (.string ⟨#[2, 97, 0, 255, 0, 1]⟩) W := by
  obtain ⟨_, cs, rfl, hc⟩ := h
  refine run_convert_bytes_back _ 58 9 5 ⟨w.heap.size, 0, none⟩ 6 [2, 97, 0, 255, 0, 1] Tryd.underlying58 Tryd.underlying5 Tryd.underlying9 (fun j hj => ?_)
  have e := cell_of_row W w.heap.size j _ _ _ hc
  rw [show (⟨w.heap.size, 0, none⟩ : Addr).add j = ⟨w.heap.size, j, none⟩ by unfold Addr.add; split <;> simp_all, e]
  have hj6 : j < 6 := hj
  match j, hj6 with
  | 0, _ => rfl
  | 1, _ => rfl
  | 2, _ => rfl
  | 3, _ => rfl
  | 4, _ => rfl
  | 5, _ => rfl
theorem bytes_kn (w : World) : Calls Tryd.prog 33 #[.agg #[.int .i64 2, .int .i64 0, .string ⟨#[97, 0]⟩], .slice (some ⟨w.heap.size, 0, none⟩) 6 6] (w.alloc (.cells #[Value.int .u8 2, .int .u8 97, .int .u8 0, .int .u8 255, .int .u8 0, .int .u8 1] 5))
    fun e w' => e = .returned (.bool true) ∧ Below w.heap.size w w' := by
  refine (bytes33_c kx (by decide) _ kn4 ⟨w.heap.size, 0, none⟩ 6 6 _ (by simp) (fun W hW => six_conv w W ⟨?_, _, rfl, ?_⟩)).mono (fun e w' ⟨h1, h2⟩ => ⟨h1, below_step (below_alloc (Below.refl _ _) _) h2⟩)
  · have := hW.size; simp at this; omega
  · exact (hW.block _ (by simp)).trans (heap_alloc_new w _)
theorem awake_c (w : World) (hT : Tb w) : Calls Tryd.prog 9 #[] w fun e w' => e = .returned (.bool true) ∧ Below w.heap.size w w' := by
  have h30 : ∀ W, Tb W → Calls Tryd.prog 30 #[.string ⟨#[49, 50, 46, 53]⟩, .int .i64 2, .int .i64 1250] W fun e w' => e = .returned (.bool true) ∧ Below W.heap.size W w' := fun W h => decimal30_c [49, 50, 46, 53] (by decide) 2 1250 kn1 W h
  have h31 : ∀ W, Tb W → Calls Tryd.prog 31 #[.string ⟨#[48, 49]⟩, .int .i64 2] W fun e w' => e = .returned (.bool true) ∧ Below W.heap.size W w' := fun W h => none31_c [48, 49] (by decide) 2 kn2 W h
  have h32 : ∀ W, Tb W → Calls Tryd.prog 32 #[.int .i64 (-7), .int .i64 2, .string ⟨#[45, 48, 46, 48, 55]⟩] W fun e w' => e = .returned (.bool true) ∧ Below W.heap.size W w' := fun W h => text32_c (-7) (by decide) (by decide) 2 (by decide) [45, 48, 46, 48, 55] kn3 W h
  have h21 := fun W => order_Compare.calls 9 0 0 ⟨#[]⟩ 1 0 ⟨#[]⟩ (-1) W kn5
  have hu45 := Tryd.underlying45
  go_enter Tryd.func9, Tryd.ntmps9
  go_wp2_with (first
    | (go_at_call 30; (with_reducible refine (h30 _ hT).mono ?_); clear h30; rintro e w1 ⟨rfl, hb1⟩; have HB1 := Aside0.mk hb1; have HT1 := Aside0.mk (hT.kp hb1); clear hb1)
    | (go_at_call 31; (with_reducible refine (h31 _ HT1.out).mono ?_); clear h31; rintro e w2 ⟨rfl, hb2⟩; have HB2 := Aside0.mk (below_step HB1.out hb2); have HT2 := Aside0.mk (HT1.out.kp hb2); clear hb2)
    | (go_at_call 32; (with_reducible refine (h32 _ HT2.out).mono ?_); clear h32; rintro e w3 ⟨rfl, hb3⟩; have HB3 := Aside0.mk (below_step HB2.out hb3); clear hb3)
    | (go_at_call 33; (with_reducible refine (bytes_kn _).mono ?_); rintro e w4 ⟨rfl, hb4⟩; have HB4 := Aside0.mk (below_step HB3.out hb4); clear hb4)
    | (go_at_call 21; (with_reducible refine (h21 _).mono ?_); clear h21; rintro e w5 ⟨rfl, hb5⟩; have HB5 := Aside0.mk (below_step HB4.out hb5); clear hb5))
  go_ret
  exact ⟨rfl, HB5.out⟩
end Go.Proofs.YtkndegjjiimheaaDoor.Ord
