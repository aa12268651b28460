/- Package order's Rows walked; the document's Right, Compare, Rows and Bytes said plainly. -/
import Derived.Test.YtkndegjjiimheaaDoorOrdCmp
import Derived.Laws.BitsAllLaws
set_option linter.unusedVariables false
set_option linter.unusedSimpArgs false
namespace Go.Proofs.YtkndegjjiimheaaDoor.Ord
open Go Go.RowKit Go.Proofs.YtkndegjjiimheaaDoorW.PrintWords Go.Proofs.YtkndegjjiimheaaDoorW.PrintLast Go.Proofs.OrdPlain Go.Lib Go.Proofs.YtkndegjjiimheaaDoor.QKey

def rowsD : List S45 → List S45 → Int
  | [], [] => 0
  | [], _ :: _ => -1
  | _ :: _, [] => 1
  | a :: r, b :: t => if cmpD a b = 0 then rowsD r t else cmpD a b
theorem getD_drop (l : List S45) (i : Nat) (h : i < l.length) : l.drop i = l.getD i z45 :: l.drop (i + 1) := by
  rw [List.drop_eq_getElem_cons h, List.getD_eq_getElem?_getD, List.getElem?_eq_getElem h]; rfl

set_option maxRecDepth 100000 in
set_option maxHeartbeats 4000000 in
theorem comparefunc_c (ks ls : List S45) (hk : ks.length ≤ 9223372036854775806) (A1 A2 : Option Addr) (c1 c2 : Nat) (hc1 : ks.length ≤ c1) (hc2 : ls.length ≤ c2) (w : World) (hC1 : Kd.C k45 w A1 ks.length ks) (hC2 : Kd.C k45 w A2 ls.length ls) :
    Calls Tryd.prog 40 #[.slice A1 ks.length c1, .slice A2 ls.length c2, .func (.func 21) #[] #[]] w fun e w' => e = .returned (.int .i64 (rowsD ks ls)) ∧ Below w.heap.size w w' := by
  have hu45 := Tryd.underlying45
  have HC1 := Aside0.mk hC1
  have HC2 := Aside0.mk hC2
  clear hC1 hC2
  obtain ⟨n, hn⟩ : ∃ n, n = ks.length := ⟨_, rfl⟩
  obtain ⟨m, hm⟩ : ∃ m, m = ls.length := ⟨_, rfl⟩
  rw [← hn] at HC1 hc1 hk ⊢
  rw [← hm] at HC2 hc2 ⊢
  have HN := Aside0.mk hn
  have HM := Aside0.mk hm
  obtain ⟨Y, hY⟩ : ∃ Y, Y = rowsD ks ls := ⟨_, rfl⟩
  rw [← hY]
  have HY := Aside0.mk hY
  clear hn hm hY
  go_enter Tryd.func40, Tryd.ntmps40
  go_wp2
  go_loopw [13] (fun vi wr => ∃ i : Nat, vi = .int .i64 (i : Int) ∧ i ≤ n ∧ i ≤ m ∧ Hid (rowsD (ks.drop i) (ls.drop i) = Y) ∧ Hid (Below w.heap.size w wr))
    (fun vi _ => n - (intOf vi).toNat)
  case atStart => exact ⟨0, rfl, Nat.zero_le _, Nat.zero_le _, Lib.hid HY.out.symm, Lib.hid (Below.refl _ _)⟩
  case round =>
    obtain ⟨i, rfl, hin, him, hg, hbw⟩ := hrel
    have HG := Aside0.mk hg.out
    have HBW := Aside0.mk hbw.out
    clear hg hbw
    have i0 : (0 : Int) ≤ (i : Int) := by omega
    by_cases h1 : i < n
    · obtain ⟨ad1, rfl, p0, p1, p2⟩ := at_K (Kd.C_below HC1.out HBW.out) i h1
      have hgd := HG.out
      rw [getD_drop ks i (by rw [← HN.out]; exact h1)] at hgd
      have i1 : (i : Int) < (n : Int) := by omega
      generalize ks.getD i z45 = x at p0 p1 p2 hgd
      by_cases h2 : i < m
      · obtain ⟨ad2, rfl, q0, q1, q2⟩ := at_K (Kd.C_below HC2.out (below_alloc HBW.out (.cells #[.int .i64 x.f0, .int .i64 x.f1, .string x.f2] 45))) i h2
        have i2 : (i : Int) < (m : Int) := by omega
        rw [getD_drop ls i (by rw [← HM.out]; exact h2)] at hgd
        generalize ls.getD i z45 = y at q0 q1 q2 hgd
        have hcm := fun W => order_Compare.calls 4 x.f0 x.f1 x.f2 y.f0 y.f1 y.f2 (cmpD x y) W (compare_f 0 x y)
        rw [rowsD] at hgd
        by_cases hz : cmpD x y = 0
        · rw [if_pos hz] at hgd
          rw [hz] at hcm
          have HG1 := Aside0.mk hgd
          clear hgd hz
          go_wp2_with (go_at_call 21; (with_reducible refine (hcm _).mono ?_); clear hcm; rintro e w1 ⟨rfl, hb1⟩; have HB1 := Aside0.mk (below_step (below_alloc (below_alloc HBW.out _) _) hb1); clear hb1)
          refine ⟨⟨i + 1, by go_num, h1, h2, Lib.hid HG1.out, Lib.hid HB1.out⟩, ?_⟩
          simp [intOf]; omega
        · rw [if_neg hz] at hgd
          generalize cmpD x y = z at hgd hz hcm
          have hzb : (z != 0) = true := bne_iff_ne.2 hz
          have HYZ := Aside0.mk hgd
          clear hgd
          go_wp2_with (go_at_call 21; (with_reducible refine (hcm _).mono ?_); clear hcm; rintro e w1 ⟨rfl, hb1⟩; have HB1 := Aside0.mk (below_step (below_alloc (below_alloc HBW.out _) _) hb1); clear hb1)
          go_ret
          exact ⟨by rw [← HYZ.out]; rfl, HB1.out⟩
      · have i2 : ¬ (i : Int) < (m : Int) := by omega
        have i3 : (m : Int) ≤ (i : Int) := by omega
        have HYO := Aside0.mk (show Y = 1 by
          rw [show ls.drop i = [] from List.drop_eq_nil_of_le (by rw [← HM.out]; omega), rowsD] at hgd
          exact hgd.symm)
        clear hgd
        go_wp2
        go_ret
        exact ⟨by rw [HYO.out]; rfl, below_alloc HBW.out _⟩
    · have e : i = n := by omega
      have hgd := HG.out
      rw [List.drop_eq_nil_of_le (by rw [← HN.out]; omega)] at hgd
      by_cases h2 : n < m
      · have HYO := Aside0.mk (show Y = -1 by
          rw [getD_drop ls i (by rw [← HM.out]; omega), rowsD] at hgd
          exact hgd.symm)
        clear hgd e
        go_wp2
        go_ret
        exact ⟨by rw [HYO.out]; rfl, HBW.out⟩
      · have HYO := Aside0.mk (show Y = 0 by
          rw [show ls.drop i = [] from List.drop_eq_nil_of_le (by rw [← HM.out]; omega), rowsD] at hgd
          exact hgd.symm)
        clear hgd e
        go_wp2
        go_ret
        exact ⟨by rw [HYO.out]; rfl, HBW.out⟩
theorem rows15_c (ks ls : List S45) (hk : ks.length ≤ 9223372036854775806) (A1 A2 : Option Addr) (c1 c2 : Nat) (hc1 : ks.length ≤ c1) (hc2 : ls.length ≤ c2) (w : World) (hC1 : Kd.C k45 w A1 ks.length ks) (hC2 : Kd.C k45 w A2 ls.length ls) :
    Calls Tryd.prog 15 #[.slice A1 ks.length c1, .slice A2 ls.length c2] w fun e w' => e = .returned (.int .i64 (rowsD ks ls)) ∧ Below w.heap.size w w' := by
  have hf := comparefunc_c ks ls hk A1 A2 c1 c2 hc1 hc2 w hC1 hC2
  generalize rowsD ks ls = z at hf
  generalize ks.length = n at hf
  generalize ls.length = m at hf
  go_enter Tryd.func15, Tryd.ntmps15
  go_wp2_with (go_at_call 40; (with_reducible refine hf.mono ?_); clear hf; rintro e w1 ⟨rfl, hb1⟩)
  go_ret
  exact ⟨rfl, hb1⟩

/-! ### the document's Rows -/
theorem refrows_l (ks ls : List S45) (hk : ks.length ≤ 1073741824) (S : Nat) (hS : ∀ x ∈ ks, x.f2.size ≤ S) (hS2 : S ≤ 1073741824) : ∀ (n i : Nat), ks.length ≤ i + n → i ≤ ks.length → i ≤ ls.length →
    lecternref07_Rows.l0 (2 * n + 2 * S + 4) ks ls (i : Int) = some (rowsD (ks.drop i) (ls.drop i))
  | n, i, h, hi, hil => by
    rw [show 2 * n + 2 * S + 4 = (2 * n + 2 * S + 3) + 1 by omega, lecternref07_Rows.l0]
    by_cases h1 : i < ks.length
    · rw [if_pos (by omega)]
      by_cases h2 : i < ls.length
      · rw [decide_eq_true (by omega)]
        obtain ⟨n', rfl⟩ : ∃ n', n = n' + 1 := ⟨n - 1, by omega⟩
        rw [show 2 * (n' + 1) + 2 * S + 3 = (2 * n' + 2 * S + 4) + 1 by omega, lecternref07_Rows.j1, if_pos rfl, if_pos (by omega), if_pos (by omega), if_pos (by omega)]
        rw [getD_drop ks i h1, getD_drop ls i h2, rowsD]
        have hx : rd_T45 ks (i : Int) = ks.getD i z45 := by unfold rd_T45; rw [Int.toNat_natCast]
        have hy : rd_T45 ls (i : Int) = ls.getD i z45 := by unfold rd_T45; rw [Int.toNat_natCast]
        rw [hx, hy]
        have hm : ks.getD i z45 ∈ ks := by rw [List.getD_eq_getElem?_getD, List.getElem?_eq_getElem h1]; exact List.getElem_mem _
        have hSx := hS _ hm
        generalize ks.getD i z45 = x at hSx
        generalize ls.getD i z45 = y
        have hc : lecternref07_Compare.f (2 * n' + 2 * S + 4) x.f0 x.f1 x.f2 y.f0 y.f1 y.f2 = some (cmpD x y) := at_rounds (lecternref07_Compare.mono _ _ _ _ _ _) (by omega) (refcompare_f x y (by omega))
        rw [hc, Option.bind_some]
        by_cases hz : cmpD x y = 0
        · rw [if_pos hz, if_pos hz, show wrap64 ((i : Int) + 1) = ((i + 1 : Nat) : Int) by unfold wrap64; omega]
          exact refrows_l ks ls hk S hS hS2 n' (i + 1) (by omega) (by omega) (by omega)
        · rw [if_neg hz, if_neg hz]
      · rw [decide_eq_false (by omega), lecternref07_Rows.j1, if_neg (by simp), if_neg (by omega), if_pos (by omega), List.drop_eq_nil_of_le (by omega : ls.length ≤ i), getD_drop ks i h1, rowsD]
    · rw [if_neg (by omega), lecternref07_Rows.j1, if_neg (by simp), List.drop_eq_nil_of_le (by omega : ks.length ≤ i)]
      by_cases h2 : i < ls.length
      · rw [if_pos (by omega), getD_drop ls i h2, rowsD]
      · rw [if_neg (by omega), if_neg (by omega), List.drop_eq_nil_of_le (by omega : ls.length ≤ i), rowsD]
theorem refrows_f (ks ls : List S45) (hk : ks.length ≤ 1073741824) (S : Nat) (hS : ∀ x ∈ ks, x.f2.size ≤ S) (hS2 : S ≤ 1073741824) : lecternref07_Rows.f (2 * ks.length + 2 * S + 4) ks ls = some (rowsD ks ls) := by
  have := refrows_l ks ls hk S hS hS2 ks.length 0 (by omega) (by omega) (by omega)
  rw [List.drop_zero, List.drop_zero] at this
  exact this
end Go.Proofs.YtkndegjjiimheaaDoor.Ord

set_option linter.unusedVariables false
set_option linter.unusedSimpArgs false
namespace Go.Proofs.YtkndegjjiimheaaDoor.Ord
open Go Go.RowKit Go.Proofs.YtkndegjjiimheaaDoorW.PrintWords Go.Proofs.YtkndegjjiimheaaDoorW.PrintLast Go.Proofs.OrdPlain Go.Lib Go.Proofs.YtkndegjjiimheaaDoor.QKey

theorem refright_f (k : S45) : lecternref07_Right.f k.f0 k.f1 k.f2 = some (rightB k) := by
  unfold lecternref07_Right.f rightB
  by_cases h0 : k.f0 = 0
  · by_cases h1 : k.f1 = 0
    · by_cases h2 : k.f2.toList = []
      · simp [h0, h1, h2]
      · simp [h0, h1, h2]
    · simp [h0, h1]
  · by_cases h1 : k.f0 = 1
    · by_cases h2 : k.f2.toList = []
      · simp [h1, h2]
      · simp [h1, h2]
    · by_cases h2 : k.f0 = 2
      · simp [h2]
      · simp [h0, h1, h2]

/-! ### eight bytes -/
theorem xor_top (a : Nat) (h : a < 18446744073709551616) : a ^^^ 9223372036854775808 = (a + 9223372036854775808) % 18446744073709551616 := by
  have h1 := Nat.xor_mod_two_pow (a := a) (b := 9223372036854775808) (n := 63)
  have h2 := Nat.xor_div_two_pow (a := a) (b := 9223372036854775808) (n := 63)
  simp only [show (2 : Nat) ^ 63 = 9223372036854775808 by decide, show 9223372036854775808 % 9223372036854775808 = 0 by decide, show 9223372036854775808 / 9223372036854775808 = 1 by decide, Nat.xor_zero] at h1 h2
  have hq : a / 9223372036854775808 = 0 ∨ a / 9223372036854775808 = 1 := by omega
  rcases hq with hq | hq
  · rw [hq, show (0 : Nat) ^^^ 1 = 1 by decide] at h2; omega
  · rw [hq, show (1 : Nat) ^^^ 1 = 0 by decide] at h2; omega
theorem u64_nat (n : Int) : ∃ a : Nat, a < 18446744073709551616 ∧ IntKind.u64.wrap n = (a : Int) := by
  have e : IntKind.u64.wrap n = n % 18446744073709551616 := by simp [IntKind.wrap, IntKind.bits, IntKind.signed]
  refine ⟨(n % 18446744073709551616).toNat, by omega, by rw [e]; omega⟩
theorem u64_mod (n : Int) : IntKind.u64.wrap n = n % 18446744073709551616 := by simp [IntKind.wrap, IntKind.bits, IntKind.signed]
theorem xor_up (n : Int) : Go.bits .xor .u64 (IntKind.u64.wrap n) 9223372036854775808 = upZ n := by
  obtain ⟨a, ha, e⟩ := u64_nat n
  unfold upZ
  rw [e]
  have : Go.bits .xor .u64 (a : Int) ((9223372036854775808 : Nat) : Int) = ((a ^^^ 9223372036854775808 : Nat) : Int) := by
    show IntKind.u64.wrap ((BitVec.ofInt 64 (a : Int) ^^^ BitVec.ofInt 64 ((9223372036854775808 : Nat) : Int)).toNat : Int) = _
    rw [BitVec.toNat_xor, BitVec.ofInt_natCast, BitVec.ofInt_natCast, BitVec.toNat_ofNat, BitVec.toNat_ofNat, Nat.mod_eq_of_lt (by omega : a < 2 ^ 64), Nat.mod_eq_of_lt (by decide), u64_mod]
    have : a ^^^ 9223372036854775808 < 18446744073709551616 := by rw [xor_top a ha]; omega
    omega
  rw [show (9223372036854775808 : Int) = ((9223372036854775808 : Nat) : Int) from rfl, this, xor_top a ha, u64_mod]
  omega

def downZ (u : Int) (j : Nat) : List Int := (List.range j).map fun i => u / 2 ^ (8 * (j - 1 - i)) % 256
theorem downZ_succ (u : Int) (j : Nat) : downZ u (j + 1) = [u / 2 ^ (8 * j) % 256] ++ downZ u j := by
  unfold downZ
  rw [List.range_succ_eq_map, List.map_cons, List.map_map]
  have : (List.range j).map ((fun i => u / 2 ^ (8 * (j + 1 - 1 - i)) % 256) ∘ Nat.succ) = (List.range j).map (fun i => u / 2 ^ (8 * (j - 1 - i)) % 256) := by
    apply List.map_congr_left
    intro i _
    simp only [Function.comp]
    rw [show j + 1 - 1 - i.succ = j - 1 - i by omega]
  rw [this]
  rfl
theorem one_l0 (U b : Int) (c : ByteArray) : ∀ (j : Nat) (x3 : List Int), j ≤ 8 → x3.length ≤ 100 - j → lecternref07_One.l0 (j + 2) x3 U ((j : Int) - 1) 1 b c = some (x3 ++ downZ U j)
  | 0, x3, _, _ => by
    rw [lecternref07_One.l0, if_neg (by omega), lecternref07_One.j1, if_neg (by omega)]
    rw [show downZ U 0 = [] from rfl, List.append_nil]
  | j + 1, x3, h, hl => by
    rw [show j + 1 + 2 = (j + 2) + 1 by omega, lecternref07_One.l0, if_pos (by omega)]
    have e1 : wrap64 (8 * (((j + 1 : Nat) : Int) - 1)) = 8 * (j : Int) := by unfold wrap64; omega
    have e2 : IntKind.u64.wrap (8 * (j : Int)) = 8 * (j : Int) := by rw [u64_mod]; omega
    have e3 : wrap64 (((j + 1 : Nat) : Int) - 1 - 1) = (j : Int) - 1 := by unfold wrap64; omega
    have e4 : shr .u64 U (8 * (j : Int)) = U / 2 ^ (8 * j) := by
      unfold shr
      rw [show (8 * (j : Int)).toNat = 8 * j by omega, Nat.min_eq_left (by show 8 * j ≤ 64; omega)]
    rw [e1, e2, if_pos (by omega), if_pos (by omega), e3, e4, one_l0 U b c j _ (by omega) (by rw [List.length_append]; simp; omega), downZ_succ, List.append_assoc]
theorem downZ_eight (n : Int) : downZ (upZ n) 8 = eightZ n 8 := by
  unfold downZ eightZ byZ
  apply List.map_congr_left
  intro i hi
  have := List.mem_range.1 hi
  rw [show 8 * (8 - 1 - i) = 56 - 8 * i by omega]
theorem escZ_cons (c : UInt8) (r : List UInt8) : escZ (c :: r) = (if c = 0 then [0, 255] else [(c.toNat : Int)]) ++ escZ r := by unfold escZ; rw [List.flatMap_cons]
theorem one_l1 (b : Int) (s : ByteArray) (hs : s.size ≤ 9223372036854775806) : ∀ (n i : Nat) (x3 : List Int), s.size ≤ i + n → i ≤ s.size → x3.length + 2 * (s.size - i) + 2 < 140737488355328 →
    lecternref07_One.l1 (n + 1) x3 (i : Int) 2 b s = some (x3 ++ (escZ (s.data.toList.drop i) ++ [0, 1]))
  | n, i, x3, h, hi, hl => by
    have hsl := sz_list s
    rw [lecternref07_One.l1]
    by_cases h1 : i < s.size
    · obtain ⟨n', rfl⟩ : ∃ n', n = n' + 1 := ⟨n - 1, by omega⟩
      rw [if_pos (by omega), if_pos (by omega), if_pos (by omega), bt_nat]
      have hd : s.data.toList.drop i = s.data.toList.getD i 0 :: s.data.toList.drop (i + 1) := by
        rw [List.drop_eq_getElem_cons (by omega : i < s.data.toList.length), List.getD_eq_getElem?_getD, List.getElem?_eq_getElem (by omega : i < s.data.toList.length)]; rfl
      rw [hd, escZ_cons]
      generalize s.data.toList.getD i 0 = c
      have ew : wrap64 ((i : Int) + 1) = ((i + 1 : Nat) : Int) := by unfold wrap64; omega
      rw [Option.bind_some, ew]
      by_cases hc : c = 0
      · subst hc
        rw [if_pos (by rfl), if_pos (by rw [List.length_append]; simp only [List.length_cons, List.length_nil]; omega), if_pos rfl]
        rw [one_l1 b s hs n' (i + 1) _ (by omega) (by omega) (by rw [List.length_append, List.length_append]; simp only [List.length_cons, List.length_nil]; omega)]
        congr 1
        simp
      · have hcz : ¬ ((c.toNat : Int) = 0) := fun e => hc (UInt8.toNat_inj.1 (show _ = 0 by omega))
        rw [if_neg hcz, if_neg hc]
        rw [one_l1 b s hs n' (i + 1) _ (by omega) (by omega) (by rw [List.length_append]; simp only [List.length_cons, List.length_nil]; omega)]
        congr 1
        simp
    · rw [if_neg (by omega), Option.bind_some, if_pos (by simp only [List.length_cons, List.length_nil]; omega), List.drop_eq_nil_of_le (by omega : s.data.toList.length ≤ i)]
      rfl
theorem refone_f (k : S45) (hk : rightB k = true) (hs : 2 * k.f2.size + 3 < 140737488355328) : lecternref07_One.f (k.f2.size + 12) k.f0 k.f1 k.f2 = some (oneZ k) := by
  unfold lecternref07_One.f oneZ
  rcases right_kind k hk with h | h | h
  · rw [h, Option.bind_some, if_neg (by omega), show k.f2.size + 12 = (k.f2.size + 11) + 1 by omega, lecternref07_One.j1, if_neg (by omega)]
    rfl
  · rw [h, Option.bind_some, if_pos rfl, if_pos rfl, xor_up, ← downZ_eight]
    have := one_l0 (upZ k.f1) k.f1 k.f2 8 [1 % 256] (by omega) (by simp)
    exact at_rounds (g := fun q => lecternref07_One.l0 q [1 % 256] (upZ k.f1) 7 1 k.f1 k.f2) (fun q => (lecternref07_One.mono_l q).2.2 _ _ _ _ _ _) (by omega : 8 + 2 ≤ k.f2.size + 12) this
  · rw [h, Option.bind_some, if_neg (by omega), if_neg (by omega), if_pos rfl, show k.f2.size + 12 = (k.f2.size + 11) + 1 by omega, lecternref07_One.j1, if_pos rfl]
    have := one_l1 k.f1 k.f2 (by omega) k.f2.size 0 [2 % 256] (by omega) (by omega) (by simp only [List.length_cons, List.length_nil]; omega)
    rw [List.drop_zero] at this
    exact at_rounds (g := fun q => lecternref07_One.l1 q [2 % 256] 0 2 k.f1 k.f2) (fun q => (lecternref07_One.mono_l q).2.1 _ _ _ _ _) (by omega : k.f2.size + 1 ≤ k.f2.size + 11) this
theorem refbytes_l (ks : List S45) (S : Nat) (hS : ∀ x ∈ ks, x.f2.size ≤ S) : ∀ (n i : Nat) (x4 : List Int), ks.length ≤ i + n → i ≤ ks.length → x4.length + totZ (ks.drop i) < 140737488355328 → ks.length ≤ 9223372036854775806 →
    lecternref07_Bytes.l0 (n + S + 13) ks x4 (i : Int) = some ((ansZ (bytesZ x4 (ks.drop i))).1, (ansZ (bytesZ x4 (ks.drop i))).2)
  | n, i, x4, h, hi, hl, hb => by
    rw [show n + S + 13 = (n + S + 12) + 1 by omega, lecternref07_Bytes.l0]
    by_cases h1 : i < ks.length
    · obtain ⟨n', rfl⟩ : ∃ n', n = n' + 1 := ⟨n - 1, by omega⟩
      rw [if_pos (by omega), if_pos (by omega)]
      have hx : rd_T45 ks (i : Int) = ks.getD i z45 := by unfold rd_T45; rw [Int.toNat_natCast]
      have hd : ks.drop i = ks.getD i z45 :: ks.drop (i + 1) := by rw [List.drop_eq_getElem_cons h1, List.getD_eq_getElem?_getD, List.getElem?_eq_getElem h1]; rfl
      have hm : ks.getD i z45 ∈ ks := by rw [List.getD_eq_getElem?_getD, List.getElem?_eq_getElem h1]; exact List.getElem_mem _
      have hSx := hS _ hm
      rw [hx, hd, bytesZ]
      rw [hd, totZ] at hl
      generalize ks.getD i z45 = x at hSx hl
      rw [refright_f, Option.bind_some]
      cases hr : rightB x with
      | false => rw [if_neg (by simp), if_neg (by simp)]; rfl
      | true =>
        rw [if_pos rfl, if_pos rfl]
        have ho := at_rounds (lecternref07_One.mono _ _ _) (by omega : x.f2.size + 12 ≤ n' + 1 + S + 12) (refone_f x hr (by omega))
        have h1l := one_len x
        rw [ho, Option.bind_some, if_pos (by omega), show wrap64 ((i : Int) + 1) = ((i + 1 : Nat) : Int) by unfold wrap64; omega, show n' + 1 + S + 12 = n' + S + 13 by omega]
        exact refbytes_l ks S hS n' (i + 1) (x4 ++ oneZ x) (by omega) (by omega) (by rw [List.length_append]; omega) hb
    · rw [if_neg (by omega), List.drop_eq_nil_of_le (by omega : ks.length ≤ i)]
      rfl
theorem refbytes_f (ks : List S45) (S : Nat) (hS : ∀ x ∈ ks, x.f2.size ≤ S) (hl : totZ ks < 140737488355328) : lecternref07_Bytes.f (ks.length + S + 13) ks = some ((bytesD ks).1, (bytesD ks).2) := by
  have ht := tot_len ks
  have := refbytes_l ks S hS ks.length 0 [] (by omega) (by omega) (by rw [List.drop_zero, List.length_nil]; omega) (by omega)
  rw [List.drop_zero] at this
  exact this
end Go.Proofs.YtkndegjjiimheaaDoor.Ord
