/- For every chain and every text: a chain's answer is its last link's answer to what the chain without it answers; chains that are too short or no chains are refused. Condition: the two tables of unicode/utf8 read as the program's text lays them (the card ties them). -/
import Derived.Test.YtgbphkckiekehaaDoorBL
import Derived.Test.YtgbphkckiekehaaDoorBG
import Derived.Carry
import Derived.ChangeSlices
set_option linter.unusedVariables false
set_option linter.unusedSimpArgs false
namespace Go.Proofs.YtgbphkckiekehaaDoor.Ana
open Go.RowKit Go.Shelf Go.Proofs.YtgbphkckiekehaaDoor.QOut Go.Proofs.YtgbphkckiekehaaDoor.FoldRef Go.Proofs.YtgbphkckiekehaaDoorW.PrintWords
open Go.ChangeShapes Go.WideShapes
theorem laidOut : laidOutB Tryd.prog = true := by kernel_rfl
theorem open_chain {H : Type} {enc : TypeId × Value → H} {W : World} {held : Bool} {a : Option Addr} {len cap : Nat} {d : DataW H} {ps : List MemPlace}
    (h : DataW.Trod enc Tryd.prog W 0 (fun _ => true) held 25 (.slice a len cap) d ps) :
    ∃ zs : List Int, zs.length = len ∧ len ≤ cap ∧ Kd.C (Kd.int .i64) W a len zs := by
  obtain ⟨fuel, hf⟩ := h
  rcases open_ints Tryd.underlying25 Tryd.underlying3 (by kernel_rfl) hf with ⟨hcs, _⟩ | ⟨x, l, c, zs, hcs, _, hl, hm, hz, _, hcell, hwz⟩
  · simp [Value.cells] at hcs
    obtain ⟨rfl, rfl, rfl⟩ := hcs
    exact ⟨[], rfl, Nat.le_refl _, rfl, by omega, fun h => by omega⟩
  · simp [Value.cells] at hcs
    obtain ⟨rfl, rfl, rfl⟩ := hcs
    have hz' : zs.length = cap := by simpa using hz
    have hml : cap ≤ 9223372036854775807 := by unfold maxLen at hm; omega
    have ht : ∀ j, j < len → (zs.take len).getD j 0 = zs.getD j 0 := fun j hj => by simp [List.getD_eq_getElem?_getD, hj]
    have hro : ReadsOf (Value.int .i64) (0 : Int) W (some x) len (zs.take len) := by
      refine ⟨by rw [List.length_take]; omega, by omega, fun _ => ⟨x, rfl, fun j hj => ?_⟩⟩
      rw [ht j hj]; exact hcell j (by omega)
    exact ⟨zs.take len, by rw [List.length_take]; omega, by omega, Kd.C_of_reads hro⟩
end Go.Proofs.YtgbphkckiekehaaDoor.Ana

set_option linter.unusedVariables false
set_option linter.unusedSimpArgs false
namespace Go.Proofs.YtgbphkckiekehaaDoor.chainLaw
open Go.RowKit Go.Shelf Go.Proofs.YtgbphkckiekehaaDoor.QOut Go.Proofs.YtgbphkckiekehaaDoorW.PrintWords Go.Proofs.YtgbphkckiekehaaDoorW.PrintLast Go.Proofs.FoldPlain Go.Proofs.FoldText Go.Proofs.YtgbphkckiekehaaDoor.FoldRef Go.Proofs.YtgbphkckiekehaaDoor.FoldW Go.Proofs.YtgbphkckiekehaaDoor.FoldF Go.Proofs.YtgbphkckiekehaaDoor.FoldP Go.Proofs.YtgbphkckiekehaaDoor.Ana

theorem linksD_snoc (z : Int) : ∀ (r : List Int) (ts : List S58), linksD (r ++ [z]) ts = if (linksD r ts).2 = 0 then linkD z (linksD r ts).1 else ([], (linksD r ts).2)
  | [], ts => by
    show (if (linkD z ts).2 = 0 then linksD [] (linkD z ts).1 else ([], (linkD z ts).2)) = if (0 : Int) = 0 then linkD z ts else _
    rw [if_pos rfl]
    by_cases h : (linkD z ts).2 = 0
    · rw [if_pos h]; exact Prod.ext rfl h.symm
    · rw [if_neg h]; exact Prod.ext (linkD_no z ts h).symm rfl
  | n :: r, ts => by
    rw [List.cons_append, linksD, linksD]
    by_cases h : (linkD n ts).2 = 0
    · rw [if_pos h, if_pos h]; exact linksD_snoc z r _
    · rw [if_neg h, if_neg h, if_neg h]
theorem goodR_init {r : List Int} {z : Int} (h : goodR (r ++ [z]) = true) : goodR r = true := by
  rw [goodR_eq] at h ⊢
  intro i hi
  have := h i (by simp; omega)
  unfold goodAt at this ⊢
  rw [List.take_append_of_le_length (by omega)] at this
  rw [show (r ++ [z]).getD i 0 = r.getD i 0 by simp [List.getD_eq_getElem?_getD, List.getElem?_append_left hi]] at this
  exact this
theorem checkD_init {xs : List Int} {z : Int} (hx : xs ≠ []) (h : checkD (xs ++ [z]) = 0) : checkD xs = 0 := by
  cases xs with
  | nil => exact absurd rfl hx
  | cons a r =>
    obtain ⟨a', r', e, h1, h2, h3, h4⟩ := checkD_zero h
    injection e with e1 e2
    subst e1
    subst e2
    unfold checkD
    simp only
    rw [if_neg (by simp at h1; omega), if_pos (goodR_init h4)]
theorem runD_good (ys : List Int) (s : ByteArray) (h : checkD ys = 0) : runD ys s = if 4096 < s.size then ([], 3) else if 4096 < (tokensD (ys.getD 0 0) s).length then ([], 84) else linksD (ys.drop 1) (tokensD (ys.getD 0 0) s) := by
  unfold runD; rw [if_neg (by rw [h]; decide)]
theorem runD_snoc (xs : List Int) (z : Int) (s : ByteArray) (hx : xs ≠ []) (h : checkD (xs ++ [z]) = 0) : runD (xs ++ [z]) s = if (runD xs s).2 = 0 then linkD z (runD xs s).1 else ([], (runD xs s).2) := by
  have h' := checkD_init hx h
  rw [runD_good _ s h, runD_good _ s h']
  by_cases h1 : 4096 < s.size
  · simp only [if_pos h1]; rfl
  · simp only [if_neg h1]
    cases xs with
    | nil => exact absurd rfl hx
    | cons a r =>
      rw [show (a :: r ++ [z]).getD 0 0 = a from rfl, show (a :: r).getD 0 0 = a from rfl, show (a :: r ++ [z]).drop 1 = r ++ [z] from rfl, show (a :: r).drop 1 = r from rfl]
      by_cases h2 : 4096 < (tokensD a s).length
      · simp only [if_pos h2]; rfl
      · simp only [if_neg h2]; exact linksD_snoc z r _
theorem linksD_small {m : Nat} : ∀ (r : List Int) (ts : List S58), Small m ts → Small m (linksD r ts).1
  | [], ts, h => h
  | n :: r, ts, h => by
    rw [linksD]
    split
    · exact linksD_small r _ (small_link n h)
    · intro t ht; cases ht
theorem runD_small (xs : List Int) (s : ByteArray) : Small 4096 (runD xs s).1 := by
  unfold runD
  split
  · intro t ht; cases ht
  · split
    · intro t ht; cases ht
    · split
      · intro t ht; cases ht
      · refine linksD_small _ _ (fun t ht => ?_)
        have := small_tokens (xs.getD 0 0) s t ht
        omega
theorem runD_len (xs : List Int) (s : ByteArray) : (runD xs s).1.length ≤ 4096 := by
  by_cases h : (runD xs s).2 = 0
  · exact (runD_places xs s h).2.2.1
  · rw [runD_no xs s h]; simp

/-- Chains that are too short, or no chains. -/
theorem walk_bad (xs : List Int) (A : Option Addr) (cap : Nat) (s : ByteArray) (hcap : xs.length ≤ cap) (hss : s.size ≤ 140737488351232) (w : World) (ht : Tabs w) (hC : Kd.C (Kd.int .i64) w A xs.length xs) (hb : checkD xs = 60) :
    Calls Tryd.prog 12 #[.slice A xs.length cap, .string s] w fun e w' => e = .returned (.bool true) ∧ Below w.heap.size w w' := by
  have hru := fun W (h : Below w.heap.size w W) => run_c xs A cap hcap s (by omega) W (ht.step h) (Kd.C_below hC h)
  have hch := fun W (h : Below w.heap.size w W) => check_c xs A cap hcap W (Kd.C_below hC h)
  have e : runD xs s = ([], 60) := by unfold runD; rw [if_pos (by rw [hb]; decide)]
  rw [e] at hru
  rw [hb] at hch
  have HT := Aside0.mk ht
  have HRU := Aside0.mk hru
  have HCH := Aside0.mk hch
  have hlx := hC.2.1
  clear ht hC hru hch e hb
  generalize xs.length = nx at *
  by_cases h2 : (nx : Int) < 2
  · by_cases h1 : ((nx : Int) == 1) = true
    · go_enter Tryd.func12, Tryd.ntmps12
      go_wp2_with (first
        | (go_at_call 44; refine (known6_c _ HT.out).mono ?_; rintro e w1 ⟨rfl, hb1⟩; have hru := HRU.out w1 hb1)
        | (go_at_call 39; refine hru.mono ?_; clear hru; rintro e w2 ⟨⟨v, rfl, hr⟩, hb2⟩; have HB2 := Aside0.mk (below_step hb1 hb2); have hch := HCH.out w2 HB2.out; clear hr hb1 hb2)
        | (go_at_call 41; refine hch.mono ?_; clear hch; rintro e w3 ⟨rfl, hb3⟩; have HB3 := Aside0.mk (below_step HB2.out hb3); clear hb3))
      go_ret
      exact ⟨rfl, HB3.out⟩
    · have h1' : ((nx : Int) == 1) = false := by simpa using h1
      clear h1
      go_enter Tryd.func12, Tryd.ntmps12
      go_wp2_with (first
        | (go_at_call 44; refine (known6_c _ HT.out).mono ?_; rintro e w1 ⟨rfl, hb1⟩; have hru := HRU.out w1 hb1)
        | (go_at_call 39; refine hru.mono ?_; clear hru; rintro e w2 ⟨⟨v, rfl, hr⟩, hb2⟩; have HB2 := Aside0.mk (below_step hb1 hb2); clear hr hb1 hb2))
      go_ret
      exact ⟨rfl, HB2.out⟩
  · have h1' : ((nx : Int) == 1) = false := beq_eq_false_iff_ne.2 (by omega)
    go_enter Tryd.func12, Tryd.ntmps12
    go_wp2_with (first
      | (go_at_call 44; refine (known6_c _ HT.out).mono ?_; rintro e w1 ⟨rfl, hb1⟩; have hru := HRU.out w1 hb1)
      | (go_at_call 39; refine hru.mono ?_; clear hru; rintro e w2 ⟨⟨v, rfl, hr⟩, hb2⟩; have HB2 := Aside0.mk (below_step hb1 hb2); have hch := HCH.out w2 HB2.out; clear hr hb1 hb2)
      | (go_at_call 41; refine hch.mono ?_; clear hch; rintro e w3 ⟨rfl, hb3⟩; have HB3 := Aside0.mk (below_step HB2.out hb3); clear hb3))
    go_ret
    exact ⟨rfl, HB3.out⟩
/-- A chain of one. -/
theorem walk_one (xs : List Int) (A : Option Addr) (cap : Nat) (s : ByteArray) (hcap : xs.length ≤ cap) (hss : s.size ≤ 140737488351232) (w : World) (ht : Tabs w) (hC : Kd.C (Kd.int .i64) w A xs.length xs) (hb : checkD xs = 0) (h1 : xs.length = 1) :
    Calls Tryd.prog 12 #[.slice A xs.length cap, .string s] w fun e w' => e = .returned (.bool true) ∧ Below w.heap.size w w' := by
  have hru := fun W (h : Below w.heap.size w W) => run_c xs A cap hcap s (by omega) W (ht.step h) (Kd.C_below hC h)
  have hch := fun W (h : Below w.heap.size w W) => check_c xs A cap hcap W (Kd.C_below hC h)
  rw [hb] at hch
  have HT := Aside0.mk ht
  have HRU := Aside0.mk hru
  have HCH := Aside0.mk hch
  clear ht hC hru hch hb
  rw [h1] at HRU HCH ⊢
  clear h1 hcap
  go_enter Tryd.func12, Tryd.ntmps12
  go_wp2_with (first
    | (go_at_call 44; refine (known6_c _ HT.out).mono ?_; rintro e w1 ⟨rfl, hb1⟩; have hru := HRU.out w1 hb1)
    | (go_at_call 39; refine hru.mono ?_; clear hru; rintro e w2 ⟨⟨v, rfl, hr⟩, hb2⟩; have HB2 := Aside0.mk (below_step hb1 hb2); have hch := HCH.out w2 HB2.out; clear hr hb1 hb2)
    | (go_at_call 41; refine hch.mono ?_; clear hch; rintro e w3 ⟨rfl, hb3⟩; have HB3 := Aside0.mk (below_step HB2.out hb3); clear hb3))
  go_ret
  exact ⟨rfl, HB3.out⟩

set_option maxRecDepth 100000 in
set_option maxHeartbeats 4000000 in
/-- A good chain of two or more. -/
theorem walk_many (ys : List Int) (z : Int) (hy : ys ≠ []) (A : Option Addr) (cap : Nat) (s : ByteArray) (hcap : ys.length + 1 ≤ cap) (hss : s.size ≤ 140737488351232) (w : World) (ht : Tabs w) (hC : Kd.C (Kd.int .i64) w A (ys ++ [z]).length (ys ++ [z])) (hb : checkD (ys ++ [z]) = 0) :
    Calls Tryd.prog 12 #[.slice A (ys.length + 1) cap, .string s] w fun e w' => e = .returned (.bool true) ∧ Below w.heap.size w w' := by
  have hl : (ys ++ [z]).length = ys.length + 1 := by simp
  have hC1 := Kd.C_take (m := ys.length) hC (by omega)
  rw [show (ys ++ [z]).take ys.length = ys by simp] at hC1
  have hru := fun W (h : Below w.heap.size w W) => run_c (ys ++ [z]) A cap (by omega) s (by omega) W (ht.step h) (Kd.C_below hC h)
  have hr2 := fun W (h : Below w.heap.size w W) => run_c ys A cap (by omega) s (by omega) W (ht.step h) (Kd.C_below hC1 h)
  have hch := fun W (h : Below w.heap.size w W) => check_c (ys ++ [z]) A cap (by omega) W (Kd.C_below hC h)
  obtain ⟨ad, rfl, cz⟩ := Kd.at_int hC (ys.length : Int) (by omega) (by omega)
  rw [rd_get _ ys.length (by omega), Int.toNat_natCast] at cz
  rw [show (ys ++ [z])[ys.length]'(by omega) = z by simp] at cz
  have hlk := fun W (h : Below w.heap.size w W) A2 c2 hC2 => link_c z W (ht.step h) (runD ys s).1 A2 c2 hC2 (fun t h => by have := runD_small ys s t h; omega)
  have hsn := runD_snoc ys z s hy hb
  have hlen := runD_len ys s
  have hlen2 := runD_len (ys ++ [z]) s
  obtain ⟨i3, hi3, hs3⟩ := infoInt3
  have hct := cut_to (P := Tryd.prog) 25 3 .i64 Tryd.underlying25 hi3 (some ad) (ys.length + 1) cap (ys.length : Int) (by omega) (by omega) (by omega)
  rw [Int.toNat_natCast] at hct
  rw [hb] at hch
  rw [hl] at hru hch
  have hlx := hC.2.1
  have HT := Aside0.mk ht
  have HRU := Aside0.mk hru
  have HR2 := Aside0.mk hr2
  have HCH := Aside0.mk hch
  have HLK := Aside0.mk hlk
  have hny : 1 ≤ ys.length := by cases ys with | nil => exact absurd rfl hy | cons _ _ => simp
  have hn2 : ¬ ((ys.length : Int) + 1 < 2) := by omega
  have hn3 : decide ((ys.length : Int) + 1 < 2) = false := decide_eq_false hn2
  clear ht hC hC1 hru hr2 hch hlk hb hy hi3 hs3
  generalize ys.length = n at *
  generalize runD (ys ++ [z]) s = R at HRU hsn hlen2
  generalize runD ys s = M at HR2 HLK hsn hlen
  obtain ⟨ms, me⟩ := M
  obtain ⟨rs, re⟩ := R
  dsimp only at HR2 HLK hsn HRU hlen hlen2
  by_cases hm : me = 0
  · subst hm
    rw [if_pos rfl] at hsn
    generalize linkD z ms = L at HLK hsn
    obtain ⟨ls, le⟩ := L
    injection hsn with e1 e2
    subst e1
    subst e2
    have HSZ := Aside0.mk (show rs.length ≤ 1152921504606846976 by omega)
    dsimp only at HLK
    go_enter Tryd.func12, Tryd.ntmps12
    go_wp2_with (first
      | (go_at_call 44; refine (known6_c _ HT.out).mono ?_; rintro e w1 ⟨rfl, hb1⟩; have hru := HRU.out w1 hb1)
      | (go_at_call 39; ((with_reducible refine hru.mono ?_); clear hru; rintro e w2 ⟨⟨v, rfl, hr⟩, hb2⟩; obtain ⟨A2, c2, rfl, hc2, hC2⟩ := Kd.R_reads hr; have HC2 := Aside0.mk hC2; have HK2 := Aside0.mk hc2; have HB2 := Aside0.mk (below_step hb1 hb2); have hch := HCH.out w2 HB2.out; clear hr hb1 hb2 hC2 hc2))
      | (go_at_call 41; refine hch.mono ?_; clear hch; rintro e w3 ⟨rfl, hb3⟩; have HB3 := Aside0.mk (below_step HB2.out hb3); have HC3 := Aside0.mk (Kd.C_below HC2.out hb3); have hr2 := HR2.out w3 HB3.out; clear hb3 HC2)
      | (go_at_call 39; ((with_reducible refine hr2.mono ?_); clear hr2; rintro e w4 ⟨⟨v, rfl, hr⟩, hb4⟩; obtain ⟨A4, c4, rfl, hc4, hC4⟩ := Kd.R_reads hr; have HB4 := Aside0.mk (below_step HB3.out hb4); have HC5 := Aside0.mk (Kd.C_below HC3.out hb4); have cz4 := pw_cell_below HB4.out cz; have hlk := HLK.out w4 HB4.out A4 c4 hC4; clear hr hb4 hC4 hc4 HC3 cz))
      | (go_at_call 30; ((with_reducible refine hlk.mono ?_); clear hlk; rintro e w5 ⟨⟨v, rfl, hr⟩, hb5⟩; obtain ⟨A5, c5, rfl, hc5, hC5⟩ := Kd.R_reads hr; have HB5 := Aside0.mk (below_step HB4.out hb5); have HC6 := Aside0.mk (Kd.C_below HC5.out hb5); have hsm := same_c rs HSZ.out A2 A5 c2 c5 HK2.out hc5 w5 HC6.out hC5; clear hr hb5 hC5 hc5 HC5))
      | (go_at_call 32; ((with_reducible refine hsm.mono ?_); clear hsm; rintro e w6 ⟨rfl, hb6⟩; have HB6 := Aside0.mk (below_step HB5.out hb6); clear hb6)))
    go_ret
    exact ⟨rfl, HB6.out⟩
  · rw [if_neg hm] at hsn
    injection hsn with e1 e2
    subst e1
    subst e2
    have he1 : (re == 0) = false := beq_eq_false_iff_ne.2 hm
    have he2 : (re != 0) = true := bne_iff_ne.2 hm
    clear HLK
    go_enter Tryd.func12, Tryd.ntmps12
    go_wp2_with (first
      | (go_at_call 44; refine (known6_c _ HT.out).mono ?_; rintro e w1 ⟨rfl, hb1⟩; have hru := HRU.out w1 hb1)
      | (go_at_call 39; ((with_reducible refine hru.mono ?_); clear hru; rintro e w2 ⟨⟨v, rfl, hr⟩, hb2⟩; have HB2 := Aside0.mk (below_step hb1 hb2); have hch := HCH.out w2 HB2.out; clear hr hb1 hb2))
      | (go_at_call 41; refine hch.mono ?_; clear hch; rintro e w3 ⟨rfl, hb3⟩; have HB3 := Aside0.mk (below_step HB2.out hb3); have hr2 := HR2.out w3 HB3.out; clear hb3)
      | (go_at_call 39; ((with_reducible refine hr2.mono ?_); clear hr2; rintro e w4 ⟨⟨v, rfl, hr⟩, hb4⟩; have HB4 := Aside0.mk (below_step HB3.out hb4); clear hr hb4)))
    go_ret
    exact ⟨rfl, HB4.out⟩
theorem walk (xs : List Int) (A : Option Addr) (cap : Nat) (s : ByteArray) (hcap : xs.length ≤ cap) (hss : s.size ≤ 140737488351232) (w : World) (ht : Tabs w) (hC : Kd.C (Kd.int .i64) w A xs.length xs) :
    Calls Tryd.prog 12 #[.slice A xs.length cap, .string s] w fun e w' => e = .returned (.bool true) ∧ Below w.heap.size w w' := by
  rcases checkD_cases xs with h0 | h0
  · rcases Nat.lt_or_ge xs.length 2 with h1 | h1
    · refine walk_one xs A cap s hcap hss w ht hC h0 ?_
      obtain ⟨a, r, rfl, _⟩ := checkD_zero h0
      have e1 : (a :: r).length = r.length + 1 := rfl
      omega
    · obtain ⟨ys, z, rfl⟩ : ∃ ys z, xs = ys ++ [z] := ⟨xs.dropLast, xs.getLast (by intro e; rw [e] at h1; simp at h1), (List.dropLast_concat_getLast _).symm⟩
      have hl : (ys ++ [z]).length = ys.length + 1 := by simp
      have hy : ys ≠ [] := by intro e; rw [e] at h1; simp at h1
      have := walk_many ys z hy A cap s (by omega) hss w ht hC h0
      rwa [← hl] at this
  · exact walk_bad xs A cap s hcap hss w ht hC h0
end Go.Proofs.YtgbphkckiekehaaDoor.chainLaw

set_option linter.unusedVariables false
set_option linter.unusedSimpArgs false
namespace Go.Proofs.YtgbphkckiekehaaDoor.chainLaw
open Go.RowKit Go.Shelf Go.Proofs.YtgbphkckiekehaaDoor.FoldRef Go.Proofs.YtgbphkckiekehaaDoorW.PrintWords Go.Proofs.YtgbphkckiekehaaDoor.Ana
open Go.ChangeShapes Go.WideShapes
open Go.ChangeShapes Go.WideShapes Go.ChangeAt Go.Lib
open Go.ChangeMaps (open_string shut_string)
abbrev spec : OpenSpec := OpenSpec.ofChange Rows.analysisChainSpec
theorem witness (os : Os) {H : Type} (enc : TypeId × Value → H) :
    spec.preRow enc Tryd.prog Tryd.f12 Rows.analysisChainRow.domain false Rows.analysisChainRow.laid ((Laid.laidWorld os).forCall (fun _ _ => 0) ⟨#[], #[.slice none 0 0, .string ⟨#[]⟩], []⟩).memory #[.slice none 0 0, .string ⟨#[]⟩] := by
  have hw : (DataW.whole enc Tryd.prog ((Laid.laidWorld os).forCall (fun _ _ => 0) ⟨#[], #[.slice none 0 0, .string ⟨#[]⟩], []⟩).memory Tryd.f12.params.toList spec.vars false #[Value.slice none 0 0, Value.string ⟨#[]⟩].toList 8).map (fun x => (x.1, x.2.1)) =
      some ([.nil, .lit (.string [])], []) := by kernel_rfl
  obtain ⟨⟨x1, x2, x3⟩, hx, hx1⟩ := Option.map_eq_some_iff.1 hw
  simp only [Prod.mk.injEq] at hx1
  obtain ⟨rfl, rfl⟩ := hx1
  exact OpenSpec.preRow_of_cond 8 hx (by kernel_rfl) (fun k hk => by cases hk) (by kernel_rfl) (Laid.laid_met os _)
set_option maxRecDepth 100000 in
set_option maxHeartbeats 2000000 in
theorem lifted (os : Os) (started : os.Started) (H : Type) (enc : TypeId × Value → H) (F : Stop.Interp) :
    ReturnsInHanded {} Tryd.checked os 12 .any (spec.preRow enc Tryd.prog Tryd.f12 Rows.analysisChainRow.domain false Rows.analysisChainRow.laid) ((spec.at F).post enc Tryd.prog Tryd.f12 false true false false) := by
  refine returnsInHanded_of_row (C := Tryd.checked) (s := spec) Laid.own started (by kernel_rfl) Tryd.func12
    (witness_row_atRef (enc := enc) (C := Tryd.checked) false (Laid.laidWorld os) #[.slice none 0 0, .string ⟨#[]⟩] rfl (by kernel_rfl) (by kernel_rfl) (by kernel_rfl) (witness os enc)) ?_
  intro W base args ds gs before hval0 hW _ hcond hsz0 hL _ _
  have hval : ∀ (j : Nat) t v, Tryd.f12.params[j]? = some t → args[j]? = some v → Value.okWide Tryd.prog W .any base t v := hval0
  have hsz : (DataW.weightsEach Tryd.prog (Tryd.f12.params.toList ++ spec.bare.plain.varTypes Tryd.prog) (ds ++ gs)).all (· ≤ reachBytes) = true := hsz0
  have hW' := hW
  obtain ⟨p, q, hA0, hV0, rfl, _, _⟩ := hW
  have hA : DataW.TrodAll enc Tryd.prog W 0 (fun _ => true) true Tryd.f12.params.toList args.toList ds p := hA0
  rw [Tryd.params12] at hA hval hsz
  obtain ⟨v0, vs0, d0, ds0, p0, q0, hargs, rfl, rfl, h0, r0⟩ := trodAll_cons hA
  obtain ⟨v1, vs1, d1, ds1, p1, q1, rfl, rfl, rfl, h1, r1⟩ := trodAll_cons r0
  obtain ⟨rfl, rfl, rfl⟩ := trodAll_nil r1
  obtain rfl : args = #[v0, v1] := by cases args; simp_all
  obtain ⟨rfl, rfl⟩ := trodVars_none hV0
  obtain ⟨a0, len0, cap0, rfl⟩ := okWide_slice Tryd.underlying25 (hval 0 25 v0 rfl rfl)
  have k0 := h0
  have lt0 : ∀ x ∈ p0, x.block < W.heap.size := by obtain ⟨m, hm⟩ := k0; exact DataW.trod_lt m _ _ _ hm
  obtain ⟨z0, rfl, x0, g0⟩ := open_chain h0
  obtain ⟨a1, rfl, rfl, rfl, w1⟩ := open_string Tryd.underlying9 (hval 1 9 v1 rfl rfl) h1
  have b1 : a1.data.toList.length ≤ reachBytes := sized_string hsz (j := 1) rfl rfl
  rw [size_data] at b1
  clear hA0 hV0 hval0 hsz0
  refine (walk z0 a0 cap0 a1 x0 b1 W (Laid.tabs hL) g0).mono ?_
  rintro e W' ⟨rfl, bel⟩
  have e1 : (spec.at F).fn H ([d0, .lit (.string a1.data.toList)] ++ []) = { results := [.lit (.bool true)], args := [d0, .lit (.string a1.data.toList)] } := rfl
  refine ⟨_, rfl, _, _, _, [], (p0 ++ ([] ++ [])), [], hW', ?_, ?_, ?_, bel.frame _, fun h => by cases h⟩
  · rw [e1]; exact trodAll_mk1 (shut_bool Tryd.underlying4 _)
  · rw [e1]; exact (trodAll_cons_mk (Below.trod laidOut (by kernel_rfl) (of_decide_eq_true (by kernel_rfl)) k0 bel lt0) (trodAll_cons_mk (shut_string Tryd.underlying9 w1) trodAll_mk0))
  · rw [e1]; rfl
theorem said : Rows.AnalysisChainSaid :=
  OpenClaim.holds_of_cond 12 Tryd.f12 rfl rfl rfl rfl rfl rfl rfl ⟨rfl, rfl, rfl, rfl, rfl⟩ rfl rfl rfl rfl rfl (by kernel_rfl) Tryd.func12 (by kernel_rfl)
    (of_decide_eq_true (by kernel_rfl)) (by unfold Func.isWrapper; rw [if_neg (of_decide_eq_false (by kernel_rfl))]; exact ⟨rfl, rfl⟩)
    (fun os started H enc _ F0 => by rw [OpenClaim.pre_eq_preRow]; exact lifted os started H enc F0)
theorem plain (f : FuncId) (fn : Func) (hf : Tryd.pinned.checked.prog.funcNamed "lectern/lecternlaw06.AnalysisChain" = some f) (hfn : Tryd.pinned.checked.prog.funcs[f]? = some fn) :
    false = Tryd.pinned.checked.prog.looks [] ∧ ∀ (j : Nat) t, fn.params[j]? = some t → Tryd.pinned.checked.prog.wantsStandIn t = false := by
  obtain rfl : f = 12 := Option.some.inj ((show Tryd.prog.funcNamed "lectern/lecternlaw06.AnalysisChain" = some 12 by kernel_rfl).symm.trans hf) |>.symm
  obtain rfl : fn = Tryd.f12 := (Option.some.inj (Tryd.func12.symm.trans hfn)).symm
  refine ⟨by kernel_rfl, fun j t ht => ?_⟩
  rw [Tryd.params12] at ht
  have hm := Array.mem_of_getElem? ht
  simp only [List.mem_toArray, List.mem_cons, List.mem_nil_iff, or_false] at hm
  rcases hm with rfl | rfl
  · exact (show Tryd.prog.wantsStandIn 25 = false by kernel_rfl)
  · exact (show Tryd.prog.wantsStandIn 9 = false by kernel_rfl)
theorem card : Rows.AnalysisChainCardSaid :=
  Claim7.holds_tied_plain_at .later [] _ _ _ _ said (fun _ h => by cases h) (by kernel_rfl) (fun _ h => by cases h) analysisChain_row_tie rfl ⟨rfl, rfl⟩ (by kernel_rfl) rfl plain (by kernel_rfl)

end Go.Proofs.YtgbphkckiekehaaDoor.chainLaw
namespace Go.Proofs.YtgbphkckiekehaaDoor
theorem analysisChain_holds : Rows.AnalysisChainCardSaid := chainLaw.card
end Go.Proofs.YtgbphkckiekehaaDoor
