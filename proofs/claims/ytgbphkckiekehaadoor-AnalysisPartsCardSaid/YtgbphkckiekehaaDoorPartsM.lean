/- For every two texts that are together not longer than 4095 bytes: what lies between two texts and a blank is, behind a tokenizer of letters or of spaces, the tokens of the first and, moved on, those of the second. Condition: the two tables of unicode/utf8 read as the program's text lays them (the card ties them). -/
import Derived.Test.YtgbphkckiekehaaDoorBL
import Derived.Test.YtgbphkckiekehaaDoorBG
import Derived.Carry
import Derived.ChangeSlices
import Derived.Test.YtgbphkckiekehaaDoorBD
set_option linter.unusedVariables false
set_option linter.unusedSimpArgs false
namespace Go.Proofs.YtgbphkckiekehaaDoor.Ana
open Go.RowKit Go.Shelf Go.Proofs.YtgbphkckiekehaaDoor.QOut Go.Proofs.YtgbphkckiekehaaDoor.FoldRef Go.Proofs.YtgbphkckiekehaaDoorW.PrintWords
open Go.ChangeShapes Go.WideShapes
theorem laidOut : laidOutB Tryd.prog = true := by kernel_rfl
theorem open_chain {H : Type} {enc : TypeId × Value → H} {W : World} {held : Bool} {a : Option Addr} {len cap : Nat} {d : DataW H} {ps : List MemPlace}
    (h : DataW.Trod enc Tryd.prog W 0 (fun _ => true) held 25 (.slice a len cap) d ps) :
    ∃ zs : List Int, zs.length = len ∧ len ≤ cap ∧ Kd.C (Kd.int .i64) W a len zs := by
  obtain ⟨fuel, hf⟩ := h
  rcases open_ints Tryd.underlying25 Tryd.underlying3 (by kernel_rfl) hf with ⟨hcs, _⟩ | ⟨x, l, c, zs, hcs, _, hl, hm, hz, _, hcell, hwz⟩
  · simp [Value.cells] at hcs
    obtain ⟨rfl, rfl, rfl⟩ := hcs
    exact ⟨[], rfl, Nat.le_refl _, rfl, by omega, fun h => by omega⟩
  · simp [Value.cells] at hcs
    obtain ⟨rfl, rfl, rfl⟩ := hcs
    have hz' : zs.length = cap := by simpa using hz
    have hml : cap ≤ 9223372036854775807 := by unfold maxLen at hm; omega
    have ht : ∀ j, j < len → (zs.take len).getD j 0 = zs.getD j 0 := fun j hj => by simp [List.getD_eq_getElem?_getD, hj]
    have hro : ReadsOf (Value.int .i64) (0 : Int) W (some x) len (zs.take len) := by
      refine ⟨by rw [List.length_take]; omega, by omega, fun _ => ⟨x, rfl, fun j hj => ?_⟩⟩
      rw [ht j hj]; exact hcell j (by omega)
    exact ⟨zs.take len, by rw [List.length_take]; omega, by omega, Kd.C_of_reads hro⟩
end Go.Proofs.YtgbphkckiekehaaDoor.Ana

set_option linter.unusedVariables false
set_option linter.unusedSimpArgs false
namespace Go.Proofs.YtgbphkckiekehaaDoor.Ana
open Go Go.RowKit Go.Proofs.YtgbphkckiekehaaDoor.QOut Go.Proofs.YtgbphkckiekehaaDoorW.PrintWords Go.Proofs.FoldPlain Go.Proofs.FoldText Go.Proofs.YtgbphkckiekehaaDoor.FoldRef

theorem runesAt_app (la t : List UInt8) (ht : t.takeWhile isCont = []) : ∀ (d p : Nat), la.length - p ≤ d → p ≤ la.length → runesAt (la ++ t) p = runesAt la p ++ runesAt (la ++ t) la.length := by
  intro d
  induction d with
  | zero =>
    intro p h hp
    obtain rfl : p = la.length := by omega
    rw [runesAt_end la la.length (Nat.le_refl _), List.nil_append]
  | succ d ih =>
    intro p h hp
    by_cases hlt : p < la.length
    · have hl2 : p < (la ++ t).length := by rw [List.length_append]; omega
      have hd : dec ((la ++ t).drop p) = dec (la.drop p) := by
        rw [List.drop_append_of_le_length (by omega), List.drop_eq_getElem_cons hlt, List.cons_append]
        exact dec_sim _ _ _ (tw_append _ t ht)
      have g1 := dec_ge1 (la.drop p)
      have g2 := dec_in hlt
      rw [runesAt_step _ p hl2, runesAt_step la p hlt, hd, ih _ (by omega) g2]
      rfl
    · obtain rfl : p = la.length := by omega
      rw [runesAt_end la la.length (Nat.le_refl _), List.nil_append]
def shR (d : Nat) (x : Nat × Nat) : Nat × Nat := (x.1 + d, x.2)
theorem runesAt_shift (pre l : List UInt8) : ∀ (d p : Nat), l.length - p ≤ d → p ≤ l.length → runesAt (pre ++ l) (p + pre.length) = (runesAt l p).map (shR pre.length) := by
  intro d
  induction d with
  | zero =>
    intro p h hp
    rw [runesAt_end l p (by omega), runesAt_end _ _ (by rw [List.length_append]; omega)]; rfl
  | succ d ih =>
    intro p h hp
    by_cases hlt : p < l.length
    · have hl2 : p + pre.length < (pre ++ l).length := by rw [List.length_append]; omega
      have hd : (pre ++ l).drop (p + pre.length) = l.drop p := by
        rw [List.drop_append, List.drop_eq_nil_of_le (by omega), List.nil_append]; congr 1; omega
      have g1 := dec_ge1 (l.drop p)
      have g2 := dec_in hlt
      rw [runesAt_step _ _ hl2, runesAt_step l p hlt, hd, List.map_cons, show p + pre.length + (dec (l.drop p)).2 = p + (dec (l.drop p)).2 + pre.length by omega, ih _ (by omega) g2]
      rfl
    · rw [runesAt_end l p (by omega), runesAt_end _ _ (by rw [List.length_append]; omega)]; rfl
theorem runes_parts (la lb : List UInt8) : runes (la ++ 32 :: lb) = runes la ++ (la.length, 32) :: (runes lb).map (shR (la.length + 1)) := by
  have ht : (32 :: lb : List UInt8).takeWhile isCont = [] := by rw [List.takeWhile_cons]; rfl
  rw [runes, runesAt_app la _ ht la.length 0 (by omega) (Nat.zero_le _)]
  congr 1
  have hl : la.length < (la ++ 32 :: lb).length := by simp
  have hd : (la ++ 32 :: lb).drop la.length = 32 :: lb := by rw [List.drop_append_of_le_length (Nat.le_refl _), List.drop_length, List.nil_append]
  have h32 : dec (32 :: lb) = (32, 1) := by rw [dec_T]; rfl
  rw [runesAt_step _ _ hl, hd, h32]
  congr 1
  have := runesAt_shift (la ++ [32]) lb lb.length 0 (by omega) (Nat.zero_le _)
  simpa using this

theorem ba_ext' {a b : ByteArray} (h : a.data.toList = b.data.toList) : a = b := by
  cases a; cases b; congr 1; exact Array.toList_inj.1 h
theorem ext_left (a s : ByteArray) (t : List UInt8) (hs : s.data.toList = a.data.toList ++ t) (i j : Nat) (hj : j ≤ a.size) : s.extract i j = a.extract i j := by
  have hsz : a.size ≤ s.size := by rw [← size_data, ← size_data, hs, List.length_append]; omega
  apply ba_ext'
  rw [extract_data _ _ _ hj, extract_data _ _ _ (by omega), hs]
  by_cases h : i ≤ a.size
  · rw [List.drop_append_of_le_length (by rw [size_data]; exact h), List.take_append_of_le_length (by rw [List.length_drop, size_data]; omega)]
  · rw [show j - i = 0 by omega]; simp
theorem ext_right (b s : ByteArray) (pre : List UInt8) (hs : s.data.toList = pre ++ b.data.toList) (i j : Nat) (hj : j ≤ b.size) : s.extract (i + pre.length) (j + pre.length) = b.extract i j := by
  have hsz : pre.length + b.size = s.size := by rw [← size_data, ← size_data, hs, List.length_append]
  apply ba_ext'
  rw [extract_data _ _ _ hj, extract_data _ _ _ (by omega), hs]
  rw [List.drop_append, List.drop_eq_nil_of_le (by omega), List.nil_append, show i + pre.length - pre.length = i by omega, show j + pre.length - (i + pre.length) = j - i by omega]

theorem runEnd_left (a s : ByteArray) (t : List UInt8) (hs : s.data.toList = a.data.toList ++ t) (st : List S58 × Int) (p : Nat) (hp : p ≤ a.size) : runEnd s st p = runEnd a st p := by
  unfold runEnd
  split
  · rw [show ((p : Nat) : Int).toNat = p from rfl, ext_left a s t hs _ _ hp]
  · rfl
theorem runFold_left (a s : ByteArray) (t : List UInt8) (hs : s.data.toList = a.data.toList ++ t) (may begins : Int → Bool) : ∀ (pre : List (Nat × Nat)) (st : List S58 × Int), (∀ x ∈ pre, x.1 ≤ a.size) → pre.foldl (runStep s may begins) st = pre.foldl (runStep a may begins) st
  | [], st, _ => rfl
  | x :: pre, st, h => by
    have e : runStep s may begins st x = runStep a may begins st x := by
      unfold runStep
      rw [runEnd_left a s t hs st x.1 (h x (by simp))]
    rw [List.foldl_cons, List.foldl_cons, e]
    exact runFold_left a s t hs may begins pre _ (fun y hy => h y (by simp [hy]))

def shT (k d : Nat) (t : S58) : S58 := { t with f1 := t.f1 + k, f2 := t.f2 + d, f3 := t.f3 + d }
def shF (d : Nat) (f : Int) : Int := if f < 0 then f else f + d
def shS (K : List S58) (d : Nat) (st : List S58 × Int) : List S58 × Int := (K ++ st.1.map (shT K.length d), shF d st.2)
theorem runEnd_right (b s : ByteArray) (pre : List UInt8) (hs : s.data.toList = pre ++ b.data.toList) (K : List S58) (st : List S58 × Int) (p : Nat) (hp : p ≤ b.size) (hst : -1 ≤ st.2) : runEnd s (shS K pre.length st) ((p + pre.length : Nat) : Int) = shS K pre.length (runEnd b st p) := by
  by_cases h : 0 ≤ st.2
  · have e1 : shF pre.length st.2 = st.2 + pre.length := by unfold shF; rw [if_neg (by omega)]
    have h' : 0 ≤ (shS K pre.length st).2 := by show 0 ≤ shF pre.length st.2; rw [e1]; omega
    unfold runEnd
    rw [if_pos h, if_pos h']
    show ((K ++ st.1.map (shT K.length pre.length)) ++ [_], (-1 : Int)) = (K ++ (st.1 ++ [_]).map (shT K.length pre.length), shF pre.length (-1))
    rw [List.map_append, ← List.append_assoc]
    refine Prod.ext ?_ rfl
    show _ ++ [_] = _ ++ [_]
    congr 1
    show [(⟨s.extract (shF pre.length st.2).toNat ((p + pre.length : Nat) : Int).toNat, ((K ++ st.1.map (shT K.length pre.length)).length : Int), shF pre.length st.2, ((p + pre.length : Nat) : Int)⟩ : S58)] = [shT K.length pre.length ⟨b.extract st.2.toNat (p : Int).toNat, (st.1.length : Int), st.2, (p : Int)⟩]
    rw [e1, show (st.2 + (pre.length : Int)).toNat = st.2.toNat + pre.length by omega, show ((p + pre.length : Nat) : Int).toNat = p + pre.length from rfl, show (p : Int).toNat = p from rfl, ext_right b s pre hs _ _ hp]
    unfold shT
    simp only [List.length_append, List.length_map, List.cons.injEq, and_true]
    congr 1 <;> omega
  · have e1 : shF pre.length st.2 = st.2 := by unfold shF; rw [if_pos (by omega)]
    have h' : ¬ 0 ≤ (shS K pre.length st).2 := by show ¬ 0 ≤ shF pre.length st.2; rw [e1]; exact h
    unfold runEnd
    rw [if_neg h, if_neg h']
    rfl
theorem runStep_right (b s : ByteArray) (pre : List UInt8) (hs : s.data.toList = pre ++ b.data.toList) (may begins : Int → Bool) (K : List S58) (st : List S58 × Int) (x : Nat × Nat) (hx : x.1 ≤ b.size) (hst : -1 ≤ st.2) : runStep s may begins (shS K pre.length st) (shR pre.length x) = shS K pre.length (runStep b may begins st x) := by
  unfold runStep
  show (if may (x.2 : Int) = false then runEnd s (shS K pre.length st) ((x.1 + pre.length : Nat) : Int) else if (shS K pre.length st).2 < 0 ∧ begins (x.2 : Int) = true then ((shS K pre.length st).1, ((x.1 + pre.length : Nat) : Int)) else shS K pre.length st) = _
  by_cases hm : may (x.2 : Int) = false
  · rw [if_pos hm, if_pos hm]; exact runEnd_right b s pre hs K st x.1 hx hst
  · rw [if_neg hm, if_neg hm]
    have hn : ((shS K pre.length st).2 < 0) ↔ st.2 < 0 := by
      show shF pre.length st.2 < 0 ↔ _
      unfold shF; split <;> omega
    by_cases hc : st.2 < 0 ∧ begins (x.2 : Int) = true
    · rw [if_pos hc, if_pos ⟨hn.2 hc.1, hc.2⟩]
      refine Prod.ext rfl ?_
      show ((x.1 + pre.length : Nat) : Int) = shF pre.length (x.1 : Int)
      unfold shF; rw [if_neg (by omega)]; omega
    · rw [if_neg hc, if_neg (fun h => hc ⟨hn.1 h.1, h.2⟩)]
theorem runStep_ge (s : ByteArray) (may begins : Int → Bool) (st : List S58 × Int) (x : Nat × Nat) (h : -1 ≤ st.2) : -1 ≤ (runStep s may begins st x).2 := by
  unfold runStep
  split
  · rw [(runEnd_bounds s st x.1).1]; omega
  · split
    · show -1 ≤ (x.1 : Int); omega
    · exact h
theorem runFold_right (b s : ByteArray) (pre : List UInt8) (hs : s.data.toList = pre ++ b.data.toList) (may begins : Int → Bool) (K : List S58) : ∀ (xs : List (Nat × Nat)) (st : List S58 × Int), (∀ x ∈ xs, x.1 ≤ b.size) → -1 ≤ st.2 →
    (xs.map (shR pre.length)).foldl (runStep s may begins) (shS K pre.length st) = shS K pre.length (xs.foldl (runStep b may begins) st) ∧ -1 ≤ (xs.foldl (runStep b may begins) st).2
  | [], st, _, h => ⟨rfl, h⟩
  | x :: xs, st, hx, h => by
    rw [List.map_cons, List.foldl_cons, List.foldl_cons, runStep_right b s pre hs may begins K st x (hx x (by simp)) h]
    exact runFold_right b s pre hs may begins K xs _ (fun y hy => hx y (by simp [hy])) (runStep_ge _ _ _ _ _ h)
/-- Two texts with a blank between. -/
theorem runsD_parts (a b s : ByteArray) (hs : s.data.toList = a.data.toList ++ 32 :: b.data.toList) (may begins : Int → Bool) (hm : may 32 = false) :
    runsD s may begins = runsD a may begins ++ (runsD b may begins).map (shT (runsD a may begins).length (a.size + 1)) := by
  have ha := (runesAt_bounds a.data.toList a.data.toList.length 0 (by omega)).1
  have hb := (runesAt_bounds b.data.toList b.data.toList.length 0 (by omega)).1
  have hs2 : s.data.toList = (a.data.toList ++ [32]) ++ b.data.toList := by rw [hs]; simp
  have hpl : (a.data.toList ++ [32]).length = a.size + 1 := by rw [List.length_append, size_data]; rfl
  have hsz : s.size = b.size + (a.size + 1) := by rw [← size_data, hs2, List.length_append, hpl, size_data]; omega
  have hfl : ∀ x ∈ runes a.data.toList, x.1 ≤ a.size := fun x hx => by have := (ha x hx).2; rw [size_data] at this; omega
  have hfr : ∀ x ∈ runes b.data.toList, x.1 ≤ b.size := fun x hx => by have := (hb x hx).2; rw [size_data] at this; omega
  unfold runsD runState
  rw [hs, runes_parts, List.foldl_append, List.foldl_cons, runFold_left a s _ hs may begins _ _ hfl, size_data]
  have hbd := runFold_bounds a may begins a.size (runes a.data.toList) ([], -1) hfl (by decide) (by show (-1 : Int) ≤ _; omega)
  generalize (runes a.data.toList).foldl (runStep a may begins) ([], -1) = sa at hbd ⊢
  have e1 : runStep s may begins sa (a.size, 32) = runEnd a sa a.size := by
    unfold runStep
    rw [if_pos (show may ((32 : Nat) : Int) = false from hm)]
    exact runEnd_left a s _ hs sa a.size (Nat.le_refl _)
  rw [e1]
  have e2 : runEnd a sa a.size = shS (runEnd a sa a.size).1 (a.size + 1) ([], -1) := by
    refine Prod.ext ?_ ?_
    · show _ = (runEnd a sa a.size).1 ++ []; rw [List.append_nil]
    · rw [(runEnd_bounds a sa a.size).1]; rfl
  generalize hK : (runEnd a sa a.size).1 = K at e2 ⊢
  rw [e2]
  have h3 := runFold_right b s (a.data.toList ++ [32]) hs2 may begins K (runes b.data.toList) ([], -1) hfr (by decide)
  rw [hpl] at h3
  rw [h3.1, hsz]
  have h4 := runEnd_right b s (a.data.toList ++ [32]) hs2 K ((runes b.data.toList).foldl (runStep b may begins) ([], -1)) b.size (Nat.le_refl _) h3.2
  rw [hpl] at h4
  rw [h4]
  rfl
/-- No more runs than bytes. -/
theorem runs_count {s : ByteArray} {ts : List S58} (h : ∀ t ∈ ts, Out s t) (hp : ts.Pairwise (fun a b => a.f3 ≤ b.f2)) : ts.length ≤ s.size := by
  rw [List.pairwise_iff_getElem] at hp
  have key : ∀ i (hi : i < ts.length), (i : Int) ≤ (ts[i]).f2 := by
    intro i
    induction i with
    | zero => intro hi; have := (h _ (List.getElem_mem hi)).1; omega
    | succ i ih =>
      intro hi
      have h1 := ih (by omega)
      have h2 := hp i (i + 1) (by omega) hi (by omega)
      have h3 := (h _ (List.getElem_mem (show i < ts.length by omega))).2.1
      omega
  rcases Nat.eq_zero_or_pos ts.length with h0 | h0
  · omega
  · have h1 := key (ts.length - 1) (by omega)
    have h2 := h _ (List.getElem_mem (show ts.length - 1 < ts.length by omega))
    have := h2.2.1
    have := h2.2.2.1
    omega
theorem runD_one (n : Int) (hn : n = 1 ∨ n = 2) (s : ByteArray) (hs : s.size ≤ 4096) : runD [n] s = (tokensD n s, 0) := by
  have hc : checkD [n] = 0 := by rcases hn with rfl | rfl <;> rfl
  have hl : (tokensD n s).length ≤ 4096 := by
    have : ∀ m b, (runsD s m b).length ≤ 4096 := fun m b => by
      obtain ⟨h1, _, h3⟩ := runsD_inv s m b
      have := runs_count h1 h3
      omega
    unfold tokensD
    rcases hn with rfl | rfl
    · rw [if_pos rfl]; exact this _ _
    · rw [if_neg (by decide), if_pos rfl]; exact this _ _
  unfold runD
  rw [if_neg (by rw [hc]; decide), if_neg (by omega), show [n].getD 0 0 = n from rfl, if_neg (by omega)]
  rfl
theorem tokensD_parts (n : Int) (hn : n = 1 ∨ n = 2) (a b s : ByteArray) (hs : s.data.toList = a.data.toList ++ 32 :: b.data.toList) :
    tokensD n s = tokensD n a ++ (tokensD n b).map (shT (tokensD n a).length (a.size + 1)) := by
  unfold tokensD
  rcases hn with rfl | rfl
  · simp only [if_true]
    exact runsD_parts a b s hs mayB wordB (by decide)
  · simp only [show ¬ ((2 : Int) = 1) by decide, if_false, if_true]
    exact runsD_parts a b s hs openB openB (by decide)
end Go.Proofs.YtgbphkckiekehaaDoor.Ana

set_option linter.unusedVariables false
set_option linter.unusedSimpArgs false
namespace Go.Proofs.YtgbphkckiekehaaDoor.partsLaw
open Go.RowKit Go.Shelf Go.Proofs.YtgbphkckiekehaaDoor.QOut Go.Proofs.YtgbphkckiekehaaDoorW.PrintWords Go.Proofs.YtgbphkckiekehaaDoorW.PrintLast Go.Proofs.FoldPlain Go.Proofs.FoldText Go.Proofs.YtgbphkckiekehaaDoor.FoldRef Go.Proofs.YtgbphkckiekehaaDoor.FoldW Go.Proofs.YtgbphkckiekehaaDoor.FoldF Go.Proofs.YtgbphkckiekehaaDoor.FoldP Go.Proofs.YtgbphkckiekehaaDoor.Ana

theorem run_one (n : Int) (hn : n = 1 ∨ n = 2) (s : ByteArray) (hs : s.size ≤ 4096) (W : World) (ht : Tabs W) :
    Calls Tryd.prog 39 #[.slice (some ⟨W.heap.size, 0, none⟩) 1 1, .string s] (W.alloc (.cells #[.int .i64 n] 3)) fun e w' => (∃ v, e = .returned (.tuple #[v, .int .i64 0]) ∧ TRow w' W.heap.size v (tokensD n s)) ∧ Below W.heap.size W w' := by
  have h := run_c [n] (some ⟨W.heap.size, 0, none⟩) 1 (Nat.le_refl _) s (by omega) _ (ht.step (below_alloc (Below.refl _ _) (.cells #[.int .i64 n] 3))) (ints_new W [n] (by simp))
  rw [runD_one n hn s hs] at h
  refine h.mono ?_
  rintro e w' ⟨⟨v, he, hv⟩, hb⟩
  exact ⟨⟨v, he, Kd.R_lower hv (by simp)⟩, below_step (below_alloc (Below.refl _ _) _) hb⟩

set_option maxRecDepth 100000 in
set_option maxHeartbeats 4000000 in
theorem walk (a b : ByteArray) (hsa : a.size ≤ 140737488351232) (hsb : b.size ≤ 140737488351232) (w : World) (ht : Tabs w) :
    Calls Tryd.prog 13 #[.string a, .string b] w fun e w' => e = .returned (.bool true) ∧ Below w.heap.size w w' := by
  have hu58 := Tryd.underlying58
  have HT := Aside0.mk ht
  clear ht
  by_cases hbig : 4096 < a.size + b.size + 1
  · have hb1 : (4096 : Int) < (a.size : Int) + (b.size : Int) + 1 := by omega
    go_enter Tryd.func13, Tryd.ntmps13
    go_wp2_with (go_at_call 44; refine (known6_c _ HT.out).mono ?_; rintro e w1 ⟨rfl, hb1⟩)
    go_ret
    exact ⟨rfl, by assumption⟩
  · have hb1 : ¬ (4096 : Int) < (a.size : Int) + (b.size : Int) + 1 := by omega
    have HRA := Aside0.mk (fun n hn W h => run_one n hn a (by omega) W h)
    have HRB := Aside0.mk (fun n hn W h => run_one n hn b (by omega) W h)
    obtain ⟨c, hcv⟩ : ∃ c, c = a ++ ⟨#[32]⟩ ++ b := ⟨_, rfl⟩
    have hcs : c.data.toList = a.data.toList ++ 32 :: b.data.toList := by rw [hcv]; simp [ByteArray.data_append]
    have hcz : c.size = a.size + b.size + 1 := by rw [← size_data, hcs, List.length_append, List.length_cons, size_data, size_data]; omega
    have HRC := Aside0.mk (fun n hn W h => run_one n hn c (by omega) W h)
    have HTP := Aside0.mk (fun n hn => tokensD_parts n hn a b c hcs)
    have HIN := Aside0.mk (fun n => tokensD_inv n b)
    have HIA := Aside0.mk (fun n hn W h => run_one n hn c (by omega) W h)
    have HCV := Aside0.mk hcv
    have HLA := Aside0.mk (fun (n : Int) (hn : n = 1 ∨ n = 2) => show (tokensD n a).length ≤ 4096 ∧ (tokensD n b).length ≤ 4096 by
      have key : ∀ (n : Int) (hn : n = 1 ∨ n = 2) (s : ByteArray), s.size ≤ 4096 → (tokensD n s).length ≤ 4096 := fun n hn s h => by
        have := runD_one n hn s h
        have h2 := runD_places [n] s (by rw [this])
        rw [this] at h2
        exact h2.2.2.1
      exact ⟨key n hn a (by omega), key n hn b (by omega)⟩)
    clear hcs hcz hcv
    have hza : (a.size : Int) ≤ 4096 := by omega
    have hzb : b.size ≤ 4096 := by omega
    go_enter Tryd.func13, Tryd.ntmps13
    go_wp2_with (go_at_call 44; refine (known6_c _ HT.out).mono ?_; rintro e w1 ⟨rfl, hb1⟩)
    have HB1 := Aside0.mk ‹Below w.heap.size w w1›
    go_loopw [5] (fun vi wr => ∃ n : Int, 1 ≤ n ∧ n ≤ 3 ∧ vi = .int .i64 n ∧ Hid (Below w.heap.size w wr))
      (fun vi _ => (3 - intOf vi).toNat)
    case atStart => exact ⟨1, by omega, by omega, rfl, Lib.hid HB1.out⟩
    case round =>
      obtain ⟨n, hn1, hn3, rfl, hBr⟩ := hrel
      by_cases hn2 : n ≤ 2
      · have hn : n = 1 ∨ n = 2 := by omega
        obtain ⟨hl1, hl2⟩ := HLA.out n hn
        have HIB := Aside0.mk (HIN.out n)
        have HTQ := Aside0.mk (HTP.out n hn)
        have hra := fun W h => HRA.out n hn W h
        have hrb := fun W h => HRB.out n hn W h
        have hrc := fun W h => HRC.out n hn W h
        have HRA1 := Aside0.mk hra
        have HRB1 := Aside0.mk hrb
        have HRC1 := Aside0.mk hrc
        clear hra hrb hrc hn
        generalize tokensD n a = ks at HRA1 HTQ hl1
        generalize tokensD n b = ls at HRB1 HTQ HIB hl2
        generalize tokensD n c = ms at HRC1 HTQ
        rw [HCV.out] at HRC1
        go_wp2_with (first
          | (go_at_call 39; ((with_reducible refine (HRA1.out _ (HT.out.step hBr.out)).mono ?_); rintro e w2 ⟨⟨v2, rfl, hr⟩, hb⟩; obtain ⟨A2, c2, rfl⟩ := Kd.R_slice hr; have HA2 := Aside0.mk hr; have HB2 := Aside0.mk (below_step hBr.out hb); clear hr hb))
          | (go_at_call 39; ((with_reducible refine (HRB1.out _ (HT.out.step HB2.out)).mono ?_); rintro e w3 ⟨⟨v3, rfl, hr⟩, hb⟩; obtain ⟨A3, c3, rfl⟩ := Kd.R_slice hr; have HA3 := Aside0.mk hr; have HD2 := Aside0.mk (Kd.R_below HA2.out hb); have HB3 := Aside0.mk (below_step HB2.out hb); clear hr hb HA2))
          | (go_at_call 39; ((with_reducible refine (HRC1.out _ (HT.out.step HB3.out)).mono ?_); rintro e w4 ⟨⟨v4, rfl, hr⟩, hb⟩; obtain ⟨A4, c4, rfl⟩ := Kd.R_slice hr; have HA4 := Aside0.mk hr; have HE2 := Aside0.mk (Kd.R_below HD2.out hb); have HD3 := Aside0.mk (Kd.R_below HA3.out hb); have HB4 := Aside0.mk (below_step HB3.out hb); clear hr hb HA3 HD2))
          | ((with_reducible refine gate_builtin (b := .append) (xs := #[.tmp 62, .tmp 63]) rfl ?_); at_builtin; refine Kd.R_append_rows k58 (w0 := w4) w4.heap.size rfl (.tmp 62) (.tmp 63) 42 58 (.agg #[(.string ⟨#[]⟩), (.int .i64 0), (.int .i64 0), (.int .i64 0)]) 40 rfl Tryd.underlying42 info58' rfl (by decide) (by omega) (.slice none 0 0) [] ks A2 _ c2 (fun _ => True) (fun _ => False) rfl rfl (Kd.R_nil _ _ _ _ _) (Kd.R_reads' HE2.out).2.2 (fun _ _ h => h) (fun _ h => h.elim) (fun _ _ => trivial) (Below.refl _ _) (Nat.le_refl _) (by simp; omega) ?_; intro v5 w5 ho5 hb5 hg5 hat5; have HW5 := Aside0.mk ho5; have HB5 := Aside0.mk hb5; clear ho5 hb5 hg5 hat5))
        have HC3 := Aside0.mk (Kd.R_reads' HD3.out).2.2
        have HLS := Aside0.mk (Kd.R_reads' HD3.out).2.1
        have HMS := Aside0.mk (Kd.R_reads' HA4.out).2
        have hzB4 := HB4.out.size
        obtain ⟨wo, rfl⟩ : ∃ wo : World, wo = wr := ⟨_, rfl⟩
        go_loopw [12, 13] (fun v vi wr => ∃ i : Nat, i ≤ ls.length ∧ vi = .int .i64 i ∧ Hid (TRow wr w4.heap.size v (ks ++ (ls.take i).map (shT ks.length (a.size + 1)))) ∧ Hid (Below w4.heap.size w4 wr))
          (fun _ vi _ => ls.length - (intOf vi).toNat)
        case atStart => exact ⟨0, Nat.zero_le _, rfl, Lib.hid (by simpa using HW5.out), Lib.hid HB5.out⟩
        case round =>
          obtain ⟨i, hi, rfl, hrow, hbw⟩ := hrel
          obtain ⟨Ai, ci, rfl⟩ := Kd.R_slice hrow.out
          by_cases hlt : i < ls.length
          · have hlt' : (i : Int) < (ls.length : Int) := by omega
            obtain ⟨ad, rfl, c0, c1, c2_, c3_⟩ := at_T58 (Kd.C_below HC3.out hbw.out) (i : Int) (by omega) hlt'
            simp only [Int.toNat_natCast] at c0 c1 c2_ c3_
            have HLEN := Aside0.mk (show (ks ++ (ls.take i).map (shT ks.length (a.size + 1))).length = ks.length + i by rw [List.length_append, List.length_map, List.length_take]; omega)
            have HTK := Aside0.mk (show (ls.take (i + 1)).map (shT ks.length (a.size + 1)) = (ls.take i).map (shT ks.length (a.size + 1)) ++ [shT ks.length (a.size + 1) (rd_T58 ls (i : Int))] by
              rw [List.take_succ_eq_append_getElem hlt, List.map_append, rdT_get ls i hlt]; rfl)
            obtain ⟨o1, o2, o3, o4⟩ := HIB.out.1 (rd_T58 ls (i : Int)) (by rw [rdT_get ls i hlt]; exact List.getElem_mem hlt)
            have o5 : (rd_T58 ls (i : Int)).f1 = (i : Int) := by rw [rdT_get ls i hlt]; exact HIB.out.2.1 i hlt
            have o6 : 0 ≤ (rd_T58 ls (i : Int)).f1 ∧ (rd_T58 ls (i : Int)).f1 ≤ 4096 := by omega
            obtain ⟨o7, o8⟩ := o6
            have o9 : (rd_T58 ls (i : Int)).f3 ≤ 4096 := by omega
            have oA : (rd_T58 ls (i : Int)).f2 ≤ 4096 := by omega
            have oB : 0 ≤ (rd_T58 ls (i : Int)).f3 := by omega
            clear o2 o3 o4 o5
            generalize rd_T58 ls (i : Int) = t at c0 c1 c2_ c3_ HTK o1 o7 o8 o9 oA oB
            rw [HLEN.out]
            have hrow' := hrow.out
            rw [HLEN.out] at hrow'
            have HROW := Aside0.mk hrow'
            have hzk : (ks.length : Int) ≤ 4096 := by omega
            clear hrow' hrow
            obtain ⟨u, hu⟩ : ∃ u : S58, u = ⟨t.f0, t.f1 + ks.length, t.f2 + a.size + 1, t.f3 + a.size + 1⟩ := ⟨_, rfl⟩
            have HU := Aside0.mk hu
            have HSH := Aside0.mk (show shT ks.length (a.size + 1) t = u by rw [hu]; unfold shT; congr 1 <;> omega)
            clear hu
            go_wp2_with (((with_reducible refine gate_builtin (b := .append) (xs := #[.tmp 95, .tmp 97]) rfl ?_); at_builtin; refine Kd.R_append k58 (w0 := w4) w4.heap.size rfl (.tmp 95) (.tmp 97) 42 58 (.agg #[(.string ⟨#[]⟩), (.int .i64 0), (.int .i64 0), (.int .i64 0)]) 40 rfl Tryd.underlying42 info58' rfl (by decide) (by omega) (.slice Ai (ks.length + i) ci) (ks ++ (ls.take i).map (shT ks.length (a.size + 1))) (⟨t.f0, t.f1 + ks.length, t.f2 + a.size + 1, t.f3 + a.size + 1⟩ : S58) (cellsT1 ⟨t.f0, t.f1 + ks.length, t.f2 + a.size + 1, t.f3 + a.size + 1⟩) (fun _ => True) (fun _ => False) (by rfl) (by rw [World.size_alloc]; rfl) (k58_mkM _ _ _ _) (fun _ h => h.elim) (fun _ _ => trivial) (Kd.R_alloc HROW.out _) (hbw.out.alloc hbw.out.size _) (by have := hbw.out.size; simp; omega) (by rw [HLEN.out]; omega) ?_; intro v6 w6 ho6 hb6 hg6 hat6; rw [← HU.out] at ho6; have HO6 := Aside0.mk ho6; have HB6 := Aside0.mk hb6; clear ho6 hb6 hg6 hat6))
            go_roundw
            case rel => exact ⟨i + 1, by omega, by go_num, Lib.hid (by rw [HTK.out, HSH.out, ← List.append_assoc]; exact HO6.out), Lib.hid HB6.out⟩
            case measure => simp [intOf]; omega
          · obtain rfl : i = ls.length := by omega
            have hlt' : ¬ ((ls.length : Nat) : Int) < (ls.length : Int) := by omega
            have hrl := hrow.out
            rw [List.take_length, ← HTQ.out] at hrl
            have HMC := Aside0.mk (Kd.C_below HMS.out.2 hbw.out)
            have hrd := Kd.R_reads' hrl
            have hlm : (ks ++ ls.map (shT ks.length (a.size + 1))).length = ms.length := by rw [← HTQ.out]
            have HMZ := Aside0.mk (show ms.length ≤ 1152921504606846976 by rw [HTQ.out, List.length_append, List.length_map]; omega)
            rw [show (ks ++ (ls.take ls.length).map (shT ks.length (a.size + 1))).length = ms.length by rw [List.take_length, hlm]]
            have hsm := same_c ms HMZ.out A4 Ai c4 ci HMS.out.1 hrd.2.1 wr HMC.out hrd.2.2
            have hbb := below_step HB4.out hbw.out
            clear hrl hrd hlm
            go_wp2_with (go_at_call 32; ((with_reducible refine hsm.mono ?_); clear hsm; rintro e w7 ⟨rfl, hb7⟩; have HB7 := Aside0.mk (below_step hbb hb7); clear hb7))
            go_roundw
            case rel => exact ⟨n + 1, by omega, by omega, by go_num, Lib.hid HB7.out⟩
            case measure => simp [intOf]; omega
      · obtain rfl : n = 3 := by omega
        go_wp2
        go_ret
        exact ⟨rfl, hBr.out⟩
end Go.Proofs.YtgbphkckiekehaaDoor.partsLaw

set_option linter.unusedVariables false
set_option linter.unusedSimpArgs false
namespace Go.Proofs.YtgbphkckiekehaaDoor.partsLaw
open Go.RowKit Go.Shelf Go.Proofs.YtgbphkckiekehaaDoor.FoldRef Go.Proofs.YtgbphkckiekehaaDoorW.PrintWords Go.Proofs.YtgbphkckiekehaaDoor.Ana
open Go.ChangeShapes Go.WideShapes
open Go.ChangeShapes Go.WideShapes Go.ChangeAt Go.Lib
open Go.ChangeMaps (open_string shut_string)
abbrev spec : OpenSpec := OpenSpec.ofChange Rows.analysisPartsSpec
theorem witness (os : Os) {H : Type} (enc : TypeId × Value → H) :
    spec.preRow enc Tryd.prog Tryd.f13 Rows.analysisPartsRow.domain false Rows.analysisPartsRow.laid ((Laid.laidWorld os).forCall (fun _ _ => 0) ⟨#[], #[.string ⟨#[]⟩, .string ⟨#[]⟩], []⟩).memory #[.string ⟨#[]⟩, .string ⟨#[]⟩] := by
  have hw : (DataW.whole enc Tryd.prog ((Laid.laidWorld os).forCall (fun _ _ => 0) ⟨#[], #[.string ⟨#[]⟩, .string ⟨#[]⟩], []⟩).memory Tryd.f13.params.toList spec.vars false #[Value.string ⟨#[]⟩, Value.string ⟨#[]⟩].toList 8).map (fun x => (x.1, x.2.1)) =
      some ([.lit (.string []), .lit (.string [])], []) := by kernel_rfl
  obtain ⟨⟨x1, x2, x3⟩, hx, hx1⟩ := Option.map_eq_some_iff.1 hw
  simp only [Prod.mk.injEq] at hx1
  obtain ⟨rfl, rfl⟩ := hx1
  exact OpenSpec.preRow_of_cond 8 hx (by kernel_rfl) (fun k hk => by cases hk) (by kernel_rfl) (Laid.laid_met os _)
set_option maxRecDepth 100000 in
set_option maxHeartbeats 2000000 in
theorem lifted (os : Os) (started : os.Started) (H : Type) (enc : TypeId × Value → H) (F : Stop.Interp) :
    ReturnsInHanded {} Tryd.checked os 13 .any (spec.preRow enc Tryd.prog Tryd.f13 Rows.analysisPartsRow.domain false Rows.analysisPartsRow.laid) ((spec.at F).post enc Tryd.prog Tryd.f13 false true false false) := by
  refine returnsInHanded_of_row (C := Tryd.checked) (s := spec) Laid.own started (by kernel_rfl) Tryd.func13
    (witness_row_atRef (enc := enc) (C := Tryd.checked) false (Laid.laidWorld os) #[.string ⟨#[]⟩, .string ⟨#[]⟩] rfl (by kernel_rfl) (by kernel_rfl) (by kernel_rfl) (witness os enc)) ?_
  intro W base args ds gs before hval0 hW _ hcond hsz0 hL _ _
  have hval : ∀ (j : Nat) t v, Tryd.f13.params[j]? = some t → args[j]? = some v → Value.okWide Tryd.prog W .any base t v := hval0
  have hsz : (DataW.weightsEach Tryd.prog (Tryd.f13.params.toList ++ spec.bare.plain.varTypes Tryd.prog) (ds ++ gs)).all (· ≤ reachBytes) = true := hsz0
  have hW' := hW
  obtain ⟨p, q, hA0, hV0, rfl, _, _⟩ := hW
  have hA : DataW.TrodAll enc Tryd.prog W 0 (fun _ => true) true Tryd.f13.params.toList args.toList ds p := hA0
  rw [Tryd.params13] at hA hval hsz
  obtain ⟨v0, vs0, d0, ds0, p0, q0, hargs, rfl, rfl, h0, r0⟩ := trodAll_cons hA
  obtain ⟨v1, vs1, d1, ds1, p1, q1, rfl, rfl, rfl, h1, r1⟩ := trodAll_cons r0
  obtain ⟨rfl, rfl, rfl⟩ := trodAll_nil r1
  obtain rfl : args = #[v0, v1] := by cases args; simp_all
  obtain ⟨rfl, rfl⟩ := trodVars_none hV0
  obtain ⟨a0, rfl, rfl, rfl, w0⟩ := open_string Tryd.underlying9 (hval 0 9 v0 rfl rfl) h0
  have b0 : a0.data.toList.length ≤ reachBytes := sized_string hsz (j := 0) rfl rfl
  rw [size_data] at b0
  obtain ⟨a1, rfl, rfl, rfl, w1⟩ := open_string Tryd.underlying9 (hval 1 9 v1 rfl rfl) h1
  have b1 : a1.data.toList.length ≤ reachBytes := sized_string hsz (j := 1) rfl rfl
  rw [size_data] at b1
  clear hA0 hV0 hval0 hsz0
  refine (walk a0 a1 b0 b1 W (Laid.tabs hL)).mono ?_
  rintro e W' ⟨rfl, bel⟩
  have e1 : (spec.at F).fn H ([.lit (.string a0.data.toList), .lit (.string a1.data.toList)] ++ []) = { results := [.lit (.bool true)], args := [.lit (.string a0.data.toList), .lit (.string a1.data.toList)] } := rfl
  refine ⟨_, rfl, _, _, _, [], [], [], hW', ?_, ?_, ?_, bel.frame _, fun h => by cases h⟩
  · rw [e1]; exact trodAll_mk1 (shut_bool Tryd.underlying4 _)
  · rw [e1]; exact (trodAll_cons_mk (shut_string Tryd.underlying9 w0) (trodAll_cons_mk (shut_string Tryd.underlying9 w1) trodAll_mk0))
  · rw [e1]; rfl
theorem said : Rows.AnalysisPartsSaid :=
  OpenClaim.holds_of_cond 13 Tryd.f13 rfl rfl rfl rfl rfl rfl rfl ⟨rfl, rfl, rfl, rfl, rfl⟩ rfl rfl rfl rfl rfl (by kernel_rfl) Tryd.func13 (by kernel_rfl)
    (of_decide_eq_true (by kernel_rfl)) (by unfold Func.isWrapper; rw [if_neg (of_decide_eq_false (by kernel_rfl))]; exact ⟨rfl, rfl⟩)
    (fun os started H enc _ F0 => by rw [OpenClaim.pre_eq_preRow]; exact lifted os started H enc F0)
theorem plain (f : FuncId) (fn : Func) (hf : Tryd.pinned.checked.prog.funcNamed "lectern/lecternlaw06.AnalysisParts" = some f) (hfn : Tryd.pinned.checked.prog.funcs[f]? = some fn) :
    false = Tryd.pinned.checked.prog.looks [] ∧ ∀ (j : Nat) t, fn.params[j]? = some t → Tryd.pinned.checked.prog.wantsStandIn t = false := by
  obtain rfl : f = 13 := Option.some.inj ((show Tryd.prog.funcNamed "lectern/lecternlaw06.AnalysisParts" = some 13 by kernel_rfl).symm.trans hf) |>.symm
  obtain rfl : fn = Tryd.f13 := (Option.some.inj (Tryd.func13.symm.trans hfn)).symm
  refine ⟨by kernel_rfl, fun j t ht => ?_⟩
  rw [Tryd.params13] at ht
  have hm := Array.mem_of_getElem? ht
  simp only [List.mem_toArray, List.mem_cons, List.mem_nil_iff, or_false] at hm
  rcases hm with rfl | rfl
  · exact (show Tryd.prog.wantsStandIn 9 = false by kernel_rfl)
  · exact (show Tryd.prog.wantsStandIn 9 = false by kernel_rfl)
theorem card : Rows.AnalysisPartsCardSaid :=
  Claim7.holds_tied_plain_at .later [] _ _ _ _ said (fun _ h => by cases h) (by kernel_rfl) (fun _ h => by cases h) analysisParts_row_tie rfl ⟨rfl, rfl⟩ (by kernel_rfl) rfl plain (by kernel_rfl)

end Go.Proofs.YtgbphkckiekehaaDoor.partsLaw
namespace Go.Proofs.YtgbphkckiekehaaDoor
theorem analysisParts_holds : Rows.AnalysisPartsCardSaid := partsLaw.card
end Go.Proofs.YtgbphkckiekehaaDoor
