/- Plain functions of analysis and what holds of them. -/
import Derived.Test.YtgbphkckiekehaaDoorBB
import Derived.Test.YtgbphkckiekehaaDoorBA
set_option linter.unusedVariables false
set_option linter.unusedSimpArgs false
namespace Go.Proofs.YtgbphkckiekehaaDoor.Ana
open Go Go.RowKit Go.Proofs.YtgbphkckiekehaaDoor.QRef Go.Proofs.YtgbphkckiekehaaDoorW.PrintWords Go.Proofs.FoldPlain Go.Proofs.FoldText Go.Proofs.YtgbphkckiekehaaDoor.FoldRef

/-- Where a text's runes begin, and its length. -/
def placesD (l : List UInt8) : List Int := placesZ (runes l) ++ [(l.length : Int)]
theorem placesZ_len (rs : List (Nat × Nat)) : (placesZ rs).length = rs.length := by simp [placesZ]

/-! ### places go up -/
theorem runesAt_bounds (l : List UInt8) : ∀ (d p : Nat), l.length ≤ p + d → (∀ x ∈ runesAt l p, p ≤ x.1 ∧ x.1 < l.length) ∧ (runesAt l p).Pairwise (fun a b => a.1 < b.1) := by
  intro d
  induction d with
  | zero => intro p h; rw [runesAt_end l p (by omega)]; simp
  | succ d ih =>
    intro p h
    by_cases hp : p < l.length
    · have g1 := dec_ge1 (l.drop p)
      obtain ⟨h1, h2⟩ := ih (p + (dec (l.drop p)).2) (by omega)
      rw [runesAt_step l p hp]
      refine ⟨fun x hx => ?_, List.pairwise_cons.2 ⟨fun y hy => ?_, h2⟩⟩
      · rcases List.mem_cons.1 hx with rfl | hx
        · exact ⟨Nat.le_refl _, hp⟩
        · have := h1 x hx; omega
      · have := h1 y hy; show p < y.1; omega
    · rw [runesAt_end l p (by omega)]; simp
theorem placesD_len (l : List UInt8) : (placesD l).length = (runes l).length + 1 := by simp [placesD, placesZ_len]
theorem placesD_at (l : List UInt8) (i : Nat) (h : i < (runes l).length) : (placesD l).getD i 0 = (((runes l).getD i (0, 0)).1 : Int) := by
  unfold placesD
  rw [List.getD_eq_getElem?_getD, List.getElem?_append_left (by rw [placesZ_len]; exact h)]
  simp [placesZ, List.getD_eq_getElem?_getD, h]
theorem placesD_last (l : List UInt8) : (placesD l).getD (runes l).length 0 = (l.length : Int) := by
  unfold placesD
  rw [List.getD_eq_getElem?_getD, List.getElem?_append_right (by rw [placesZ_len]; exact Nat.le_refl _), placesZ_len]; simp
theorem placesD_bounds (l : List UInt8) (i : Nat) : 0 ≤ (placesD l).getD i 0 ∧ (placesD l).getD i 0 ≤ (l.length : Int) := by
  by_cases h : i < (runes l).length
  · rw [placesD_at l i h]
    have := (runesAt_bounds l l.length 0 (by omega)).1 ((runes l).getD i (0, 0)) (by simp [List.getD_eq_getElem?_getD, h])
    omega
  · by_cases he : i = (runes l).length
    · subst he; rw [placesD_last]; omega
    · rw [List.getD_eq_getElem?_getD, List.getElem?_eq_none (by rw [placesD_len]; omega)]; simp
theorem placesD_lt (l : List UInt8) (i j : Nat) (h : i < j) (hj : j < (placesD l).length) : (placesD l).getD i 0 < (placesD l).getD j 0 := by
  rw [placesD_len] at hj
  have hi : i < (runes l).length := by omega
  rw [placesD_at l i hi]
  have hb := runesAt_bounds l l.length 0 (by omega)
  by_cases hjl : j < (runes l).length
  · rw [placesD_at l j hjl]
    have := List.pairwise_iff_getElem.1 hb.2 i j hi hjl h
    simp only [List.getD_eq_getElem?_getD, List.getElem?_eq_getElem hi, List.getElem?_eq_getElem hjl, Option.getD_some]
    exact Int.ofNat_lt.2 this
  · obtain rfl : j = (runes l).length := by omega
    rw [placesD_last]
    have := hb.1 ((runes l).getD i (0, 0)) (by simp [List.getD_eq_getElem?_getD, hi])
    omega
theorem placesD_le (l : List UInt8) (i j : Nat) (h : i ≤ j) (hj : j < (placesD l).length) : (placesD l).getD i 0 ≤ (placesD l).getD j 0 := by
  rcases Nat.lt_or_eq_of_le h with h | rfl
  · exact Int.le_of_lt (placesD_lt l i j h hj)
  · exact Int.le_refl _

/-! ### tokens -/
def tsub (t : S58) (a b : Int) : S58 := { t with f0 := t.f0.extract a.toNat b.toNat }
def pl (t : S58) : List Int := placesD t.f0.data.toList
def lowerF (t : S58) : List S58 := [{ t with f0 := strOf (foldD t.f0.data.toList) }]
def stopB (s : ByteArray) : Bool := (analysis_Stop.f s).getD false
def stopF (t : S58) : List S58 := if stopB t.f0 = true then [] else [t]
def gramsF (n : Nat) (t : S58) : List S58 :=
  if (pl t).length ≤ n + 1 then [t] else (List.range ((pl t).length - n)).map fun i => tsub t ((pl t).getD i 0) ((pl t).getD (i + n) 0)
def shortF (t : S58) : List S58 := if 17 < (pl t).length then [tsub t 0 ((pl t).getD 16 0)] else [t]
def markPiece (l : List UInt8) (i : Nat) : List UInt8 :=
  if markD (((runes l).getD i (0, 0)).2 : Int) = true then [] else (l.drop ((placesD l).getD i 0).toNat).take (((placesD l).getD (i + 1) 0).toNat - ((placesD l).getD i 0).toNat)
def marksB (l : List UInt8) (k : Nat) : List UInt8 := (List.range k).flatMap (markPiece l)
theorem marksB_succ (l : List UInt8) (k : Nat) : marksB l (k + 1) = marksB l k ++ markPiece l k := by simp [marksB, List.range_succ]
def marksF (t : S58) : List S58 :=
  if marksB t.f0.data.toList (runes t.f0.data.toList).length = [] then [] else [{ t with f0 := strOf (marksB t.f0.data.toList (runes t.f0.data.toList).length) }]
def filtF (number : Int) : Option (S58 → List S58) :=
  if number = 10 then some lowerF else if number = 11 then some stopF else if number = 12 then some (gramsF 2) else if number = 13 then some (gramsF 3) else if number = 14 then some shortF else if number = 15 then some marksF else none
def linkGo (f : S58 → List S58) : List S58 → List S58 → Option (List S58)
  | [], out => some out
  | t :: r, out => if 4096 < (out ++ f t).length then none else linkGo f r (out ++ f t)
def linkD (number : Int) (ts : List S58) : List S58 × Int :=
  match filtF number with
  | none => ([], 60)
  | some f => match linkGo f ts [] with
    | none => ([], 84)
    | some out => (out, 0)


/-! ### runs -/
/-- The cutting of a text into runs: what the loop carries, rune by rune. -/
def runEnd (s : ByteArray) (st : List S58 × Int) (at_ : Int) : List S58 × Int :=
  if 0 ≤ st.2 then (st.1 ++ [⟨s.extract st.2.toNat at_.toNat, st.1.length, st.2, at_⟩], -1) else (st.1, -1)
def runStep (s : ByteArray) (may begins : Int → Bool) (st : List S58 × Int) (x : Nat × Nat) : List S58 × Int :=
  if may x.2 = false then runEnd s st x.1 else if st.2 < 0 ∧ begins x.2 = true then (st.1, (x.1 : Int)) else st
def runState (s : ByteArray) (may begins : Int → Bool) (pre : List (Nat × Nat)) : List S58 × Int := pre.foldl (runStep s may begins) ([], -1)
def runsD (s : ByteArray) (may begins : Int → Bool) : List S58 := (runEnd s (runState s may begins (runes s.data.toList)) s.size).1
theorem runState_snoc (s : ByteArray) (may begins : Int → Bool) (pre : List (Nat × Nat)) (x : Nat × Nat) : runState s may begins (pre ++ [x]) = runStep s may begins (runState s may begins pre) x := by
  unfold runState; rw [List.foldl_append]; rfl
theorem runEnd_bounds (s : ByteArray) (st : List S58 × Int) (a : Int) : (runEnd s st a).2 = -1 ∧ (runEnd s st a).1.length ≤ st.1.length + 1 := by
  unfold runEnd; split <;> simp
theorem runFold_bounds (s : ByteArray) (may begins : Int → Bool) (m : Nat) : ∀ (pre : List (Nat × Nat)) (st : List S58 × Int), (∀ x ∈ pre, x.1 ≤ m) → -1 ≤ st.2 → st.2 ≤ m →
    -1 ≤ (pre.foldl (runStep s may begins) st).2 ∧ (pre.foldl (runStep s may begins) st).2 ≤ m ∧ (pre.foldl (runStep s may begins) st).1.length ≤ st.1.length + pre.length := by
  intro pre
  induction pre with
  | nil => intro st _ h1 h2; exact ⟨h1, h2, by simp⟩
  | cons x r ih =>
    intro st hm h1 h2
    have hx := hm x (by simp)
    have key : -1 ≤ (runStep s may begins st x).2 ∧ (runStep s may begins st x).2 ≤ m ∧ (runStep s may begins st x).1.length ≤ st.1.length + 1 := by
      unfold runStep
      split
      · obtain ⟨a, b⟩ := runEnd_bounds s st x.1
        rw [a]; omega
      · split
        · simp; omega
        · exact ⟨h1, h2, by omega⟩
    obtain ⟨a, b, c⟩ := ih (runStep s may begins st x) (fun y hy => hm y (by simp [hy])) key.1 key.2.1
    rw [List.foldl_cons, List.length_cons]
    exact ⟨a, b, by omega⟩
theorem runState_bounds (s : ByteArray) (may begins : Int → Bool) (pre : List (Nat × Nat)) (m : Nat) (hm : ∀ x ∈ pre, x.1 ≤ m) : -1 ≤ (runState s may begins pre).2 ∧ (runState s may begins pre).2 ≤ m ∧ (runState s may begins pre).1.length ≤ pre.length := by
  have h := runFold_bounds s may begins m pre ([], -1) hm (by decide) (by show (-1 : Int) ≤ m; omega)
  simpa [runState] using h

/-! ### the tokenizers, chains -/
def blankB (r : Int) : Bool := decide (9 ≤ r ∧ r ≤ 13 ∨ r = 32 ∨ r = 133 ∨ r = 160 ∨ 8192 ≤ r ∧ r ≤ 8202 ∨ r = 8232 ∨ r = 8233 ∨ r = 12288)
def wordB (r : Int) : Bool := letterD r || digitD r
def mayB (r : Int) : Bool := wordB r || markD r
def openB (r : Int) : Bool := !blankB r
def allB (_ : Int) : Bool := true
def lettersD (s : ByteArray) : List S58 := runsD s mayB wordB
/-- How many runes a gram of a token has: 2, or 1 where the token has one alone. -/
def gN (t : S58) : Nat := min 2 ((pl t).length - 1)
def gTok (t : S58) (j : Nat) (i : Nat) : S58 := ⟨t.f0.extract ((pl t).getD i 0).toNat ((pl t).getD (i + gN t) 0).toNat, (j : Int), t.f2 + (pl t).getD i 0, t.f2 + (pl t).getD (i + gN t) 0⟩
/-- The grams of a token behind those that are there. -/
def gRow (t : S58) (out : List S58) (k : Nat) : List S58 := out ++ (List.range k).map fun i => gTok t (out.length + i) i
def gAll (out : List S58) (t : S58) : List S58 := gRow t out ((pl t).length - gN t)
def gramsD (ts : List S58) : List S58 := ts.foldl gAll []
def tokensD (number : Int) (s : ByteArray) : List S58 :=
  if number = 1 then lettersD s else if number = 2 then runsD s openB openB else if number = 3 then runsD s allB allB else gramsD (lettersD s)
/-- Is a row of filters good: each is one, none stands twice? -/
def goodR (r : List Int) : Bool := (List.range r.length).all fun i => (filtF (r.getD i 0)).isSome && !(r.take i).contains (r.getD i 0)
def checkD (chain : List Int) : Int :=
  match chain with
  | [] => 60
  | h :: r => if 8 < r.length + 1 ∨ h < 1 ∨ 4 < h then 60 else if goodR r = true then 0 else 60
def linksD : List Int → List S58 → List S58 × Int
  | [], ts => (ts, 0)
  | n :: r, ts => if (linkD n ts).2 = 0 then linksD r (linkD n ts).1 else ([], (linkD n ts).2)
def runD (chain : List Int) (s : ByteArray) : List S58 × Int :=
  if checkD chain ≠ 0 then ([], 60)
  else if 4096 < s.size then ([], 3)
  else if 4096 < (tokensD (chain.getD 0 0) s).length then ([], 84)
  else linksD (chain.drop 1) (tokensD (chain.getD 0 0) s)

/-! ### what links make -/
theorem linkGo_some (f : S58 → List S58) : ∀ (ts out r : List S58), linkGo f ts out = some r → r = out ++ ts.flatMap f ∧ (out.length ≤ 4096 → r.length ≤ 4096) := by
  intro ts
  induction ts with
  | nil => intro out r h; simp only [linkGo, Option.some.injEq] at h; subst h; simp
  | cons t ts ih =>
    intro out r h
    rw [linkGo] at h
    by_cases hl : 4096 < (out ++ f t).length
    · rw [if_pos hl] at h; cases h
    · rw [if_neg hl] at h
      obtain ⟨a, b⟩ := ih _ _ h
      exact ⟨by rw [a]; simp, fun _ => b (by omega)⟩
theorem linkD_yes (n : Int) (ts : List S58) (h : (linkD n ts).2 = 0) : ∃ f, filtF n = some f ∧ (linkD n ts).1 = ts.flatMap f ∧ (linkD n ts).1.length ≤ 4096 := by
  unfold linkD at h ⊢
  cases hf : filtF n with
  | none => rw [hf] at h; simp at h
  | some f =>
    rw [hf] at h
    simp only at h ⊢
    cases hg : linkGo f ts [] with
    | none => rw [hg] at h; simp at h
    | some out =>
      obtain ⟨a, b⟩ := linkGo_some f ts [] out hg
      exact ⟨f, rfl, by simpa using a, b (by simp)⟩
theorem linkD_no (n : Int) (ts : List S58) (h : (linkD n ts).2 ≠ 0) : (linkD n ts).1 = [] := by
  unfold linkD at h ⊢
  cases hf : filtF n with
  | none => rfl
  | some f =>
    rw [hf] at h
    simp only at h ⊢
    cases hg : linkGo f ts [] with
    | none => rfl
    | some out => rw [hg] at h; simp at h
theorem linksD_no : ∀ (r : List Int) (ts : List S58), (linksD r ts).2 ≠ 0 → (linksD r ts).1 = []
  | [], ts, h => by simp [linksD] at h
  | n :: r, ts, h => by
    unfold linksD at h ⊢
    split
    · rename_i h0; rw [if_pos h0] at h; exact linksD_no r _ h
    · rfl
theorem runD_no (chain : List Int) (s : ByteArray) (h : (runD chain s).2 ≠ 0) : (runD chain s).1 = [] := by
  unfold runD at h ⊢
  split
  · rfl
  · rename_i h0
    rw [if_neg h0] at h
    split
    · rfl
    · rename_i h1
      rw [if_neg h1] at h
      split
      · rfl
      · rename_i h2
        rw [if_neg h2] at h
        exact linksD_no _ _ h

/-! ### places stay -/
/-- What a filter leaves of a token's places. -/
def KeepsP (f : S58 → List S58) : Prop := ∀ t u, u ∈ f t → u.f1 = t.f1 ∧ u.f2 = t.f2 ∧ u.f3 = t.f3 ∧ u.f0.size ≤ t.f0.size
theorem size_strOf (l : List UInt8) : (strOf l).size = l.length := by unfold strOf ByteArray.size; simp
theorem extract_size_le (s : ByteArray) (a b : Nat) : (s.extract a b).size ≤ s.size := by rw [ByteArray.size_extract]; omega
theorem lowerF_keeps : KeepsP lowerF := by
  intro t u h
  simp only [lowerF, List.mem_cons, List.not_mem_nil, or_false] at h
  subst h
  exact ⟨rfl, rfl, rfl, by show (strOf (foldD t.f0.data.toList)).size ≤ _; rw [size_strOf, foldD_length, size_data]; exact Nat.le_refl _⟩
theorem stopF_keeps : KeepsP stopF := by
  intro t u h
  unfold stopF at h
  split at h
  · cases h
  · simp only [List.mem_cons, List.not_mem_nil, or_false] at h
    subst h
    exact ⟨rfl, rfl, rfl, Nat.le_refl _⟩
theorem gramsF_keeps (n : Nat) : KeepsP (gramsF n) := by
  intro t u h
  unfold gramsF at h
  split at h
  · simp only [List.mem_cons, List.not_mem_nil, or_false] at h
    subst h
    exact ⟨rfl, rfl, rfl, Nat.le_refl _⟩
  · obtain ⟨i, _, rfl⟩ := List.mem_map.1 h
    exact ⟨rfl, rfl, rfl, extract_size_le _ _ _⟩
theorem shortF_keeps : KeepsP shortF := by
  intro t u h
  unfold shortF at h
  split at h
  · simp only [List.mem_cons, List.not_mem_nil, or_false] at h
    subst h
    exact ⟨rfl, rfl, rfl, extract_size_le _ _ _⟩
  · simp only [List.mem_cons, List.not_mem_nil, or_false] at h
    subst h
    exact ⟨rfl, rfl, rfl, Nat.le_refl _⟩
theorem marksB_len (l : List UInt8) : ∀ k, k ≤ (runes l).length → ((marksB l k).length : Int) ≤ (placesD l).getD k 0 := by
  intro k
  induction k with
  | zero => intro _; have := placesD_bounds l 0; simp [marksB]; simpa using this.1
  | succ k ih =>
    intro hk
    have h1 := ih (by omega)
    have h2 := placesD_lt l k (k + 1) (by omega) (by rw [placesD_len]; omega)
    have h3 := (placesD_bounds l k).1
    rw [marksB_succ, List.length_append]
    unfold markPiece
    split
    · rw [List.length_nil]; omega
    · rw [List.length_take]; omega
theorem marksF_keeps : KeepsP marksF := by
  intro t u h
  unfold marksF at h
  split at h
  · cases h
  · simp only [List.mem_cons, List.not_mem_nil, or_false] at h
    subst h
    refine ⟨rfl, rfl, rfl, ?_⟩
    show (strOf (marksB t.f0.data.toList (runes t.f0.data.toList).length)).size ≤ _
    have h1 := marksB_len t.f0.data.toList _ (Nat.le_refl _)
    rw [placesD_last, size_data] at h1
    rw [size_strOf]; omega
theorem filtF_keeps {n : Int} {f : S58 → List S58} (h : filtF n = some f) : KeepsP f := by
  unfold filtF at h
  repeat' split at h
  all_goals first
    | (injection h with h; subst h; first | exact lowerF_keeps | exact stopF_keeps | exact gramsF_keeps _ | exact shortF_keeps | exact marksF_keeps)
    | cases h
def Small (m : Nat) (ts : List S58) : Prop := ∀ t ∈ ts, t.f0.size ≤ m
theorem small_flat {f : S58 → List S58} (hf : KeepsP f) {m : Nat} {ts : List S58} (h : Small m ts) : Small m (ts.flatMap f) := by
  intro u hu
  obtain ⟨t, ht, hut⟩ := List.mem_flatMap.1 hu
  have := (hf t u hut).2.2.2
  have := h t ht
  omega
theorem small_link (n : Int) {m : Nat} {ts : List S58} (h : Small m ts) : Small m (linkD n ts).1 := by
  by_cases h0 : (linkD n ts).2 = 0
  · obtain ⟨f, hf, he, _⟩ := linkD_yes n ts h0
    rw [he]; exact small_flat (filtF_keeps hf) h
  · rw [linkD_no n ts h0]; intro t ht; cases ht
end Go.Proofs.YtgbphkckiekehaaDoor.Ana

set_option linter.unusedVariables false
set_option linter.unusedSimpArgs false
namespace Go.Proofs.YtgbphkckiekehaaDoor.Ana
open Go Go.RowKit Go.Proofs.YtgbphkckiekehaaDoor.QRef Go.Proofs.YtgbphkckiekehaaDoorW.PrintWords Go.Proofs.FoldPlain Go.Proofs.FoldText Go.Proofs.YtgbphkckiekehaaDoor.FoldRef

/-- A token out of a text. -/
def Out (s : ByteArray) (t : S58) : Prop := 0 ≤ t.f2 ∧ t.f2 < t.f3 ∧ t.f3 ≤ (s.size : Int) ∧ t.f0 = s.extract t.f2.toNat t.f3.toNat
def Nums (ts : List S58) : Prop := ∀ (i : Nat) (h : i < ts.length), (ts[i]).f1 = (i : Int)
/-- What the state of the cutting holds, with all places below q behind it. -/
def RInv (s : ByteArray) (st : List S58 × Int) (q : Nat) : Prop :=
  (∀ t ∈ st.1, Out s t ∧ t.f3 ≤ (q : Int)) ∧ Nums st.1 ∧ st.1.Pairwise (fun a b => a.f3 ≤ b.f2) ∧ (st.2 = -1 ∨ (0 ≤ st.2 ∧ st.2 < (q : Int) ∧ ∀ t ∈ st.1, t.f3 ≤ st.2))
theorem nums_snoc_t {ts : List S58} (h : Nums ts) (t : S58) (ht : t.f1 = (ts.length : Int)) : Nums (ts ++ [t]) := by
  intro i hi
  by_cases hl : i < ts.length
  · rw [List.getElem_append_left hl]; exact h i hl
  · have : i = ts.length := by simp at hi; omega
    subst this
    simp [ht]
theorem rinv_end {s : ByteArray} {st : List S58 × Int} {q p : Nat} (h : RInv s st q) (hq : q ≤ p) (hp : p ≤ s.size) : RInv s (runEnd s st p) p := by
  obtain ⟨h1, h2, h3, h4⟩ := h
  unfold runEnd
  split
  · rename_i h0
    rcases h4 with h4 | ⟨a, b, c⟩
    · omega
    · refine ⟨fun t ht => ?_, nums_snoc_t h2 _ rfl, ?_, .inl rfl⟩
      · rcases List.mem_append.1 ht with ht | ht
        · exact ⟨(h1 t ht).1, by have := (h1 t ht).2; omega⟩
        · simp only [List.mem_cons, List.not_mem_nil, or_false] at ht
          subst ht
          exact ⟨⟨a, by show st.2 < (p : Int); omega, by show (p : Int) ≤ _; omega, rfl⟩, by show (p : Int) ≤ p; omega⟩
      · refine List.pairwise_append.2 ⟨h3, by simp, fun x hx y hy => ?_⟩
        simp only [List.mem_cons, List.not_mem_nil, or_false] at hy
        subst hy
        exact c x hx
  · exact ⟨fun t ht => ⟨(h1 t ht).1, by have := (h1 t ht).2; omega⟩, h2, h3, .inl rfl⟩
theorem rinv_more {s : ByteArray} {st : List S58 × Int} {q p : Nat} (h : RInv s st q) (hq : q ≤ p) : RInv s st p := by
  obtain ⟨h1, h2, h3, h4⟩ := h
  refine ⟨fun t ht => ⟨(h1 t ht).1, by have := (h1 t ht).2; omega⟩, h2, h3, ?_⟩
  rcases h4 with h4 | ⟨a, b, c⟩
  · exact .inl h4
  · exact .inr ⟨a, by omega, c⟩
theorem rinv_step {s : ByteArray} {may begins : Int → Bool} {st : List S58 × Int} {q : Nat} {x : Nat × Nat} (h : RInv s st q) (hq : q ≤ x.1) (hx : x.1 < s.size) : RInv s (runStep s may begins st x) (x.1 + 1) := by
  unfold runStep
  split
  · exact rinv_more (rinv_end h hq (by omega)) (by omega)
  · split
    · obtain ⟨h1, h2, h3, h4⟩ := h
      refine ⟨fun t ht => ⟨(h1 t ht).1, by have := (h1 t ht).2; omega⟩, h2, h3, .inr ⟨by show 0 ≤ (x.1 : Int); omega, by show (x.1 : Int) < _; omega, fun t ht => by have := (h1 t ht).2; show t.f3 ≤ (x.1 : Int); omega⟩⟩
    · exact rinv_more h (by omega)
theorem rinv_fold {s : ByteArray} {may begins : Int → Bool} : ∀ (pre : List (Nat × Nat)) (st : List S58 × Int) (q : Nat), RInv s st q → (∀ x ∈ pre, q ≤ x.1 ∧ x.1 < s.size) → pre.Pairwise (fun a b => a.1 < b.1) → q ≤ s.size →
    ∃ q', RInv s (pre.foldl (runStep s may begins) st) q' ∧ q' ≤ s.size
  | [], st, q, h, _, _, hq => ⟨q, h, hq⟩
  | x :: pre, st, q, h, hx, hp, hq => by
    obtain ⟨hp1, hp2⟩ := List.pairwise_cons.1 hp
    have h1 := hx x (by simp)
    exact rinv_fold pre _ (x.1 + 1) (rinv_step h h1.1 h1.2) (fun y hy => ⟨hp1 y hy, (hx y (by simp [hy])).2⟩) hp2 h1.2
theorem runsD_inv (s : ByteArray) (may begins : Int → Bool) : (∀ t ∈ runsD s may begins, Out s t) ∧ Nums (runsD s may begins) ∧ (runsD s may begins).Pairwise (fun a b => a.f3 ≤ b.f2) := by
  have hb := runesAt_bounds s.data.toList s.data.toList.length 0 (by omega)
  rw [size_data] at hb
  obtain ⟨q, h, hq⟩ := rinv_fold (s := s) (may := may) (begins := begins) (runes s.data.toList) ([], -1) 0 ⟨fun t ht => (by cases ht), fun i hi => absurd hi (by simp), List.Pairwise.nil, .inl rfl⟩ (fun x hx => hb.1 x hx) hb.2 (Nat.zero_le _)
  obtain ⟨h1, h2, h3, _⟩ := rinv_end h hq (Nat.le_refl _)
  exact ⟨fun t ht => (h1 t ht).1, h2, h3⟩
theorem runsD_len (s : ByteArray) (may begins : Int → Bool) : (runsD s may begins).length ≤ s.size + 1 := by
  have hb := (runesAt_bounds s.data.toList s.data.toList.length 0 (by omega)).1
  have h1 := (runState_bounds s may begins (runes s.data.toList) s.data.toList.length (fun x hx => by have := (hb x hx).2; omega)).2.2
  have h2 := (runEnd_bounds s (runState s may begins (runes s.data.toList)) s.size).2
  have h3 := runes_length s.data.toList
  rw [size_data] at h3
  unfold runsD
  omega
theorem out_small {s : ByteArray} {t : S58} (h : Out s t) : t.f0.size ≤ s.size := by rw [h.2.2.2]; exact extract_size_le _ _ _
theorem out_size {s : ByteArray} {t : S58} (h : Out s t) : (t.f0.size : Int) = t.f3 - t.f2 := by
  obtain ⟨h1, h2, h3, h4⟩ := h
  rw [h4, ByteArray.size_extract]; omega
theorem extract_extract (s : ByteArray) (a b c d : Nat) (h : a + d ≤ b) (hb : b ≤ s.size) : (s.extract a b).extract c d = s.extract (a + c) (a + d) := by
  rw [ByteArray.extract_extract, Nat.min_eq_left (by omega)]

/-! ### grams -/
theorem pl_pos {s : ByteArray} {t : S58} (h : Out s t) : 2 ≤ (pl t).length := by
  have hs := out_size h
  have h12 := h.2.1
  unfold pl
  rw [placesD_len]
  have : 0 < t.f0.data.toList.length := by rw [size_data]; omega
  rw [runes, runesAt_step _ _ this]; simp
theorem gN_pos {s : ByteArray} {t : S58} (h : Out s t) : 1 ≤ gN t ∧ gN t < (pl t).length := by have := pl_pos h; unfold gN; omega
theorem gTok_out {s : ByteArray} {t : S58} (h : Out s t) (j i : Nat) (hi : i < (pl t).length - gN t) : Out s (gTok t j i) ∧ t.f2 ≤ (gTok t j i).f2 ∧ (gTok t j i).f3 ≤ t.f3 := by
  have hg := gN_pos h
  have h1 := placesD_bounds t.f0.data.toList i
  have h2 := placesD_bounds t.f0.data.toList (i + gN t)
  have h3 := placesD_lt t.f0.data.toList i (i + gN t) (by omega) (by show _ < (pl t).length; omega)
  have hs := out_size h
  rw [size_data] at h1 h2
  obtain ⟨a, b, c, d⟩ := h
  refine ⟨⟨?_, ?_, ?_, ?_⟩, ?_, ?_⟩
  · show 0 ≤ t.f2 + (placesD t.f0.data.toList).getD i 0; omega
  · show t.f2 + (placesD t.f0.data.toList).getD i 0 < t.f2 + (placesD t.f0.data.toList).getD (i + gN t) 0; omega
  · show t.f2 + (placesD t.f0.data.toList).getD (i + gN t) 0 ≤ _; omega
  · show t.f0.extract ((placesD t.f0.data.toList).getD i 0).toNat ((placesD t.f0.data.toList).getD (i + gN t) 0).toNat = s.extract (t.f2 + (placesD t.f0.data.toList).getD i 0).toNat (t.f2 + (placesD t.f0.data.toList).getD (i + gN t) 0).toNat
    generalize (placesD t.f0.data.toList).getD i 0 = p1 at *
    generalize (placesD t.f0.data.toList).getD (i + gN t) 0 = p2 at *
    rw [d, extract_extract _ _ _ _ _ (by omega) (by omega)]
    congr 1 <;> omega
  · show t.f2 ≤ t.f2 + (placesD t.f0.data.toList).getD i 0; omega
  · show t.f2 + (placesD t.f0.data.toList).getD (i + gN t) 0 ≤ t.f3; omega
def Asc (ts : List S58) : Prop := ts.Pairwise (fun a b => a.f1 ≤ b.f1 ∧ a.f2 ≤ b.f2)
/-- What the grams that are there hold: out of the text, numbered, going up, none behind place q. -/
def GInv (s : ByteArray) (out : List S58) (q : Int) : Prop := (∀ u ∈ out, Out s u ∧ u.f2 ≤ q) ∧ Nums out ∧ out.Pairwise (fun a b => a.f2 ≤ b.f2)
theorem ginv_row {s : ByteArray} {t : S58} (h : Out s t) {out : List S58} (hg : GInv s out t.f2) : ∀ k, k ≤ (pl t).length - gN t → GInv s (gRow t out k) t.f3 ∧ (∀ u ∈ gRow t out k, k < (pl t).length → u.f2 ≤ t.f2 + (pl t).getD k 0) := by
  intro k
  induction k with
  | zero =>
    intro _
    obtain ⟨h1, h2, h3⟩ := hg
    have hb := (placesD_bounds t.f0.data.toList 0).1
    have := h.2.1
    refine ⟨⟨fun u hu => ?_, ?_, ?_⟩, fun u hu _ => ?_⟩
    · have hu' : u ∈ out := by simpa [gRow] using hu
      exact ⟨(h1 u hu').1, by have := (h1 u hu').2; omega⟩
    · simpa [gRow] using h2
    · simpa [gRow] using h3
    · have hu' : u ∈ out := by simpa [gRow] using hu
      have := (h1 u hu').2
      show u.f2 ≤ t.f2 + (placesD t.f0.data.toList).getD 0 0; omega
  | succ k ih =>
    intro hk
    obtain ⟨⟨h1, h2, h3⟩, h4⟩ := ih (by omega)
    have e : gRow t out (k + 1) = gRow t out k ++ [gTok t (gRow t out k).length k] := by
      unfold gRow
      rw [List.range_succ, List.map_append, ← List.append_assoc]
      simp
    obtain ⟨o1, o2, o3⟩ := gTok_out h (gRow t out k).length k (by omega)
    have hlt := placesD_lt t.f0.data.toList k (k + 1)
    rw [e]
    refine ⟨⟨fun u hu => ?_, nums_snoc_t h2 _ rfl, ?_⟩, fun u hu hkl => ?_⟩
    · rcases List.mem_append.1 hu with hu | hu
      · exact h1 u hu
      · simp only [List.mem_cons, List.not_mem_nil, or_false] at hu
        subst hu
        exact ⟨o1, by have := o1.2.1; omega⟩
    · refine List.pairwise_append.2 ⟨h3, by simp, fun x hx y hy => ?_⟩
      simp only [List.mem_cons, List.not_mem_nil, or_false] at hy
      subst hy
      exact h4 x hx (by omega)
    · have hlt' := hlt (by omega) (by show _ < (pl t).length; omega)
      rcases List.mem_append.1 hu with hu | hu
      · have := h4 u hu (by omega)
        show u.f2 ≤ t.f2 + (placesD t.f0.data.toList).getD (k + 1) 0
        have e2 : (pl t).getD k 0 = (placesD t.f0.data.toList).getD k 0 := rfl
        omega
      · simp only [List.mem_cons, List.not_mem_nil, or_false] at hu
        subst hu
        show t.f2 + (placesD t.f0.data.toList).getD k 0 ≤ t.f2 + (placesD t.f0.data.toList).getD (k + 1) 0
        omega
theorem ginv_all {s : ByteArray} : ∀ (ts out : List S58) (q : Int), (∀ t ∈ ts, Out s t ∧ q ≤ t.f2) → ts.Pairwise (fun a b => a.f3 ≤ b.f2) → GInv s out q → ∃ q', GInv s (ts.foldl gAll out) q'
  | [], out, q, _, _, hg => ⟨q, hg⟩
  | t :: ts, out, q, ht, hp, hg => by
    obtain ⟨hp1, hp2⟩ := List.pairwise_cons.1 hp
    have h0 := ht t (by simp)
    have hg' : GInv s out t.f2 := ⟨fun u hu => ⟨(hg.1 u hu).1, by have := (hg.1 u hu).2; omega⟩, hg.2.1, hg.2.2⟩
    exact ginv_all ts _ t.f3 (fun u hu => ⟨(ht u (by simp [hu])).1, hp1 u hu⟩) hp2 (ginv_row h0.1 hg' _ (Nat.le_refl _)).1
theorem nums_asc {ts : List S58} (h : Nums ts) (h2 : ts.Pairwise (fun a b => a.f2 ≤ b.f2)) : Asc ts := by
  unfold Asc
  rw [List.pairwise_iff_getElem] at h2 ⊢
  intro i j hi hj hij
  exact ⟨by rw [h i hi, h j hj]; omega, h2 i j hi hj hij⟩
theorem runs_le {s : ByteArray} {ts : List S58} (h : ∀ t ∈ ts, Out s t) (hp : ts.Pairwise (fun a b => a.f3 ≤ b.f2)) : ts.Pairwise (fun a b => a.f2 ≤ b.f2) := by
  rw [List.pairwise_iff_getElem] at hp ⊢
  intro i j hi hj hij
  have := hp i j hi hj hij
  have := (h _ (List.getElem_mem hi)).2.1
  omega
theorem tokensD_inv (n : Int) (s : ByteArray) : (∀ t ∈ tokensD n s, Out s t) ∧ Nums (tokensD n s) ∧ Asc (tokensD n s) := by
  have hr := fun m b => runsD_inv s m b
  have key : ∀ m b, (∀ t ∈ runsD s m b, Out s t) ∧ Nums (runsD s m b) ∧ Asc (runsD s m b) := fun m b => by
    obtain ⟨a, c, d⟩ := hr m b
    exact ⟨a, c, nums_asc c (runs_le a d)⟩
  unfold tokensD
  split
  · exact key _ _
  · split
    · exact key _ _
    · split
      · exact key _ _
      · obtain ⟨a, c, d⟩ := hr mayB wordB
        obtain ⟨q, h1, h2, h3⟩ := ginv_all (s := s) (lettersD s) [] 0 (fun t ht => ⟨a t ht, (a t ht).1⟩) d ⟨fun u hu => (by cases hu), fun i hi => absurd hi (by simp), List.Pairwise.nil⟩
        exact ⟨fun t ht => (h1 t ht).1, h2, nums_asc h2 h3⟩

/-! ### filters keep places -/
def InT (s : ByteArray) (t : S58) : Prop := 0 ≤ t.f2 ∧ t.f2 < t.f3 ∧ t.f3 ≤ (s.size : Int)
theorem asc_flat {f : S58 → List S58} (hf : KeepsP f) {s : ByteArray} {ts : List S58} (h1 : ∀ t ∈ ts, InT s t) (h2 : Asc ts) : (∀ t ∈ ts.flatMap f, InT s t) ∧ Asc (ts.flatMap f) := by
  refine ⟨fun u hu => ?_, ?_⟩
  · obtain ⟨t, ht, hut⟩ := List.mem_flatMap.1 hu
    obtain ⟨_, a, b, _⟩ := hf t u hut
    have := h1 t ht
    unfold InT at this ⊢
    rw [a, b]; exact this
  · unfold Asc at h2 ⊢
    rw [List.pairwise_flatMap]
    refine ⟨fun t _ => ?_, ?_⟩
    · rw [List.pairwise_iff_getElem]
      intro i j hi hj _
      obtain ⟨a, b, _⟩ := hf t _ (List.getElem_mem hi)
      obtain ⟨c, d, _⟩ := hf t _ (List.getElem_mem hj)
      omega
    · rw [List.pairwise_iff_getElem] at h2 ⊢
      intro i j hi hj hij x hx y hy
      have := h2 i j hi hj hij
      obtain ⟨a, b, _⟩ := hf _ x hx
      obtain ⟨c, d, _⟩ := hf _ y hy
      omega
theorem linksD_places {s : ByteArray} : ∀ (r : List Int) (ts : List S58), (∀ t ∈ ts, InT s t) → Asc ts → ts.length ≤ 4096 → (linksD r ts).2 = 0 → (∀ t ∈ (linksD r ts).1, InT s t) ∧ Asc (linksD r ts).1 ∧ (linksD r ts).1.length ≤ 4096
  | [], ts, h1, h2, h3, _ => ⟨h1, h2, h3⟩
  | n :: r, ts, h1, h2, h3, h => by
    unfold linksD at h ⊢
    split
    · rename_i h0
      rw [if_pos h0] at h
      obtain ⟨f, hf, he, hl⟩ := linkD_yes n ts h0
      obtain ⟨a, b⟩ := asc_flat (filtF_keeps hf) h1 h2
      rw [he] at h hl ⊢
      exact linksD_places r _ a b hl h
    · rename_i h0; rw [if_neg h0] at h; exact absurd h h0
theorem runD_places (chain : List Int) (s : ByteArray) (h : (runD chain s).2 = 0) :
    (∀ t ∈ (runD chain s).1, InT s t) ∧ Asc (runD chain s).1 ∧ (runD chain s).1.length ≤ 4096 ∧ (chain.length = 1 → (∀ t ∈ (runD chain s).1, Out s t) ∧ Nums (runD chain s).1) := by
  unfold runD at h ⊢
  by_cases h0 : checkD chain ≠ 0
  · rw [if_pos h0] at h; simp at h
  · rw [if_neg h0] at h ⊢
    by_cases h1 : 4096 < s.size
    · rw [if_pos h1] at h; simp at h
    · rw [if_neg h1] at h ⊢
      by_cases h2 : 4096 < (tokensD (chain.getD 0 0) s).length
      · rw [if_pos h2] at h; simp at h
      · rw [if_neg h2] at h ⊢
        obtain ⟨a, b, c⟩ := tokensD_inv (chain.getD 0 0) s
        obtain ⟨x, y, z⟩ := linksD_places (s := s) (chain.drop 1) _ (fun t ht => ⟨(a t ht).1, (a t ht).2.1, (a t ht).2.2.1⟩) c (by omega) h
        refine ⟨x, y, z, fun hl => ?_⟩
        have : chain.drop 1 = [] := List.drop_eq_nil_of_le (by omega)
        rw [this]
        exact ⟨a, b⟩
end Go.Proofs.YtgbphkckiekehaaDoor.Ana

set_option linter.unusedVariables false
set_option linter.unusedSimpArgs false
namespace Go.Proofs.YtgbphkckiekehaaDoor.Ana
open Go Go.RowKit Go.Proofs.YtgbphkckiekehaaDoor.QRef Go.Proofs.YtgbphkckiekehaaDoorW.PrintWords Go.Proofs.FoldPlain Go.Proofs.FoldText Go.Proofs.YtgbphkckiekehaaDoor.FoldRef Go.Proofs.YtgbphkckiekehaaDoor.FoldBridge

theorem rd_get (xs : List Int) (i : Nat) (h : i < xs.length) : rd xs (i : Int) = xs[i] := by
  show xs.getD (i : Int).toNat 0 = _
  simp [List.getD_eq_getElem?_getD, h]
theorem rdT_get (xs : List S58) (i : Nat) (h : i < xs.length) : rd_T58 xs (i : Int) = xs[i] := by
  show xs.getD (i : Int).toNat z58 = _
  simp [List.getD_eq_getElem?_getD, h]

/-! ### Contains -/
theorem index_l0 (l : List Int) (a : Int) (hl : l.length ≤ 1152921504606846976) : ∀ d i, i + d = l.length → ∃ r, slices_Index_int_int.l0 (d + 1) l a (l.length : Int) (i : Int) = some r ∧ decide (r ≥ 0) = (l.drop i).contains a := by
  intro d
  induction d with
  | zero =>
    intro i hi
    refine ⟨-1, ?_, ?_⟩
    · rw [slices_Index_int_int.l0, if_neg (by omega)]
    · rw [List.drop_eq_nil_of_le (by omega)]; rfl
  | succ d ih =>
    intro i hi
    obtain ⟨r, h1, h2⟩ := ih (i + 1) (by omega)
    have hlt : i < l.length := by omega
    rw [slices_Index_int_int.l0, if_pos (by omega), if_pos (by omega), if_pos (by omega), rd_get l i hlt]
    rw [List.drop_eq_getElem_cons hlt]
    generalize l.drop (i + 1) = T at h2 ⊢
    by_cases e : a = l[i]
    · refine ⟨i, by rw [if_pos e], ?_⟩
      simp [e]
    · refine ⟨r, ?_, ?_⟩
      · rw [if_neg e, w64' (by omega) (by omega)]; exact_mod_cast h1
      · rw [h2]; simp [e]
theorem contains_f (l : List Int) (a : Int) (hl : l.length ≤ 1152921504606846976) : slices_Contains_int_int.f (l.length + 1) l a = some (l.contains a) := by
  obtain ⟨r, h1, h2⟩ := index_l0 l a hl l.length 0 (by omega)
  unfold slices_Contains_int_int.f slices_Index_int_int.f
  rw [show ((0 : Nat) : Int) = 0 from rfl] at h1
  rw [h1, Option.bind_some, h2, List.drop_zero]

/-! ### Ints, Tokens: the same ones -/
theorem toList_inj' {a b : ByteArray} : (a.toList == b.toList) = decide (a = b) := by
  by_cases h : a = b
  · subst h; simp
  · rw [decide_eq_false h, beq_eq_false_iff_ne]
    intro e
    exact h (by rw [ByteArray.toList_eq, ByteArray.toList_eq] at e; cases a; cases b; congr 1; exact Array.toList_inj.1 e)
instance : DecidableEq S58 := fun a b => decidable_of_iff (a.f0 = b.f0 ∧ a.f1 = b.f1 ∧ a.f2 = b.f2 ∧ a.f3 = b.f3) (by cases a; cases b; simp)
theorem s58_ne (a b : S58) : (!((a.f0.toList) == (b.f0.toList)) || (!((a.f1) == (b.f1)) || (!((a.f2) == (b.f2)) || (!((a.f3) == (b.f3)))))) = decide (a ≠ b) := by
  rw [toList_inj']
  obtain ⟨a0, a1, a2, a3⟩ := a
  obtain ⟨b0, b1, b2, b3⟩ := b
  dsimp only
  by_cases h0 : a0 = b0 <;> by_cases h1 : a1 = b1 <;> by_cases h2 : a2 = b2 <;> by_cases h3 : a3 = b3 <;> simp [h0, h1, h2, h3]
theorem tokens_l0 (l m : List S58) (hlm : l.length = m.length) (hl : l.length ≤ 1152921504606846976) : ∀ d i, i + d = l.length → ∃ r, lecternkit_Tokens.l0 (d + 1) l m (i : Int) = some r ∧ (r = true ↔ l.drop i = m.drop i) := by
  intro d
  induction d with
  | zero =>
    intro i hi
    rw [lecternkit_Tokens.l0, if_neg (by omega), List.drop_eq_nil_of_le (by omega), List.drop_eq_nil_of_le (by omega)]; exact ⟨true, rfl, by simp⟩
  | succ d ih =>
    intro i hi
    obtain ⟨r, h1, h2⟩ := ih (i + 1) (by omega)
    have hlt : i < l.length := by omega
    have hmt : i < m.length := by omega
    rw [lecternkit_Tokens.l0, if_pos (by omega), if_pos (by omega), if_pos (by omega), rdT_get l i hlt, rdT_get m i hmt, List.drop_eq_getElem_cons hlt, List.drop_eq_getElem_cons hmt, s58_ne]
    generalize l.drop (i + 1) = T at h2 ⊢
    generalize m.drop (i + 1) = U at h2 ⊢
    by_cases e : l[i] = m[i]
    · rw [if_neg (by simp [e]), w64' (by omega) (by omega), show ((i : Int) + 1) = ((i + 1 : Nat) : Int) by omega, h1, e]; exact ⟨r, rfl, by rw [h2]; simp⟩
    · rw [if_pos (by simp [e])]; exact ⟨false, rfl, by simp [e]⟩
theorem tokens_f (l m : List S58) (hl : l.length ≤ 1152921504606846976) : ∃ r, lecternkit_Tokens.f (l.length + 1) l m = some r ∧ (r = true ↔ l = m) := by
  unfold lecternkit_Tokens.f
  by_cases h : l.length = m.length
  · rw [if_pos (by omega)]
    have := tokens_l0 l m h hl l.length 0 (by omega)
    simpa using this
  · rw [if_neg (by omega)]
    exact ⟨false, rfl, by simp; intro e; exact h (by rw [e])⟩
theorem tokens_same (l : List S58) (hl : l.length ≤ 1152921504606846976) : lecternkit_Tokens.f (l.length + 1) l l = some true := by
  obtain ⟨r, h1, h2⟩ := tokens_f l l hl
  rw [h1, h2.2 rfl]
end Go.Proofs.YtgbphkckiekehaaDoor.Ana
