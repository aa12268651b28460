/- Runs and tokens of analysis walked. -/
import Derived.Test.YtgbphkckiekehaaDoorBE
import Derived.Laws.EntriesVeiled
set_option linter.unusedVariables false
set_option linter.unusedSimpArgs false
namespace Go.Proofs.YtgbphkckiekehaaDoor.Ana
open Go.RowKit Go.Shelf Go.Proofs.YtgbphkckiekehaaDoor.QRef Go.Proofs.YtgbphkckiekehaaDoorW.PrintWords Go.Proofs.YtgbphkckiekehaaDoorW.PrintLast Go.Proofs.FoldPlain Go.Proofs.FoldText Go.Proofs.YtgbphkckiekehaaDoor.FoldRef Go.Proofs.YtgbphkckiekehaaDoor.FoldW Go.Proofs.YtgbphkckiekehaaDoor.FoldF Go.Proofs.YtgbphkckiekehaaDoor.FoldP

/-- What has no cells of a token and is none of two blocks lies as it lay. -/
def OK58 (gf go : Nat) (w w' : World) : Prop := w.heap.size ≤ w'.heap.size ∧ ∀ k o, w.heap[k]? = some o → k ≠ gf → k ≠ go → (∀ c fz, o ≠ .cells c 58 fz) → w'.heap[k]? = some o
theorem boxed_ne {W : World} {a b : Nat} {t t' : TypeId} {v v' : Value} (h : Boxed W a t v) (h' : Boxed W b t' v') (hne : t ≠ t') : a ≠ b := fun e => by
  subst e
  have := (show W.heap[a]? = _ from h).symm.trans (show W.heap[a]? = _ from h')
  injection this with this
  injection this with _ this
  exact hne this
theorem boxed_drew {W : World} {B : Nat} {t : TypeId} {v : Value} (h : Boxed W B t v) : Boxed W.drew B t v := h

set_option maxRecDepth 100000 in
set_option maxHeartbeats 4000000 in
theorem end_yes (s : ByteArray) (fr at_ : Int) (hf0 : 0 ≤ fr) (hfa : fr ≤ at_) (has : at_ ≤ s.size) (hs : s.size ≤ 1099511627776) (B0 gf go gt : Nat) (v0 : Value) (ts : List S58) (hn : ts.length ≤ 1099511627777) (w : World)
    (hF : Boxed w gf 3 (.int .i64 fr)) (hO : Boxed w go 42 v0) (hT : Boxed w gt 9 (.string s)) (hR : TRow w B0 v0 ts) (hB0 : B0 ≤ gf ∧ B0 ≤ go) :
    Calls Tryd.prog 88 #[.int .i64 at_, .pointer (some ⟨gf, 0, none⟩), .pointer (some ⟨go, 0, none⟩), .pointer (some ⟨gt, 0, none⟩)] w fun e w' => (∃ v, e = .returned v) ∧
      (∃ v1, Boxed w' go 42 v1 ∧ TRow w' B0 v1 (ts ++ [⟨s.extract fr.toNat at_.toNat, ts.length, fr, at_⟩])) ∧ Boxed w' gf 3 (.int .i64 (-1)) ∧ OK58 gf go w w' ∧ Below B0 w w' := by
  have hu58 := Tryd.underlying58
  obtain ⟨A0, c0, rfl⟩ := Kd.R_slice hR
  have kf := hF.cell
  have ko := hO.cell
  have kt := hT.cell
  have ha0 : 0 ≤ at_ := by omega
  go_enter Tryd.func88, Tryd.ntmps88
  go_wp2
  refine wp_normal ?_
  have hOd := boxed_drew hO
  have hFd := boxed_drew hF
  have hTd := boxed_drew hT
  have hRd := Kd.R_drew hR
  have hBd : Below B0 w w.drew := below_drew1 (Below.refl _ _)
  have hEd : Aside0 ((∀ k : Nat, w.drew.heap[k]? = w.heap[k]?) ∧ w.drew.heap.size = w.heap.size) := Aside0.mk ⟨fun _ => rfl, rfl⟩
  clear kf ko kt
  have ko := hOd.cell
  have kf := hFd.cell
  have kt := hTd.cell
  refine start_ (n := 13) (S := fun w' => w'.cell? ⟨go, 0, none⟩ = some (.slice A0 ts.length c0) ∧ w'.cell? ⟨gf, 0, none⟩ = some (.int .i64 fr) ∧ w'.cell? ⟨gt, 0, none⟩ = some (.string s)) (ds := [12]) #[false, false, false, false, false, false, false, false, false, false, false, false, false] (by kernel_rfl) rfl rfl ⟨ko, kf, kt⟩ (fun hHeld => ?_)
  generalize w.drew = wd at hHeld hEd hOd hFd hTd hRd hBd ko kf kt ⊢
  refine pure_ (i := 3) (N := some 10) (v := ?_) (a' := ?_) #[false, false, false, true, false, false, false, false, false, false, false, false, false] rfl rfl (by kernel_rfl) (fun _ _ _ h => h) (Or.inl ⟨by rfl, ?_⟩) ?_ ?_
  rotate_left
  · intro w'
    go_simp
    with_reducible rfl
  rotate_left
  · simp only [Act.put, List.setIfInBounds_toArray, List.set_cons_zero, List.set_cons_succ, i64_w, i32_w]
    rfl
  refine pure_ (i := 8) (N := some 15) (v := ?_) (a' := ?_) #[false, false, false, true, false, false, false, false, true, false, false, false, false] rfl rfl (by kernel_rfl) (fun _ _ _ h => h) (Or.inl ⟨by rfl, ?_⟩) ?_ ?_
  rotate_left
  · intro w'
    go_simp
    with_reducible rfl
  rotate_left
  · simp only [Act.put, List.setIfInBounds_toArray, List.set_cons_zero, List.set_cons_succ, i64_w, i32_w]
    rfl
  refine take_ (i := 0) (N := some 7) (v := ?_) (a' := ?_) #[true, false, false, true, false, false, false, false, true, false, false, false, false] rfl rfl (by kernel_rfl) (fun _ _ _ h => h) (Or.inl ⟨by rfl, ?_⟩) hHeld ?_ ?_
  rotate_left
  · rintro w' ⟨s0, s1, s2⟩
    go_simp
    with_reducible rfl
  rotate_left
  · simp only [Act.put, List.setIfInBounds_toArray, List.set_cons_zero, List.set_cons_succ, i64_w, i32_w]
    rfl
  refine take_ (i := 1) (N := some 8) (v := ?_) (a' := ?_) #[true, true, false, true, false, false, false, false, true, false, false, false, false] rfl rfl (by kernel_rfl) (fun _ _ _ h => h) (Or.inl ⟨by rfl, ?_⟩) hHeld ?_ ?_
  rotate_left
  · rintro w' ⟨s0, s1, s2⟩
    go_simp
    with_reducible rfl
  rotate_left
  · simp only [Act.put, List.setIfInBounds_toArray, List.set_cons_zero, List.set_cons_succ, i64_w, i32_w]
    rfl
  refine take_ (i := 2) (N := some 9) (v := ?_) (a' := ?_) #[true, true, true, true, false, false, false, false, true, false, false, false, false] rfl rfl (by kernel_rfl) (fun _ _ _ h => h) (Or.inl ⟨by rfl, ?_⟩) hHeld ?_ ?_
  rotate_left
  · rintro w' ⟨s0, s1, s2⟩
    go_simp
    with_reducible rfl
  rotate_left
  · simp only [Act.put, List.setIfInBounds_toArray, List.set_cons_zero, List.set_cons_succ, i64_w, i32_w]
    rfl
  refine pure_ (i := 4) (N := some 11) (v := ?_) (a' := ?_) #[true, true, true, true, true, false, false, false, true, false, false, false, false] rfl rfl (by kernel_rfl) (fun _ _ _ h => h) (Or.inl ⟨by rfl, ?_⟩) ?_ ?_
  rotate_left
  · intro w'
    go_simp
    with_reducible rfl
  rotate_left
  · simp only [Act.put, List.setIfInBounds_toArray, List.set_cons_zero, List.set_cons_succ, i64_w, i32_w]
    rfl
  refine take_ (i := 5) (N := some 12) (v := ?_) (a' := ?_) #[true, true, true, true, true, true, false, false, true, false, false, false, false] rfl rfl (by kernel_rfl) (fun _ _ _ h => h) (Or.inl ⟨by rfl, ?_⟩) hHeld ?_ ?_
  rotate_left
  · rintro w' ⟨s0, s1, s2⟩
    go_simp
    with_reducible rfl
  rotate_left
  · simp only [Act.put, List.setIfInBounds_toArray, List.set_cons_zero, List.set_cons_succ, i64_w, i32_w]
    rfl
  refine pure_ (i := 6) (N := some 13) (v := ?_) (a' := ?_) #[true, true, true, true, true, true, true, false, true, false, false, false, false] rfl rfl (by kernel_rfl) (fun _ _ _ h => h) (Or.inl ⟨by rfl, ?_⟩) ?_ ?_
  rotate_left
  · intro w'
    go_simp
    with_reducible rfl
  rotate_left
  · simp only [Act.put, List.setIfInBounds_toArray, List.set_cons_zero, List.set_cons_succ, i64_w, i32_w]
    rfl
  refine take_ (i := 7) (N := some 14) (v := ?_) (a' := ?_) #[true, true, true, true, true, true, true, true, true, false, false, false, false] rfl rfl (by kernel_rfl) (fun _ _ _ h => h) (Or.inl ⟨by rfl, ?_⟩) hHeld ?_ ?_
  rotate_left
  · rintro w' ⟨s0, s1, s2⟩
    go_simp
    with_reducible rfl
  rotate_left
  · simp only [Act.put, List.setIfInBounds_toArray, List.set_cons_zero, List.set_cons_succ, i64_w, i32_w]
    rfl
  refine pure_ (i := 9) (N := some 16) (v := ?_) (a' := ?_) #[true, true, true, true, true, true, true, true, true, true, false, false, false] rfl rfl (by kernel_rfl) (fun _ _ _ h => h) (Or.inl ⟨by rfl, ?_⟩) ?_ ?_
  rotate_left
  · intro w'
    go_simp
    with_reducible rfl
  rotate_left
  · simp only [Act.put, List.setIfInBounds_toArray, List.set_cons_zero, List.set_cons_succ, i64_w, i32_w]
    rfl
  refine one_ (i := 10) (N := some 17) #[true, true, true, true, true, true, true, true, true, true, true, false, false] rfl rfl (by kernel_rfl) (by decide) (fun K hK => ?_)
  refine value_ (w1 := ?_) (v := ?_) (by rfl) rfl ?_ ?_
  rotate_left 2
  · go_simp
    constructor
    · rfl
    · rfl
  have zz := trivial
  refine hK.out _ _ ⟨(hOd.alloc _).cell, (hFd.alloc _).cell, (hTd.alloc _).cell⟩ (fun hHeld => ?_)
  clear hK K
  refine norm_ (a' := ?_) ?_ ?_
  rotate_left
  · show Act.put _ (some 17) _ = _
    simp only [Act.put, List.setIfInBounds_toArray, List.set_cons_zero, List.set_cons_succ, i64_w, i32_w]
    rfl
  refine one_ (i := 11) (N := some 18) #[true, true, true, true, true, true, true, true, true, true, true, true, false] rfl rfl (by kernel_rfl) (by decide) (fun K hK => ?_)
  refine Kd.R_append_step k58 (w0 := w) B0 rfl (.tmp 7) (.tmp 17) 42 58 (.agg #[(.string ⟨#[]⟩), (.int .i64 0), (.int .i64 0), (.int .i64 0)]) 40 rfl Tryd.underlying42 info58' rfl (by decide) (by omega) (.slice A0 ts.length c0) ts (⟨s.extract fr.toNat at_.toNat, ts.length, fr, at_⟩ : S58) (cellsT1 ⟨s.extract fr.toNat at_.toNat, ts.length, fr, at_⟩) (fun _ => True) (fun _ => False) rfl rfl (k58_mkM _ _ _ _) (fun _ h => h.elim) (fun _ _ => trivial) hRd hBd (by have := hBd.size; have := hFd.lt; omega) (by omega) ?_
  intro v1 w1 ho1 hb1 hg1 hat1
  obtain ⟨A1, c1, rfl⟩ := Kd.R_slice ho1
  have nO := hOd.kept hg1 (Kd.R_ne hRd hOd (by decide))
  have nF := hFd.kept hg1 (Kd.R_ne hRd hFd (by decide))
  have nT := hTd.kept hg1 (Kd.R_ne hRd hTd (by decide))
  have kO2 := nO.cell
  have fO2 := nO.frozen
  refine hK.out _ _ ⟨nO.cell, nF.cell, nT.cell⟩ (fun hHeld => ?_)
  clear hK K
  refine norm_ (a' := ?_) ?_ ?_
  rotate_left
  · show Act.put _ (some 18) _ = _
    simp only [Act.put, List.setIfInBounds_toArray, List.set_cons_zero, List.set_cons_succ, i64_w, i32_w]
    rfl
  refine last_ (i := 12) (N := none) #[true, true, true, true, true, true, true, true, true, true, true, true, true] rfl rfl (by kernel_rfl) (by decide) (fun K hK => ?_)
  refine skip_ (w1 := ?_) (by rfl) rfl ?_ ?_
  rotate_left
  · go_simp
    rfl
  refine hK.out _ _ ?_
  clear hK K
  refine done_ (by kernel_rfl) ?_
  have hne := boxed_ne hF hO (by decide)
  have nF2 := nF.other hne (.slice A1 (ts.length + 1) c1)
  have kF2 := nF2.cell
  have fF2 := nF2.frozen
  go_wp2
  go_end0
  rw [List.length_append] at ho1
  have hO2 : Boxed (w1.setCell ⟨go, 0, none⟩ (.slice A1 (ts.length + 1) c1)) go 42 (.slice A1 (ts.length + 1) c1) := nO.set _
  have hR2 := Kd.R_set ho1 nO (by decide) 0 (.slice A1 (ts.length + 1) c1)
  have hR3 := Kd.R_set hR2 nF2 (by decide) 0 (.int .i64 (-1))
  refine ⟨⟨_, rfl⟩, ⟨_, hO2.other (Ne.symm hne) _, hR3⟩, nF2.set _, ?_, ?_⟩
  · have hsz1 := hg1.size
    refine ⟨by have := hEd.out.2; simp; omega, fun k o hk h1 h2 h3 => ?_⟩
    have hkd : wd.heap[k]? = some o := (hEd.out.1 k).trans hk
    have hk1 : w1.heap[k]? = some o := (hg1.block k (blk_lt hkd) (fun e => by
      obtain ⟨inner, hi⟩ := Kd.R_own hRd
      obtain ⟨cells, hc⟩ := own_typed hi k e.symm
      rw [hkd] at hc; injection hc with hc; exact h3 _ _ hc)).trans hkd
    rw [Below.heap_setCell _ ⟨gf, 0, none⟩ _ k h1, Below.heap_setCell _ ⟨go, 0, none⟩ _ k h2]; exact hk1
  · exact (hb1.setCell (p := ⟨go, 0, none⟩) hB0.2 _).setCell (p := ⟨gf, 0, none⟩) hB0.1 _

set_option maxRecDepth 100000 in
set_option maxHeartbeats 4000000 in
theorem end_no (fr at_ : Int) (hf0 : fr < 0) (B0 gf go gt : Nat) (w : World) (hF : Boxed w gf 3 (.int .i64 fr)) (hB0 : B0 ≤ gf) :
    Calls Tryd.prog 88 #[.int .i64 at_, .pointer (some ⟨gf, 0, none⟩), .pointer (some ⟨go, 0, none⟩), .pointer (some ⟨gt, 0, none⟩)] w fun e w' => (∃ v, e = .returned v) ∧
      w' = w.setCell ⟨gf, 0, none⟩ (.int .i64 (-1)) := by
  have kf := hF.cell
  have ff := hF.frozen
  have hn : ¬ (0 ≤ fr) := by omega
  go_enter Tryd.func88, Tryd.ntmps88
  go_wp2
  go_end0
  exact ⟨⟨_, rfl⟩, rfl⟩

end Go.Proofs.YtgbphkckiekehaaDoor.Ana

set_option linter.unusedVariables false
set_option linter.unusedSimpArgs false
namespace Go.Proofs.YtgbphkckiekehaaDoor.Ana
open Go.RowKit Go.Shelf Go.Proofs.YtgbphkckiekehaaDoor.QRef Go.Proofs.YtgbphkckiekehaaDoorW.PrintWords Go.Proofs.YtgbphkckiekehaaDoorW.PrintLast Go.Proofs.FoldPlain Go.Proofs.FoldText Go.Proofs.YtgbphkckiekehaaDoor.FoldRef Go.Proofs.YtgbphkckiekehaaDoor.Seq Go.Proofs.YtgbphkckiekehaaDoor.FoldW Go.Proofs.YtgbphkckiekehaaDoor.FoldF Go.Proofs.YtgbphkckiekehaaDoor.FoldP
attribute [local go_sem] Oper.semAt_some

theorem trow_own {β : Type} (B base : Nat) (f : β → List S58) : Own (fun (s : β) W => ∃ v, Boxed W B 42 v ∧ TRow W base v (f s)) := fun s X Y row hs hg hr => by
  obtain ⟨v, hb, ho⟩ := hs
  refine ⟨v, boxed_own B 42 (fun _ : Unit => v) () X Y row hb hg hr, ?_⟩
  have h := Kd.R_bound ho
  refine Kd.R_mono (Kd.R_step h (fun k hk hlt => hg.block k hlt (fun e => ?_))) (fun _ _ => trivial)
  obtain ⟨_, _, _, q, _, cells, hc⟩ := hk
  obtain ⟨o, hoo, hcc⟩ := hr k e.symm
  rw [hc] at hoo; cases hoo; cases hcc
/-- A value of a function over runes that answers P, in every world behind w. -/
def IsPred (F : Value) (P : Int → Bool) (w : World) : Prop := ∃ fid lb, F = .func (.func fid) #[] lb ∧ (∀ args w, (callFunc fid args).run Tryd.prog w = .ok (.enter fid args) w) ∧
  ∀ W, Below w.heap.size w W → ∀ r : Int, -2147483648 ≤ r → r ≤ 2147483647 → Calls Tryd.prog fid (#[.int .i32 r] ++ lb) W fun e w' => e = .returned (.bool (P r)) ∧ Below W.heap.size W w'

/-- The closure 'end' of a call whose first box is block n. -/
def endV (n : Nat) : Value := .func (.func 88) #[] #[.pointer (some ⟨n + 1 + 1 + 1 + 1, 0, none⟩), .pointer (some ⟨n + 1 + 1 + 1, 0, none⟩), .pointer (some ⟨n, 0, none⟩)]
/-- The boxes that no round writes. -/
def Quiet7 (W : World) (n : Nat) (s : ByteArray) (Fm Fb : Value) : Prop := Boxed W n 9 (.string s) ∧ Boxed W (n + 1) 39 Fm ∧ Boxed W (n + 2) 39 Fb ∧ Boxed W (n + 5) 103 (endV n) ∧ Boxed W (n + 6) 9 (.string s)
theorem box_at (w : World) (k : Nat) (t : TypeId) (v : Value) (h : w.heap.size = k) : Boxed (w.alloc (.cells #[v] t)) k t v := by subst h; exact Boxed.new w t v
section
variable (w : World) (s : ByteArray) (Fm Fb E : Value)
theorem quiet7_new (hE : E = endV w.heap.size) : Quiet7 (((((((w.alloc (.cells #[.string s] 9)).alloc (.cells #[Fm] 39)).alloc (.cells #[Fb] 39)).alloc (.cells #[.slice none 0 0] 42)).alloc (.cells #[.int .i64 (-1)] 3)).alloc (.cells #[E] 103)).alloc (.cells #[.string s] 9)) w.heap.size s Fm Fb := by
  subst hE
  exact ⟨((((((box_at _ _ _ _ rfl).alloc _).alloc _).alloc _).alloc _).alloc _).alloc _, (((((box_at _ _ _ _ (by simp)).alloc _).alloc _).alloc _).alloc _).alloc _, ((((box_at _ _ _ _ (by simp)).alloc _).alloc _).alloc _).alloc _, (box_at _ _ _ _ (by simp)).alloc _, box_at _ _ _ _ (by simp)⟩
theorem box7_out : Boxed (((((((w.alloc (.cells #[.string s] 9)).alloc (.cells #[Fm] 39)).alloc (.cells #[Fb] 39)).alloc (.cells #[.slice none 0 0] 42)).alloc (.cells #[.int .i64 (-1)] 3)).alloc (.cells #[E] 103)).alloc (.cells #[.string s] 9)) (w.heap.size + 3) 42 (.slice none 0 0) :=
  (((box_at _ _ _ _ (by simp)).alloc _).alloc _).alloc _
theorem box7_from : Boxed (((((((w.alloc (.cells #[.string s] 9)).alloc (.cells #[Fm] 39)).alloc (.cells #[Fb] 39)).alloc (.cells #[.slice none 0 0] 42)).alloc (.cells #[.int .i64 (-1)] 3)).alloc (.cells #[E] 103)).alloc (.cells #[.string s] 9)) (w.heap.size + 4) 3 (.int .i64 (-1)) :=
  ((box_at _ _ _ _ (by simp)).alloc _).alloc _
end
/-- What the rounds carry. -/
def RunI (s : ByteArray) (may begins : Int → Bool) (w : World) (Fm Fb : Value) (pre : List (Nat × Nat)) (W : World) : Prop :=
  Quiet7 W w.heap.size s Fm Fb ∧ (∃ v, Boxed W (w.heap.size + 3) 42 v ∧ TRow W w.heap.size v (runState s may begins pre).1) ∧ Boxed W (w.heap.size + 4) 3 (.int .i64 (runState s may begins pre).2) ∧ Below w.heap.size w W

theorem quiet7_own {β : Type} (n : Nat) (s : ByteArray) (Fm Fb : Value) : Own (fun (_ : β) W => Quiet7 W n s Fm Fb) := fun q X Y row hs hg hr =>
  ⟨boxed_own _ _ (fun _ : Unit => .string s) () X Y row hs.1 hg hr, boxed_own _ _ (fun _ : Unit => Fm) () X Y row hs.2.1 hg hr, boxed_own _ _ (fun _ : Unit => Fb) () X Y row hs.2.2.1 hg hr, boxed_own _ _ (fun _ : Unit => endV n) () X Y row hs.2.2.2.1 hg hr, boxed_own _ _ (fun _ : Unit => .string s) () X Y row hs.2.2.2.2 hg hr⟩
theorem trow_set {W : World} {base g : Nat} {t : TypeId} {u v : Value} {ts : List S58} (h : TRow W base v ts) (hb : Boxed W g t u) (ht : ∀ q, q ∈ 58 :: k58.E → q ≠ t) (x : Value) : TRow (W.setCell ⟨g, 0, none⟩ x) base v ts := Kd.R_set h hb ht 0 x
theorem end_c (s : ByteArray) (fr at_ : Int) (hf0 : -1 ≤ fr) (hfa : fr ≤ at_) (has : at_ ≤ s.size) (hs : s.size ≤ 1099511627776) (B0 gf go gt : Nat) (v0 : Value) (ts : List S58) (hn : ts.length ≤ 1099511627777) (w : World)
    (hF : Boxed w gf 3 (.int .i64 fr)) (hO : Boxed w go 42 v0) (hT : Boxed w gt 9 (.string s)) (hR : TRow w B0 v0 ts) (hB0 : B0 ≤ gf ∧ B0 ≤ go) :
    Calls Tryd.prog 88 #[.int .i64 at_, .pointer (some ⟨gf, 0, none⟩), .pointer (some ⟨go, 0, none⟩), .pointer (some ⟨gt, 0, none⟩)] w fun e w' => (∃ v, e = .returned v) ∧
      (∃ v1, Boxed w' go 42 v1 ∧ TRow w' B0 v1 (runEnd s (ts, fr) at_).1) ∧ Boxed w' gf 3 (.int .i64 (-1)) ∧ OK58 gf go w w' ∧ Below B0 w w' := by
  by_cases h0 : 0 ≤ fr
  · have h := end_yes s fr at_ h0 hfa has hs B0 gf go gt v0 ts hn w hF hO hT hR hB0
    unfold runEnd
    rw [if_pos h0]
    exact h
  · refine (end_no fr at_ (by omega) B0 gf go gt w hF hB0.1).mono ?_
    rintro e w' ⟨he, rfl⟩
    unfold runEnd
    rw [if_neg h0]
    refine ⟨he, ⟨v0, hO.other (Ne.symm (boxed_ne hF hO (by decide))) _, trow_set hR hF (by decide) _⟩, hF.set _, ⟨by simp, fun k o hk h1 h2 h3 => by rw [Below.heap_setCell _ ⟨gf, 0, none⟩ _ k h1]; exact hk⟩, (Below.refl _ _).setCell (p := ⟨gf, 0, none⟩) hB0.1 _⟩

theorem keep7 {n : Nat} {s : ByteArray} {Fm Fb v u : Value} {W w1 X : World} (h2 : 2 ≤ n) (hb1 : Below W.heap.size W w1) (q : Quiet7 W n s Fm Fb) (hO : Boxed W (n + 3) 42 v) (hF : Boxed W (n + 4) 3 u) (hk : OK58 (n + 4) (n + 3) w1 X) (hb2 : Below n w1 X) :
    KeepsOthers W X ∧ KpB (n + 6) W X ∧ Quiet7 X n s Fm Fb := by
  have k1 : ∀ {b : Nat} {t : TypeId} {x : Value}, Boxed W b t x → b ≠ n + 4 → b ≠ n + 3 → t ≠ 58 → Boxed X b t x := fun hb a c d => hk.2 _ _ (boxed_below hb hb1) a c (fun _ _ e => by cases e; exact d rfl)
  obtain ⟨c0, c1, c2, c5, c6⟩ := q
  have r6 := k1 c6 (by omega) (by omega) (by decide)
  refine ⟨(KeepsOthers.of_grownBy (grown_of_below hb1 none) (fun j o e _ => by cases e)).trans ⟨hk.1, fun k o ho hc => hk.2 k o ho (fun e => ?_) (fun e => ?_) (fun c fz e => ?_)⟩, ⟨Nat.le_trans hb1.size hk.1, fun b hb hl => ?_⟩,
    k1 c0 (by omega) (by omega) (by decide), k1 c1 (by omega) (by omega) (by decide), k1 c2 (by omega) (by omega) (by decide), k1 c5 (by omega) (by omega) (by decide), r6⟩
  · subst e; rw [show w1.heap[n + 4]? = _ from boxed_below hF hb1] at ho; cases ho; cases hc
  · subst e; rw [show w1.heap[n + 3]? = _ from boxed_below hO hb1] at ho; cases ho; cases hc
  · subst e; cases hc
  · rcases hb with h | rfl
    · exact (hb2.block b (by omega)).trans (hb1.block b hl)
    · exact (show X.heap[n + 6]? = _ from r6).trans (show W.heap[n + 6]? = _ from c6).symm

theorem OK58.refl (gf go : Nat) (w : World) : OK58 gf go w w := ⟨Nat.le_refl _, fun _ _ h _ _ _ => h⟩
theorem OK58.set (gf go : Nat) (w : World) (x : Value) : OK58 gf go w (w.setCell ⟨gf, 0, none⟩ x) := ⟨by simp, fun k o hk h1 h2 h3 => by rw [Below.heap_setCell _ ⟨gf, 0, none⟩ _ k h1]; exact hk⟩
theorem trow_putObj {W : World} {base D : Nat} {v : Value} {ts : List S58} (h : TRow W base v ts) {o : Obj} (hD : W.heap[D]? = some o) (ho : o.isCells = false) (o' : Obj) : TRow (W.putObj D o') base v ts := by
  refine Kd.R_mono (Kd.R_step (Kd.R_bound h) (fun k hk hlt => World.putObj_heap_other (fun e => ?_))) (fun _ _ => trivial)
  obtain ⟨_, _, _, q, _, cells, hc⟩ := hk
  subst e
  rw [hD] at hc; cases hc; cases ho
theorem below_step2 {w W w1 X : World} (hB : Below w.heap.size w W) (hb1 : Below W.heap.size W w1) (hb2 : Below w.heap.size w1 X) : Below w.heap.size w X := (below_step hB hb1).trans hb2
set_option maxRecDepth 100000 in
set_option maxHeartbeats 4000000 in
theorem runs_an (s : ByteArray) (hs : s.size ≤ 1099511627776) (Fm Fb : Value) (may begins : Int → Bool) (w : World) (ht : Tabs w) (hm : IsPred Fm may w) (hb : IsPred Fb begins w) :
    Calls Tryd.prog 78 #[.string s, Fm, Fb] w fun e w' => (∃ v, e = .returned v ∧ TRow w' w.heap.size v (runsD s may begins)) ∧ Below w.heap.size w w' := by
  have h2 := ht.size
  have hs' : s.size ≤ 140737488355328 := by omega
  obtain ⟨fm, lm, rfl, egm, hmc⟩ := hm
  obtain ⟨fb, lb, rfl, egb, hbc⟩ := hb
  have hrl := runes_length s.data.toList
  rw [size_data] at hrl
  refine (callsIn_wide (n := 20)).1 ?_
  refine callsIn_of_wp_marks Tryd.func78 rfl trivial ?_ rfl
  simp only [Tryd.ntmps78, List.size_toArray, List.length_cons, List.length_nil, Nat.reduceAdd, Nat.reduceSub, Array.replicate_succ, Array.replicate_zero, List.push_toArray, List.append_toArray, List.nil_append, List.cons_append]
  obtain ⟨X, hX⟩ : ∃ X, X = (((((w.alloc (.cells #[.string s] 9)).alloc (.cells #[.func (.func fm) #[] lm] 39)).alloc (.cells #[.func (.func fb) #[] lb] 39)).alloc (.cells #[.slice none 0 0] 42)).alloc (.cells #[.int .i64 (-1)] 3)) := ⟨_, rfl⟩
  have hzX : X.heap.size = w.heap.size + 1 + 1 + 1 + 1 + 1 := by rw [hX]; simp
  have hXn := Boxed.new X 103 .nilFunc
  rw [hzX] at hXn
  have kX := hXn.cell
  have fX := hXn.frozen
  rw [hX] at kX fX
  have HX := Aside0.mk (And.intro hX hzX)
  clear hX hzX hXn
  gi_wp2_with (refine ⟨trivial, ?_⟩; gi_at_call 20; refine (callsIn_wide.2 (runes_c s _)).mono ?_; rintro e w2 ⟨rfl, rfl⟩)
  obtain ⟨n, hn⟩ : ∃ n, n = w.heap.size := ⟨_, rfl⟩
  obtain ⟨W0, hW0⟩ : ∃ W0, (((((((w.alloc (.cells #[.string s] 9)).alloc (.cells #[.func (.func fm) #[] lm] 39)).alloc (.cells #[.func (.func fb) #[] lb] 39)).alloc (.cells #[.slice none 0 0] 42)).alloc (.cells #[.int .i64 (-1)] 3)).alloc (.cells #[endV w.heap.size] 103)).alloc (.cells #[.string s] 9)) = W0 := ⟨_, rfl⟩
  unfold endV at hW0
  rw [hW0]
  have hsz : W0.heap.size = w.heap.size + 7 := by rw [← hW0]; simp
  have hBW : Below w.heap.size w W0 := by rw [← hW0]; exact below_alloc (below_alloc (below_alloc (below_alloc (below_alloc (below_alloc (below_alloc (Below.refl _ _) _) _) _) _) _) _) _
  have q : Quiet7 W0 w.heap.size s (.func (.func fm) #[] lm) (.func (.func fb) #[] lb) := by rw [← hW0]; exact quiet7_new _ _ _ _ _ rfl
  have qO : Boxed W0 (w.heap.size + 3) 42 (.slice none 0 0) := by rw [← hW0]; exact box7_out _ _ _ _ _
  have qF : Boxed W0 (w.heap.size + 4) 3 (.int .i64 (-1)) := by rw [← hW0]; exact box7_from _ _ _ _ _
  have hT0 : Tabs W0 := ht.step hBW
  clear hW0 kX fX HX
  refine range_known (F := Fence.wide) (n := 20) (xs := runes s.data.toList) rfl (by omega) (gf := 49) (lb := #[.pointer (some ⟨w.heap.size + 6, 0, none⟩)]) rfl trivial (enters_of Tryd.func49 (by kernel_rfl) rfl)
    (runes_seq 19 (by omega) (w.heap.size + 6) s hs' W0 q.2.2.2.2.cell hT0) (fun h k => KpB.trans h k) (KpB.putObj (by omega) (by omega)) (Below.refl _ _) (fun _ => rfl)
    (RunI s may begins w (.func (.func fm) #[] lm) (.func (.func fb) #[] lb))
    (fun _ _ _ => False)
    ?hI (fun _ _ _ _ _ hs _ _ => hs) ⟨q, ⟨_, qO, Kd.R_nil _ _ _ _ _⟩, qF, hBW⟩ ?a1 ?assign ?body ?done ?stop
  case hI =>
    refine OwnFrom.and (Own.from (quiet7_own _ _ _ _) _) (OwnFrom.and (Own.from (trow_own _ _ (fun pre => (runState s may begins pre).1)) _) (OwnFrom.and (Own.from (boxed_own (w.heap.size + 4) 3 (fun pre => .int .i64 (runState s may begins pre).2)) _) (ownFrom_below (Nat.le_refl _) (by omega))))
  case assign =>
    intro l x W K hK
    have HK := Aside0.mk hK
    clear hK
    unfold encR
    gi_wp2
    exact HK.out
  case body =>
    rintro l pre x rest W hxs ⟨⟨c0, c1, c2, c5, c6⟩, ⟨v, hv, hrow⟩, hF, hB⟩
    have k1 := c1.cell
    obtain ⟨hx1, hx2, _⟩ := runes_split hxs
    have hr := dec_rune (s.data.toList.drop x.1)
    rw [← hx2] at hr
    have hst := runState_snoc s may begins pre x
    have hpre : ∀ y ∈ pre, y.1 ≤ x.1 := fun y hy => by
      have hp := (runesAt_bounds s.data.toList s.data.toList.length 0 (by omega)).2
      rw [← runes, hxs] at hp
      exact Nat.le_of_lt ((List.pairwise_append.1 hp).2.2 y hy x (by simp))
    have hbd := runState_bounds s may begins pre x.1 hpre
    have hln : pre.length ≤ s.size := by rw [hxs] at hrl; simp at hrl; omega
    rw [size_data] at hx1
    clear hx2 hpre hxs
    obtain ⟨q_, r⟩ := x
    dsimp only at *
    have HST := Aside0.mk hst
    clear hst
    generalize hge : runState s may begins pre = st at hrow hF hbd HST
    obtain ⟨ts, fr⟩ := st
    dsimp only at hrow hF hbd
    have hmW := hmc W hB (r : Int) (by omega) (by omega)
    have HC := Aside0.mk (And.intro hmc hbc)
    clear hmc hbc hge
    generalize hmg : may (r : Int) = M at hmW
    have HMG := Aside0.mk hmg
    clear hmg
    cases M
    · -- a rune that may not be in a run
      gi_wp2
      refine ⟨trivial, (CallsIn.inRound l (callsIn_wide.2 hmW)).mono ?_⟩
      rintro e w1 ⟨rfl, hb1⟩
      have e5 := (boxed_below c5 hb1).cell
      unfold endV at e5
      have hec := end_c s fr q_ hbd.1 hbd.2.1 (by omega) hs w.heap.size (w.heap.size + 1 + 1 + 1 + 1) (w.heap.size + 1 + 1 + 1) w.heap.size v ts (by omega) w1 (boxed_below hF hb1) (boxed_below hv hb1) (boxed_below c0 hb1) (Kd.R_below hrow hb1) (by omega)
      gi_wp2
      refine ⟨trivial, (CallsIn.inRound l (callsIn_wide.2 hec)).mono ?_⟩
      rintro e X ⟨⟨v, rfl⟩, ⟨v1, hv1, hr1⟩, hf1, hk, hb2⟩
      obtain ⟨a1, a2, a3⟩ := keep7 h2 hb1 ⟨c0, c1, c2, c5, c6⟩ hv hF hk hb2
      gi_wp2
      refine ⟨a1, a2, a3, ⟨v1, hv1, ?_⟩, ?_, below_step2 hB hb1 hb2⟩
      · rw [HST.out]; unfold runStep; rw [if_pos HMG.out]; exact hr1
      · rw [HST.out]; unfold runStep; rw [if_pos HMG.out, (runEnd_bounds s (ts, fr) q_).1]; exact hf1
    · have hmT : ¬ may (r : Int) = false := by rw [HMG.out]; decide
      have HMT := Aside0.mk hmT
      clear hmT
      by_cases hneg : fr < 0
      · have hbg := HC.out.2
        gi_wp2
        refine ⟨trivial, (CallsIn.inRound l (callsIn_wide.2 hmW)).mono ?_⟩
        rintro e w1 ⟨rfl, hb1⟩
        have hbW := hbg w1 (below_step hB hb1) (r : Int) (by omega) (by omega)
        have e4 := (boxed_below hF hb1).cell
        have e2 := (boxed_below c2 hb1).cell
        clear hbg k1
        generalize hbq : begins (r : Int) = M at hbW
        have HBQ := Aside0.mk hbq
        clear hbq
        gi_wp2
        refine ⟨trivial, (CallsIn.inRound l (callsIn_wide.2 hbW)).mono ?_⟩
        rintro e w2 ⟨rfl, hb2⟩
        have hb12 := below_step hb1 hb2
        have g4 := boxed_below hF hb12
        have f4 := g4.frozen
        have q4 := g4.cell
        clear e4 e2
        have g3 := boxed_below hv hb12
        have gr := Kd.R_below hrow hb12
        cases M
        · obtain ⟨a1, a2, a3⟩ := keep7 h2 hb12 ⟨c0, c1, c2, c5, c6⟩ hv hF (OK58.refl _ _ w2) (Below.refl _ _)
          gi_wp2
          refine ⟨a1, a2, a3, ⟨v, g3, ?_⟩, ?_, below_step hB hb12⟩
          · rw [HST.out]; unfold runStep; rw [if_neg HMT.out, if_neg (fun h => by rw [HBQ.out] at h; exact absurd h.2 (by decide))]; exact gr
          · rw [HST.out]; unfold runStep; rw [if_neg HMT.out, if_neg (fun h => by rw [HBQ.out] at h; exact absurd h.2 (by decide))]; exact g4
        · obtain ⟨a1, a2, a3⟩ := keep7 h2 hb12 ⟨c0, c1, c2, c5, c6⟩ hv hF (OK58.set (w.heap.size + 4) (w.heap.size + 3) w2 (.int .i64 q_)) ((Below.refl _ _).setCell (p := ⟨w.heap.size + 4, 0, none⟩) (show w.heap.size ≤ w.heap.size + 4 by omega) _)
          gi_wp2
          refine ⟨a1, a2, a3, ⟨v, g3.other (by omega) _, ?_⟩, ?_, below_step2 hB hb12 ((Below.refl _ _).setCell (p := ⟨w.heap.size + 4, 0, none⟩) (show w.heap.size ≤ w.heap.size + 4 by omega) _)⟩
          · rw [HST.out]; unfold runStep; rw [if_neg HMT.out, if_pos ⟨hneg, HBQ.out⟩]; exact trow_set gr g4 (by decide) _
          · rw [HST.out]; unfold runStep; rw [if_neg HMT.out, if_pos ⟨hneg, HBQ.out⟩]; exact g4.set _
      · gi_wp2
        refine ⟨trivial, (CallsIn.inRound l (callsIn_wide.2 hmW)).mono ?_⟩
        rintro e w1 ⟨rfl, hb1⟩
        have e4 := (boxed_below hF hb1).cell
        obtain ⟨a1, a2, a3⟩ := keep7 h2 hb1 ⟨c0, c1, c2, c5, c6⟩ hv hF (OK58.refl _ _ w1) (Below.refl _ _)
        clear k1
        gi_wp2
        refine ⟨(fun f h => by cases h), ?_⟩
        gi_wp2
        refine ⟨a1, a2, a3, ⟨v, boxed_below hv hb1, ?_⟩, ?_, below_step hB hb1⟩
        · rw [HST.out]; unfold runStep; rw [if_neg HMT.out, if_neg (fun h => by have h1 : fr < 0 := h.1; omega)]; exact Kd.R_below hrow hb1
        · rw [HST.out]; unfold runStep; rw [if_neg HMT.out, if_neg (fun h => by have h1 : fr < 0 := h.1; omega)]; exact boxed_below hF hb1
  case done =>
    rintro D W hD ⟨⟨c0, c1, c2, c5, c6⟩, ⟨v, hv, hrow⟩, hF, hB⟩ hK
    have hDl : D < W.heap.size := (Array.getElem?_eq_some_iff.1 hK).1
    have hbd := runState_bounds s may begins (runes s.data.toList) s.size (fun x hx => by
      have := ((runesAt_bounds s.data.toList s.data.toList.length 0 (by omega)).1 x hx).2
      rw [size_data] at this; omega)
    have HRD := Aside0.mk (show (runEnd s (runState s may begins (runes s.data.toList)) s.size).1 = runsD s may begins from rfl)
    generalize runState s may begins (runes s.data.toList) = st at hrow hF hbd HRD
    obtain ⟨ts, fr⟩ := st
    dsimp only at hrow hF hbd
    have e5 := c5.cell
    unfold endV at e5
    have e0 := c0.cell
    have hec := end_c s fr s.size hbd.1 hbd.2.1 (by omega) hs w.heap.size (w.heap.size + 1 + 1 + 1 + 1) (w.heap.size + 1 + 1 + 1) w.heap.size v ts (by omega) W hF hv c0 hrow (by omega)
    clear hmc hbc
    gi_wp2
    refine ⟨trivial, (callsIn_wide.2 hec).mono ?_⟩
    rintro e X ⟨⟨v0, rfl⟩, ⟨v1, hv1, hr1⟩, hf1, hk, hb2⟩
    rw [HRD.out] at hr1
    obtain ⟨a1, a2, a3⟩ := keep7 h2 (Below.refl _ W) ⟨c0, c1, c2, c5, c6⟩ hv hF hk hb2
    have hKX := a1.same D _ hK rfl
    have e3 := hv1.cell
    gi_wp2
    refine ⟨by simp, .inl ⟨_, _, rfl, run_takeDeferred hKX, ?_⟩⟩
    refine ⟨v1, ?_, ⟨v1, rfl, trow_putObj hr1 hKX rfl _⟩, (hB.trans hb2).trans (belowK_b (w := w) (Nat.le_refl _) _ D _ _ (by omega) hKX rfl rfl)⟩
    simp [results, Tryd.f78, go_sem]
  case stop =>
    rintro D c pre W _ _ h _
    exact h.elim
end Go.Proofs.YtgbphkckiekehaaDoor.Ana

set_option linter.unusedVariables false
set_option linter.unusedSimpArgs false
namespace Go.Proofs.YtgbphkckiekehaaDoor.Ana
open Go.RowKit Go.Shelf Go.Proofs.YtgbphkckiekehaaDoor.QRef Go.Proofs.YtgbphkckiekehaaDoorW.PrintWords Go.Proofs.YtgbphkckiekehaaDoorW.PrintLast Go.Proofs.FoldPlain Go.Proofs.FoldText Go.Proofs.YtgbphkckiekehaaDoor.FoldRef Go.Proofs.YtgbphkckiekehaaDoor.Seq Go.Proofs.YtgbphkckiekehaaDoor.FoldW Go.Proofs.YtgbphkckiekehaaDoor.FoldF Go.Proofs.YtgbphkckiekehaaDoor.FoldP

theorem blank_f (r : Int) : analysis_Blank.f 10 r = some (blankB r) := by
  unfold analysis_Blank.f blankB analysis_Blank.j0 analysis_Blank.j1
  repeat' split
  all_goals simp_all
  all_goals omega
theorem blank_c (r : Int) (w : World) : Calls Tryd.prog 36 #[.int .i32 r] w fun e w' => e = .returned (.bool (blankB r)) ∧ Below w.heap.size w w' :=
  (analysis_Blank.calls 10 r _ w (blank_f r)).mono fun _ _ ⟨h1, h2⟩ => ⟨h1, drawn_below h2⟩
set_option maxHeartbeats 2000000 in
theorem word_c (r : Int) (w : World) : Calls Tryd.prog 86 #[.int .i32 r] w fun e w' => e = .returned (.bool (wordB r)) ∧ Below w.heap.size w w' := by
  have hl := letter_c r
  have hd := digit_c r
  unfold wordB
  generalize letterD r = L at hl ⊢
  generalize digitD r = D at hd ⊢
  cases L
  · go_enter Tryd.func86, Tryd.ntmps86
    go_wp2_with (first
      | (go_at_call 26; refine (hl _).mono ?_; clear hl; rintro e w1 ⟨rfl, hb1⟩)
      | (go_at_call 27; refine (hd _).mono ?_; clear hd; rintro e w2 ⟨rfl, hb2⟩))
    go_ret
    exact ⟨rfl, below_step hb1 hb2⟩
  · go_enter Tryd.func86, Tryd.ntmps86
    go_wp2_with (go_at_call 26; refine (hl _).mono ?_; clear hl; rintro e w1 ⟨rfl, hb1⟩)
    go_ret
    exact ⟨rfl, hb1⟩
set_option maxHeartbeats 2000000 in
theorem may_c (r : Int) (n : Nat) (w : World) (hn : Boxed w n 39 (.func (.func 86) #[] #[])) : Calls Tryd.prog 87 #[.int .i32 r, .pointer (some ⟨n, 0, none⟩)] w fun e w' => e = .returned (.bool (mayB r)) ∧ Below w.heap.size w w' := by
  have hl := word_c r
  have hd := mark_c r
  have kn := hn.cell
  have e86 : ∀ args W, (callFunc 86 args).run Tryd.prog W = .ok (.enter 86 args) W := enters_of Tryd.func86 (by kernel_rfl) rfl
  unfold mayB
  generalize wordB r = L at hl ⊢
  generalize markD r = D at hd ⊢
  cases L
  · go_enter Tryd.func87, Tryd.ntmps87
    go_wp2_with (first
      | (go_at_call 86; refine (hl _).mono ?_; clear hl; rintro e w1 ⟨rfl, hb1⟩)
      | (go_at_call 28; refine (hd _).mono ?_; clear hd; rintro e w2 ⟨rfl, hb2⟩))
    go_ret
    exact ⟨rfl, below_step hb1 hb2⟩
  · go_enter Tryd.func87, Tryd.ntmps87
    go_wp2_with (go_at_call 86; refine (hl _).mono ?_; clear hl; rintro e w1 ⟨rfl, hb1⟩)
    go_ret
    exact ⟨rfl, hb1⟩
theorem open_c (r : Int) (w : World) : Calls Tryd.prog 77 #[.int .i32 r] w fun e w' => e = .returned (.bool (openB r)) ∧ Below w.heap.size w w' := by
  have hl := blank_c r
  unfold openB
  generalize blankB r = L at hl ⊢
  cases L <;>
  · go_enter Tryd.func77, Tryd.ntmps77
    go_wp2_with (go_at_call 36; refine (hl _).mono ?_; clear hl; rintro e w1 ⟨rfl, hb1⟩)
    go_ret
    exact ⟨rfl, hb1⟩
theorem all1_c (r : Int) (w : World) : Calls Tryd.prog 79 #[.int .i32 r] w fun e w' => e = .returned (.bool (allB r)) ∧ Below w.heap.size w w' := by
  unfold allB
  go_enter Tryd.func79, Tryd.ntmps79
  go_wp2
  go_ret
  exact ⟨rfl, Below.refl _ _⟩
theorem all2_c (r : Int) (w : World) : Calls Tryd.prog 80 #[.int .i32 r] w fun e w' => e = .returned (.bool (allB r)) ∧ Below w.heap.size w w' := by
  unfold allB
  go_enter Tryd.func80, Tryd.ntmps80
  go_wp2
  go_ret
  exact ⟨rfl, Below.refl _ _⟩
theorem word_p (w : World) : IsPred (.func (.func 86) #[] #[]) wordB w := ⟨86, #[], rfl, enters_of Tryd.func86 (by kernel_rfl) rfl, fun W _ r _ _ => word_c r W⟩
theorem may_p (w : World) (n : Nat) (hn : Boxed w n 39 (.func (.func 86) #[] #[])) : IsPred (.func (.func 87) #[] #[.pointer (some ⟨n, 0, none⟩)]) mayB w :=
  ⟨87, _, rfl, enters_of Tryd.func87 (by kernel_rfl) rfl, fun W hW r _ _ => may_c r n W (boxed_below hn hW)⟩
theorem open_p (w : World) : IsPred (.func (.func 77) #[] #[]) openB w := ⟨77, #[], rfl, enters_of Tryd.func77 (by kernel_rfl) rfl, fun W _ r _ _ => open_c r W⟩
theorem all1_p (w : World) : IsPred (.func (.func 79) #[] #[]) allB w := ⟨79, #[], rfl, enters_of Tryd.func79 (by kernel_rfl) rfl, fun W _ r _ _ => all1_c r W⟩
theorem all2_p (w : World) : IsPred (.func (.func 80) #[] #[]) allB w := ⟨80, #[], rfl, enters_of Tryd.func80 (by kernel_rfl) rfl, fun W _ r _ _ => all2_c r W⟩

set_option maxRecDepth 100000 in
set_option maxHeartbeats 2000000 in
theorem letters_c (s : ByteArray) (hs : s.size ≤ 1099511627776) (w : World) (ht : Tabs w) :
    Calls Tryd.prog 76 #[.string s] w fun e w' => (∃ v, e = .returned v ∧ TRow w' w.heap.size v (lettersD s)) ∧ Below w.heap.size w w' := by
  have hb0 : Below w.heap.size w (w.alloc (.cells #[.func (.func 86) #[] #[]] 39)) := below_alloc (Below.refl _ _) _
  have hc := runs_an s hs _ _ mayB wordB _ (ht.step hb0) (may_p _ _ (Boxed.new w 39 (.func (.func 86) #[] #[]))) (word_p _)
  have HB := Aside0.mk hb0
  have HT := Aside0.mk ht
  clear hb0 ht
  go_enter Tryd.func76, Tryd.ntmps76
  go_wp2_with (go_at_call 78; refine hc.mono ?_; clear hc; rintro e w1 ⟨⟨v, rfl, hr⟩, hb1⟩)
  go_ret
  refine ⟨⟨_, rfl, ?_⟩, below_step HB.out hb1⟩
  exact Kd.R_lower hr (by simp)

set_option maxRecDepth 100000 in
set_option maxHeartbeats 2000000 in
theorem tokens_easy (number : Int) (hn : number = 1 ∨ number = 2 ∨ number = 3) (s : ByteArray) (hs : s.size ≤ 1099511627776) (w : World) (ht : Tabs w) :
    Calls Tryd.prog 61 #[.int .i64 number, .string s] w fun e w' => (∃ v, e = .returned v ∧ TRow w' w.heap.size v (tokensD number s)) ∧ Below w.heap.size w w' := by
  unfold tokensD
  rcases hn with rfl | rfl | rfl
  · have hc := letters_c s hs w ht
    rw [if_pos rfl]
    clear ht
    go_enter Tryd.func61, Tryd.ntmps61
    go_wp2_with (go_at_call 76; refine hc.mono ?_; clear hc; rintro e w1 ⟨⟨v, rfl, hr⟩, hb1⟩)
    go_ret
    exact ⟨⟨_, rfl, hr⟩, hb1⟩
  · have hc := runs_an s hs _ _ openB openB w ht (open_p w) (open_p w)
    rw [if_neg (by decide), if_pos rfl]
    clear ht
    go_enter Tryd.func61, Tryd.ntmps61
    go_wp2_with (go_at_call 78; refine hc.mono ?_; clear hc; rintro e w1 ⟨⟨v, rfl, hr⟩, hb1⟩)
    go_ret
    exact ⟨⟨_, rfl, hr⟩, hb1⟩
  · have hc := runs_an s hs _ _ allB allB w ht (all1_p w) (all2_p w)
    rw [if_neg (by decide), if_neg (by decide), if_pos rfl]
    clear ht
    go_enter Tryd.func61, Tryd.ntmps61
    go_wp2_with (go_at_call 78; refine hc.mono ?_; clear hc; rintro e w1 ⟨⟨v, rfl, hr⟩, hb1⟩)
    go_ret
    exact ⟨⟨_, rfl, hr⟩, hb1⟩
end Go.Proofs.YtgbphkckiekehaaDoor.Ana
