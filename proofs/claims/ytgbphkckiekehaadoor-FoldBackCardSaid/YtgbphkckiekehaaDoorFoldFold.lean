/- fold.Fold walked: the text folded rune by rune. -/
import Derived.Test.YtgbphkckiekehaaDoorFoldWalks
set_option linter.unusedVariables false
set_option linter.unusedSimpArgs false
namespace Go.Proofs.YtgbphkckiekehaaDoor.FoldF
open Go.RowKit Go.Shelf Go.Proofs.YtgbphkckiekehaaDoor.QFold Go.Proofs.YtgbphkckiekehaaDoorW.PrintWords Go.Proofs.FoldPlain Go.Proofs.FoldText Go.Proofs.YtgbphkckiekehaaDoor.FoldRef Go.Proofs.YtgbphkckiekehaaDoor.Seq Go.Proofs.YtgbphkckiekehaaDoor.FoldW Go.Proofs.YtgbphkckiekehaaDoor.FoldBridge
attribute [local go_sem] Oper.semAt_some

theorem lower_c (a : Int) (w : World) : Calls Tryd.prog 25 #[.int .i32 a] w fun e w' => e = .returned (.int .i32 (lowerD a)) ∧ Below w.heap.size w w' :=
  (fold_Lower.calls 7 a _ w (lower_f 0 a)).mono fun _ _ ⟨he, hw⟩ => ⟨he, by obtain ⟨n, rfl⟩ := hw.out; exact pw_below_drewN (Below.refl _ _) n⟩

theorem builder_grown {B b : Nat} {bs : List Value} {W W' : World} {row : Option Nat} (h : Lib.IsBuilderF 66 5 B b bs W) (hg : W.grownBy W' row) (hr : ∀ r, row = some r → ∃ o : Obj, W.heap[r]? = some o ∧ o.isCells = false) : Lib.IsBuilderF 66 5 B b bs W' := by
  have key : ∀ p, Lib.BuilderAtF 66 5 B b p bs W → Lib.BuilderAtF 66 5 B b p bs W' := by
    rintro p ⟨hB, v, hb, hown, hne⟩
    refine ⟨hB, v, (grownBy_keeps_cells hg hr hb rfl).trans hb, hown.kept hg ?_, hne⟩
    rcases hown.2 with ⟨rfl, _⟩ | ⟨g, cap, cur, fz, rfl, _, hgg, _⟩
    · exact .inl rfl
    · right
      intro e
      obtain ⟨o, ho, hc⟩ := hr g (by rw [← e]; rfl)
      rw [hgg] at ho; cases ho; cases hc
  exact h.elim (fun x => .inl (key _ x)) (fun x => .inr (key _ x))
theorem builder_below {B b : Nat} {bs : List Value} {W W' : World} (h : Lib.IsBuilderF 66 5 B b bs W) (hb : Below W.heap.size W W') : Lib.IsBuilderF 66 5 B b bs W' :=
  builder_grown h (grown_of_below hb none) (fun r e => by cases e)
theorem builder_cells {B b : Nat} {bs : List Value} {W : World} (h : Lib.IsBuilderF 66 5 B b bs W) : ∃ cs, W.heap[b]? = some (.cells cs 66 (0, 0)) := by
  rcases h with ⟨_, v, hb, _⟩ | ⟨_, v, hb, _⟩ <;> exact ⟨_, hb⟩
/-- What a writing call keeps. -/
theorem others_of {B b : Nat} {bs : List Value} {W W' : World} (h : Lib.IsBuilderF 66 5 B b bs W) (hb : Below B W W') (hk : Lib.OthersKept 5 (some b) W W') : KeepsOthers W W' :=
  ⟨hb.size, fun k o ho hc => by
    obtain ⟨cs, hbb⟩ := builder_cells h
    refine hk k o ho (fun e => ?_) (fun c fz e => by rw [e] at hc; cases hc)
    cases e
    rw [hbb] at ho; cases ho; cases hc⟩
theorem boxed_others {b : Nat} {W W' : World} {B' : Nat} {t : TypeId} {v : Value} (h : Boxed W B' t v) (hk : Lib.OthersKept 5 (some b) W W') (hne : B' ≠ b) (ht : t ≠ 5) : Boxed W' B' t v :=
  hk B' _ h (fun e => hne (by cases e; rfl)) (fun c fz e => by cases e; exact ht rfl)
theorem boxed_below {W W' : World} {B' : Nat} {t : TypeId} {v : Value} (h : Boxed W B' t v) (hb : Below W.heap.size W W') : Boxed W' B' t v := h.kept (grown_of_below hb none) (by simp)
theorem kp_of {B b Bs : Nat} {v : Value} {W W' : World} (hb : Below B W W') (hk : Lib.OthersKept 5 (some b) W W') (h2 : 2 ≤ B) (hS : Boxed W Bs 9 v) (hne : Bs ≠ b) : KpB Bs W W' :=
  ⟨hb.size, fun k hk' hl => by
    rcases hk' with h | rfl
    · exact hb.block k (by omega)
    · rw [show W.heap[k]? = _ from hS]; exact boxed_others hS hk hne (by decide)⟩

/-- The folded text of the runes that have come. -/
def done (l : List UInt8) (pre : List (Nat × Nat)) : List UInt8 := pre.flatMap fun x => piece l x.1
theorem done_snoc (l : List UInt8) (pre : List (Nat × Nat)) (x : Nat × Nat) : done l (pre ++ [x]) = done l pre ++ piece l x.1 := by simp [done]
theorem done_all_at (l : List UInt8) : ∀ (d p : Nat), l.length ≤ p + d → p ≤ l.length → done l (runesAt l p) = foldAt l p := by
  intro d
  induction d with
  | zero => intro p h0 h1; rw [runesAt_end l p (by omega), foldAt_end l p (by omega)]; rfl
  | succ d ih =>
    intro p h0 h1
    by_cases h : p < l.length
    · have g1 := dec_ge1 (l.drop p)
      have g2 := dec_in h
      rw [runesAt_step l p h, foldAt_step l p h, ← ih (p + (dec (l.drop p)).2) (by omega) g2]
      simp [done]
    · rw [runesAt_end l p (by omega), foldAt_end l p (by omega)]; rfl
theorem done_all (l : List UInt8) : done l (runes l) = foldD l := done_all_at l l.length 0 (by omega) (by omega)
/-- How long it is: where the next rune begins. -/
theorem done_length_at (l : List UInt8) : ∀ (pre : List (Nat × Nat)) (q : Nat) (x : Nat × Nat) (rest : List (Nat × Nat)), q ≤ l.length → runesAt l q = pre ++ x :: rest → q + (done l pre).length = x.1
  | [], q, x, rest, hq, h => by
    by_cases hp : q < l.length
    · rw [runesAt_step l q hp] at h
      simp only [List.nil_append, List.cons.injEq] at h
      obtain ⟨rfl, _⟩ := h
      simp [done]
    · rw [runesAt_end l q (by omega)] at h; simp at h
  | y :: pre, q, x, rest, hq, h => by
    by_cases hp : q < l.length
    · rw [runesAt_step l q hp] at h
      simp only [List.cons_append, List.cons.injEq] at h
      obtain ⟨rfl, h⟩ := h
      have := done_length_at l pre _ x rest (dec_in hp) h
      have e : done l ((q, (dec (l.drop q)).1) :: pre) = piece l q ++ done l pre := by simp [done]
      rw [e, List.length_append, piece_length l q hp]
      omega
    · rw [runesAt_end l q (by omega)] at h; simp at h
theorem done_length {l : List UInt8} {pre : List (Nat × Nat)} {x : Nat × Nat} {rest : List (Nat × Nat)} (h : runes l = pre ++ x :: rest) : (done l pre).length = x.1 := by
  have := done_length_at l pre 0 x rest (Nat.zero_le _) h
  omega

theorem strCells_of (s : ByteArray) (l : List UInt8) (h : s.data.toList = l) : Lib.strCells s = Lib.byteCells l := by rw [Lib.strCells_eq, h]

set_option maxRecDepth 100000 in
set_option maxHeartbeats 4000000 in
theorem fold_c (s : ByteArray) (hs : s.size ≤ 140737488351232) (w : World) (ht : Tabs w) :
    Calls Tryd.prog 21 #[.string s] w fun e w' => e = .returned (.string (strOf (foldD s.data.toList))) ∧ Below w.heap.size w w' := by
  have h2 := ht.size
  have hs' : s.size ≤ 140737488355328 := by omega
  refine (callsIn_wide (n := 20)).1 ?_
  refine callsIn_of_wp_marks Tryd.func21 rfl trivial ?_ rfl
  simp only [Tryd.ntmps21, List.size_toArray, List.length_cons, List.length_nil, Nat.reduceAdd, Nat.reduceSub, Array.replicate_succ, Array.replicate_zero, List.push_toArray, List.append_toArray, List.nil_append, List.cons_append]
  gi_wp2_with (refine ⟨trivial, ?_⟩; gi_at_call 20; refine (callsIn_wide.2 (runes_c s _)).mono ?_; rintro e w2 ⟨rfl, rfl⟩)
  obtain ⟨W0, hW0⟩ : ∃ W0, ((w.alloc (.cells #[.string s] 9)).alloc (.cells #[.pointer none, .slice none 0 0] 66)).alloc (.cells #[.string s] 9) = W0 := ⟨_, rfl⟩
  rw [hW0]
  have hb0 : Below w.heap.size w W0 := by rw [← hW0]; exact below_alloc (below_alloc (below_alloc (Below.refl _ _) _) _) _
  have hsz : W0.heap.size = w.heap.size + 3 := by rw [← hW0]; simp
  have b1 : Boxed W0 w.heap.size 9 (.string s) := by rw [← hW0]; exact ((Boxed.new _ _ _).alloc _).alloc _
  have bS : Boxed W0 (w.heap.size + 1 + 1) 9 (.string s) := by
    have := Boxed.new ((w.alloc (.cells #[.string s] 9)).alloc (.cells #[.pointer none, .slice none 0 0] 66)) 9 (.string s)
    rw [World.size_alloc, World.size_alloc, hW0] at this; exact this
  have hI0 : Lib.IsBuilderF 66 5 (w.heap.size + 1) (w.heap.size + 1) (Lib.byteCells (done s.data.toList [])) W0 := by
    refine .inl ⟨Nat.le_refl _, .slice none 0 0, ?_, World.ownsRowF_nil _ _ _ _, by simp [Value.ownBlock]⟩
    have := (World.alloc_heap_new (w.alloc (.cells #[.string s] 9)) (.cells #[.pointer none, .slice none 0 0] 66))
    rw [World.size_alloc] at this
    rw [← hW0]
    exact (Below.heap_alloc _ _ _ (by simp)).trans this
  have hT0 : Tabs W0 := ht.step hb0
  clear hW0
  refine range_known (F := Fence.wide) (n := 20) (xs := runes s.data.toList) rfl (by omega) (gf := 49) (lb := #[.pointer (some ⟨w.heap.size + 1 + 1, 0, none⟩)]) rfl trivial (enters_of Tryd.func49 (by kernel_rfl) rfl)
    (runes_seq 19 (by omega) (w.heap.size + 1 + 1) s hs' W0 bS.cell hT0) (fun h k => KpB.trans h k) (KpB.putObj (by omega) (by omega)) (Below.refl _ _) (fun _ => rfl)
    (fun pre W => (Lib.IsBuilderF 66 5 (w.heap.size + 1) (w.heap.size + 1) (Lib.byteCells (done s.data.toList pre)) W ∧ Boxed W w.heap.size 9 (.string s) ∧ Boxed W (w.heap.size + 1 + 1) 9 (.string s)) ∧ Below w.heap.size w W)
    (fun _ _ _ => False)
    ?hI (fun _ _ _ _ _ hs _ _ => hs) ⟨⟨hI0, b1, bS⟩, hb0⟩ ?a1 ?assign ?body ?done ?stop
  case hI =>
    refine OwnFrom.and (Own.from ?_ _) (ownFrom_below (Nat.le_refl _) (by omega))
    exact fun q X Y row hs hg hr => ⟨builder_grown hs.1 hg hr, boxed_own _ _ (fun _ : List (Nat × Nat) => .string s) q X Y row hs.2.1 hg hr, boxed_own _ _ (fun _ : List (Nat × Nat) => .string s) q X Y row hs.2.2 hg hr⟩
  case assign =>
    intro l x W K hK
    have HK := Aside0.mk hK
    clear hK
    unfold encR
    gi_wp2
    exact HK.out
  case body =>
    rintro l pre ⟨q, r⟩ rest W hxs ⟨⟨hI, c1, cS⟩, hB⟩
    obtain ⟨hx1, hx2, _⟩ := runes_split hxs
    have hdl := done_length hxs
    have hg2 := dec_in hx1
    have hg1 := dec_ge1 (s.data.toList.drop q)
    have hg4 := dec_rune (s.data.toList.drop q)
    have hsn := done_snoc s.data.toList pre (q, r)
    have hpl := piece_length s.data.toList q hx1
    dsimp only at hx1 hx2 hdl hg2 hg1 hsn hpl
    have hTW : Tabs W := ht.step hB
    have hzW : w.heap.size + 2 < W.heap.size := cS.lt
    have hb0' : q < s.size := by rw [size_data] at hx1; exact hx1
    rw [size_data] at hg2
    have hnx : ∀ W', Tabs W' → Calls Tryd.prog 15 #[.string s, .int .i64 q] W' fun e w' => e = .returned (.tuple #[.int .i32 r, .int .i64 (dec (s.data.toList.drop q)).2]) ∧ Below W'.heap.size W' w' := fun W' h => by
      rw [hx2]; exact next_in s q hb0' hs' W' h
    have hpc : piece s.data.toList q = if lowerD (r : Int) = (r : Int) then (s.data.toList.drop q).take (dec (s.data.toList.drop q)).2 else Lib.encodeRune (lowerD (r : Int)) := by rw [hx2]; rfl
    rw [← hx2] at hg4
    clear hx1 hx2
    generalize dec (s.data.toList.drop q) = dd at hnx hpc hg2 hg1 hpl
    obtain ⟨_, d⟩ := dd
    dsimp only at hnx hpc hg2 hg1 hpl
    have hlc := lower_c (r : Int)
    have hlr := lowerD_range (r : Int)
    by_cases hlow : lowerD (r : Int) = (r : Int)
    · rw [if_pos hlow] at hpc
      rw [hlow] at hlc
      have hex : (s.extract q (q + d)).data.toList = piece s.data.toList q := by rw [extract_data _ _ _ hg2, hpc, show q + d - q = d by omega]
      have hsc : Lib.strCells (s.extract q (q + d)) = Lib.byteCells (piece s.data.toList q) := strCells_of _ _ hex
      have hesz : (s.extract q (q + d)).size = d := by rw [← size_data, hex, hpl]
      have HN := Aside0.mk hsn
      have HS := Aside0.mk hsc
      have HE := Aside0.mk hesz
      have HD := Aside0.mk hdl
      clear hsn hsc hesz hdl hex hpc hlow hxs hlr hpl
      have hqd : (q : Int) + (d : Int) ≤ (s.size : Int) := by omega
      have hqq : (q : Int) ≤ (q : Int) + (d : Int) := by omega
      gi_wp2_with (first
        | (refine ⟨trivial, ?_⟩; gi_at_call 25; refine (CallsIn.inRound l (callsIn_wide.2 (hlc _))).mono ?_; clear hlc; rintro e w1 ⟨rfl, hb1⟩; have hc1 := (boxed_below c1 hb1).cell; have hT1 := hTW.step hb1)
        | (refine ⟨trivial, ?_⟩; gi_at_call 15; refine (CallsIn.inRound l (callsIn_wide.2 (hnx _ hT1))).mono ?_; rintro e w2 ⟨rfl, hb2'⟩; have hb2 := below_step hb1 hb2'; have k1 := boxed_below c1 hb2; have kS := boxed_below cS hb2; have kI := builder_below hI hb2; have hc2 := k1.cell; clear hc1))
      gi_wp2_with (refine ⟨trivial, ?_⟩; gi_at_call 51; refine (CallsIn.inRound l (callsIn_wide.2 (Build.writeString_k (w.heap.size + 1) (w.heap.size + 1) _ _ _ kI (by rw [HE.out, Lib.byteCells_length, HD.out]; omega) (by have := kS.lt; omega)))).mono ?_; rintro e w3 ⟨rfl, hI3, hb3, hk3⟩)
      gi_wp2
      refine ⟨(KeepsOthers.of_grownBy (grown_of_below hb2 none) (fun j o e _ => by cases e)).trans (others_of kI hb3 hk3), (KpB.of_below hb2).trans (kp_of hb3 hk3 (by omega) kS (by omega)), ⟨.inr ?_, boxed_others k1 hk3 (by omega) (by decide), boxed_others kS hk3 (by omega) (by decide)⟩, ?_⟩
      · rw [HN.out, Lib.byteCells_append, ← HS.out]; exact hI3
      · exact (below_step hB hb2).trans (hb3.mono (by omega))
    · rw [if_neg hlow] at hpc
      have hsc : Lib.runeCells (lowerD (r : Int)) = Lib.byteCells (piece s.data.toList q) := by rw [hpc, Lib.byteCells_encodeRune]
      have hne : ((lowerD (r : Int)) != (r : Int)) = true := by simpa using hlow
      obtain ⟨lo, hlo⟩ : ∃ lo, lo = lowerD (r : Int) := ⟨_, rfl⟩
      rw [← hlo] at hlc hsc hne hlow
      have hb5 : -2147483648 ≤ lo ∧ lo ≤ 2147483647 := by omega
      have HN := Aside0.mk hsn
      have HS := Aside0.mk hsc
      have HD := Aside0.mk hdl
      clear hsn hsc hdl hpc hxs hlr hpl hlo hnx
      have hlow' : ¬ lo = (r : Int) := hlow
      clear hlow
      gi_wp2_with (first
        | (refine ⟨trivial, ?_⟩; gi_at_call 25; refine (CallsIn.inRound l (callsIn_wide.2 (hlc _))).mono ?_; clear hlc; rintro e w1 ⟨rfl, hb2⟩; have k1 := boxed_below c1 hb2; have kS := boxed_below cS hb2; have kI := builder_below hI hb2; have hc2 := k1.cell)
        | (refine ⟨trivial, ?_⟩; gi_at_call 50; refine (CallsIn.inRound l (callsIn_wide.2 (Build.writeRune_k (w.heap.size + 1) (w.heap.size + 1) _ lo hb5.1 hb5.2 _ kI (by rw [Lib.byteCells_length, HD.out]; omega) (by have := kS.lt; omega)))).mono ?_; rintro e w3 ⟨rfl, hI3, hb3, hk3⟩))
      refine ⟨(KeepsOthers.of_grownBy (grown_of_below hb2 none) (fun j o e _ => by cases e)).trans (others_of kI hb3 hk3), (KpB.of_below hb2).trans (kp_of hb3 hk3 (by omega) kS (by omega)), ⟨.inr ?_, boxed_others k1 hk3 (by omega) (by decide), boxed_others kS hk3 (by omega) (by decide)⟩, ?_⟩
      · rw [HN.out, Lib.byteCells_append, ← HS.out]; exact hI3
      · exact (below_step hB hb2).trans (hb3.mono (by omega))
  case done =>
    rintro D W hD ⟨⟨hI, c1, cS⟩, hB⟩ hK
    rw [done_all] at hI
    have hzW : w.heap.size + 2 < W.heap.size := cS.lt
    have hDl : D < W.heap.size := (Array.getElem?_eq_some_iff.1 hK).1
    gi_wp2_with (refine ⟨trivial, ?_⟩; gi_at_call 52; refine (callsIn_wide.2 (Tryd.Builder_String_any_k (w.heap.size + 1) (w.heap.size + 1) (foldD s.data.toList) _ hI (by omega))).mono ?_; rintro e w3 ⟨rfl, hI3, hb3, hk3⟩)
    have hK' := (others_of hI hb3 hk3).same D _ hK rfl
    refine ⟨by simp, .inl ⟨_, _, rfl, run_takeDeferred hK', ?_⟩⟩
    exact ⟨_, results_tmp rfl _ _ _, rfl, (hB.trans (hb3.mono (by omega))).trans (belowK_b (w := w) (Nat.le_refl _) _ D _ _ (by omega) hK' rfl rfl)⟩
  case stop =>
    rintro D c pre W _ _ h _
    exact h.elim

end Go.Proofs.YtgbphkckiekehaaDoor.FoldF
