/- Law FoldWhole walked. -/
import Derived.Test.YtgbphkckiekehaaDoorFoldKnown
import Derived.RangeFuncBox
set_option linter.unusedVariables false
set_option linter.unusedSimpArgs false
namespace Go.Proofs.YtgbphkckiekehaaDoor.wholeLaw
open Go.RowKit Go.Shelf Go.Proofs.YtgbphkckiekehaaDoor.QFold Go.Proofs.YtgbphkckiekehaaDoorW.PrintWords Go.Proofs.FoldPlain Go.Proofs.FoldText Go.Proofs.YtgbphkckiekehaaDoor.FoldRef Go.Proofs.YtgbphkckiekehaaDoor.Seq Go.Proofs.YtgbphkckiekehaaDoor.FoldW Go.Proofs.YtgbphkckiekehaaDoor.FoldF Go.Proofs.YtgbphkckiekehaaDoor.FoldK Go.Proofs.YtgbphkckiekehaaDoor.FoldP
attribute [local go_sem] Oper.semAt_some

theorem ba_ext {a b : ByteArray} (h : a.data.toList = b.data.toList) : a = b := by
  cases a; cases b; congr 1; exact Array.toList_inj.1 h
theorem ba_append (a b : ByteArray) : (a ++ b).data.toList = a.data.toList ++ b.data.toList := by simp [ByteArray.data_append]
/-- Is there an odd byte among the runes that have come? -/
def odds (l : List UInt8) (pre : List (Nat × Nat)) : Bool := pre.any fun x => decide (odd l x.1)
theorem odds_snoc (l : List UInt8) (pre : List (Nat × Nat)) (x : Nat × Nat) : odds l (pre ++ [x]) = (odds l pre || decide (odd l x.1)) := by simp [odds]
theorem odds_all_at (l : List UInt8) : ∀ (d p : Nat), l.length ≤ p + d → p ≤ l.length → odds l (runesAt l p) = !(validAt l p) := by
  intro d
  induction d with
  | zero => intro p h0 h1; rw [runesAt_end l p (by omega), validAt_end l p (by omega)]; rfl
  | succ d ih =>
    intro p h0 h1
    by_cases h : p < l.length
    · have g1 := dec_ge1 (l.drop p)
      have g2 := dec_in h
      rw [runesAt_step l p h, validAt_step l p h]
      have e : odds l ((p, (dec (l.drop p)).1) :: runesAt l (p + (dec (l.drop p)).2)) = (decide (odd l p) || odds l (runesAt l (p + (dec (l.drop p)).2))) := by simp [odds]
      rw [e, ih _ (by omega) g2]
      by_cases ho : odd l p
      · simp [ho]
      · simp [ho]
    · rw [runesAt_end l p (by omega), validAt_end l p (by omega)]; rfl
theorem odds_all (l : List UInt8) : odds l (runes l) = !(Lib.validD l) := odds_all_at l l.length 0 (by omega) (by omega)

theorem piece_of (s : ByteArray) (q : Nat) (hq : q < s.size) (hv : ¬ odd s.data.toList q) : strOf (Lib.encodeRune ((dec (s.data.toList.drop q)).1 : Int)) = s.extract q (q + (dec (s.data.toList.drop q)).2) := by
  have hL : q < s.data.toList.length := by rw [size_data]; exact hq
  have hg2 := dec_in hL
  rw [size_data] at hg2
  apply ba_ext
  rw [extract_data _ _ _ hg2, show q + (dec (s.data.toList.drop q)).2 - q = (dec (s.data.toList.drop q)).2 by omega, dec_form _ (drop_ne hL) hv]
  simp [strOf]

/-- What the rounds carry. -/
def Inv (s : ByteArray) (w : World) (b1 b2 : Nat) (pre : List (Nat × Nat)) (W : World) : Prop :=
  (Boxed W w.heap.size 9 (.string s) ∧ Boxed W (w.heap.size + 1) 4 (.bool false) ∧ Boxed W b1 3 (.int .i64 (done s.data.toList pre).length) ∧ Boxed W (b1 + 1) 9 (.string (s.extract 0 (done s.data.toList pre).length)) ∧ Boxed W b2 4 (.bool (odds s.data.toList pre)) ∧ Boxed W (b2 + 1) 9 (.string s)) ∧ Below w.heap.size w W
theorem inv_own (s : ByteArray) (w : World) (b1 b2 B : Nat) (hB : w.heap.size ≤ B) : OwnFrom B (Inv s w b1 b2) := by
  refine OwnFrom.and (Own.from ?_ _) (ownFrom_below (Nat.le_refl _) hB)
  exact fun q X Y row hs hg hr => ⟨boxed_own _ _ (fun _ : List (Nat × Nat) => .string s) q X Y row hs.1 hg hr, boxed_own _ _ (fun _ : List (Nat × Nat) => .bool false) q X Y row hs.2.1 hg hr, boxed_own _ _ (fun pre : List (Nat × Nat) => .int .i64 (done s.data.toList pre).length) q X Y row hs.2.2.1 hg hr, boxed_own _ _ (fun pre : List (Nat × Nat) => .string (s.extract 0 (done s.data.toList pre).length)) q X Y row hs.2.2.2.1 hg hr, boxed_own _ _ (fun pre : List (Nat × Nat) => .bool (odds s.data.toList pre)) q X Y row hs.2.2.2.2.1 hg hr, boxed_own _ _ (fun _ : List (Nat × Nat) => .string s) q X Y row hs.2.2.2.2.2 hg hr⟩
theorem post_of {s : ByteArray} {w W x2 X : World} {b1 b2 : Nat} {pre : List (Nat × Nat)} (h1 : w.heap.size + 2 ≤ b1) (h2 : b1 + 2 ≤ b2) (h0 : 2 ≤ w.heap.size) (hB : Below w.heap.size w W) (hb3 : Below W.heap.size W x2) (hk : Kept x2 X (fun b => b = b1 ∨ b = b1 + 1 ∨ b = b2)) (hko : KeepsOthers x2 X) (hBX : Below w.heap.size x2 X)
    (es : Boxed W w.heap.size 9 (.string s)) (er : Boxed W (w.heap.size + 1) 4 (.bool false)) (eS : Boxed W (b2 + 1) 9 (.string s))
    (c3 : Boxed X b1 3 (.int .i64 (done s.data.toList pre).length)) (c4 : Boxed X (b1 + 1) 9 (.string (s.extract 0 (done s.data.toList pre).length))) (c6 : Boxed X b2 4 (.bool (odds s.data.toList pre))) :
    KeepsOthers W X ∧ KpB (b2 + 1) W X ∧ Inv s w b1 b2 pre X := by
  refine ⟨(KeepsOthers.of_grownBy (grown_of_below hb3 none) (fun j o e _ => by cases e)).trans hko, (KpB.of_below hb3).trans (KpB.of_kept hk (fun b hb => by omega)), ⟨?_, ?_, c3, c4, c6, ?_⟩, (below_step hB hb3).trans hBX⟩
  · exact blk_kept (boxed_below es hb3) hk (by omega)
  · exact blk_kept (boxed_below er hb3) hk (by omega)
  · exact blk_kept (boxed_below eS hb3) hk (by omega)

set_option maxRecDepth 100000 in
set_option maxHeartbeats 4000000 in
theorem walk (s : ByteArray) (hs : s.size ≤ 140737488351232) (w : World) (ht : Tabs w) :
    Calls Tryd.prog 6 #[.string s] w fun e w' => e = .returned (.bool true) ∧ Below w.heap.size w w' := by
  have h2 := ht.size
  have hs' : s.size ≤ 140737488355328 := by omega
  refine (callsIn_wide (n := 20)).1 ?_
  refine callsIn_of_wp_marks Tryd.func6 rfl trivial ?_ rfl
  simp only [Tryd.ntmps6, List.size_toArray, List.length_cons, List.length_nil, Nat.reduceAdd, Nat.reduceSub, Array.replicate_succ, Array.replicate_zero, List.push_toArray, List.append_toArray, List.nil_append, List.cons_append]
  obtain ⟨wr, hwr⟩ : ∃ wr, wr = (w.alloc (.cells #[.string s] 9)).alloc (.cells #[.bool false] 4) := ⟨_, rfl⟩
  have hBw : Below w.heap.size w wr := by rw [hwr]; exact below_alloc (below_alloc (Below.refl _ _) _) _
  have hzr : wr.heap.size = w.heap.size + 2 := by rw [hwr, World.size_alloc, World.size_alloc]
  have hBs0 : Boxed wr w.heap.size 9 (.string s) := by rw [hwr]; exact (Boxed.new _ _ _).alloc _
  have hBr0 : Boxed wr (w.heap.size + 1) 4 (.bool false) := by
    have := Boxed.new (w.alloc (.cells #[.string s] 9)) 4 (.bool false)
    rw [World.size_alloc] at this; rw [hwr]; exact this
  have HT : Aside0 (Tabs wr) := Aside0.mk (ht.step hBw)
  have HZ := Aside0.mk hwr
  clear hwr
  gi_wp2_with (fail)
  rw [← HZ.out]
  gi_wp2_with (first
    | (refine ⟨trivial, ?_⟩; gi_at_call 23; refine (callsIn_wide.2 (known_c _ HT.out)).mono ?_; rintro e w1 ⟨rfl, hb⟩; have cs1 := (((boxed_below hBs0 hb).alloc (.cells #[.int .i64 0] 3)).alloc (.cells #[.string ⟨#[]⟩] 9)).cell)
    | (refine ⟨trivial, ?_⟩; gi_at_call 17; refine (callsIn_wide.2 (valid_c s hs' _ (((HT.out.step hb).step (below_alloc (Below.refl _ _) _)).step (below_alloc (Below.refl _ _) _)))).mono ?_; rintro e w2 ⟨rfl, hb2⟩; clear cs1; have cs2 := ((boxed_below (((boxed_below hBs0 hb).alloc (.cells #[.int .i64 0] 3)).alloc (.cells #[.string ⟨#[]⟩] 9)) hb2).alloc (.cells #[.bool false] 4)).cell)
    | (refine ⟨trivial, ?_⟩; gi_at_call 20; refine (callsIn_wide.2 (runes_c s _)).mono ?_; clear cs2; rintro e w3 ⟨rfl, rfl⟩))
  obtain ⟨W0, hW0⟩ : ∃ W0, (w2.alloc (.cells #[.bool false] 4)).alloc (.cells #[.string s] 9) = W0 := ⟨_, rfl⟩
  rw [hW0]
  have hz1 : wr.heap.size ≤ w1.heap.size := hb.size
  have hz2 : w1.heap.size + 2 ≤ w2.heap.size := by have := hb2.size; simpa using this
  have hb0 : Below w2.heap.size w2 W0 := by rw [← hW0]; exact below_alloc (below_alloc (Below.refl _ _) _) _
  have hsz : W0.heap.size = w2.heap.size + 2 := by rw [← hW0]; simp
  have bs : Boxed W0 w.heap.size 9 (.string s) := boxed_below (boxed_below (((boxed_below hBs0 hb).alloc _).alloc _) hb2) hb0
  have br : Boxed W0 (w.heap.size + 1) 4 (.bool false) := boxed_below (boxed_below (((boxed_below hBr0 hb).alloc _).alloc _) hb2) hb0
  have b3 : Boxed W0 w1.heap.size 3 (.int .i64 0) := boxed_below (boxed_below ((Boxed.new w1 3 (.int .i64 0)).alloc _) hb2) hb0
  have b4 : Boxed W0 (w1.heap.size + 1) 9 (.string ⟨#[]⟩) := by
    have := Boxed.new (w1.alloc (.cells #[.int .i64 0] 3)) 9 (.string ⟨#[]⟩)
    rw [World.size_alloc] at this
    exact boxed_below (boxed_below this hb2) hb0
  have b6 : Boxed W0 w2.heap.size 4 (.bool false) := by rw [← hW0]; exact (Boxed.new _ _ _).alloc _
  have bS : Boxed W0 (w2.heap.size + 1) 9 (.string s) := by
    have := Boxed.new (w2.alloc (.cells #[.bool false] 4)) 9 (.string s)
    rw [World.size_alloc, hW0] at this; exact this
  have hBW : Below w.heap.size w W0 := below_step (below_step (below_step hBw hb) (below_step (below_alloc (below_alloc (Below.refl _ _) _) _) hb2)) hb0
  have hT0 : Tabs W0 := by
    refine Tabs.below (B := w.heap.size) ?_ (below_step (below_step hb (below_step (below_alloc (below_alloc (Below.refl _ _) _) _) hb2)) hb0 |>.mono (by omega)) h2
    exact HT.out
  clear hW0 hb hb2 hb0 HT HZ hBs0 hBr0 hBw
  refine range_known (F := Fence.wide) (n := 20) (xs := runes s.data.toList) rfl (by omega) (gf := 49) (lb := #[.pointer (some ⟨w2.heap.size + 1, 0, none⟩)]) rfl trivial (enters_of Tryd.func49 (by kernel_rfl) rfl)
    (runes_seq 19 (by omega) (w2.heap.size + 1) s hs' W0 bS.cell hT0) (fun h k => KpB.trans h k) (KpB.putObj (by omega) (by omega)) (Below.refl _ _) (fun _ => rfl)
    (Inv s w w1.heap.size w2.heap.size)
    (fun _ _ _ => False)
    ?hI (fun _ _ _ _ _ hs _ _ => hs) ⟨⟨bs, br, b3, by rw [show s.extract 0 (done s.data.toList []).length = ⟨#[]⟩ from ba_ext (by simp [done])]; exact b4, b6, bS⟩, hBW⟩ ?a1 ?assign ?body ?done ?stop
  case hI => exact inv_own _ _ _ _ _ (by omega)
  case assign =>
    intro l x W K hK
    have HK := Aside0.mk hK
    clear hK
    unfold encR
    gi_wp2
    exact HK.out
  case body =>
    rintro l pre ⟨q, r⟩ rest W hxs ⟨⟨cs, cr, c3, c4, c6, cS⟩, hB⟩
    obtain ⟨hx1, hx2, _⟩ := runes_split hxs
    have hdl := done_length hxs
    have hg2 := dec_in hx1
    have hg1 := dec_ge1 (s.data.toList.drop q)
    have hg3 := dec_le4 (s.data.toList.drop q)
    have hg4 := dec_rune (s.data.toList.drop q)
    have hsn := done_snoc s.data.toList pre (q, r)
    have hos := odds_snoc s.data.toList pre (q, r)
    have hpl := piece_length s.data.toList q hx1
    dsimp only at hx1 hx2 hdl hg2 hg1 hsn hpl hos
    have hTW : Tabs W := ht.step hB
    have hcs := cs.cell
    have hb0' : q < s.size := by rw [size_data] at hx1; exact hx1
    rw [size_data] at hg2
    have hnx : ∀ W', Tabs W' → Calls Tryd.prog 15 #[.string s, .int .i64 q] W' fun e w' => e = .returned (.tuple #[.int .i32 r, .int .i64 (dec (s.data.toList.drop q)).2]) ∧ Below W'.heap.size W' w' := fun W' h => by
      rw [hx2]; exact next_in s q hb0' hs' W' h
    have hpc := piece_of s q hb0'
    have hnl : (done s.data.toList (pre ++ [(q, r)])).length = q + (dec (s.data.toList.drop q)).2 := by rw [hsn, List.length_append, hdl, hpl]
    rw [hdl] at c3 c4
    rw [← hx2] at hpc hg4
    have hod : odd s.data.toList q ↔ (r = 65533 ∧ (dec (s.data.toList.drop q)).2 = 1) := by unfold odd; rw [← hx2]
    clear hx1 hx2 hpl hsn hdl hxs
    generalize dec (s.data.toList.drop q) = dd at hnx hpc hg2 hg1 hg3 hnl hod
    obtain ⟨_, d⟩ := dd
    dsimp only at hnx hpc hg2 hg1 hg3 hnl hod
    have i1 : ¬ ((d : Int) < 1) := by omega
    have i2 : ¬ ((4 : Int) < (d : Int)) := by omega
    have i3 : ¬ ((s.size : Int) < (q : Int) + (d : Int)) := by omega
    have i4 : (q : Int) + (d : Int) ≤ (s.size : Int) := by omega
    have i5 : (q : Int) ≤ (q : Int) + (d : Int) := by omega
    have hvr : Lib.validRune (r : Int) = true := by rw [valid_iff]; omega
    have hput := put_yes (r : Int) (by omega) (by omega) hvr
    by_cases ho : odd s.data.toList q
    · obtain ⟨rfl, rfl⟩ := hod.1 ho
      clear i1 i2 i3 i4 i5
      have j3 : ¬ ((s.size : Int) < (q : Int) + 1) := by omega
      have j4 : (q : Int) + 1 ≤ (s.size : Int) := by omega
      have j5 : (q : Int) ≤ (q : Int) + 1 := by omega
      have HO := Aside0.mk hos
      have HL := Aside0.mk hnl
      clear hos hnl hod hpc hvr hg4
      generalize odds s.data.toList pre = O at c6 HO
      gi_wp2_with (first
          | (refine ⟨trivial, ?_⟩; gi_at_call 15; refine (CallsIn.inRound l (callsIn_wide.2 (hnx _ hTW))).mono ?_; clear hnx; rintro e x1 ⟨rfl, hb1⟩; have k3 := (boxed_below c3 hb1).cell; have ks := (boxed_below cs hb1).cell)
          | (refine ⟨trivial, ?_⟩; gi_at_call 24; refine (CallsIn.inRound l (callsIn_wide.2 (hput _))).mono ?_; clear hput k3 ks; rintro e x2 ⟨rfl, hb2⟩; have hb3 := below_step hb1 hb2; clear hb1 hb2; have e3 := boxed_below c3 hb3; have es := boxed_below cs hb3; have e4 := boxed_below c4 hb3; have e6 := boxed_below c6 hb3; have k3 := e3.cell; have ks := es.cell; have k4 := e4.cell; have f3 := e3.frozen; have f4 := e4.frozen; have k6 := e6.cell; have f6 := e6.frozen))
      refine post_of (by omega) (by omega) h2 hB hb3 ((((Kept.refl x2 (fun b => b = w1.heap.size ∨ b = w1.heap.size + 1 ∨ b = w2.heap.size)).setCell (p := ⟨w2.heap.size, 0, none⟩) (.inl (.inr (.inr rfl))) _).setCell (p := ⟨w1.heap.size + 1, 0, none⟩) (.inl (.inr (.inl rfl))) _).setCell (p := ⟨w1.heap.size, 0, none⟩) (.inl (.inl rfl)) _) ((KeepsOthers.setCell _ _ _).trans ((KeepsOthers.setCell _ _ _).trans (KeepsOthers.setCell _ _ _))) ((((Below.refl _ _).setCell (p := ⟨w2.heap.size, 0, none⟩) (show w.heap.size ≤ w2.heap.size by omega) _).setCell (p := ⟨w1.heap.size + 1, 0, none⟩) (show w.heap.size ≤ w1.heap.size + 1 by omega) _).setCell (p := ⟨w1.heap.size, 0, none⟩) (show w.heap.size ≤ w1.heap.size by omega) _) cs cr cS ?_ ?_ ?_
      · rw [HL.out, Int.natCast_add]; exact ((e3.other (by omega) _).other (by omega) _).set _
      · rw [HL.out]; exact ((e4.other (by omega) _).set _).other (by omega) _
      · rw [HO.out, decide_eq_true ho, Bool.or_true]; exact ((e6.set _).other (by omega) _).other (by omega) _
    · rw [hpc ho] at hput
      have HO := Aside0.mk hos
      have HL := Aside0.mk hnl
      have HR := Aside0.mk (fun h1 h2 => ho (hod.2 ⟨h1, h2⟩))
      clear hos hnl hod hpc hvr hg4
      by_cases hr : r = 65533
      · subst hr
        have hd1 : ¬ ((d : Int) = 1) := fun h => HR.out rfl (by omega)
        generalize odds s.data.toList pre = O at c6 HO
        gi_wp2_with (first
          | (refine ⟨trivial, ?_⟩; gi_at_call 15; refine (CallsIn.inRound l (callsIn_wide.2 (hnx _ hTW))).mono ?_; clear hnx; rintro e x1 ⟨rfl, hb1⟩; have k3 := (boxed_below c3 hb1).cell; have ks := (boxed_below cs hb1).cell)
          | (refine ⟨trivial, ?_⟩; gi_at_call 24; refine (CallsIn.inRound l (callsIn_wide.2 (hput _))).mono ?_; clear hput k3 ks; rintro e x2 ⟨rfl, hb2⟩; have hb3 := below_step hb1 hb2; clear hb1 hb2; have e3 := boxed_below c3 hb3; have es := boxed_below cs hb3; have e4 := boxed_below c4 hb3; have k3 := e3.cell; have ks := es.cell; have k4 := e4.cell; have f3 := e3.frozen; have f4 := e4.frozen))
        refine post_of (by omega) (by omega) h2 hB hb3 (((Kept.refl x2 (fun b => b = w1.heap.size ∨ b = w1.heap.size + 1 ∨ b = w2.heap.size)).setCell (p := ⟨w1.heap.size + 1, 0, none⟩) (.inl (.inr (.inl rfl))) _).setCell (p := ⟨w1.heap.size, 0, none⟩) (.inl (.inl rfl)) _) ((KeepsOthers.setCell _ _ _).trans (KeepsOthers.setCell _ _ _)) (((Below.refl _ _).setCell (p := ⟨w1.heap.size + 1, 0, none⟩) (show w.heap.size ≤ w1.heap.size + 1 by omega) _).setCell (p := ⟨w1.heap.size, 0, none⟩) (show w.heap.size ≤ w1.heap.size by omega) _) cs cr cS ?_ ?_ ?_
        · rw [HL.out, Int.natCast_add]; exact (e3.other (by omega) _).set _
        · rw [HL.out]; exact (e4.set _).other (by omega) _
        · rw [HO.out, decide_eq_false ho, Bool.or_false]; exact ((boxed_below c6 hb3).other (by omega) _).other (by omega) _
      · have hr' : ¬ ((r : Int) = 65533) := by omega
        clear hr
        generalize odds s.data.toList pre = O at c6 HO
        gi_wp2_with (first
          | (refine ⟨trivial, ?_⟩; gi_at_call 15; refine (CallsIn.inRound l (callsIn_wide.2 (hnx _ hTW))).mono ?_; clear hnx; rintro e x1 ⟨rfl, hb1⟩; have k3 := (boxed_below c3 hb1).cell; have ks := (boxed_below cs hb1).cell)
          | (refine ⟨trivial, ?_⟩; gi_at_call 24; refine (CallsIn.inRound l (callsIn_wide.2 (hput _))).mono ?_; clear hput k3 ks; rintro e x2 ⟨rfl, hb2⟩; have hb3 := below_step hb1 hb2; clear hb1 hb2; have e3 := boxed_below c3 hb3; have es := boxed_below cs hb3; have e4 := boxed_below c4 hb3; have k3 := e3.cell; have ks := es.cell; have k4 := e4.cell; have f3 := e3.frozen; have f4 := e4.frozen))
        refine post_of (by omega) (by omega) h2 hB hb3 (((Kept.refl x2 (fun b => b = w1.heap.size ∨ b = w1.heap.size + 1 ∨ b = w2.heap.size)).setCell (p := ⟨w1.heap.size + 1, 0, none⟩) (.inl (.inr (.inl rfl))) _).setCell (p := ⟨w1.heap.size, 0, none⟩) (.inl (.inl rfl)) _) ((KeepsOthers.setCell _ _ _).trans (KeepsOthers.setCell _ _ _)) (((Below.refl _ _).setCell (p := ⟨w1.heap.size + 1, 0, none⟩) (show w.heap.size ≤ w1.heap.size + 1 by omega) _).setCell (p := ⟨w1.heap.size, 0, none⟩) (show w.heap.size ≤ w1.heap.size by omega) _) cs cr cS ?_ ?_ ?_
        · rw [HL.out, Int.natCast_add]; exact (e3.other (by omega) _).set _
        · rw [HL.out]; exact (e4.set _).other (by omega) _
        · rw [HO.out, decide_eq_false ho, Bool.or_false]; exact ((boxed_below c6 hb3).other (by omega) _).other (by omega) _
  case done =>
    rintro D W hD ⟨⟨cs, cr, c3, c4, c6, cS⟩, hB⟩ hK
    have hfull : (done s.data.toList (runes s.data.toList)).length = s.size := by rw [done_all, foldD_length, size_data]
    have hod := odds_all s.data.toList
    rw [hfull] at c3 c4
    rw [hod] at c6
    rw [show s.extract 0 s.size = s from ba_ext (by rw [extract_data _ _ _ (Nat.le_refl _), List.drop_zero, Nat.sub_zero, ← size_data, List.take_length])] at c4
    have ks := cs.cell
    have kr := cr.cell
    have fr := cr.frozen
    have k3 := c3.cell
    have k4 := c4.cell
    have k6 := c6.cell
    have hne : ∀ b : Bool, (b == !(!b)) = true := fun b => by cases b <;> rfl
    have hv := hne (Lib.validD s.data.toList)
    generalize Lib.validD s.data.toList = V at k6 hv
    clear hfull hod cs c3 c4 c6 cS hne
    gi_wp2
    have hK' := (KeepsOthers.setCell W ⟨w.heap.size + 1, 0, none⟩ (.bool true)).same D _ hK rfl
    refine ⟨by simp, .inl ⟨_, _, rfl, run_takeDeferred hK', ?_⟩⟩
    have hc5 := Go.cell_kept (World.cell?_setCell_same' W ⟨w.heap.size + 1, 0, none⟩ (.bool true) (by rw [kr]; rfl)) (grownBy_putObj' _ D (.deferred none)) (fun r e => by cases e; exact ⟨_, hK', rfl⟩)
    refine ⟨.bool true, ?_, rfl, (hB.setCell (p := ⟨w.heap.size + 1, 0, none⟩) (show w.heap.size ≤ w.heap.size + 1 by omega) _).trans (belowK_b (w := w) (Nat.le_refl _) _ D _ _ (by omega) hK' rfl rfl)⟩
    simp [results, Tryd.f6, go_sem, hc5]
  case stop =>
    rintro D c pre W _ _ h _
    exact h.elim

end Go.Proofs.YtgbphkckiekehaaDoor.wholeLaw
