/- The functions of package fold walked: runes, folding, classes; a builder of one's own; a range over an iterator whose row is known. -/
import Derived.RangeFuncFrom
import Derived.RangeFuncBound
import Derived.RangeFuncCalls
import Derived.RangeFuncLeaves
import Derived.RangeFuncNested
import Derived.Test.YtgbphkckiekehaaDoorShelf
import Derived.Shelf.Strings.BuilderK
import Derived.Shelf.Strings.BuilderRune
import Derived.Shelf.Unicode.DecodeAny
import Derived.Shelf.Unicode.ValidAny
import Derived.WalkKit
import Derived.Below
import Derived.Test.YtgbphkckiekehaaDoorBB
import Derived.RangeFuncBox
import Derived.Shelf.Abstract
import Derived.Shelf.RegionOpen
import Derived.Lib.Hide
import Derived.OwnWalkIn
import Derived.TacticsInMore
import Derived.LoopNIn
import Derived.LoopIn
namespace Go.Proofs.YtgbphkckiekehaaDoor.Seq
open Go Go.RowKit

variable {F : Fence} {n : Nat} {P : Program}

/-- The iterator hands over 'xs', in this order, or its first part where a round says 'no more'. -/
def SeqQ {α : Type} (F : Fence) (n : Nat) (P : Program) (g : Nat) (lb : Array Value) (encs : α → Array Value) (Kp : World → World → Prop) (xs : List α) (w : World) : Prop :=
  ∀ (l : Nat) (J Jx : List α → World → Prop) (W : World), Below w.heap.size w W → AbidesFrom W.heap.size J → AbidesFrom W.heap.size Jx →
    (∀ pre x rest W1, xs = pre ++ x :: rest → J pre W1 → YieldAt F (n - 1) P l (encs x) W1 fun e W' =>
      (e = .returned (.bool true) ∧ J (pre ++ [x]) W' ∧ Kp W1 W') ∨ (e = .returned (.bool false) ∧ Jx (pre ++ [x]) W')) →
    J [] W →
    CallsIn F n P g (#[.func (.yield l) #[] #[]] ++ lb) W fun e W' => (∃ v, e = .returned v) ∧ (J xs W' ∨ (∃ pre, pre <+: xs ∧ Jx pre W'))

set_option maxHeartbeats 1000000 in
/-- The loop: the turn of the kit's own law to a row that is known ahead. -/
theorem range_known {α : Type} {g : Operand} {ps : Array Tmp} {assign body : Code} {Q : Exit → Act → World → Prop} {a : Act} {w : World}
    (hro : F.round = none) (h1 : 1 ≤ n) {gf : Nat} {lb : Array Value} (hg : a.eval g = .func (.func gf) #[] lb) (hFg : F.fn gf) (eg : ∀ args w, (callFunc gf args).run P w = .ok (.enter gf args) w)
    {encs : α → Array Value} {Kp : World → World → Prop} {xs : List α} {w0 : World} (hseq : SeqQ F (n - 1) P gf lb encs Kp xs w0)
    (hKt : ∀ {A B C : World}, Kp A B → Kp B C → Kp A C) (hKb : ∀ (W : World) (l : Nat) (o o' : Obj), w.heap.size ≤ l → W.heap[l]? = some o → o.isCells = false → o.isWalk = false → Kp W (W.putObj l o')) (hb0 : Below w0.heap.size w0 w) (hps : ∀ x, (encs x).size = ps.size)
    (I : List α → World → Prop) (Ix : Code → List α → World → Prop) (hI : OwnFrom w.heap.size I) (hIx : ∀ c, OwnFrom w.heap.size (Ix c)) (h0 : I [] w) (a₁ : α → Act)
    (hassign : ∀ (l : Nat) (x : α) (W : World) (K : Act → World → Prop), K (a₁ x) W →
      assign.wpIn (F.inRound l) (n - 1 - 1) P (Exit.then K (fun _ _ _ => False)) { tmps := (ps.zip (encs x)).foldl (fun t (p, v) => t.setIfInBounds p v) a.tmps, defers := [] } W)
    (hbody : ∀ (l : Nat) (pre : List α) (x : α) (rest : List α) (W : World), xs = pre ++ x :: rest → I pre W → body.wpIn (F.inRound l) (n - 1 - 1) P (ownPostK Kp I Ix (pre ++ [x]) W) (a₁ x) W)
    (hdone : ∀ (D : Nat) (W : World), w.heap.size ≤ D → I xs W → W.heap[D]? = some (.deferred (some [])) → Q .normal { a with defers := { target := .collected D, args := #[] } :: a.defers } W)
    (hstop : ∀ (D : Nat) (c : Code) (pre : List α) (W : World), w.heap.size ≤ D → pre <+: xs → Ix c pre W → W.heap[D]? = some (.deferred (some [])) → c.wpIn F n P Q { a with defers := { target := .collected D, args := #[] } :: a.defers } W) :
    (Code.rangeFunc g ps assign body).wpIn F n P Q a w := by
  refine wpIn_rangeFunc ?_
  intro fn hfn
  rw [hro]
  obtain ⟨rec, hrec⟩ : ∃ rec : LoopState → Option Code → Loop, rec = fun st pe => { state := st, pending := pe, fn, tmps := a.tmps, params := ps, assign, body, defers := w.heap.size } := ⟨_, rfl⟩
  obtain ⟨W1, hW1⟩ : ∃ W1, (w.alloc (.deferred (some []))).alloc (.loop (rec .ready none)) = W1 := ⟨_, rfl⟩
  have hL1 : W1.heap[w.heap.size + 1]? = some (.loop (rec .ready none)) := by
    rw [← hW1]; have := World.alloc_heap_new (w.alloc (.deferred (some []))) (.loop (rec .ready none)); rwa [World.size_alloc] at this
  have hK1 : W1.heap[w.heap.size]? = some (.deferred (some [])) := by
    rw [← hW1]; exact (Below.heap_alloc _ _ _ (by simp)).trans (World.alloc_heap_new w _)
  have hI1 : I [] W1 := by rw [← hW1]; exact hI.alloc _ (hI.alloc _ h0)
  have hb1 : Below w0.heap.size w0 W1 := by
    rw [← hW1]; exact hb0.trans ((((Below.refl _ w).alloc (Nat.le_refl _) _).alloc (by simp) _).mono hb0.size)
  refine ⟨w.heap.size + 1, [{ target := .collected w.heap.size, args := #[] }], W1, { target := .fn (.func gf) lb, args := #[.func (.yield (w.heap.size + 1)) #[] #[]] }, W1, gf,
    #[.func (.yield (w.heap.size + 1)) #[] #[]] ++ lb, W1, ?_, ?_, ?_, ?_, fun _ => h1, ?_⟩
  · rw [← hW1, hrec]; exact run_enterLoop_outer _ _ _ _ _
  · simp only [resolve, hg]
    simp [go_sem]
  · intro f' hf'; simp [Target.leads] at hf'; subst hf'; exact hFg
  · simp [invoke, go_sem, eg]
  · have hnw : ∀ {A B : World} {row : Option Nat}, (∀ r, row = some r → W1.heap.size ≤ r ∧ ∃ o : Obj, A.heap[r]? = some o ∧ o.isWalk = true) → (∀ r, row = some r → w.heap.size ≤ r ∧ ∃ o : Obj, A.heap[r]? = some o ∧ o.isCells = false) :=
      fun hr r e => by obtain ⟨hB, o, ho, hw⟩ := hr r e; exact ⟨by rw [← hW1] at hB; simp at hB; omega, o, ho, Obj.not_cells_of_walk hw⟩
    refine (hseq (w.heap.size + 1)
      (fun pre W => I pre W ∧ W.heap[w.heap.size + 1]? = some (.loop (rec .ready none)) ∧ W.heap[w.heap.size]? = some (.deferred (some [])))
      (fun pre W => ∃ c, Ix c pre W ∧ W.heap[w.heap.size + 1]? = some (.loop (rec .done (some c))) ∧ W.heap[w.heap.size]? = some (.deferred (some [])))
      W1 hb1
      (fun s A B row hs hg' hr => ⟨hI s A B row hs.1 hg' (hnw (B := B) hr), (grownBy_keeps hg' (fun r e => (hr r e).2) hs.2.1 rfl).trans hs.2.1, (grownBy_keeps hg' (fun r e => (hr r e).2) hs.2.2 rfl).trans hs.2.2⟩)
      (fun s A B row hs hg' hr => by
        obtain ⟨c, hc, hl, hk⟩ := hs
        exact ⟨c, hIx c s A B row hc hg' (hnw (B := B) hr), (grownBy_keeps hg' (fun r e => (hr r e).2) hl rfl).trans hl, (grownBy_keeps hg' (fun r e => (hr r e).2) hk rfl).trans hk⟩)
      ?_ ⟨hI1, hL1, hK1⟩).mono ?_
    · rintro pre x rest W hxs ⟨hi, hl, hk⟩
      have hlt : w.heap.size + 1 < W.heap.size := (Array.getElem?_eq_some_iff.1 hl).1
      have hy := run_yield (P := P) (args := encs x) hl (by rw [hrec]; exact hps x)
      rw [hrec] at hy
      refine ⟨fn, _, assign, body, hy, roundIn_of_wpIn hfn (hassign _ x W _ ⟨_, run_beginRound hl (by rw [hrec]), ?_⟩)⟩
      have hl2 : (W.putObj (w.heap.size + 1) (.loop { rec .ready none with state := .busy })).heap[w.heap.size + 1]? = some (.loop { rec .ready none with state := .busy }) := World.putObj_heap_same hlt
      have hk2 : (W.putObj (w.heap.size + 1) (.loop { rec .ready none with state := .busy })).heap[w.heap.size]? = some (.deferred (some [])) := (World.putObj_heap_other (by omega)).trans hk
      have hw2 : Kp W (W.putObj (w.heap.size + 1) (.loop { rec .ready none with state := .busy })) := hKb _ _ _ _ (by omega) hl rfl rfl
      refine wpIn_mono (hbody _ pre x rest _ hxs (hI.putObj _ hi (by omega) hl rfl)) ?_
      have fin : ∀ (jump : Option Code) (W3 : World), KeepsOthers (W.putObj (w.heap.size + 1) (.loop { rec .ready none with state := .busy })) W3 →
          (Instr.endRound (w.heap.size + 1) jump).run P W3 = .ok (.bool jump.isNone) (W3.putObj (w.heap.size + 1) (.loop (rec (if jump.isNone then .ready else .done) jump))) ∧
          W3.heap[w.heap.size + 1]? = some (.loop { rec .ready none with state := .busy }) ∧
          (W3.putObj (w.heap.size + 1) (.loop (rec (if jump.isNone then .ready else .done) jump))).heap[w.heap.size + 1]? = some (.loop (rec (if jump.isNone then .ready else .done) jump)) ∧
          (W3.putObj (w.heap.size + 1) (.loop (rec (if jump.isNone then .ready else .done) jump))).heap[w.heap.size]? = some (.deferred (some [])) := fun jump W3 hk3 => by
        have hl3 := hk3.same _ _ hl2 rfl
        have := run_endRound (P := P) jump hl3
        rw [hrec] at this ⊢
        exact ⟨this, by rw [hrec] at hl3; exact hl3, World.putObj_heap_same (Array.getElem?_eq_some_iff.1 hl3).1, (World.putObj_heap_other (by omega)).trans (hk3.same _ _ hk2 rfl)⟩
      rintro e a3 W3 hp
      cases e with
      | normal =>
        obtain ⟨hk3, hkp3, hi3⟩ := hp
        obtain ⟨hr, hl3, hl4, hk4⟩ := fin none W3 hk3
        exact ⟨_, _, hr, .inl ⟨rfl, ⟨hI.putObj _ hi3 (by omega) hl3 rfl, hl4, hk4⟩, hKt (hKt hw2 hkp3) (hKb _ _ _ _ (by omega) hl3 rfl rfl)⟩⟩
      | ret =>
        obtain ⟨hk3, hi3⟩ := hp
        obtain ⟨hr, hl3, hl4, hk4⟩ := fin (some .ret) W3 hk3
        exact ⟨_, _, hr, .inr ⟨rfl, .ret, (hIx _).putObj _ hi3 (by omega) hl3 rfl, hl4, hk4⟩⟩
      | exit id =>
        obtain ⟨hk3, hi3⟩ := hp
        obtain ⟨hr, hl3, hl4, hk4⟩ := fin (some (.exit id)) W3 hk3
        exact ⟨_, _, hr, .inr ⟨rfl, .exit id, (hIx _).putObj _ hi3 (by omega) hl3 rfl, hl4, hk4⟩⟩
      | goto t =>
        obtain ⟨hk3, hi3⟩ := hp
        obtain ⟨hr, hl3, hl4, hk4⟩ := fin (some (.goto t)) W3 hk3
        exact ⟨_, _, hr, .inr ⟨rfl, .goto t, (hIx _).putObj _ hi3 (by omega) hl3 rfl, hl4, hk4⟩⟩
      | panic ch => exact hp.elim
      | outgrown => exact hp.elim
    · rintro e W2 ⟨⟨v, rfl⟩, (⟨hi, hl, hk⟩ | ⟨pre, hSp, c, hi, hl, hk⟩)⟩
      · exact ⟨none, _, by have := run_endLoop (P := P) hl (by rw [hrec]; simp); rw [hrec] at this; exact this, hdone _ _ (Nat.le_refl _) (hI.putObj _ hi (by omega) hl rfl) ((World.putObj_heap_other (by omega)).trans hk)⟩
      · exact ⟨some c, _, by have := run_endLoop (P := P) hl (by rw [hrec]; simp); rw [hrec] at this; exact this, hstop _ c pre _ (Nat.le_refl _) hSp ((hIx c).putObj _ hi (by omega) hl rfl) ((World.putObj_heap_other (by omega)).trans hk)⟩

end Go.Proofs.YtgbphkckiekehaaDoor.Seq

set_option linter.unusedVariables false
namespace Go.Proofs.YtgbphkckiekehaaDoor.Build
open Go.RowKit Go.Shelf

theorem infoByte : (Tryd.prog.info? 5).map (fun i => (i.zero, i.size, i.bytes)) = some (some (.int .u8 0), 1, 1) := by kernel_rfl
theorem sizeBuilder : (Tryd.prog.info? 66).map (·.size) = some 2 := by kernel_rfl
theorem liesBuilder : liesAt Tryd.prog Tryd.prog.depth 66 (2 / Tryd.prog.cellsOf 66) 0 66 1 = true := by kernel_rfl

set_option maxHeartbeats 1000000 in
set_option maxRecDepth 100000 in
theorem copyCheck_used (b : Nat) (w : World) (h0 : w.cell? ⟨b, 0, none⟩ = some (.pointer (some ⟨b, 0, none⟩))) :
    Calls Tryd.prog 67 #[.pointer (some ⟨b, 0, none⟩)] w fun e w' => e = .returned (.tuple #[]) ∧ w' = w := by
  obtain ⟨j, hj, _⟩ := Option.map_eq_some_iff.1 sizeBuilder
  go_enter Tryd.func67, Tryd.ntmps67
  go_wp2
  rw [Lib.run_neq_ptr_same w _ Tryd.underlying64 hj]
  go_wp2
  go_end0
  exact ⟨rfl, rfl⟩

set_option maxHeartbeats 1000000 in
set_option maxRecDepth 100000 in
theorem copyCheck_fresh (b : Nat) (w : World) (h0 : w.cell? ⟨b, 0, none⟩ = some (.pointer none)) (hsh : w.shape? b = some (66, 2)) (hfz : w.frozen? ⟨b, 0, none⟩ = false) :
    Calls Tryd.prog 67 #[.pointer (some ⟨b, 0, none⟩)] w fun e w' => e = .returned (.tuple #[]) ∧ w' = w.setCell ⟨b, 0, none⟩ (.pointer (some ⟨b, 0, none⟩)) := by
  obtain ⟨j, hj, hjs⟩ := Option.map_eq_some_iff.1 sizeBuilder
  go_enter Tryd.func67, Tryd.ntmps67
  go_wp2
  rw [Lib.run_to_unsafe w ⟨b, 0, none⟩ Tryd.underlying64 Tryd.underlying101 hj (by rw [hjs]; decide) hsh (Nat.zero_lt_succ 1)]
  simp only [Result.andThen]
  rw [Oper.upon_value]
  go_wp2
  rw [run_callFunc_extern Tryd.func84 (by kernel_rfl) (by kernel_rfl) (by kernel_rfl) (e := Extern.AbiNoEscape.same) (by kernel_rfl)]
  rw [Lib.run_noEscape]
  simp only [Result.andThen]
  rw [Oper.upon_value]
  go_wp2
  rw [Lib.run_from_unsafe w ⟨b, 0, none⟩ Tryd.underlying101 Tryd.underlying64 hj hsh liesBuilder]
  simp only [Result.andThen]
  rw [Oper.upon_value]
  go_wp2
  go_end0
  exact ⟨rfl, rfl⟩

theorem copyCheck_k (B b : Nat) (bs : List Value) (w : World) (h : Lib.IsBuilderF 66 5 B b bs w) :
    Calls Tryd.prog 67 #[.pointer (some ⟨b, 0, none⟩)] w fun e w' => e = .returned (.tuple #[]) ∧ (Lib.BuilderAtF 66 5 B b (.pointer (some ⟨b, 0, none⟩)) bs w' ∧ Below B w w' ∧ Lib.OthersKept 5 (some b) w w') := by
  rcases h with h | h
  · refine (copyCheck_fresh b w h.cell0 h.shape h.frozen0).mono ?_
    rintro e w' ⟨rfl, rfl⟩
    exact ⟨rfl, h.used _, (Below.refl B w).setCell (p := ⟨b, 0, none⟩) h.1 _, (Lib.OthersKept.refl _ _ w).setCell ⟨b, 0, none⟩ rfl _⟩
  · refine (copyCheck_used b w h.cell0).mono ?_
    rintro e w' ⟨rfl, rfl⟩
    exact ⟨rfl, h, Below.refl B _, Lib.OthersKept.refl _ _ _⟩

set_option maxHeartbeats 2000000 in
set_option maxRecDepth 100000 in
theorem writeString_k (B b : Nat) (bs : List Value) (s : ByteArray) (w : World) (h : Lib.IsBuilderF 66 5 B b bs w) (hlen : bs.length + s.size ≤ 140737488355328) (hBw : B ≤ w.heap.size) :
    Calls Tryd.prog 51 #[.pointer (some ⟨b, 0, none⟩), .string s] w fun e w' => e = .returned (.tuple #[.int .i64 s.size, .nilIface]) ∧ (Lib.BuilderAtF 66 5 B b (.pointer (some ⟨b, 0, none⟩)) (bs ++ Lib.strCells s) w' ∧ Below B w w' ∧ Lib.OthersKept 5 (some b) w w') := by
  obtain ⟨i0, hi, hz0, hz1, hz2⟩ := info_parts infoByte
  go_enter Tryd.func51, Tryd.ntmps51
  go_wp2_with (go_at_call 67; refine (copyCheck_k B b bs _ h).mono ?_)
  rintro e w1 ⟨rfl, h1, hb1, hk1⟩
  obtain ⟨hB, v, hbk, hown, hne⟩ := h1
  have c0 : w1.cell? ⟨b, 0, none⟩ = some (.pointer (some ⟨b, 0, none⟩)) := by rw [Lib.cell_of_heap hbk]; rfl
  have c1 : w1.cell? ⟨b, 1, none⟩ = some v := by rw [Lib.cell_of_heap hbk]; rfl
  go_wp2_with (at_builtin; refine Lib.wpList_append_own_stringF _ rfl _ _ 61 9 rfl B 5 i0 Tryd.underlying61 Tryd.underlying9 hi hz0 hz1 hz2 _ _ _ rfl hown s rfl ?c3 ?c4 ?c5 ?_)
  case c3 => unfold maxLen; omega
  case c4 => omega
  case c5 => have := hb1.size; omega
  intro v' w2 hown' hgrow _
  have hlt : b < w1.heap.size := by
    rcases Nat.lt_or_ge b w1.heap.size with h' | h'
    · exact h'
    · simp [Array.getElem?_eq_none h'] at hbk
  have hb2 : w2.heap[b]? = some (.cells #[.pointer (some ⟨b, 0, none⟩), v] 66 (0, 0)) := by
    rw [hgrow.block b hlt (fun e => hne e.symm)]
    exact hbk
  have d0 : w2.cell? ⟨b, 0, none⟩ = some (.pointer (some ⟨b, 0, none⟩)) := by rw [Lib.cell_of_heap hb2]; rfl
  have d1 : w2.cell? ⟨b, 1, none⟩ = some v := by rw [Lib.cell_of_heap hb2]; rfl
  have f1 : w2.frozen? ⟨b, 1, none⟩ = false := Lib.frozen_of_heap hb2 1
  obtain ⟨ao, n', cap, rfl⟩ : ∃ ao n' cap, v' = .slice ao n' cap := by
    rcases hown'.2 with ⟨hv, _⟩ | ⟨g, cap, cur, fz, hv, _⟩
    · exact ⟨_, _, _, hv⟩
    · exact ⟨_, _, _, hv⟩
  go_wp2
  go_ret2
  refine ⟨rfl, ?_, ?_, (hk1.grown hgrow (Lib.ownsRowF_kind hown)).setCell ⟨b, 1, none⟩ rfl _⟩
  · exact Lib.BuilderAtF.put (T := 66) (e := 5) hB hb2 (bs' := bs ++ Lib.strCells s) (by simpa [Lib.strCells_length] using hown') (by decide)
  · exact (hb1.grown hgrow (by have := hb1.size; omega) (fun k hk => (hown.lt k hk).1)).setCell (p := ⟨b, 1, none⟩) hB _

set_option maxHeartbeats 2000000 in
set_option maxRecDepth 100000 in
theorem writeRune_k (B b : Nat) (bs : List Value) (r : Int) (hr0 : -2147483648 ≤ r) (hr1 : r ≤ 2147483647) (w : World) (h : Lib.IsBuilderF 66 5 B b bs w) (hlen : bs.length + 4 ≤ 140737488355328) (hBw : B ≤ w.heap.size) :
    Calls Tryd.prog 50 #[.pointer (some ⟨b, 0, none⟩), .int .i32 r] w fun e w' => e = .returned (.tuple #[.int .i64 (Lib.runeCells r).length, .nilIface]) ∧ (Lib.BuilderAtF 66 5 B b (.pointer (some ⟨b, 0, none⟩)) (bs ++ Lib.runeCells r) w' ∧ Below B w w' ∧ Lib.OthersKept 5 (some b) w w') := by
  have hk4 := Lib.runeCells_le r
  go_enter Tryd.func50, Tryd.ntmps50
  go_wp2_with (go_at_call 67; refine (copyCheck_k B b bs _ h).mono ?_)
  rintro e w1 ⟨rfl, h1, hb1, hk1⟩
  obtain ⟨hB, v, hbk, hown, hne⟩ := h1
  obtain ⟨ao, cap, rfl⟩ : ∃ ao cap, v = .slice ao bs.length cap := by
    rcases hown.2 with ⟨hv, h0⟩ | ⟨g, cap, cur, fz, hv, _⟩
    · exact ⟨none, 0, by rw [hv, h0]⟩
    · exact ⟨_, _, hv⟩
  have c0 : w1.cell? ⟨b, 0, none⟩ = some (.pointer (some ⟨b, 0, none⟩)) := by rw [Lib.cell_of_heap hbk]; rfl
  have c1 : w1.cell? ⟨b, 1, none⟩ = some (.slice ao bs.length cap) := by rw [Lib.cell_of_heap hbk]; rfl
  go_wp2_with (go_at_call 55; refine (Tryd.utf8_AppendRune_row B _ bs.length bs r hr0 hr1 _ hown hlen (by have := hb1.size; omega)).mono ?_)
  rintro e w2 ⟨v', rfl, hown', o, hgrow⟩
  have hlt : b < w1.heap.size := by
    rcases Nat.lt_or_ge b w1.heap.size with h' | h'
    · exact h'
    · simp [Array.getElem?_eq_none h'] at hbk
  have hb2 : w2.heap[b]? = some (.cells #[.pointer (some ⟨b, 0, none⟩), .slice ao bs.length cap] 66 (0, 0)) := by
    rw [hgrow.block b (by simp; omega) (fun e => hne e.symm), Lib.alloc_old w1 _ b hlt]
    exact hbk
  have d0 : w2.cell? ⟨b, 0, none⟩ = some (.pointer (some ⟨b, 0, none⟩)) := by rw [Lib.cell_of_heap hb2]; rfl
  have d1 : w2.cell? ⟨b, 1, none⟩ = some (.slice ao bs.length cap) := by rw [Lib.cell_of_heap hb2]; rfl
  have f1 : w2.frozen? ⟨b, 1, none⟩ = false := Lib.frozen_of_heap hb2 1
  obtain ⟨g, cap', rfl⟩ : ∃ g cap', v' = .slice (some ⟨g, 0, none⟩) (bs.length + (Lib.runeCells r).length) cap' := by
    rcases hown'.2 with ⟨_, h0⟩ | ⟨g, cap', cur, fz, hv, _⟩
    · omega
    · exact ⟨g, cap', hv⟩
  go_wp2
  go_ret2
  refine ⟨?_, ?_, ?_, ((hk1.alloc _).grown hgrow (Lib.ownsRowF_kind (hown.alloc _))).setCell ⟨b, 1, none⟩ rfl _⟩
  · have e : ((bs.length : Int) + ((Lib.runeCells r).length : Int) - (bs.length : Int)) = ((Lib.runeCells r).length : Int) := by omega
    simp [e]
  · exact Lib.BuilderAtF.put (T := 66) (e := 5) hB hb2 (bs' := bs ++ Lib.runeCells r) (by simpa using hown') (by decide)
  · exact ((hb1.alloc (by have := hb1.size; omega) _).grown hgrow (by have := hb1.size; simp; omega) (fun k hk => (hown.lt k hk).1)).setCell (p := ⟨b, 1, none⟩) hB _

end Go.Proofs.YtgbphkckiekehaaDoor.Build

set_option linter.unusedVariables false
set_option linter.unusedSimpArgs false
namespace Go.Proofs.YtgbphkckiekehaaDoor.FoldW
open Go.RowKit Go.Shelf Go.Proofs.YtgbphkckiekehaaDoor.QRef Go.Proofs.YtgbphkckiekehaaDoorW.PrintWords Go.Proofs.FoldPlain Go.Proofs.FoldText Go.Proofs.YtgbphkckiekehaaDoor.FoldRef Go.Proofs.YtgbphkckiekehaaDoor.Seq
attribute [local go_sem] Oper.semAt_some

/-- The two tables of unicode/utf8 lie. -/
def Tabs (w : World) : Prop := Lib.Utf8Tabs 0 1 w
theorem Tabs.size {w : World} (h : Tabs w) : 2 ≤ w.heap.size := by
  have h1 := (h.2 0 (by decide)).1
  rcases Nat.lt_or_ge 1 w.heap.size with h' | h'
  · exact h'
  · simp [World.cell?, Array.getElem?_eq_none h'] at h1
theorem Tabs.below {B : Nat} {w w' : World} (h : Tabs w) (hb : Below B w w') (hB : 2 ≤ B) : Tabs w' :=
  ⟨fun c hc => (hb.cell (p := ⟨0, c, none⟩) (show 0 < B by omega)).trans (h.1 c hc),
   fun i hi => ⟨(hb.cell (p := ⟨1, 2 * i, none⟩) (show 1 < B by omega)).trans (h.2 i hi).1, (hb.cell (p := ⟨1, 2 * i + 1, none⟩) (show 1 < B by omega)).trans (h.2 i hi).2⟩⟩
theorem Tabs.step {w w' : World} (h : Tabs w) (hb : Below w.heap.size w w') : Tabs w' := h.below hb h.size

theorem decodeGo_at (s : ByteArray) (p : Nat) (h : p < s.size) : Lib.decodeGo (s.extract p s.size) = dec (s.data.toList.drop p) := by
  have e : (s.extract p s.size).data.toList = s.data.toList.drop p := Lib.extract_to_end s p
  have hs : (s.extract p s.size).size ≠ 0 := by rw [← size_data, e, List.length_drop, size_data]; omega
  unfold Lib.decodeGo
  rw [if_neg hs]
  have := Lib.decodeL_drop (s.extract p s.size) 0
  rw [List.drop_zero, e] at this
  exact this.symm

set_option maxHeartbeats 1000000 in
theorem next_in (s : ByteArray) (p : Nat) (hp : p < s.size) (hs : s.size ≤ 140737488355328) (w : World) (ht : Tabs w) :
    Calls Tryd.prog 15 #[.string s, .int .i64 p] w fun e w' => e = .returned (.tuple #[.int .i32 (dec (s.data.toList.drop p)).1, .int .i64 (dec (s.data.toList.drop p)).2]) ∧ Below w.heap.size w w' := by
  have H := decodeGo_at s p hp
  have HD : Hid (Lib.decodeGo (s.extract p s.size) = dec (s.data.toList.drop p)) := Lib.hid H
  clear H
  have hc : Calls Tryd.prog 45 #[.string (s.extract p s.size)] w fun e w' => e = .returned (.tuple #[.int .i32 (dec (s.data.toList.drop p)).1, .int .i64 (dec (s.data.toList.drop p)).2]) ∧ Below w.heap.size w w' := by
    have := Tryd.utf8_DecodeRuneInString (s.extract p s.size) w ht
    rw [HD.out] at this
    exact this
  clear HD
  generalize dec (s.data.toList.drop p) = d at hc ⊢
  obtain ⟨d1, d2⟩ := d
  have h0 : ¬ ((p : Int) < 0) := by omega
  have h1 : (p : Int) < (s.size : Int) := by omega
  have h2 : (p : Int) ≤ (s.size : Int) := by omega
  have h3 : (0 : Int) ≤ (p : Int) := by omega
  go_enter Tryd.func15, Tryd.ntmps15
  go_wp2_with (go_at_call 45; refine hc.mono ?_; rintro e w' ⟨rfl, hb⟩)
  go_ret2
  exact ⟨rfl, hb⟩

set_option maxHeartbeats 1000000 in
theorem next_out (s : ByteArray) (p : Int) (hp : p < 0 ∨ (s.size : Int) ≤ p) (w : World) :
    Calls Tryd.prog 15 #[.string s, .int .i64 p] w fun e w' => e = .returned (.tuple #[.int .i32 0, .int .i64 0]) ∧ Below w.heap.size w w' := by
  rcases Int.lt_or_le p 0 with h | h
  · go_enter Tryd.func15, Tryd.ntmps15
    go_wp2
    go_ret2
    exact ⟨rfl, Below.refl _ _⟩
  · have h0 : ¬ (p < 0) := by omega
    have h1 : (s.size : Int) ≤ p := by omega
    go_enter Tryd.func15, Tryd.ntmps15
    go_wp2
    go_ret2
    exact ⟨rfl, Below.refl _ _⟩

theorem next_c (s : ByteArray) (p : Int) (hs : s.size ≤ 140737488355328) (w : World) (ht : Tabs w) :
    Calls Tryd.prog 15 #[.string s, .int .i64 p] w fun e w' => e = .returned (.tuple #[.int .i32 (nextD s.data.toList p).1, .int .i64 (nextD s.data.toList p).2]) ∧ Below w.heap.size w w' := by
  by_cases h : p < 0 ∨ (s.size : Int) ≤ p
  · rw [nextD_out _ _ (by rw [size_data]; exact h)]; exact next_out s p h w
  · have e : p = (p.toNat : Int) := by omega
    have hp : p.toNat < s.size := by omega
    have := next_in s p.toNat hp hs w ht
    rw [← e] at this
    rw [show nextD s.data.toList p = nextD s.data.toList (p.toNat : Int) by rw [← e], nextD_in _ _ (by rw [size_data]; exact hp)]
    exact this

theorem valid_c (s : ByteArray) (hs : s.size ≤ 140737488355328) (w : World) (ht : Tabs w) :
    Calls Tryd.prog 17 #[.string s] w fun e w' => e = .returned (.bool (Lib.validD s.data.toList)) ∧ Below w.heap.size w w' := by
  have hc : Calls Tryd.prog 48 #[.string s] w _ := Any.utf8_ValidString Tryd.lays196 s w (by omega) ht
  generalize Lib.validD s.data.toList = V at hc ⊢
  go_enter Tryd.func17, Tryd.ntmps17
  go_wp2_with (go_at_call 48; refine hc.mono ?_; rintro e w' ⟨rfl, hb⟩)
  go_ret
  exact ⟨rfl, hb⟩

/-- The maker of the iterator: the text in a cell of its own. -/
theorem runes_c (s : ByteArray) (w : World) :
    Calls Tryd.prog 20 #[.string s] w fun e w' => e = .returned (.func (.func 49) #[] #[.pointer (some ⟨w.heap.size, 0, none⟩)]) ∧ w' = w.alloc (.cells #[.string s] 9) := by
  go_enter Tryd.func20, Tryd.ntmps20
  go_wp2
  go_ret
  exact ⟨rfl, rfl⟩

/-- What a round keeps: the iterator's own cell, the tables. -/
def KpB (Bs : Nat) (W W' : World) : Prop := W.heap.size ≤ W'.heap.size ∧ ∀ b, b < 2 ∨ b = Bs → b < W.heap.size → W'.heap[b]? = W.heap[b]?
theorem KpB.refl (Bs : Nat) (W : World) : KpB Bs W W := ⟨Nat.le_refl _, fun _ _ _ => rfl⟩
theorem KpB.trans {Bs : Nat} {A B C : World} (h : KpB Bs A B) (k : KpB Bs B C) : KpB Bs A C := ⟨Nat.le_trans h.1 k.1, fun b hb hl => (k.2 b hb (Nat.lt_of_lt_of_le hl h.1)).trans (h.2 b hb hl)⟩
theorem KpB.of_below {Bs : Nat} {A B : World} (h : Below A.heap.size A B) : KpB Bs A B := ⟨h.size, fun b _ hl => h.block b hl⟩
theorem KpB.putObj {Bs : Nat} {w : World} (hB : Bs < w.heap.size) (h2 : 2 ≤ w.heap.size) (W : World) (l : Nat) (o o' : Obj) (hl : w.heap.size ≤ l) (h : W.heap[l]? = some o) (_ : o.isCells = false) (_ : o.isWalk = false) : KpB Bs W (W.putObj l o') :=
  ⟨by simp [World.putObj], fun b hb _ => World.putObj_heap_other (by omega)⟩
theorem KpB.cell {Bs : Nat} {A B : World} (h : KpB Bs A B) {v : Value} (hc : A.cell? ⟨Bs, 0, none⟩ = some v) : B.cell? ⟨Bs, 0, none⟩ = some v := by
  have hl := World.block_lt_of_cell? A _ hc
  have := h.2 Bs (.inr rfl) hl
  simpa [World.cell?, this] using hc
theorem Tabs.kp {Bs : Nat} {A B : World} (h : Tabs A) (k : KpB Bs A B) : Tabs B := by
  have hs := h.size
  have k0 := k.2 0 (.inl (by omega)) (by omega)
  have k1 := k.2 1 (.inl (by omega)) (by omega)
  refine ⟨fun c hc => ?_, fun i hi => ⟨?_, ?_⟩⟩
  · have := h.1 c hc; simpa [World.cell?, k0] using this
  · have := (h.2 i hi).1; simpa [World.cell?, k1] using this
  · have := (h.2 i hi).2; simpa [World.cell?, k1] using this

/-- What the loop over a text's runes hands to its body. -/
def encR (x : Nat × Nat) : Array Value := #[.int .i64 x.1, .int .i32 x.2]

set_option maxRecDepth 100000 in
set_option maxHeartbeats 2000000 in
/-- The iterator: the runes of the text, each with its place. -/
theorem runes_seq (n : Nat) (hn : 1 ≤ n) (Bs : Nat) (s : ByteArray) (hs : s.size ≤ 140737488355328) (w : World)
    (hcell : w.cell? ⟨Bs, 0, none⟩ = some (.string s)) (ht : Tabs w) :
    SeqQ Fence.wide n Tryd.prog 49 #[.pointer (some ⟨Bs, 0, none⟩)] encR (KpB Bs) (runes s.data.toList) w := fun l J Jx W hW hJ hJx hY h0 => by
  refine callsIn_of_wp Tryd.func49 rfl trivial ?_ rfl
  simp only [Tryd.ntmps49, List.size_toArray, List.length_cons, List.length_nil, Nat.reduceAdd, Nat.reduceSub, Array.replicate_succ, Array.replicate_zero, List.push_toArray, List.append_toArray, List.nil_append, List.cons_append]
  have hW0 : KpB Bs w W := KpB.of_below hW
  gi_wp2
  gi_loopw [3] (fun p wr => ∃ (pre : List (Nat × Nat)) (q : Nat), p = .int .i64 q ∧ q ≤ s.size ∧ Hid (runes s.data.toList = pre ++ runesAt s.data.toList q) ∧ J pre wr ∧ KpB Bs w wr ∧ W.heap.size ≤ wr.heap.size)
    (fun p wr => s.size - (intOf p).toNat)
  case atStart =>
    exact ⟨[], 0, rfl, Nat.zero_le _, Lib.hid rfl, h0, hW0, Nat.le_refl _⟩
  case round =>
    obtain ⟨pre, q, rfl, hq, hx, hJs, hBr, hsz⟩ := hrel
    have hc : wr.cell? ⟨Bs, 0, none⟩ = some (.string s) := hBr.cell hcell
    by_cases hlt : q < s.size
    · have ht' : Tabs wr := ht.kp hBr
      have hL : q < s.data.toList.length := by rw [size_data]; exact hlt
      have hg1 := dec_ge1 (s.data.toList.drop q)
      have hg2 := dec_in hL
      rw [size_data] at hg2
      have hx2 : Hid (runes s.data.toList = pre ++ (q, (dec (s.data.toList.drop q)).1) :: runesAt s.data.toList (q + (dec (s.data.toList.drop q)).2)) := Lib.hid (by rw [hx.out, runesAt_step _ _ hL])
      clear hx hL
      have hnext := next_in s q hlt hs wr ht'
      have hlt' : (q : Int) < (s.size : Int) := by omega
      obtain ⟨r, hr⟩ : ∃ r, r = (dec (s.data.toList.drop q)).1 := ⟨_, rfl⟩
      obtain ⟨d, hd⟩ : ∃ d, d = (dec (s.data.toList.drop q)).2 := ⟨_, rfl⟩
      rw [← hr, ← hd] at hnext
      rw [← hr, ← hd] at hx2
      rw [← hd] at hg1 hg2
      clear hr hd
      gi_wp2_with (refine ⟨trivial, ?_⟩; gi_at_call 15; refine (callsIn_wide.2 hnext).mono ?_; clear hnext; rintro e w1 ⟨rfl, hb⟩)
      have hJ1 : J pre w1 := hJ pre wr w1 none hJs (grown_of_below hb none) (fun r e => by cases e)
      obtain ⟨fn, tmps, assign, body, hy, hR⟩ := hY pre (q, r) _ w1 hx2.out hJ1
      dsimp only [encR] at hy
      rw [hy]
      gi_wp2
      refine hR.mono ?_
      rintro e W3 (⟨rfl, hJ3, hk3⟩ | ⟨rfl, hJx3⟩)
      · gi_wp2
        go_roundw
        case rel => exact ⟨pre ++ [(q, r)], q + d, by go_num, hg2, Lib.hid (by rw [hx2.out]; simp), hJ3, (hBr.trans (KpB.of_below hb)).trans hk3, Nat.le_trans (Nat.le_trans hsz hb.size) hk3.1⟩
        case measure => simp [intOf]; omega
      · gi_wp2
        refine bodyPost_ret (results_none rfl _ _ _) rfl ?_
        exact ⟨⟨_, rfl⟩, .inr ⟨pre ++ [(q, r)], ⟨runesAt s.data.toList (q + d), by rw [hx2.out]; simp⟩, hJx3⟩⟩
    · obtain rfl : q = s.size := by omega
      have hend : runes s.data.toList = pre := by rw [hx.out, runesAt_end _ _ (by rw [size_data]; exact Nat.le_refl _), List.append_nil]
      have hJe : J (runes s.data.toList) wr := by rw [hend]; exact hJs
      clear hend hx hJs
      gi_wp2
      go_end0
      exact ⟨⟨_, rfl⟩, .inl hJe⟩

theorem placesZ_at {rs pre rest : List (Nat × Nat)} {x : Nat × Nat} (h : rs = pre ++ x :: rest) : (placesZ rs).getD pre.length 0 = (x.1 : Int) := by
  subst h; simp [placesZ]
theorem runesZ_at {rs pre rest : List (Nat × Nat)} {x : Nat × Nat} (h : rs = pre ++ x :: rest) : (runesZ rs).getD pre.length 0 = (x.2 : Int) := by
  subst h; simp [runesZ]

/-- A row of numbers that is read: its cells, in a block from lo on and below hi. -/
def Row (k : IntKind) (W : World) (lo hi : Nat) (A : Option Addr) (xs : List Int) : Prop :=
  ∀ i, i < xs.length → ∃ g, A = some ⟨g, 0, none⟩ ∧ lo ≤ g ∧ g < hi ∧ W.cell? ⟨g, i, none⟩ = some (.int k (xs.getD i 0))
theorem Row.lower {k : IntKind} {W : World} {lo lo' hi : Nat} {A : Option Addr} {xs : List Int} (h : Row k W lo hi A xs) (hl : lo' ≤ lo) : Row k W lo' hi A xs := fun i hi' => by
  obtain ⟨g, hA, h1, h2, hc⟩ := h i hi'
  exact ⟨g, hA, by omega, h2, hc⟩
theorem Row.own {β : Type} (k : IntKind) (lo hi : Nat) (A : Option Addr) (xs : List Int) : Own (fun (_ : β) W => Row k W lo hi A xs) := fun s W W' row h hg hr i hi' => by
  obtain ⟨g, hA, h1, h2, hc⟩ := h i hi'
  exact ⟨g, hA, h1, h2, Go.cell_kept hc hg hr⟩
theorem Row.of_own {k : IntKind} {W : World} {e base n : Nat} {v : Value} {xs : List Int} (h : W.ownsRow base e 1 v n (nums k xs)) : ∃ A c, v = .slice A xs.length c ∧ Row k W base W.heap.size A xs := by
  have hl : xs.length = n := by have := h.1; simp [nums] at this; exact this
  subst hl
  rcases h.2 with ⟨rfl, h0⟩ | ⟨g, cap, cur, rfl, hg, hh, _⟩
  · exact ⟨none, 0, by rw [h0], fun i hi => by omega⟩
  · refine ⟨_, cap, rfl, fun i hi => ?_⟩
    have hc : W.cell? ⟨g, i, none⟩ = some (.int k (xs.getD i 0)) := by
      have := h.cells (g := g) rfl i (.int k (xs.getD i 0)) (by simp [nums, List.getElem?_eq_getElem hi, List.getD_eq_getElem?_getD])
      have ha : (⟨g, 0, none⟩ : Addr).add i = ⟨g, i, none⟩ := by unfold Addr.add; split <;> simp_all
      rwa [ha] at this
    exact ⟨g, rfl, hg, World.block_lt_of_cell? W _ hc, hc⟩

end Go.Proofs.YtgbphkckiekehaaDoor.FoldW

set_option linter.unusedVariables false
set_option linter.unusedSimpArgs false
namespace Go.Proofs.YtgbphkckiekehaaDoor.FoldF
open Go.RowKit Go.Shelf Go.Proofs.YtgbphkckiekehaaDoor.QRef Go.Proofs.YtgbphkckiekehaaDoorW.PrintWords Go.Proofs.FoldPlain Go.Proofs.FoldText Go.Proofs.YtgbphkckiekehaaDoor.FoldRef Go.Proofs.YtgbphkckiekehaaDoor.Seq Go.Proofs.YtgbphkckiekehaaDoor.FoldW Go.Proofs.YtgbphkckiekehaaDoor.FoldBridge
attribute [local go_sem] Oper.semAt_some

theorem lower_c (a : Int) (w : World) : Calls Tryd.prog 25 #[.int .i32 a] w fun e w' => e = .returned (.int .i32 (lowerD a)) ∧ Below w.heap.size w w' :=
  (fold_Lower.calls 7 a _ w (lower_f 0 a)).mono fun _ _ ⟨he, hw⟩ => ⟨he, by obtain ⟨n, rfl⟩ := hw.out; exact pw_below_drewN (Below.refl _ _) n⟩

theorem builder_grown {B b : Nat} {bs : List Value} {W W' : World} {row : Option Nat} (h : Lib.IsBuilderF 66 5 B b bs W) (hg : W.grownBy W' row) (hr : ∀ r, row = some r → ∃ o : Obj, W.heap[r]? = some o ∧ o.isCells = false) : Lib.IsBuilderF 66 5 B b bs W' := by
  have key : ∀ p, Lib.BuilderAtF 66 5 B b p bs W → Lib.BuilderAtF 66 5 B b p bs W' := by
    rintro p ⟨hB, v, hb, hown, hne⟩
    refine ⟨hB, v, (grownBy_keeps_cells hg hr hb rfl).trans hb, hown.kept hg ?_, hne⟩
    rcases hown.2 with ⟨rfl, _⟩ | ⟨g, cap, cur, fz, rfl, _, hgg, _⟩
    · exact .inl rfl
    · right
      intro e
      obtain ⟨o, ho, hc⟩ := hr g (by rw [← e]; rfl)
      rw [hgg] at ho; cases ho; cases hc
  exact h.elim (fun x => .inl (key _ x)) (fun x => .inr (key _ x))
theorem builder_below {B b : Nat} {bs : List Value} {W W' : World} (h : Lib.IsBuilderF 66 5 B b bs W) (hb : Below W.heap.size W W') : Lib.IsBuilderF 66 5 B b bs W' :=
  builder_grown h (grown_of_below hb none) (fun r e => by cases e)
theorem builder_cells {B b : Nat} {bs : List Value} {W : World} (h : Lib.IsBuilderF 66 5 B b bs W) : ∃ cs, W.heap[b]? = some (.cells cs 66 (0, 0)) := by
  rcases h with ⟨_, v, hb, _⟩ | ⟨_, v, hb, _⟩ <;> exact ⟨_, hb⟩
/-- What a writing call keeps. -/
theorem others_of {B b : Nat} {bs : List Value} {W W' : World} (h : Lib.IsBuilderF 66 5 B b bs W) (hb : Below B W W') (hk : Lib.OthersKept 5 (some b) W W') : KeepsOthers W W' :=
  ⟨hb.size, fun k o ho hc => by
    obtain ⟨cs, hbb⟩ := builder_cells h
    refine hk k o ho (fun e => ?_) (fun c fz e => by rw [e] at hc; cases hc)
    cases e
    rw [hbb] at ho; cases ho; cases hc⟩
theorem boxed_others {b : Nat} {W W' : World} {B' : Nat} {t : TypeId} {v : Value} (h : Boxed W B' t v) (hk : Lib.OthersKept 5 (some b) W W') (hne : B' ≠ b) (ht : t ≠ 5) : Boxed W' B' t v :=
  hk B' _ h (fun e => hne (by cases e; rfl)) (fun c fz e => by cases e; exact ht rfl)
theorem boxed_below {W W' : World} {B' : Nat} {t : TypeId} {v : Value} (h : Boxed W B' t v) (hb : Below W.heap.size W W') : Boxed W' B' t v := h.kept (grown_of_below hb none) (by simp)
theorem kp_of {B b Bs : Nat} {v : Value} {W W' : World} (hb : Below B W W') (hk : Lib.OthersKept 5 (some b) W W') (h2 : 2 ≤ B) (hS : Boxed W Bs 9 v) (hne : Bs ≠ b) : KpB Bs W W' :=
  ⟨hb.size, fun k hk' hl => by
    rcases hk' with h | rfl
    · exact hb.block k (by omega)
    · rw [show W.heap[k]? = _ from hS]; exact boxed_others hS hk hne (by decide)⟩

/-- The folded text of the runes that have come. -/
def done (l : List UInt8) (pre : List (Nat × Nat)) : List UInt8 := pre.flatMap fun x => piece l x.1
theorem done_snoc (l : List UInt8) (pre : List (Nat × Nat)) (x : Nat × Nat) : done l (pre ++ [x]) = done l pre ++ piece l x.1 := by simp [done]
theorem done_all_at (l : List UInt8) : ∀ (d p : Nat), l.length ≤ p + d → p ≤ l.length → done l (runesAt l p) = foldAt l p := by
  intro d
  induction d with
  | zero => intro p h0 h1; rw [runesAt_end l p (by omega), foldAt_end l p (by omega)]; rfl
  | succ d ih =>
    intro p h0 h1
    by_cases h : p < l.length
    · have g1 := dec_ge1 (l.drop p)
      have g2 := dec_in h
      rw [runesAt_step l p h, foldAt_step l p h, ← ih (p + (dec (l.drop p)).2) (by omega) g2]
      simp [done]
    · rw [runesAt_end l p (by omega), foldAt_end l p (by omega)]; rfl
theorem done_all (l : List UInt8) : done l (runes l) = foldD l := done_all_at l l.length 0 (by omega) (by omega)
/-- How long it is: where the next rune begins. -/
theorem done_length_at (l : List UInt8) : ∀ (pre : List (Nat × Nat)) (q : Nat) (x : Nat × Nat) (rest : List (Nat × Nat)), q ≤ l.length → runesAt l q = pre ++ x :: rest → q + (done l pre).length = x.1
  | [], q, x, rest, hq, h => by
    by_cases hp : q < l.length
    · rw [runesAt_step l q hp] at h
      simp only [List.nil_append, List.cons.injEq] at h
      obtain ⟨rfl, _⟩ := h
      simp [done]
    · rw [runesAt_end l q (by omega)] at h; simp at h
  | y :: pre, q, x, rest, hq, h => by
    by_cases hp : q < l.length
    · rw [runesAt_step l q hp] at h
      simp only [List.cons_append, List.cons.injEq] at h
      obtain ⟨rfl, h⟩ := h
      have := done_length_at l pre _ x rest (dec_in hp) h
      have e : done l ((q, (dec (l.drop q)).1) :: pre) = piece l q ++ done l pre := by simp [done]
      rw [e, List.length_append, piece_length l q hp]
      omega
    · rw [runesAt_end l q (by omega)] at h; simp at h
theorem done_length {l : List UInt8} {pre : List (Nat × Nat)} {x : Nat × Nat} {rest : List (Nat × Nat)} (h : runes l = pre ++ x :: rest) : (done l pre).length = x.1 := by
  have := done_length_at l pre 0 x rest (Nat.zero_le _) h
  omega

theorem strCells_of (s : ByteArray) (l : List UInt8) (h : s.data.toList = l) : Lib.strCells s = Lib.byteCells l := by rw [Lib.strCells_eq, h]

set_option maxRecDepth 100000 in
set_option maxHeartbeats 4000000 in
theorem fold_c (s : ByteArray) (hs : s.size ≤ 140737488351232) (w : World) (ht : Tabs w) :
    Calls Tryd.prog 21 #[.string s] w fun e w' => e = .returned (.string (strOf (foldD s.data.toList))) ∧ Below w.heap.size w w' := by
  have h2 := ht.size
  have hs' : s.size ≤ 140737488355328 := by omega
  refine (callsIn_wide (n := 20)).1 ?_
  refine callsIn_of_wp_marks Tryd.func21 rfl trivial ?_ rfl
  simp only [Tryd.ntmps21, List.size_toArray, List.length_cons, List.length_nil, Nat.reduceAdd, Nat.reduceSub, Array.replicate_succ, Array.replicate_zero, List.push_toArray, List.append_toArray, List.nil_append, List.cons_append]
  gi_wp2_with (refine ⟨trivial, ?_⟩; gi_at_call 20; refine (callsIn_wide.2 (runes_c s _)).mono ?_; rintro e w2 ⟨rfl, rfl⟩)
  obtain ⟨W0, hW0⟩ : ∃ W0, ((w.alloc (.cells #[.string s] 9)).alloc (.cells #[.pointer none, .slice none 0 0] 66)).alloc (.cells #[.string s] 9) = W0 := ⟨_, rfl⟩
  rw [hW0]
  have hb0 : Below w.heap.size w W0 := by rw [← hW0]; exact below_alloc (below_alloc (below_alloc (Below.refl _ _) _) _) _
  have hsz : W0.heap.size = w.heap.size + 3 := by rw [← hW0]; simp
  have b1 : Boxed W0 w.heap.size 9 (.string s) := by rw [← hW0]; exact ((Boxed.new _ _ _).alloc _).alloc _
  have bS : Boxed W0 (w.heap.size + 1 + 1) 9 (.string s) := by
    have := Boxed.new ((w.alloc (.cells #[.string s] 9)).alloc (.cells #[.pointer none, .slice none 0 0] 66)) 9 (.string s)
    rw [World.size_alloc, World.size_alloc, hW0] at this; exact this
  have hI0 : Lib.IsBuilderF 66 5 (w.heap.size + 1) (w.heap.size + 1) (Lib.byteCells (done s.data.toList [])) W0 := by
    refine .inl ⟨Nat.le_refl _, .slice none 0 0, ?_, World.ownsRowF_nil _ _ _ _, by simp [Value.ownBlock]⟩
    have := (World.alloc_heap_new (w.alloc (.cells #[.string s] 9)) (.cells #[.pointer none, .slice none 0 0] 66))
    rw [World.size_alloc] at this
    rw [← hW0]
    exact (Below.heap_alloc _ _ _ (by simp)).trans this
  have hT0 : Tabs W0 := ht.step hb0
  clear hW0
  refine range_known (F := Fence.wide) (n := 20) (xs := runes s.data.toList) rfl (by omega) (gf := 49) (lb := #[.pointer (some ⟨w.heap.size + 1 + 1, 0, none⟩)]) rfl trivial (enters_of Tryd.func49 (by kernel_rfl) rfl)
    (runes_seq 19 (by omega) (w.heap.size + 1 + 1) s hs' W0 bS.cell hT0) (fun h k => KpB.trans h k) (KpB.putObj (by omega) (by omega)) (Below.refl _ _) (fun _ => rfl)
    (fun pre W => (Lib.IsBuilderF 66 5 (w.heap.size + 1) (w.heap.size + 1) (Lib.byteCells (done s.data.toList pre)) W ∧ Boxed W w.heap.size 9 (.string s) ∧ Boxed W (w.heap.size + 1 + 1) 9 (.string s)) ∧ Below w.heap.size w W)
    (fun _ _ _ => False)
    ?hI (fun _ _ _ _ _ hs _ _ => hs) ⟨⟨hI0, b1, bS⟩, hb0⟩ ?a1 ?assign ?body ?done ?stop
  case hI =>
    refine OwnFrom.and (Own.from ?_ _) (ownFrom_below (Nat.le_refl _) (by omega))
    exact fun q X Y row hs hg hr => ⟨builder_grown hs.1 hg hr, boxed_own _ _ (fun _ : List (Nat × Nat) => .string s) q X Y row hs.2.1 hg hr, boxed_own _ _ (fun _ : List (Nat × Nat) => .string s) q X Y row hs.2.2 hg hr⟩
  case assign =>
    intro l x W K hK
    have HK := Aside0.mk hK
    clear hK
    unfold encR
    gi_wp2
    exact HK.out
  case body =>
    rintro l pre ⟨q, r⟩ rest W hxs ⟨⟨hI, c1, cS⟩, hB⟩
    obtain ⟨hx1, hx2, _⟩ := runes_split hxs
    have hdl := done_length hxs
    have hg2 := dec_in hx1
    have hg1 := dec_ge1 (s.data.toList.drop q)
    have hg4 := dec_rune (s.data.toList.drop q)
    have hsn := done_snoc s.data.toList pre (q, r)
    have hpl := piece_length s.data.toList q hx1
    dsimp only at hx1 hx2 hdl hg2 hg1 hsn hpl
    have hTW : Tabs W := ht.step hB
    have hzW : w.heap.size + 2 < W.heap.size := cS.lt
    have hb0' : q < s.size := by rw [size_data] at hx1; exact hx1
    rw [size_data] at hg2
    have hnx : ∀ W', Tabs W' → Calls Tryd.prog 15 #[.string s, .int .i64 q] W' fun e w' => e = .returned (.tuple #[.int .i32 r, .int .i64 (dec (s.data.toList.drop q)).2]) ∧ Below W'.heap.size W' w' := fun W' h => by
      rw [hx2]; exact next_in s q hb0' hs' W' h
    have hpc : piece s.data.toList q = if lowerD (r : Int) = (r : Int) then (s.data.toList.drop q).take (dec (s.data.toList.drop q)).2 else Lib.encodeRune (lowerD (r : Int)) := by rw [hx2]; rfl
    rw [← hx2] at hg4
    clear hx1 hx2
    generalize dec (s.data.toList.drop q) = dd at hnx hpc hg2 hg1 hpl
    obtain ⟨_, d⟩ := dd
    dsimp only at hnx hpc hg2 hg1 hpl
    have hlc := lower_c (r : Int)
    have hlr := lowerD_range (r : Int)
    by_cases hlow : lowerD (r : Int) = (r : Int)
    · rw [if_pos hlow] at hpc
      rw [hlow] at hlc
      have hex : (s.extract q (q + d)).data.toList = piece s.data.toList q := by rw [extract_data _ _ _ hg2, hpc, show q + d - q = d by omega]
      have hsc : Lib.strCells (s.extract q (q + d)) = Lib.byteCells (piece s.data.toList q) := strCells_of _ _ hex
      have hesz : (s.extract q (q + d)).size = d := by rw [← size_data, hex, hpl]
      have HN := Aside0.mk hsn
      have HS := Aside0.mk hsc
      have HE := Aside0.mk hesz
      have HD := Aside0.mk hdl
      clear hsn hsc hesz hdl hex hpc hlow hxs hlr hpl
      have hqd : (q : Int) + (d : Int) ≤ (s.size : Int) := by omega
      have hqq : (q : Int) ≤ (q : Int) + (d : Int) := by omega
      gi_wp2_with (first
        | (refine ⟨trivial, ?_⟩; gi_at_call 25; refine (CallsIn.inRound l (callsIn_wide.2 (hlc _))).mono ?_; clear hlc; rintro e w1 ⟨rfl, hb1⟩; have hc1 := (boxed_below c1 hb1).cell; have hT1 := hTW.step hb1)
        | (refine ⟨trivial, ?_⟩; gi_at_call 15; refine (CallsIn.inRound l (callsIn_wide.2 (hnx _ hT1))).mono ?_; rintro e w2 ⟨rfl, hb2'⟩; have hb2 := below_step hb1 hb2'; have k1 := boxed_below c1 hb2; have kS := boxed_below cS hb2; have kI := builder_below hI hb2; have hc2 := k1.cell; clear hc1))
      gi_wp2_with (refine ⟨trivial, ?_⟩; gi_at_call 51; refine (CallsIn.inRound l (callsIn_wide.2 (Build.writeString_k (w.heap.size + 1) (w.heap.size + 1) _ _ _ kI (by rw [HE.out, Lib.byteCells_length, HD.out]; omega) (by have := kS.lt; omega)))).mono ?_; rintro e w3 ⟨rfl, hI3, hb3, hk3⟩)
      gi_wp2
      refine ⟨(KeepsOthers.of_grownBy (grown_of_below hb2 none) (fun j o e _ => by cases e)).trans (others_of kI hb3 hk3), (KpB.of_below hb2).trans (kp_of hb3 hk3 (by omega) kS (by omega)), ⟨.inr ?_, boxed_others k1 hk3 (by omega) (by decide), boxed_others kS hk3 (by omega) (by decide)⟩, ?_⟩
      · rw [HN.out, Lib.byteCells_append, ← HS.out]; exact hI3
      · exact (below_step hB hb2).trans (hb3.mono (by omega))
    · rw [if_neg hlow] at hpc
      have hsc : Lib.runeCells (lowerD (r : Int)) = Lib.byteCells (piece s.data.toList q) := by rw [hpc, Lib.byteCells_encodeRune]
      have hne : ((lowerD (r : Int)) != (r : Int)) = true := by simpa using hlow
      obtain ⟨lo, hlo⟩ : ∃ lo, lo = lowerD (r : Int) := ⟨_, rfl⟩
      rw [← hlo] at hlc hsc hne hlow
      have hb5 : -2147483648 ≤ lo ∧ lo ≤ 2147483647 := by omega
      have HN := Aside0.mk hsn
      have HS := Aside0.mk hsc
      have HD := Aside0.mk hdl
      clear hsn hsc hdl hpc hxs hlr hpl hlo hnx
      have hlow' : ¬ lo = (r : Int) := hlow
      clear hlow
      gi_wp2_with (first
        | (refine ⟨trivial, ?_⟩; gi_at_call 25; refine (CallsIn.inRound l (callsIn_wide.2 (hlc _))).mono ?_; clear hlc; rintro e w1 ⟨rfl, hb2⟩; have k1 := boxed_below c1 hb2; have kS := boxed_below cS hb2; have kI := builder_below hI hb2; have hc2 := k1.cell)
        | (refine ⟨trivial, ?_⟩; gi_at_call 50; refine (CallsIn.inRound l (callsIn_wide.2 (Build.writeRune_k (w.heap.size + 1) (w.heap.size + 1) _ lo hb5.1 hb5.2 _ kI (by rw [Lib.byteCells_length, HD.out]; omega) (by have := kS.lt; omega)))).mono ?_; rintro e w3 ⟨rfl, hI3, hb3, hk3⟩))
      refine ⟨(KeepsOthers.of_grownBy (grown_of_below hb2 none) (fun j o e _ => by cases e)).trans (others_of kI hb3 hk3), (KpB.of_below hb2).trans (kp_of hb3 hk3 (by omega) kS (by omega)), ⟨.inr ?_, boxed_others k1 hk3 (by omega) (by decide), boxed_others kS hk3 (by omega) (by decide)⟩, ?_⟩
      · rw [HN.out, Lib.byteCells_append, ← HS.out]; exact hI3
      · exact (below_step hB hb2).trans (hb3.mono (by omega))
  case done =>
    rintro D W hD ⟨⟨hI, c1, cS⟩, hB⟩ hK
    rw [done_all] at hI
    have hzW : w.heap.size + 2 < W.heap.size := cS.lt
    have hDl : D < W.heap.size := (Array.getElem?_eq_some_iff.1 hK).1
    gi_wp2_with (refine ⟨trivial, ?_⟩; gi_at_call 52; refine (callsIn_wide.2 (Tryd.Builder_String_any_k (w.heap.size + 1) (w.heap.size + 1) (foldD s.data.toList) _ hI (by omega))).mono ?_; rintro e w3 ⟨rfl, hI3, hb3, hk3⟩)
    have hK' := (others_of hI hb3 hk3).same D _ hK rfl
    refine ⟨by simp, .inl ⟨_, _, rfl, run_takeDeferred hK', ?_⟩⟩
    exact ⟨_, results_tmp rfl _ _ _, rfl, (hB.trans (hb3.mono (by omega))).trans (belowK_b (w := w) (Nat.le_refl _) _ D _ _ (by omega) hK' rfl rfl)⟩
  case stop =>
    rintro D c pre W _ _ h _
    exact h.elim

end Go.Proofs.YtgbphkckiekehaaDoor.FoldF

set_option linter.unusedVariables false
set_option linter.unusedSimpArgs false
namespace Go.Proofs.YtgbphkckiekehaaDoor.FoldP
open Go.RowKit Go.Shelf Go.Proofs.YtgbphkckiekehaaDoor.QRef Go.Proofs.YtgbphkckiekehaaDoorW.PrintWords Go.Proofs.FoldPlain Go.Proofs.FoldText Go.Proofs.YtgbphkckiekehaaDoor.FoldRef Go.Proofs.YtgbphkckiekehaaDoor.FoldW Go.Proofs.YtgbphkckiekehaaDoor.FoldF Go.Proofs.YtgbphkckiekehaaDoor.FoldBridge

theorem drawn_below {w w' : World} (h : Drawn0 w w') : Below w.heap.size w w' := by
  obtain ⟨n, rfl⟩ := h.out
  exact pw_below_drewN (Below.refl _ _) n
theorem letter_c (a : Int) (w : World) : Calls Tryd.prog 26 #[.int .i32 a] w fun e w' => e = .returned (.bool (letterD a)) ∧ Below w.heap.size w w' :=
  (fold_Letter.calls 6 a _ w (letter_f 0 a)).mono fun _ _ ⟨he, hw⟩ => ⟨he, drawn_below hw⟩
theorem digit_c (a : Int) (w : World) : Calls Tryd.prog 27 #[.int .i32 a] w fun e w' => e = .returned (.bool (digitD a)) ∧ Below w.heap.size w w' :=
  (fold_Digit.calls a _ w (digit_f a)).mono fun _ _ ⟨he, hw⟩ => ⟨he, drawn_below hw⟩
theorem mark_c (a : Int) (w : World) : Calls Tryd.prog 28 #[.int .i32 a] w fun e w' => e = .returned (.bool (markD a)) ∧ Below w.heap.size w w' :=
  (fold_Mark.calls 1 a _ w (mark_f 0 a)).mono fun _ _ ⟨he, hw⟩ => ⟨he, drawn_below hw⟩

/-- A rune's form as a text, and the number beside it. -/
def putS (a : Int) : ByteArray := if Lib.validRune a = true then strOf (Lib.encodeRune a) else ⟨#[]⟩
def putE (a : Int) : Int := if Lib.validRune a = true then 0 else 50

set_option maxHeartbeats 1000000 in
theorem put_yes (a : Int) (h0 : -2147483648 ≤ a) (h1 : a ≤ 2147483647) (hv : Lib.validRune a = true) (w : World) :
    Calls Tryd.prog 24 #[.int .i32 a] w fun e w' => e = .returned (.tuple #[.string (strOf (Lib.encodeRune a)), .int .i64 0]) ∧ Below w.heap.size w w' := by
  have hS : strOfNums (Lib.encodeRuneZ a) = strOf (Lib.encodeRune a) := by rw [encZ_encode, strOf_nums]
  have HS := Aside0.mk hS
  clear hS
  go_enter Tryd.func24, Tryd.ntmps24
  go_wp2_with (first
    | (go_at_call 54; refine (Tryd.utf8_ValidRune _ _).mono ?_; rintro e w' ⟨rfl, rfl⟩)
    | (go_at_call 55; refine (Tryd.utf8_AppendRune_plain w'.heap.size (.slice none 0 0) 0 [] a h0 h1 _ (World.ownsRow_nil _ _ _ _) (by omega) (Nat.le_refl _)).mono ?_; rintro e w1 ⟨v', rfl, ho, o, hg⟩; simp only [List.nil_append, Nat.zero_add] at ho; have hcv := own_string (P := Tryd.prog) (xs := Lib.encodeRuneZ a) Tryd.underlying61 Tryd.underlying5 Tryd.underlying9 ho; rw [HS.out] at hcv; have HG := Aside0.mk hg; clear ho hg))
  go_ret2
  exact ⟨rfl, pw_below_grown (below_alloc (Below.refl _ _) o) _ (by simp) HG.out (fun k e => by cases e)⟩

set_option maxHeartbeats 1000000 in
theorem put_no (a : Int) (hv : Lib.validRune a = false) (w : World) :
    Calls Tryd.prog 24 #[.int .i32 a] w fun e w' => e = .returned (.tuple #[.string ⟨#[]⟩, .int .i64 50]) ∧ Below w.heap.size w w' := by
  go_enter Tryd.func24, Tryd.ntmps24
  go_wp2_with (go_at_call 54; refine (Tryd.utf8_ValidRune _ _).mono ?_; rintro e w' ⟨rfl, rfl⟩)
  go_ret2
  exact ⟨rfl, Below.refl _ _⟩

theorem put_c (a : Int) (h0 : -2147483648 ≤ a) (h1 : a ≤ 2147483647) (w : World) :
    Calls Tryd.prog 24 #[.int .i32 a] w fun e w' => e = .returned (.tuple #[.string (putS a), .int .i64 (putE a)]) ∧ Below w.heap.size w w' := by
  unfold putS putE
  by_cases hv : Lib.validRune a = true
  · rw [if_pos hv, if_pos hv]; exact put_yes a h0 h1 hv w
  · rw [if_neg hv, if_neg hv]; exact put_no a (by simpa using hv) w

end Go.Proofs.YtgbphkckiekehaaDoor.FoldP
