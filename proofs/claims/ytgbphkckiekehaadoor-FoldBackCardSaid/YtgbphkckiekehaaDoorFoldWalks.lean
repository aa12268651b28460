/- The functions of package fold that go over a text, walked: Next, Valid, the iterator of Runes. -/
import Derived.Test.YtgbphkckiekehaaDoorFoldBuild
import Derived.Test.YtgbphkckiekehaaDoorFoldRef
import Derived.Test.YtgbphkckiekehaaDoorSeqQ
import Derived.RangeFuncBox
import Derived.Shelf.Abstract
import Derived.Shelf.RegionOpen
import Derived.WalkKit
import Derived.Lib.Hide
import Derived.OwnWalkIn
import Derived.TacticsInMore
import Derived.LoopNIn
import Derived.LoopIn
set_option linter.unusedVariables false
set_option linter.unusedSimpArgs false
namespace Go.Proofs.YtgbphkckiekehaaDoor.FoldW
open Go.RowKit Go.Shelf Go.Proofs.YtgbphkckiekehaaDoor.QFold Go.Proofs.YtgbphkckiekehaaDoorW.PrintWords Go.Proofs.FoldPlain Go.Proofs.FoldText Go.Proofs.YtgbphkckiekehaaDoor.FoldRef Go.Proofs.YtgbphkckiekehaaDoor.Seq
attribute [local go_sem] Oper.semAt_some

/-- The two tables of unicode/utf8 lie. -/
def Tabs (w : World) : Prop := Lib.Utf8Tabs 0 1 w
theorem Tabs.size {w : World} (h : Tabs w) : 2 ≤ w.heap.size := by
  have h1 := (h.2 0 (by decide)).1
  rcases Nat.lt_or_ge 1 w.heap.size with h' | h'
  · exact h'
  · simp [World.cell?, Array.getElem?_eq_none h'] at h1
theorem Tabs.below {B : Nat} {w w' : World} (h : Tabs w) (hb : Below B w w') (hB : 2 ≤ B) : Tabs w' :=
  ⟨fun c hc => (hb.cell (p := ⟨0, c, none⟩) (show 0 < B by omega)).trans (h.1 c hc),
   fun i hi => ⟨(hb.cell (p := ⟨1, 2 * i, none⟩) (show 1 < B by omega)).trans (h.2 i hi).1, (hb.cell (p := ⟨1, 2 * i + 1, none⟩) (show 1 < B by omega)).trans (h.2 i hi).2⟩⟩
theorem Tabs.step {w w' : World} (h : Tabs w) (hb : Below w.heap.size w w') : Tabs w' := h.below hb h.size

theorem decodeGo_at (s : ByteArray) (p : Nat) (h : p < s.size) : Lib.decodeGo (s.extract p s.size) = dec (s.data.toList.drop p) := by
  have e : (s.extract p s.size).data.toList = s.data.toList.drop p := Lib.extract_to_end s p
  have hs : (s.extract p s.size).size ≠ 0 := by rw [← size_data, e, List.length_drop, size_data]; omega
  unfold Lib.decodeGo
  rw [if_neg hs]
  have := Lib.decodeL_drop (s.extract p s.size) 0
  rw [List.drop_zero, e] at this
  exact this.symm

set_option maxHeartbeats 1000000 in
theorem next_in (s : ByteArray) (p : Nat) (hp : p < s.size) (hs : s.size ≤ 140737488355328) (w : World) (ht : Tabs w) :
    Calls Tryd.prog 15 #[.string s, .int .i64 p] w fun e w' => e = .returned (.tuple #[.int .i32 (dec (s.data.toList.drop p)).1, .int .i64 (dec (s.data.toList.drop p)).2]) ∧ Below w.heap.size w w' := by
  have H := decodeGo_at s p hp
  have HD : Hid (Lib.decodeGo (s.extract p s.size) = dec (s.data.toList.drop p)) := Lib.hid H
  clear H
  have hc : Calls Tryd.prog 45 #[.string (s.extract p s.size)] w fun e w' => e = .returned (.tuple #[.int .i32 (dec (s.data.toList.drop p)).1, .int .i64 (dec (s.data.toList.drop p)).2]) ∧ Below w.heap.size w w' := by
    have := Tryd.utf8_DecodeRuneInString (s.extract p s.size) w ht
    rw [HD.out] at this
    exact this
  clear HD
  generalize dec (s.data.toList.drop p) = d at hc ⊢
  obtain ⟨d1, d2⟩ := d
  have h0 : ¬ ((p : Int) < 0) := by omega
  have h1 : (p : Int) < (s.size : Int) := by omega
  have h2 : (p : Int) ≤ (s.size : Int) := by omega
  have h3 : (0 : Int) ≤ (p : Int) := by omega
  go_enter Tryd.func15, Tryd.ntmps15
  go_wp2_with (go_at_call 45; refine hc.mono ?_; rintro e w' ⟨rfl, hb⟩)
  go_ret2
  exact ⟨rfl, hb⟩

set_option maxHeartbeats 1000000 in
theorem next_out (s : ByteArray) (p : Int) (hp : p < 0 ∨ (s.size : Int) ≤ p) (w : World) :
    Calls Tryd.prog 15 #[.string s, .int .i64 p] w fun e w' => e = .returned (.tuple #[.int .i32 0, .int .i64 0]) ∧ Below w.heap.size w w' := by
  rcases Int.lt_or_le p 0 with h | h
  · go_enter Tryd.func15, Tryd.ntmps15
    go_wp2
    go_ret2
    exact ⟨rfl, Below.refl _ _⟩
  · have h0 : ¬ (p < 0) := by omega
    have h1 : (s.size : Int) ≤ p := by omega
    go_enter Tryd.func15, Tryd.ntmps15
    go_wp2
    go_ret2
    exact ⟨rfl, Below.refl _ _⟩

theorem next_c (s : ByteArray) (p : Int) (hs : s.size ≤ 140737488355328) (w : World) (ht : Tabs w) :
    Calls Tryd.prog 15 #[.string s, .int .i64 p] w fun e w' => e = .returned (.tuple #[.int .i32 (nextD s.data.toList p).1, .int .i64 (nextD s.data.toList p).2]) ∧ Below w.heap.size w w' := by
  by_cases h : p < 0 ∨ (s.size : Int) ≤ p
  · rw [nextD_out _ _ (by rw [size_data]; exact h)]; exact next_out s p h w
  · have e : p = (p.toNat : Int) := by omega
    have hp : p.toNat < s.size := by omega
    have := next_in s p.toNat hp hs w ht
    rw [← e] at this
    rw [show nextD s.data.toList p = nextD s.data.toList (p.toNat : Int) by rw [← e], nextD_in _ _ (by rw [size_data]; exact hp)]
    exact this

theorem valid_c (s : ByteArray) (hs : s.size ≤ 140737488355328) (w : World) (ht : Tabs w) :
    Calls Tryd.prog 17 #[.string s] w fun e w' => e = .returned (.bool (Lib.validD s.data.toList)) ∧ Below w.heap.size w w' := by
  have hc : Calls Tryd.prog 48 #[.string s] w _ := Any.utf8_ValidString Tryd.lays196 s w (by omega) ht
  generalize Lib.validD s.data.toList = V at hc ⊢
  go_enter Tryd.func17, Tryd.ntmps17
  go_wp2_with (go_at_call 48; refine hc.mono ?_; rintro e w' ⟨rfl, hb⟩)
  go_ret
  exact ⟨rfl, hb⟩

/-- The maker of the iterator: the text in a cell of its own. -/
theorem runes_c (s : ByteArray) (w : World) :
    Calls Tryd.prog 20 #[.string s] w fun e w' => e = .returned (.func (.func 49) #[] #[.pointer (some ⟨w.heap.size, 0, none⟩)]) ∧ w' = w.alloc (.cells #[.string s] 9) := by
  go_enter Tryd.func20, Tryd.ntmps20
  go_wp2
  go_ret
  exact ⟨rfl, rfl⟩

/-- What a round keeps: the iterator's own cell, the tables. -/
def KpB (Bs : Nat) (W W' : World) : Prop := W.heap.size ≤ W'.heap.size ∧ ∀ b, b < 2 ∨ b = Bs → b < W.heap.size → W'.heap[b]? = W.heap[b]?
theorem KpB.refl (Bs : Nat) (W : World) : KpB Bs W W := ⟨Nat.le_refl _, fun _ _ _ => rfl⟩
theorem KpB.trans {Bs : Nat} {A B C : World} (h : KpB Bs A B) (k : KpB Bs B C) : KpB Bs A C := ⟨Nat.le_trans h.1 k.1, fun b hb hl => (k.2 b hb (Nat.lt_of_lt_of_le hl h.1)).trans (h.2 b hb hl)⟩
theorem KpB.of_kept {Bs : Nat} {A B : World} {S : Nat → Prop} (h : Kept A B S) (h2 : ∀ b, S b → 2 ≤ b ∧ b ≠ Bs) : KpB Bs A B :=
  ⟨h.1, fun b hb hl => h.2 b hl (fun hs => by have := h2 b hs; omega)⟩
theorem KpB.of_below {Bs : Nat} {A B : World} (h : Below A.heap.size A B) : KpB Bs A B := ⟨h.size, fun b _ hl => h.block b hl⟩
theorem KpB.putObj {Bs : Nat} {w : World} (hB : Bs < w.heap.size) (h2 : 2 ≤ w.heap.size) (W : World) (l : Nat) (o o' : Obj) (hl : w.heap.size ≤ l) (h : W.heap[l]? = some o) (_ : o.isCells = false) (_ : o.isWalk = false) : KpB Bs W (W.putObj l o') :=
  ⟨by simp [World.putObj], fun b hb _ => World.putObj_heap_other (by omega)⟩
theorem KpB.cell {Bs : Nat} {A B : World} (h : KpB Bs A B) {v : Value} (hc : A.cell? ⟨Bs, 0, none⟩ = some v) : B.cell? ⟨Bs, 0, none⟩ = some v := by
  have hl := World.block_lt_of_cell? A _ hc
  have := h.2 Bs (.inr rfl) hl
  simpa [World.cell?, this] using hc
theorem Tabs.kp {Bs : Nat} {A B : World} (h : Tabs A) (k : KpB Bs A B) : Tabs B := by
  have hs := h.size
  have k0 := k.2 0 (.inl (by omega)) (by omega)
  have k1 := k.2 1 (.inl (by omega)) (by omega)
  refine ⟨fun c hc => ?_, fun i hi => ⟨?_, ?_⟩⟩
  · have := h.1 c hc; simpa [World.cell?, k0] using this
  · have := (h.2 i hi).1; simpa [World.cell?, k1] using this
  · have := (h.2 i hi).2; simpa [World.cell?, k1] using this

/-- What the loop over a text's runes hands to its body. -/
def encR (x : Nat × Nat) : Array Value := #[.int .i64 x.1, .int .i32 x.2]

set_option maxRecDepth 100000 in
set_option maxHeartbeats 2000000 in
/-- The iterator: the runes of the text, each with its place. -/
theorem runes_seq (n : Nat) (hn : 1 ≤ n) (Bs : Nat) (s : ByteArray) (hs : s.size ≤ 140737488355328) (w : World)
    (hcell : w.cell? ⟨Bs, 0, none⟩ = some (.string s)) (ht : Tabs w) :
    SeqQ Fence.wide n Tryd.prog 49 #[.pointer (some ⟨Bs, 0, none⟩)] encR (KpB Bs) (runes s.data.toList) w := fun l J Jx W hW hJ hJx hY h0 => by
  refine callsIn_of_wp Tryd.func49 rfl trivial ?_ rfl
  simp only [Tryd.ntmps49, List.size_toArray, List.length_cons, List.length_nil, Nat.reduceAdd, Nat.reduceSub, Array.replicate_succ, Array.replicate_zero, List.push_toArray, List.append_toArray, List.nil_append, List.cons_append]
  have hW0 : KpB Bs w W := KpB.of_below hW
  gi_wp2
  gi_loopw [3] (fun p wr => ∃ (pre : List (Nat × Nat)) (q : Nat), p = .int .i64 q ∧ q ≤ s.size ∧ Hid (runes s.data.toList = pre ++ runesAt s.data.toList q) ∧ J pre wr ∧ KpB Bs w wr ∧ W.heap.size ≤ wr.heap.size)
    (fun p wr => s.size - (intOf p).toNat)
  case atStart =>
    exact ⟨[], 0, rfl, Nat.zero_le _, Lib.hid rfl, h0, hW0, Nat.le_refl _⟩
  case round =>
    obtain ⟨pre, q, rfl, hq, hx, hJs, hBr, hsz⟩ := hrel
    have hc : wr.cell? ⟨Bs, 0, none⟩ = some (.string s) := hBr.cell hcell
    by_cases hlt : q < s.size
    · have ht' : Tabs wr := ht.kp hBr
      have hL : q < s.data.toList.length := by rw [size_data]; exact hlt
      have hg1 := dec_ge1 (s.data.toList.drop q)
      have hg2 := dec_in hL
      rw [size_data] at hg2
      have hx2 : Hid (runes s.data.toList = pre ++ (q, (dec (s.data.toList.drop q)).1) :: runesAt s.data.toList (q + (dec (s.data.toList.drop q)).2)) := Lib.hid (by rw [hx.out, runesAt_step _ _ hL])
      clear hx hL
      have hnext := next_in s q hlt hs wr ht'
      have hlt' : (q : Int) < (s.size : Int) := by omega
      obtain ⟨r, hr⟩ : ∃ r, r = (dec (s.data.toList.drop q)).1 := ⟨_, rfl⟩
      obtain ⟨d, hd⟩ : ∃ d, d = (dec (s.data.toList.drop q)).2 := ⟨_, rfl⟩
      rw [← hr, ← hd] at hnext
      rw [← hr, ← hd] at hx2
      rw [← hd] at hg1 hg2
      clear hr hd
      gi_wp2_with (refine ⟨trivial, ?_⟩; gi_at_call 15; refine (callsIn_wide.2 hnext).mono ?_; clear hnext; rintro e w1 ⟨rfl, hb⟩)
      have hJ1 : J pre w1 := hJ pre wr w1 none hJs (grown_of_below hb none) (fun r e => by cases e)
      obtain ⟨fn, tmps, assign, body, hy, hR⟩ := hY pre (q, r) _ w1 hx2.out hJ1
      dsimp only [encR] at hy
      rw [hy]
      gi_wp2
      refine hR.mono ?_
      rintro e W3 (⟨rfl, hJ3, hk3⟩ | ⟨rfl, hJx3⟩)
      · gi_wp2
        go_roundw
        case rel => exact ⟨pre ++ [(q, r)], q + d, by go_num, hg2, Lib.hid (by rw [hx2.out]; simp), hJ3, (hBr.trans (KpB.of_below hb)).trans hk3, Nat.le_trans (Nat.le_trans hsz hb.size) hk3.1⟩
        case measure => simp [intOf]; omega
      · gi_wp2
        refine bodyPost_ret (results_none rfl _ _ _) rfl ?_
        exact ⟨⟨_, rfl⟩, .inr ⟨pre ++ [(q, r)], ⟨runesAt s.data.toList (q + d), by rw [hx2.out]; simp⟩, hJx3⟩⟩
    · obtain rfl : q = s.size := by omega
      have hend : runes s.data.toList = pre := by rw [hx.out, runesAt_end _ _ (by rw [size_data]; exact Nat.le_refl _), List.append_nil]
      have hJe : J (runes s.data.toList) wr := by rw [hend]; exact hJs
      clear hend hx hJs
      gi_wp2
      go_end0
      exact ⟨⟨_, rfl⟩, .inl hJe⟩

theorem placesZ_at {rs pre rest : List (Nat × Nat)} {x : Nat × Nat} (h : rs = pre ++ x :: rest) : (placesZ rs).getD pre.length 0 = (x.1 : Int) := by
  subst h; simp [placesZ]
theorem runesZ_at {rs pre rest : List (Nat × Nat)} {x : Nat × Nat} (h : rs = pre ++ x :: rest) : (runesZ rs).getD pre.length 0 = (x.2 : Int) := by
  subst h; simp [runesZ]

/-- A row of numbers that is read: its cells, in a block from lo on and below hi. -/
def Row (k : IntKind) (W : World) (lo hi : Nat) (A : Option Addr) (xs : List Int) : Prop :=
  ∀ i, i < xs.length → ∃ g, A = some ⟨g, 0, none⟩ ∧ lo ≤ g ∧ g < hi ∧ W.cell? ⟨g, i, none⟩ = some (.int k (xs.getD i 0))
theorem Row.kept {k : IntKind} {W W' : World} {lo hi : Nat} {A : Option Addr} {xs : List Int} {S : Nat → Prop} (h : Row k W lo hi A xs) (hk : Kept W W' S) (hs : ∀ b, S b → b < lo ∨ hi ≤ b) : Row k W' lo hi A xs := fun i hi' => by
  obtain ⟨g, hA, h1, h2, hc⟩ := h i hi'
  exact ⟨g, hA, h1, h2, YtgbphkckiekehaaDoorW.PrintWords.cell_kept (S := S) hc hk (fun hg => by have := hs g hg; omega)⟩
theorem Row.below {k : IntKind} {W W' : World} {lo hi : Nat} {A : Option Addr} {xs : List Int} (h : Row k W lo hi A xs) (hb : Below W.heap.size W W') : Row k W' lo hi A xs :=
  h.kept (Kept.of_below hb (fun _ => False)) (fun _ hf => hf.elim)
theorem Row.lower {k : IntKind} {W : World} {lo lo' hi : Nat} {A : Option Addr} {xs : List Int} (h : Row k W lo hi A xs) (hl : lo' ≤ lo) : Row k W lo' hi A xs := fun i hi' => by
  obtain ⟨g, hA, h1, h2, hc⟩ := h i hi'
  exact ⟨g, hA, by omega, h2, hc⟩
theorem Row.own {β : Type} (k : IntKind) (lo hi : Nat) (A : Option Addr) (xs : List Int) : Own (fun (_ : β) W => Row k W lo hi A xs) := fun s W W' row h hg hr i hi' => by
  obtain ⟨g, hA, h1, h2, hc⟩ := h i hi'
  exact ⟨g, hA, h1, h2, Go.cell_kept hc hg hr⟩
theorem Row.of_own {k : IntKind} {W : World} {e base n : Nat} {v : Value} {xs : List Int} (h : W.ownsRow base e 1 v n (nums k xs)) : ∃ A c, v = .slice A xs.length c ∧ Row k W base W.heap.size A xs := by
  have hl : xs.length = n := by have := h.1; simp [nums] at this; exact this
  subst hl
  rcases h.2 with ⟨rfl, h0⟩ | ⟨g, cap, cur, rfl, hg, hh, _⟩
  · exact ⟨none, 0, by rw [h0], fun i hi => by omega⟩
  · refine ⟨_, cap, rfl, fun i hi => ?_⟩
    have hc : W.cell? ⟨g, i, none⟩ = some (.int k (xs.getD i 0)) := by
      have := h.cells (g := g) rfl i (.int k (xs.getD i 0)) (by simp [nums, List.getElem?_eq_getElem hi, List.getD_eq_getElem?_getD])
      have ha : (⟨g, 0, none⟩ : Addr).add i = ⟨g, i, none⟩ := by unfold Addr.add; split <;> simp_all
      rwa [ha] at this
    exact ⟨g, rfl, hg, World.block_lt_of_cell? W _ hc, hc⟩

end Go.Proofs.YtgbphkckiekehaaDoor.FoldW
