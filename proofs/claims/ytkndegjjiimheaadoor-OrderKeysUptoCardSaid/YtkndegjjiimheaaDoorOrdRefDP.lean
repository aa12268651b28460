/- Words for the document's Decimal: bytes of a text, a row of bytes of the call's own, digits from a place on. -/
import Derived.Test.YtkndegjjiimheaaDoorOrdDec
import Derived.Deep.DeepCutAuto
import Derived.Deep.CutBlock
import Derived.Deep.AppendLies
set_option linter.unusedVariables false
set_option linter.unusedSimpArgs false
namespace Go.Proofs.YtkndegjjiimheaaDoor.Ord
open Go Go.RowKit Go.Proofs.YtkndegjjiimheaaDoorW.PrintWords Go.Proofs.YtkndegjjiimheaaDoorW.PrintLast Go.Proofs.OrdPlain Go.Lib

theorem digit_y (c : UInt8) (hc : isDig c = true) (w : World) : Calls Tryd.prog 28 #[.int .u8 (c.toNat : Int)] w fun e w' => e = .returned (.bool true) ∧ w = w' := by
  have := (isDig_iff c).1 hc
  have h0 : (48 : Int) ≤ (c.toNat : Int) := by omega
  have h1 : (c.toNat : Int) ≤ 57 := by omega
  have d1 : decide ((c.toNat : Int) ≤ 57) = true := decide_eq_true h1
  generalize (c.toNat : Int) = x at h0 h1 d1
  go_enter Tryd.func28, Tryd.ntmps28
  go_wp2
  go_ret
  exact ⟨rfl, rfl⟩
theorem digit_n (c : UInt8) (hc : isDig c = false) (w : World) : Calls Tryd.prog 28 #[.int .u8 (c.toNat : Int)] w fun e w' => e = .returned (.bool false) ∧ w = w' := by
  have hn : ¬ (48 ≤ c.toNat ∧ c.toNat ≤ 57) := fun h => by rw [(isDig_iff c).2 h] at hc; cases hc
  by_cases h0 : (48 : Int) ≤ (c.toNat : Int)
  · have h1 : ¬ (c.toNat : Int) ≤ 57 := by omega
    have d1 : decide ((c.toNat : Int) ≤ 57) = false := decide_eq_false h1
    clear hn
    generalize (c.toNat : Int) = x at h0 h1 d1
    go_enter Tryd.func28, Tryd.ntmps28
    go_wp2
    go_ret
    exact ⟨rfl, rfl⟩
  · have d1 : decide ((48 : Int) ≤ (c.toNat : Int)) = false := decide_eq_false h0
    clear hn
    generalize (c.toNat : Int) = x at h0 d1
    go_enter Tryd.func28, Tryd.ntmps28
    go_wp2
    go_ret
    exact ⟨rfl, rfl⟩

theorem txt_at (l : List UInt8) (i : Nat) (h : i < (txt l).size) : (txt l)[i]'h = l.getD i 0 := by
  have h' : i < l.length := by rw [← txt_size]; exact h
  rw [List.getD_eq_getElem?_getD, List.getElem?_eq_getElem h']
  rfl

/-! ### a row of bytes of the call's own -/
def bytesV (l : List UInt8) : List Value := l.map fun c => .int .u8 (c.toNat : Int)
def OwnB (base : Nat) (W : World) (v : Value) (l : List UInt8) : Prop := W.ownsRow base 5 1 v l.length (bytesV l)
theorem bytesV_snoc (l : List UInt8) (c : UInt8) : bytesV (l ++ [c]) = bytesV l ++ [.int .u8 (c.toNat : Int)] := by simp [bytesV]
theorem OwnB.nil (base : Nat) (W : World) : OwnB base W (.slice none 0 0) [] := World.ownsRow_nil _ _ _ _
theorem OwnB.slice {base : Nat} {W : World} {v : Value} {l : List UInt8} (h : OwnB base W v l) : ∃ A c, v = .slice A l.length c := by
  rcases h.2 with ⟨rfl, h0⟩ | ⟨g, cap, cur, rfl, _⟩
  · exact ⟨none, 0, by rw [h0]⟩
  · exact ⟨_, _, rfl⟩
theorem OwnB.form {base : Nat} {W : World} {v : Value} {l : List UInt8} (h : OwnB base W v l) (hl : 0 < l.length) :
    ∃ g cap, v = .slice (some ⟨g, 0, none⟩) l.length cap ∧ l.length ≤ cap ∧ ∀ i, i < l.length → W.cell? ⟨g, i, none⟩ = some (.int .u8 ((l.getD i 0).toNat : Int)) := by
  rcases h.2 with ⟨_, h0⟩ | ⟨g, cap, cur, hv, hb, hg, hnc, _⟩
  · omega
  · refine ⟨g, cap, hv, hnc, fun i hi => ?_⟩
    have := World.ownsRow.cells (g := g) h (by rw [hv]; rfl) i (.int .u8 ((l.getD i 0).toNat : Int)) (by
      unfold bytesV
      rw [List.getElem?_map, List.getElem?_eq_getElem hi, List.getD_eq_getElem?_getD, List.getElem?_eq_getElem hi]; rfl)
    rw [show (⟨g, i, none⟩ : Addr) = (⟨g, 0, none⟩ : Addr).add i by unfold Addr.add; split <;> simp_all]
    exact this
theorem info5 : (Tryd.prog.info? 5).map (fun i => (i.zero, i.size, i.bytes)) = some (some (.int .u8 0), 1, 1) := by kernel_rfl
theorem own_snoc {base : Nat} {W1 : World} {v' : Value} {l : List UInt8} {c : UInt8} (h : W1.ownsRow base 5 1 v' (l.length + 1) (bytesV l ++ [.int .u8 (c.toNat : Int)])) : OwnB base W1 v' (l ++ [c]) := by
  unfold OwnB
  rw [bytesV_snoc, List.length_append]; exact h
theorem own_grown {base n : Nat} {w0 W w1 : World} {v : Value} {xs : List Value} {tmp : Obj} (hB : Below base w0 W) (hrow : W.ownsRow base 5 1 v n xs) (hn : base ≤ W.heap.size) (hgrow : (W.alloc tmp).grownBy w1 v.ownBlock) : Below base w0 w1 :=
  (hB.alloc hn tmp).grown hgrow (by simp; omega) fun j ej => by
    rcases hrow.2 with ⟨rfl, _⟩ | ⟨g, cap, cur, rfl, hb, _, _⟩
    · simp [Value.ownBlock] at ej
    · obtain rfl : g = j := by simpa [Value.ownBlock] using ej
      exact hb

/-! ### digits from a place on -/
theorem getD_mid (pre xs post : List UInt8) (k : Nat) (h : k < xs.length) : (pre ++ (xs ++ post)).getD (pre.length + k) 0 = xs.getD k 0 := by
  rw [List.getD_eq_getElem?_getD, List.getD_eq_getElem?_getD, List.getElem?_append_right (by omega), Nat.add_sub_cancel_left, List.getElem?_append_left h]
theorem take_snoc' (xs : List UInt8) (k : Nat) (h : k < xs.length) : xs.take (k + 1) = xs.take k ++ [xs.getD k 0] := by
  rw [List.take_succ_eq_append_getElem h, List.getD_eq_getElem?_getD, List.getElem?_eq_getElem h]; rfl
/-- From place f on: digits, and behind them none. -/
theorem dig_step (l : List UInt8) (f : Nat) (hf : f ≤ l.length) (k : Nat) (hk : k < ((l.drop f).takeWhile isDig).length) :
    f + k < l.length ∧ isDig (l.getD (f + k) 0) = true ∧ ((l.drop f).takeWhile isDig).take (k + 1) = ((l.drop f).takeWhile isDig).take k ++ [l.getD (f + k) 0] := by
  obtain ⟨hw, hs, _⟩ := tw_split isDig (l.drop f)
  have hl : l = l.take f ++ ((l.drop f).takeWhile isDig ++ (l.drop f).dropWhile isDig) := by rw [← hs, List.take_append_drop]
  have hfl : (l.take f).length = f := by rw [List.length_take]; omega
  have e := getD_mid (l.take f) ((l.drop f).takeWhile isDig) ((l.drop f).dropWhile isDig) k hk
  rw [← hl, hfl] at e
  have hlen := congrArg List.length hl
  rw [List.length_append, List.length_append, hfl] at hlen
  rw [e]
  refine ⟨by omega, hw _ ?_, take_snoc' _ _ hk⟩
  rw [List.getD_eq_getElem?_getD, List.getElem?_eq_getElem hk]
  exact List.getElem_mem _
theorem dig_stop (l : List UInt8) (f : Nat) (hf : f ≤ l.length) : f + ((l.drop f).takeWhile isDig).length ≤ l.length ∧
    (((l.drop f).dropWhile isDig = [] ∧ f + ((l.drop f).takeWhile isDig).length = l.length) ∨ (∃ c r, (l.drop f).dropWhile isDig = c :: r ∧ isDig c = false ∧ l.getD (f + ((l.drop f).takeWhile isDig).length) 0 = c ∧ f + ((l.drop f).takeWhile isDig).length < l.length ∧ l.drop (f + ((l.drop f).takeWhile isDig).length + 1) = r)) := by
  obtain ⟨hw, hs, hn⟩ := tw_split isDig (l.drop f)
  have hl : l = l.take f ++ ((l.drop f).takeWhile isDig ++ (l.drop f).dropWhile isDig) := by rw [← hs, List.take_append_drop]
  have hfl : (l.take f).length = f := by rw [List.length_take]; omega
  have hlen := congrArg List.length hl
  rw [List.length_append, List.length_append, hfl] at hlen
  refine ⟨by omega, ?_⟩
  cases hd : (l.drop f).dropWhile isDig with
  | nil => rw [hd] at hlen; left; exact ⟨rfl, by simp at hlen; omega⟩
  | cons c r =>
    rw [hd] at hlen hl
    right
    refine ⟨c, r, rfl, hn c r hd, ?_, by simp at hlen; omega, ?_⟩
    · have e := getD_mid (l.take f ++ (l.drop f).takeWhile isDig) [c] r 0 (by simp)
      rw [List.length_append, hfl, Nat.add_zero, List.append_assoc] at e
      rw [show (l.drop f).takeWhile isDig ++ ([c] ++ r) = (l.drop f).takeWhile isDig ++ c :: r from rfl, ← hl] at e
      exact e
    · have e : (l.take f ++ (l.drop f).takeWhile isDig ++ [c] ++ r).drop (l.take f ++ (l.drop f).takeWhile isDig ++ [c]).length = r := List.drop_left
      rw [List.length_append, List.length_append, hfl, List.append_assoc, List.append_assoc] at e
      rw [show (l.drop f).takeWhile isDig ++ ([c] ++ r) = (l.drop f).takeWhile isDig ++ c :: r from rfl, ← hl] at e
      exact e
end Go.Proofs.YtkndegjjiimheaaDoor.Ord
