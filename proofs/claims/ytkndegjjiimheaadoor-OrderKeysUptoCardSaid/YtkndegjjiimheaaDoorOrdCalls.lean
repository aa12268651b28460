/- The library's functions that package order calls, at the arguments that it hands them; order.digits walked. -/
import Derived.Test.YtkndegjjiimheaaDoorShelf
import Derived.Test.YtkndegjjiimheaaDoorOrdTextW
import Derived.Test.YtkndegjjiimheaaDoorOrdDig
import Derived.Deep.QuietTactic
import Derived.BigQuiet
set_option linter.unusedVariables false
set_option linter.unusedSimpArgs false
namespace Go.Proofs.YtkndegjjiimheaaDoor.Ord
open Go Go.RowKit Go.Proofs.YtkndegjjiimheaaDoorW.PrintWords Go.Proofs.YtkndegjjiimheaaDoorW.PrintLast Go.Proofs.OrdPlain Go.Lib

theorem txt_list (l : List UInt8) : (txt l).data.toList = l := by unfold txt; simp
theorem txt_of (s : ByteArray) : txt s.data.toList = s := by unfold txt; simp

/-! ### strings.Cut at a point -/
theorem index_dot : ∀ l : List UInt8, indexByte l 46 = if l.dropWhile notDot = [] then -1 else ((l.takeWhile notDot).length : Int)
  | [] => rfl
  | c :: r => by
    have ih := index_dot r
    by_cases h : c = 46
    · subst h
      simp [indexByte, notDot, List.takeWhile_cons, List.dropWhile_cons]
    · have hn : notDot c = true := by unfold notDot; simp [h]
      rw [List.takeWhile_cons, List.dropWhile_cons, if_pos hn, if_pos hn]
      simp only [indexByte]
      rw [ih]
      by_cases hr : r.dropWhile notDot = []
      · simp [h, hr]
      · simp [h, hr]
theorem tw_le (l : List UInt8) : (l.takeWhile notDot).length ≤ l.length := (List.takeWhile_sublist _).length_le
theorem tw_lt (l : List UInt8) (h : l.dropWhile notDot ≠ []) : (l.takeWhile notDot).length + 1 ≤ l.length := by
  have := congrArg List.length (tw_split notDot l).2.1
  rw [List.length_append] at this
  have : 0 < (l.dropWhile notDot).length := List.length_pos_iff.2 h
  omega
theorem tw_take (l : List UInt8) : l.take (l.takeWhile notDot).length = l.takeWhile notDot := by
  conv => lhs; rw [(tw_split notDot l).2.1]
  rw [(tw_app notDot (l.takeWhile notDot) (l.dropWhile notDot) (tw_split notDot l).1).1]
  have : (l.dropWhile notDot).takeWhile notDot = [] := by
    cases h : l.dropWhile notDot with
    | nil => rfl
    | cons c r => rw [List.takeWhile_cons, (tw_split notDot l).2.2 c r h]; rfl
  rw [this, List.append_nil, List.take_left]
theorem tw_drop (l : List UInt8) : l.drop ((l.takeWhile notDot).length + 1) = (l.dropWhile notDot).drop 1 := by
  rw [← List.drop_drop]
  congr 1
  have e := (tw_split notDot l).2.1
  have h : (l.takeWhile notDot ++ l.dropWhile notDot).drop (l.takeWhile notDot).length = l.dropWhile notDot := List.drop_left
  rw [← e] at h
  exact h
theorem cutlite_c (l : List UInt8) (hl : l.length ≤ 9223372036854775807) (w : World) :
    Calls Tryd.prog 46 #[.string (txt l), .string ⟨#[46]⟩] w fun e w' => e = .returned (.tuple #[.string (txt (l.takeWhile notDot)), .string (txt ((l.dropWhile notDot).drop 1)), .bool (decide (l.dropWhile notDot ≠ []))]) ∧ Below w.heap.size w w' := by
  have hi := index_dot l
  have hI := Tryd.stringslite_Index_one (txt l) 46
  rw [txt_list] at hI
  by_cases h : l.dropWhile notDot = []
  · rw [if_pos h] at hi
    rw [hi] at hI
    have hT : l.takeWhile notDot = l := by
      have := (tw_split notDot l).2.1
      rw [h, List.append_nil] at this
      exact this.symm
    rw [hT, h, decide_eq_false (fun h => h rfl)]
    clear hi h hT
    go_enter Tryd.func46, Tryd.ntmps46
    go_wp2_with (go_at_call 62; with_reducible refine (hI _).mono ?_; clear hI; rintro e w' ⟨rfl, rfl⟩)
    go_ret3
    exact ⟨rfl, Below.refl _ _⟩
  · rw [if_neg h] at hi
    rw [hi] at hI
    have hlt := tw_lt l h
    have x1 : (txt l).extract 0 (l.takeWhile notDot).length = txt (l.takeWhile notDot) := by rw [txt_extract, tw_take]; rfl
    have x2 : (txt l).extract ((l.takeWhile notDot).length + 1) l.length = txt ((l.dropWhile notDot).drop 1) := by rw [txt_extract, List.take_length, tw_drop]
    rw [decide_eq_true h]
    have hsz : (txt l).size = l.length := txt_size l
    generalize l.takeWhile notDot = A at x1 x2 hI hlt
    generalize (l.dropWhile notDot).drop 1 = B at x2
    generalize A.length = k at x1 x2 hI hlt
    generalize l.length = n at hl x2 hlt hsz
    clear hi h
    have k0 : (0 : Int) ≤ (k : Int) := by omega
    have k1 : (k : Int) ≤ (n : Int) := by omega
    have k2 : (0 : Int) ≤ (k : Int) + 1 := by omega
    have k3 : (k : Int) + 1 ≤ (n : Int) := by omega
    have wk : IntKind.i64.wrap ((k : Int) + 1) = (k : Int) + 1 := wrap_small _ (by omega) (by omega)
    have tk : ((k : Int) + 1).toNat = k + 1 := by omega
    go_enter Tryd.func46, Tryd.ntmps46
    go_wp2_with (go_at_call 62; with_reducible refine (hI _).mono ?_; clear hI; rintro e w' ⟨rfl, rfl⟩)
    all_goals (go_quiet (fail); go_wp2)
    all_goals go_ret3
    all_goals exact ⟨rfl, below_drewN (Below.refl _ _) _⟩
theorem cut_c (l : List UInt8) (hl : l.length ≤ 9223372036854775807) (w : World) :
    Calls Tryd.prog 24 #[.string (txt l), .string ⟨#[46]⟩] w fun e w' => e = .returned (.tuple #[.string (txt (l.takeWhile notDot)), .string (txt ((l.dropWhile notDot).drop 1)), .bool (decide (l.dropWhile notDot ≠ []))]) ∧ Below w.heap.size w w' := by
  have hC := cutlite_c l hl
  generalize decide (l.dropWhile notDot ≠ []) = b at hC
  generalize txt (l.takeWhile notDot) = A at hC
  generalize txt ((l.dropWhile notDot).drop 1) = B at hC
  go_enter Tryd.func24, Tryd.ntmps24
  go_wp2_with (go_at_call 46; with_reducible refine (hC _).mono ?_; clear hC; rintro e w' ⟨rfl, hb⟩)
  go_ret3
  exact ⟨rfl, hb⟩

/-! ### order.digits -/
theorem dig_enters : Enters Tryd.prog 48 := enters_of Tryd.func48 (by kernel_rfl) rfl
theorem dig_pred (w : World) : PredAtRunes Tryd.prog 48 #[] notDigR w := by
  intro W x hx _
  unfold FnGives
  by_cases h0 : x < 48
  · have e : notDigR x = true := by unfold notDigR; rw [decide_eq_false (by omega)]; rfl
    have d0 : decide ((x : Int) < 48) = true := decide_eq_true (by omega)
    have h0' : (x : Int) < 48 := by omega
    rw [e]
    clear e h0
    show Calls Tryd.prog 48 #[.int .i32 (x : Int)] W _
    go_enter Tryd.func48, Tryd.ntmps48
    go_wp2
    go_ret
    exact ⟨rfl, 0, rfl⟩
  · have d0 : decide ((x : Int) < 48) = false := decide_eq_false (by omega)
    have h0' : ¬ (x : Int) < 48 := by omega
    by_cases h1 : 57 < x
    · have e : notDigR x = true := by unfold notDigR; rw [decide_eq_false (by omega)]; rfl
      have d1 : decide ((57 : Int) < (x : Int)) = true := decide_eq_true (by omega)
      have h1' : (57 : Int) < (x : Int) := by omega
      rw [e]
      clear e h0 h1
      show Calls Tryd.prog 48 #[.int .i32 (x : Int)] W _
      go_enter Tryd.func48, Tryd.ntmps48
      go_wp2
      go_ret
      exact ⟨rfl, 0, rfl⟩
    · have e : notDigR x = false := by unfold notDigR; rw [decide_eq_true (by omega)]; rfl
      have d1 : decide ((57 : Int) < (x : Int)) = false := decide_eq_false (by omega)
      have h1' : ¬ (57 : Int) < (x : Int) := by omega
      rw [e]
      clear e h0 h1
      show Calls Tryd.prog 48 #[.int .i32 (x : Int)] W _
      go_enter Tryd.func48, Tryd.ntmps48
      go_wp2
      go_ret
      exact ⟨rfl, 0, rfl⟩
def dgB (l : List UInt8) (a b : Int) : Bool := decide (a ≤ (l.length : Int) ∧ (l.length : Int) ≤ b) && l.all isDig
theorem digits_c (l : List UInt8) (a b : Int) (w : World) :
    Calls Tryd.prog 25 #[.string (txt l), .int .i64 a, .int .i64 b] w fun e w' => e = .returned (.bool (dgB l a b)) ∧ Below w.heap.size w w' := by
  have hsz : (txt l).size = l.length := txt_size l
  have hall := idx_all (txt l)
  rw [txt_list] at hall
  have hF := fun W => Tryd.strings_IndexFunc_runes 48 #[] dig_enters notDigR (txt l) W (dig_pred W)
  by_cases h0 : a ≤ (l.length : Int)
  · by_cases h1 : (l.length : Int) ≤ b
    · by_cases hx : idxFunc notDigR true (txt l) < 0
      · have e : dgB l a b = true := by unfold dgB; rw [decide_eq_true ⟨h0, h1⟩, ← hall, decide_eq_true hx]; rfl
        rw [e]
        clear e hall
        generalize idxFunc notDigR true (txt l) = x at hF hx
        generalize l.length = n at hsz h0 h1
        go_enter Tryd.func25, Tryd.ntmps25
        go_wp2_with (go_at_call 47; with_reducible refine (hF _).mono ?_; clear hF; rintro e w' ⟨rfl, hb⟩)
        go_ret
        exact ⟨rfl, hb⟩
      · have e : dgB l a b = false := by unfold dgB; rw [decide_eq_true ⟨h0, h1⟩, ← hall, decide_eq_false hx]; rfl
        rw [e]
        clear e hall
        generalize idxFunc notDigR true (txt l) = x at hF hx
        generalize l.length = n at hsz h0 h1
        have dx : decide (x < 0) = false := decide_eq_false hx
        go_enter Tryd.func25, Tryd.ntmps25
        go_wp2_with (go_at_call 47; with_reducible refine (hF _).mono ?_; clear hF; rintro e w' ⟨rfl, hb⟩)
        go_ret
        exact ⟨rfl, hb⟩
    · have e : dgB l a b = false := by unfold dgB; rw [decide_eq_false (fun h => h1 h.2)]; rfl
      rw [e]
      clear e hall hF
      generalize l.length = n at hsz h0 h1
      have d1 : decide ((n : Int) ≤ b) = false := decide_eq_false h1
      go_enter Tryd.func25, Tryd.ntmps25
      go_wp2
      go_ret
      exact ⟨rfl, Below.refl _ _⟩
  · have e : dgB l a b = false := by unfold dgB; rw [decide_eq_false (fun h => h0 h.1)]; rfl
    rw [e]
    clear e hall hF
    generalize l.length = n at hsz h0
    have d1 : decide (a ≤ (n : Int)) = false := decide_eq_false h0
    go_enter Tryd.func25, Tryd.ntmps25
    go_wp2
    go_ret
    exact ⟨rfl, Below.refl _ _⟩

/-! ### the tables and variables that are read -/
structure Tb (W : World) : Prop where
  tab : TabIs Tryd.prog W "internal/strconv.uint64pow10" .u64 pow10Tab
  range : ∃ tp p, W.var? Tryd.prog "strconv.ErrRange" = some #[.iface tp p]
theorem var_keep {w W : World} (h : Below w.heap.size w W) (name : String) {cs : Array Value} (hv : w.var? Tryd.prog name = some cs) : W.var? Tryd.prog name = some cs := by
  unfold World.var? at hv ⊢
  cases hg : Tryd.prog.globalNamed name with
  | none => rw [hg] at hv; exact hv
  | some g =>
    rw [hg] at hv
    simp only [Option.bind_some] at hv ⊢
    rcases Nat.lt_or_ge g w.heap.size with hlt | hge
    · rw [h.block g hlt]; exact hv
    · rw [Array.getElem?_eq_none hge] at hv; cases hv
theorem Tb.kp {w W : World} (h : Tb w) (hb : Below w.heap.size w W) : Tb W :=
  ⟨var_keep hb _ h.tab, by obtain ⟨tp, p, e⟩ := h.range; exact ⟨tp, p, var_keep hb _ e⟩⟩

/-! ### the library's functions -/
theorem below_grow' {B : Nat} {a w : World} (h : Below B a w) (os : Array Obj) (hB : B ≤ w.heap.size) : Below B a (Go.Sort.grow w os) :=
  ⟨h.os, h.tape, h.output, by have := h.size; show a.heap.size ≤ (w.heap ++ os).size; rw [Array.size_append]; omega, fun i hi => by show (w.heap ++ os)[i]? = _; rw [Array.getElem?_append_left (by omega)]; exact h.block i hi⟩
theorem cutprefix_c (l : List UInt8) (w : World) :
    Calls Tryd.prog 23 #[.string (txt l), .string ⟨#[45]⟩] w fun e w' => e = .returned (.tuple #[.string (txt (trimPrefix l [45])), .bool (hasPrefix l [45])]) ∧ Below w.heap.size w w' :=
  (Tryd.strings_CutPrefix (txt l) ⟨#[45]⟩ w).mono fun _ _ ⟨he, hw⟩ => ⟨by rw [he, txt_list]; rfl, by rw [hw]; exact Below.refl _ _⟩
theorem repeat_list : ∀ c, repeatL [48] c = List.replicate c (48 : UInt8)
  | 0 => rfl
  | c + 1 => by rw [List.replicate_succ, ← repeat_list c]; rfl
theorem repeat_c (c : Nat) (hc : c ≤ 20) (w : World) :
    Calls Tryd.prog 26 #[.string ⟨#[48]⟩, .int .i64 c] w fun e w' => e = .returned (.string (txt (List.replicate c 48))) ∧ Below w.heap.size w w' :=
  (Tryd.strings_Repeat ⟨#[48]⟩ c w (by omega) (by show 1 * c ≤ _; omega)).mono fun _ _ ⟨he, hw⟩ => ⟨by rw [he, ← repeat_list]; rfl, hw⟩
theorem format_c (n : Int) (hn0 : -9223372036854775808 ≤ n) (hn1 : n ≤ 9223372036854775807) (w : World) (h : Tb w) :
    Calls Tryd.prog 29 #[.int .i64 n, .int .i64 10] w fun e w' => e = .returned (.string (txt (itoa n))) ∧ Below w.heap.size w w' :=
  (Tryd.strconv_FormatInt_10 n hn0 hn1 w h.tab).mono fun _ _ ⟨he, k, os, hw⟩ => ⟨he, by rw [hw]; exact below_grow' (below_drewN (Below.refl _ _) k) os (Nat.le_refl _)⟩
theorem order_text (n : Int) (hn0 : -9223372036854775808 ≤ n) (hn1 : n ≤ 9223372036854775807) (scale : Int) (w : World) (h : Tb w) :
    Calls Tryd.prog 7 #[.int .i64 n, .int .i64 scale] w fun e w' => e = .returned (.tuple (if 0 ≤ scale ∧ scale ≤ 9 then #[.string (txt (refText n scale.toNat)), .int .i64 0] else #[.string ⟨#[]⟩, .int .i64 1])) ∧ Below w.heap.size w w' := by
  rw [← prog_ref]
  refine text_c n hn0 hn1 scale w (format_c n hn0 hn1 w h) (fun W => ?_) (fun c W hc => repeat_c c hc W)
  have := cutprefix_c (itoa n) W
  rw [trim_itoa, has_itoa] at this
  exact this
end Go.Proofs.YtkndegjjiimheaaDoor.Ord
