/- The runes of a text of bytes, by the decoder: places, numbers, widths; validity; the folded text. Plain functions on lists of bytes. -/
import Derived.Lib.TrimUEq
import Derived.Lib.MapLaws
import Derived.Lib.ValidU
import Derived.Lib.RuneBytes
import Derived.Test.YtgbphkckiekehaaDoorFoldPlain
import Derived.Test.YtgbphkckiekehaaDoorFoldLow
set_option linter.unusedSimpArgs false
set_option linter.unusedVariables false
namespace Go.Proofs.FoldText
open Go Go.Lib Go.Proofs.FoldPlain

/-- The rune at the head of a text, and its width. -/
abbrev dec (l : List UInt8) : Nat × Nat := decodeL l

set_option maxRecDepth 100000 in
theorem decodeN_shape' (n b0 b1 b2 b3 : Nat) :
    (b0 < 128 ∧ decodeN n b0 b1 b2 b3 = (b0, 1)) ∨
    (b0 / 32 = 6 ∧ 1 < n ∧ b1 / 64 = 2 ∧ 128 ≤ b0 % 32 * 64 + b1 % 64 ∧ decodeN n b0 b1 b2 b3 = (b0 % 32 * 64 + b1 % 64, 2)) ∨
    (b0 / 16 = 14 ∧ 2 < n ∧ b1 / 64 = 2 ∧ b2 / 64 = 2 ∧ 2048 ≤ b0 % 16 * 4096 + b1 % 64 * 64 + b2 % 64 ∧ (b0 % 16 * 4096 + b1 % 64 * 64 + b2 % 64 < 55296 ∨ 57344 ≤ b0 % 16 * 4096 + b1 % 64 * 64 + b2 % 64) ∧ decodeN n b0 b1 b2 b3 = (b0 % 16 * 4096 + b1 % 64 * 64 + b2 % 64, 3)) ∨
    (b0 / 8 = 30 ∧ 3 < n ∧ b1 / 64 = 2 ∧ b2 / 64 = 2 ∧ b3 / 64 = 2 ∧ 65536 ≤ b0 % 8 * 262144 + b1 % 64 * 4096 + b2 % 64 * 64 + b3 % 64 ∧ b0 % 8 * 262144 + b1 % 64 * 4096 + b2 % 64 * 64 + b3 % 64 ≤ 1114111 ∧ decodeN n b0 b1 b2 b3 = (b0 % 8 * 262144 + b1 % 64 * 4096 + b2 % 64 * 64 + b3 % 64, 4)) ∨
    decodeN n b0 b1 b2 b3 = (65533, 1) := by
  unfold decodeN
  repeat' split
  all_goals first
    | exact .inr (.inr (.inr (.inr rfl)))
    | exact .inl ⟨by omega, rfl⟩
    | exact .inr (.inl ⟨by omega, by omega, by omega, by omega, rfl⟩)
    | exact .inr (.inr (.inl ⟨by omega, by omega, by omega, by omega, by omega, by omega, rfl⟩))
    | exact .inr (.inr (.inr (.inl ⟨by omega, by omega, by omega, by omega, by omega, by omega, by omega, rfl⟩)))

theorem dec_ge1 (l : List UInt8) : 1 ≤ (dec l).2 := by
  unfold dec; rw [decodeL_N]; exact decodeN_ge1 _ _ _ _ _
theorem dec_le4 (l : List UInt8) : (dec l).2 ≤ 4 := by
  unfold dec; rw [decodeL_N]
  rcases decodeN_shape' l.length (l.getD 0 0).toNat (l.getD 1 0).toNat (l.getD 2 0).toNat (l.getD 3 0).toNat with ⟨_, e⟩ | ⟨_, _, _, _, e⟩ | ⟨_, _, _, _, _, _, e⟩ | ⟨_, _, _, _, _, _, _, e⟩ | e <;> rw [e] <;> simp
theorem dec_le (l : List UInt8) (h : l ≠ []) : (dec l).2 ≤ l.length := decodeL_le l h
theorem dec_rune (l : List UInt8) : (dec l).1 < 55296 ∨ (57343 < (dec l).1 ∧ (dec l).1 ≤ 1114111) := by
  unfold dec; rw [decodeL_N]
  have k0 := (l.getD 0 0).toNat_lt
  have k1 := (l.getD 1 0).toNat_lt
  rcases decodeN_shape' l.length (l.getD 0 0).toNat (l.getD 1 0).toNat (l.getD 2 0).toNat (l.getD 3 0).toNat with ⟨_, e⟩ | ⟨_, _, _, _, e⟩ | ⟨_, _, _, _, _, _, e⟩ | ⟨_, _, _, _, _, _, _, e⟩ | e <;> rw [e] <;> dsimp only <;> omega
theorem dec_form (l : List UInt8) (h : l ≠ []) (hv : ¬ ((dec l).1 = 65533 ∧ (dec l).2 = 1)) : encodeRune ((dec l).1 : Int) = l.take (dec l).2 := encode_decode l h hv

/-- The runes of a text from a place on: each with its place. -/
def cuts (l : List UInt8) : Nat → Nat → List (Nat × Nat)
  | 0, _ => []
  | f + 1, p => if p < l.length then (p, (dec (l.drop p)).1) :: cuts l f (p + (dec (l.drop p)).2) else []

theorem drop_ne {l : List UInt8} {p : Nat} (h : p < l.length) : l.drop p ≠ [] := by
  intro e; have := congrArg List.length e; simp at this; omega
theorem dec_in {l : List UInt8} {p : Nat} (h : p < l.length) : p + (dec (l.drop p)).2 ≤ l.length := by
  have := dec_le _ (drop_ne h); simp at this; omega

theorem cuts_more (l : List UInt8) : ∀ (f g p : Nat), l.length ≤ p + f → l.length ≤ p + g → cuts l f p = cuts l g p
  | 0, 0, p, _, _ => rfl
  | 0, g + 1, p, hf, _ => by rw [cuts, cuts, if_neg (by omega)]
  | f + 1, 0, p, _, hg => by rw [cuts, cuts, if_neg (by omega)]
  | f + 1, g + 1, p, hf, hg => by
    rw [cuts, cuts]
    split
    · have := dec_ge1 (l.drop p)
      rw [cuts_more l f g _ (by omega) (by omega)]
    · rfl

/-- The runes of a text from a place on. -/
def runesAt (l : List UInt8) (p : Nat) : List (Nat × Nat) := cuts l l.length p
abbrev runes (l : List UInt8) : List (Nat × Nat) := runesAt l 0
theorem runesAt_step (l : List UInt8) (p : Nat) (h : p < l.length) : runesAt l p = (p, (dec (l.drop p)).1) :: runesAt l (p + (dec (l.drop p)).2) := by
  have := dec_ge1 (l.drop p)
  have e : runesAt l p = cuts l (l.length + 1) p := cuts_more l _ _ p (by omega) (by omega)
  rw [e, cuts, if_pos h]; rfl
theorem runesAt_end (l : List UInt8) (p : Nat) (h : l.length ≤ p) : runesAt l p = [] := by
  have e : runesAt l p = cuts l 0 p := cuts_more l _ _ p (by omega) (by omega)
  rw [e]; rfl
theorem runesAt_length (l : List UInt8) : ∀ (d p : Nat), l.length ≤ p + d → (runesAt l p).length ≤ d
  | 0, p, h => by rw [runesAt_end l p (by omega)]; simp
  | d + 1, p, h => by
    by_cases hp : p < l.length
    · rw [runesAt_step l p hp]
      have := dec_ge1 (l.drop p)
      have := runesAt_length l d (p + (dec (l.drop p)).2) (by omega)
      simp; omega
    · rw [runesAt_end l p (by omega)]; simp
theorem runes_length (l : List UInt8) : (runes l).length ≤ l.length := runesAt_length l l.length 0 (by omega)

/-- What an iteration has handed over, and what it has still to: places. -/
theorem runes_split_at (l : List UInt8) : ∀ (pre : List (Nat × Nat)) (q p : Nat) (x : Nat × Nat) (rest : List (Nat × Nat)), runesAt l q = pre ++ x :: rest → q ≤ l.length →
    x.1 < l.length ∧ x.2 = (dec (l.drop x.1)).1 ∧ runesAt l x.1 = x :: rest ∧ rest = runesAt l (x.1 + (dec (l.drop x.1)).2) ∧ (pre = [] → x.1 = q)
  | [], q, p, x, rest, h, hq => by
    by_cases hp : q < l.length
    · have h' := h
      rw [runesAt_step l q hp] at h'
      simp only [List.nil_append, List.cons.injEq] at h'
      obtain ⟨rfl, rfl⟩ := h'
      exact ⟨hp, rfl, h, rfl, fun _ => rfl⟩
    · rw [runesAt_end l q (by omega)] at h; simp at h
  | y :: pre, q, p, x, rest, h, hq => by
    by_cases hp : q < l.length
    · rw [runesAt_step l q hp] at h
      simp only [List.cons_append, List.cons.injEq] at h
      obtain ⟨_, h⟩ := h
      obtain ⟨a, b, c, d, _⟩ := runes_split_at l pre _ 0 x rest h (dec_in hp)
      exact ⟨a, b, c, d, fun e => by simp at e⟩
    · rw [runesAt_end l q (by omega)] at h; simp at h
theorem runes_split {l : List UInt8} {pre : List (Nat × Nat)} {x : Nat × Nat} {rest : List (Nat × Nat)} (h : runes l = pre ++ x :: rest) :
    x.1 < l.length ∧ x.2 = (dec (l.drop x.1)).1 ∧ rest = runesAt l (x.1 + (dec (l.drop x.1)).2) := by
  obtain ⟨a, b, _, d, _⟩ := runes_split_at l pre 0 0 x rest h (Nat.zero_le _)
  exact ⟨a, b, d⟩

/-- The rune at a place of a text, and its width; beside the text: nothing. -/
def nextD (l : List UInt8) (p : Int) : Int × Int :=
  if p < 0 ∨ (l.length : Int) ≤ p then (0, 0) else (((dec (l.drop p.toNat)).1 : Int), ((dec (l.drop p.toNat)).2 : Int))
theorem nextD_in (l : List UInt8) (p : Nat) (h : p < l.length) : nextD l (p : Int) = (((dec (l.drop p)).1 : Int), ((dec (l.drop p)).2 : Int)) := by
  unfold nextD; rw [if_neg (by omega)]; simp
theorem nextD_out (l : List UInt8) (p : Int) (h : p < 0 ∨ (l.length : Int) ≤ p) : nextD l p = (0, 0) := by unfold nextD; rw [if_pos h]

/-- Is there no odd byte from a place on? -/
def odd (l : List UInt8) (p : Nat) : Prop := (dec (l.drop p)).1 = 65533 ∧ (dec (l.drop p)).2 = 1
instance (l : List UInt8) (p : Nat) : Decidable (odd l p) := inferInstanceAs (Decidable (_ ∧ _))
theorem validGoD_more : ∀ (f g : Nat) (l : List UInt8), l.length ≤ f → l.length ≤ g → validGoD f l = validGoD g l
  | 0, 0, l, _, _ => rfl
  | 0, g + 1, l, hf, _ => by have : l = [] := List.length_eq_zero_iff.1 (by omega); simp [validGoD, this]
  | f + 1, 0, l, _, hg => by have : l = [] := List.length_eq_zero_iff.1 (by omega); simp [validGoD, this]
  | f + 1, g + 1, l, hf, hg => by
    rw [validGoD, validGoD]
    split
    · rfl
    · rename_i h
      split
      · rfl
      · have := dec_ge1 l; have h1 : 0 < l.length := List.length_pos_iff.2 h
        unfold dec at this
        exact validGoD_more f g _ (by simp; omega) (by simp; omega)
def validAt (l : List UInt8) (p : Nat) : Bool := validD (l.drop p)
theorem validAt_end (l : List UInt8) (p : Nat) (h : l.length ≤ p) : validAt l p = true := by
  unfold validAt; rw [List.drop_eq_nil_of_le h]; rfl
theorem validAt_step (l : List UInt8) (p : Nat) (h : p < l.length) : validAt l p = if odd l p then false else validAt l (p + (dec (l.drop p)).2) := by
  have hne := drop_ne h
  have h1 := dec_ge1 (l.drop p)
  unfold validAt validD
  rw [validGoD_more (l.drop p).length ((l.drop p).length + 1) _ (Nat.le_refl _) (by omega), validGoD, if_neg hne]
  by_cases ho : odd l p
  · rw [if_pos ho, if_pos (show (decodeL (l.drop p)).1 = 65533 ∧ (decodeL (l.drop p)).2 = 1 from ho)]
  · rw [if_neg ho, if_neg (show ¬ ((decodeL (l.drop p)).1 = 65533 ∧ (decodeL (l.drop p)).2 = 1) from ho), List.drop_drop]
    exact validGoD_more _ _ _ (by simp; omega) (Nat.le_refl _)

/-- A rune's piece of the folded text. -/
def piece (l : List UInt8) (p : Nat) : List UInt8 :=
  if lowerD ((dec (l.drop p)).1 : Int) = ((dec (l.drop p)).1 : Int) then (l.drop p).take (dec (l.drop p)).2 else encodeRune (lowerD ((dec (l.drop p)).1 : Int))
def foldGo (l : List UInt8) : Nat → Nat → List UInt8
  | 0, _ => []
  | f + 1, p => if p < l.length then piece l p ++ foldGo l f (p + (dec (l.drop p)).2) else []
theorem foldGo_more (l : List UInt8) : ∀ (f g p : Nat), l.length ≤ p + f → l.length ≤ p + g → foldGo l f p = foldGo l g p
  | 0, 0, p, _, _ => rfl
  | 0, g + 1, p, hf, _ => by rw [foldGo, foldGo, if_neg (by omega)]
  | f + 1, 0, p, _, hg => by rw [foldGo, foldGo, if_neg (by omega)]
  | f + 1, g + 1, p, hf, hg => by
    rw [foldGo, foldGo]
    split
    · have := dec_ge1 (l.drop p)
      rw [foldGo_more l f g _ (by omega) (by omega)]
    · rfl
def foldAt (l : List UInt8) (p : Nat) : List UInt8 := foldGo l l.length p
/-- The folded text. -/
abbrev foldD (l : List UInt8) : List UInt8 := foldAt l 0
theorem foldAt_step (l : List UInt8) (p : Nat) (h : p < l.length) : foldAt l p = piece l p ++ foldAt l (p + (dec (l.drop p)).2) := by
  have := dec_ge1 (l.drop p)
  have e : foldAt l p = foldGo l (l.length + 1) p := foldGo_more l _ _ p (by omega) (by omega)
  rw [e, foldGo, if_pos h]; rfl
theorem foldAt_end (l : List UInt8) (p : Nat) (h : l.length ≤ p) : foldAt l p = [] := by
  have e : foldAt l p = foldGo l 0 p := foldGo_more l _ _ p (by omega) (by omega)
  rw [e]; rfl
theorem piece_length (l : List UInt8) (p : Nat) (h : p < l.length) : (piece l p).length = (dec (l.drop p)).2 := by
  unfold piece
  have hin := dec_le _ (drop_ne h)
  split
  · rw [List.length_take]; omega
  · rename_i hr
    have hv : ¬ ((dec (l.drop p)).1 = 65533 ∧ (dec (l.drop p)).2 = 1) := by
      rintro ⟨e, _⟩
      apply hr; rw [e]; decide
    have e := congrArg List.length (dec_form _ (drop_ne h) hv)
    rw [List.length_take, Nat.min_eq_left hin] at e
    rw [← e]
    simp only [encodeRune, List.length_map]
    exact lowerD_len _
theorem foldAt_length (l : List UInt8) : ∀ (d p : Nat), l.length - p = d → p ≤ l.length → (foldAt l p).length = d := by
  intro d
  induction d using Nat.strongRecOn with
  | _ d ih =>
    intro p hd hp
    by_cases h : p < l.length
    · have h1 := dec_ge1 (l.drop p)
      have h2 := dec_in h
      rw [foldAt_step l p h, List.length_append, piece_length l p h, ih (l.length - (p + (dec (l.drop p)).2)) (by omega) _ rfl h2]
      omega
    · rw [foldAt_end l p (by omega)]; simp; omega
theorem foldD_length (l : List UInt8) : (foldD l).length = l.length := foldAt_length l _ 0 (by omega) (by omega)

end Go.Proofs.FoldText
