/- Facts on runes and folding that hold of the plain functions: forms are read as their runes; what is folded stays folded, and valid just where it was; two texts together. -/
import Derived.Test.YtgbphkckiekehaaDoorFoldText
set_option linter.unusedSimpArgs false
set_option linter.unusedVariables false
namespace Go.Proofs.FoldText
open Go Go.Lib Go.Proofs.FoldPlain

def isCont (b : UInt8) : Bool := b.toNat / 64 == 2

/-- The decoder by the lead byte and the row of continuation bytes behind it. -/
def decT (b0 : Nat) (T : List UInt8) : Nat × Nat :=
  let b1 := (T.getD 0 0).toNat
  let b2 := (T.getD 1 0).toNat
  let b3 := (T.getD 2 0).toNat
  if b0 < 128 then (b0, 1)
  else if b0 / 32 = 6 ∧ 1 ≤ T.length then (if b0 % 32 * 64 + b1 % 64 ≥ 128 then (b0 % 32 * 64 + b1 % 64, 2) else (65533, 1))
  else if b0 / 16 = 14 ∧ 2 ≤ T.length then
    (if b0 % 16 * 4096 + b1 % 64 * 64 + b2 % 64 ≥ 2048 ∧ (b0 % 16 * 4096 + b1 % 64 * 64 + b2 % 64 < 55296 ∨ (57344 ≤ b0 % 16 * 4096 + b1 % 64 * 64 + b2 % 64 ∧ b0 % 16 * 4096 + b1 % 64 * 64 + b2 % 64 ≤ 1114111))
     then (b0 % 16 * 4096 + b1 % 64 * 64 + b2 % 64, 3) else (65533, 1))
  else if b0 / 8 = 30 ∧ 3 ≤ T.length then
    (if b0 % 8 * 262144 + b1 % 64 * 4096 + b2 % 64 * 64 + b3 % 64 ≥ 65536 ∧ (b0 % 8 * 262144 + b1 % 64 * 4096 + b2 % 64 * 64 + b3 % 64 < 55296 ∨ (57344 ≤ b0 % 8 * 262144 + b1 % 64 * 4096 + b2 % 64 * 64 + b3 % 64 ∧ b0 % 8 * 262144 + b1 % 64 * 4096 + b2 % 64 * 64 + b3 % 64 ≤ 1114111))
     then (b0 % 8 * 262144 + b1 % 64 * 4096 + b2 % 64 * 64 + b3 % 64, 4) else (65533, 1))
  else (65533, 1)

set_option maxRecDepth 100000 in
set_option maxHeartbeats 2000000 in
theorem dec_T (b : UInt8) (u : List UInt8) : dec (b :: u) = decT b.toNat (u.takeWhile isCont) := by
  unfold dec
  rw [decodeL_N]
  have e0 : (b :: u).getD 0 0 = b := rfl
  have e1 : (b :: u).getD 1 0 = u.getD 0 0 := rfl
  have e2 : (b :: u).getD 2 0 = u.getD 1 0 := rfl
  have e3 : (b :: u).getD 3 0 = u.getD 2 0 := rfl
  rw [e0, e1, e2, e3]
  unfold decodeN decT
  match u with
  | [] => simp
  | x :: u =>
    by_cases cx : isCont x = true
    · have hx : x.toNat / 64 = 2 := by simpa [isCont] using cx
      match u with
      | [] => simp [List.takeWhile_cons, cx, hx]
      | y :: u =>
        by_cases cy : isCont y = true
        · have hy : y.toNat / 64 = 2 := by simpa [isCont] using cy
          match u with
          | [] => simp [List.takeWhile_cons, cx, cy, hx, hy]
          | z :: u =>
            by_cases cz : isCont z = true
            · have hz : z.toNat / 64 = 2 := by simpa [isCont] using cz
              simp [List.takeWhile_cons, cx, cy, cz, hx, hy, hz]
            · have hz : ¬ z.toNat / 64 = 2 := by simpa [isCont] using cz
              simp [List.takeWhile_cons, cx, cy, cz, hx, hy, hz]
        · have hy : ¬ y.toNat / 64 = 2 := by simpa [isCont] using cy
          simp [List.takeWhile_cons, cx, cy, hx, hy]
    · have hx : ¬ x.toNat / 64 = 2 := by simpa [isCont] using cx
      simp [List.takeWhile_cons, cx, hx]

theorem dec_sim (b : UInt8) (u v : List UInt8) (h : u.takeWhile isCont = v.takeWhile isCont) : dec (b :: u) = dec (b :: v) := by rw [dec_T, dec_T, h]
theorem dec_cont (b : UInt8) (u : List UInt8) (h : isCont b = true) : dec (b :: u) = (65533, 1) := by
  have hb : b.toNat / 64 = 2 := by simpa [isCont] using h
  unfold dec; rw [decodeL_N]; exact decodeN_cont _ _ _ _ _ hb

/-- A valid rune. -/
def okRune (r : Nat) : Prop := r < 55296 ∨ (57343 < r ∧ r ≤ 1114111)
theorem toNat_u8 (n : Nat) (h : n < 256) : (n.toUInt8).toNat = n := by simp; omega

set_option maxRecDepth 100000 in
set_option maxHeartbeats 2000000 in
/-- A rune's form, whatever stands behind it, is read as that rune. -/
theorem dec_enc (r : Nat) (h : okRune r) (t : List UInt8) : dec (encodeRune (r : Int) ++ t) = (r, (encodeRune (r : Int)).length) := by
  unfold okRune at h
  unfold encodeRune dec
  by_cases c1 : r ≤ 127
  · rw [encodeRuneZ_one (by omega) (by omega)]
    simp only [List.map_cons, List.map_nil, List.cons_append, List.nil_append, List.length_cons, List.length_nil]
    rw [decodeL_N]
    simp only [List.getD_cons_zero, List.length_cons]
    rw [show ((r : Int)).toNat.toUInt8.toNat = r by simp; omega, decodeN_ascii _ _ _ _ _ (by omega)]
  · by_cases c2 : r ≤ 2047
    · rw [encodeRuneZ_two (by omega) (by omega)]
      simp only [List.map_cons, List.map_nil, List.cons_append, List.nil_append, List.length_cons, List.length_nil]
      rw [decodeL_N]
      simp only [List.getD_cons_zero, List.getD_cons_succ, List.length_cons]
      have e0 : (192 + (r : Int) / 64).toNat.toUInt8.toNat = 192 + r / 64 := by rw [show (192 + (r : Int) / 64).toNat = 192 + r / 64 by omega]; exact toNat_u8 _ (by omega)
      have e1 : (128 + (r : Int) % 64).toNat.toUInt8.toNat = 128 + r % 64 := by rw [show (128 + (r : Int) % 64).toNat = 128 + r % 64 by omega]; exact toNat_u8 _ (by omega)
      rw [e0, e1]
      unfold decodeN
      rw [if_neg (by omega), if_pos ⟨by omega, by omega, by omega⟩, if_pos (by omega)]
      congr 1; omega
    · by_cases c3 : r ≤ 65535
      · rw [encodeRuneZ_three (by omega)]
        simp only [List.map_cons, List.map_nil, List.cons_append, List.nil_append, List.length_cons, List.length_nil]
        rw [decodeL_N]
        simp only [List.getD_cons_zero, List.getD_cons_succ, List.length_cons]
        have e0 : (224 + (r : Int) / 4096).toNat.toUInt8.toNat = 224 + r / 4096 := by rw [show (224 + (r : Int) / 4096).toNat = 224 + r / 4096 by omega]; exact toNat_u8 _ (by omega)
        have e1 : (128 + (r : Int) / 64 % 64).toNat.toUInt8.toNat = 128 + r / 64 % 64 := by rw [show (128 + (r : Int) / 64 % 64).toNat = 128 + r / 64 % 64 by omega]; exact toNat_u8 _ (by omega)
        have e2 : (128 + (r : Int) % 64).toNat.toUInt8.toNat = 128 + r % 64 := by rw [show (128 + (r : Int) % 64).toNat = 128 + r % 64 by omega]; exact toNat_u8 _ (by omega)
        rw [e0, e1, e2]
        unfold decodeN
        rw [if_neg (by omega), if_neg (by omega), if_pos ⟨by omega, ⟨by omega, by omega⟩, by omega, by omega⟩, if_pos ⟨by omega, by omega⟩]
        congr 1; omega
      · rw [encodeRuneZ_four (by omega) (by omega)]
        simp only [List.map_cons, List.map_nil, List.cons_append, List.nil_append, List.length_cons, List.length_nil]
        rw [decodeL_N]
        simp only [List.getD_cons_zero, List.getD_cons_succ, List.length_cons]
        have e0 : (240 + (r : Int) / 262144).toNat.toUInt8.toNat = 240 + r / 262144 := by rw [show (240 + (r : Int) / 262144).toNat = 240 + r / 262144 by omega]; exact toNat_u8 _ (by omega)
        have e1 : (128 + (r : Int) / 4096 % 64).toNat.toUInt8.toNat = 128 + r / 4096 % 64 := by rw [show (128 + (r : Int) / 4096 % 64).toNat = 128 + r / 4096 % 64 by omega]; exact toNat_u8 _ (by omega)
        have e2 : (128 + (r : Int) / 64 % 64).toNat.toUInt8.toNat = 128 + r / 64 % 64 := by rw [show (128 + (r : Int) / 64 % 64).toNat = 128 + r / 64 % 64 by omega]; exact toNat_u8 _ (by omega)
        have e3 : (128 + (r : Int) % 64).toNat.toUInt8.toNat = 128 + r % 64 := by rw [show (128 + (r : Int) % 64).toNat = 128 + r % 64 by omega]; exact toNat_u8 _ (by omega)
        rw [e0, e1, e2, e3]
        unfold decodeN
        rw [if_neg (by omega), if_neg (by omega), if_neg (by omega), if_pos ⟨by omega, ⟨by omega, by omega⟩, ⟨by omega, by omega⟩, by omega, by omega⟩, if_pos ⟨by omega, by omega⟩]
        congr 1; omega

theorem dec_ok (l : List UInt8) : okRune (dec l).1 := dec_rune l
theorem enc_pos (r : Int) : 1 ≤ (encodeRune r).length := by unfold encodeRune; rw [List.length_map]; exact (encodeRuneZ_length r).1
theorem enc_three : (encodeRune 65533).length = 3 := by decide

/-- Is the head of a text odd? -/
def oddH (l : List UInt8) : Prop := (dec l).1 = 65533 ∧ (dec l).2 = 1
instance (l : List UInt8) : Decidable (oddH l) := inferInstanceAs (Decidable (_ ∧ _))
theorem enc_not_odd (r : Nat) (h : okRune r) (t : List UInt8) : ¬ oddH (encodeRune (r : Int) ++ t) := by
  unfold oddH; rw [dec_enc r h t]
  rintro ⟨a, b⟩
  dsimp only at a b
  subst a
  rw [show ((65533 : Nat) : Int) = 65533 from rfl, enc_three] at b
  omega

/-! folding by what is left of the text -/
theorem piece_drop (l : List UInt8) (p : Nat) : piece (l.drop p) 0 = piece l p := by unfold piece; rw [List.drop_zero]
theorem foldAt_drop : ∀ (d : Nat) (l : List UInt8) (p : Nat), l.length - p ≤ d → foldAt l p = foldAt (l.drop p) 0 := by
  intro d
  induction d with
  | zero => intro l p h; rw [foldAt_end l p (by omega), foldAt_end (l.drop p) 0 (by simp; omega)]
  | succ d ih =>
    intro l p h
    by_cases hp : p < l.length
    · have g1 := dec_ge1 (l.drop p)
      have g2 := dec_in hp
      have e := ih (l.drop p) (dec (l.drop p)).2 (by rw [List.length_drop]; omega)
      rw [List.drop_drop] at e
      rw [foldAt_step l p hp, foldAt_step (l.drop p) 0 (by rw [List.length_drop]; omega), piece_drop, List.drop_zero, Nat.zero_add, ih l _ (by omega), e]
    · rw [foldAt_end l p (by omega), foldAt_end (l.drop p) 0 (by rw [List.length_drop]; omega)]
theorem foldD_step (l : List UInt8) (h : l ≠ []) : foldD l = piece l 0 ++ foldD (l.drop (dec l).2) := by
  have hl : 0 < l.length := List.length_pos_iff.2 h
  show foldAt l 0 = _
  rw [foldAt_step l 0 hl, List.drop_zero, Nat.zero_add, foldAt_drop _ l _ (Nat.le_refl _)]
theorem foldD_nil : foldD [] = [] := rfl
theorem validD_step (l : List UInt8) (h : l ≠ []) : Lib.validD l = if oddH l then false else Lib.validD (l.drop (dec l).2) := by
  have hl : 0 < l.length := List.length_pos_iff.2 h
  have hs := validAt_step l 0 hl
  by_cases ho : oddH l
  · have ho' : odd l 0 := ho
    rw [if_pos ho'] at hs
    rw [if_pos ho]; exact hs
  · have ho' : ¬ odd l 0 := ho
    rw [if_neg ho', Nat.zero_add] at hs
    rw [if_neg ho]; exact hs
/-- The piece of an odd byte, and of a rune. -/
theorem piece_odd (b : UInt8) (t : List UInt8) (h : oddH (b :: t)) : piece (b :: t) 0 = [b] := by
  unfold piece
  rw [List.drop_zero, h.1, h.2]
  rw [if_pos (by decide)]
  rfl
theorem piece_ok (l : List UInt8) (h : l ≠ []) (ho : ¬ oddH l) : piece l 0 = encodeRune (lowerD ((dec l).1 : Int)) := by
  unfold piece
  rw [List.drop_zero]
  by_cases hl : lowerD ((dec l).1 : Int) = ((dec l).1 : Int)
  · rw [if_pos hl, hl, dec_form l h ho]
  · rw [if_neg hl]
/-- The lowered rune, as a number. -/
theorem lower_nat (r : Nat) (h : okRune r) : ∃ r' : Nat, (r' : Int) = lowerD (r : Int) ∧ okRune r' ∧ lowerD (r' : Int) = (r' : Int) := by
  have hr := lowerD_range (r : Int)
  refine ⟨(lowerD (r : Int)).toNat, by omega, ?_, ?_⟩
  · unfold okRune at h ⊢; omega
  · rw [show (((lowerD (r : Int)).toNat : Nat) : Int) = lowerD (r : Int) by omega]; exact lowerD_lowerD _
theorem enc_head_not_cont (r : Nat) (h : okRune r) : ∃ b u, encodeRune (r : Int) = b :: u ∧ isCont b = false := by
  unfold okRune at h
  unfold encodeRune
  by_cases c1 : r ≤ 127
  · rw [encodeRuneZ_one (by omega) (by omega)]
    refine ⟨_, _, rfl, ?_⟩
    have : ((r : Int)).toNat.toUInt8.toNat = r := by simp; omega
    unfold isCont; rw [this]; simp; omega
  · by_cases c2 : r ≤ 2047
    · rw [encodeRuneZ_two (by omega) (by omega)]
      refine ⟨_, _, rfl, ?_⟩
      have e0 : (192 + (r : Int) / 64).toNat.toUInt8.toNat = 192 + r / 64 := by rw [show (192 + (r : Int) / 64).toNat = 192 + r / 64 by omega]; exact toNat_u8 _ (by omega)
      unfold isCont; rw [e0]; simp; omega
    · by_cases c3 : r ≤ 65535
      · rw [encodeRuneZ_three (by omega)]
        refine ⟨_, _, rfl, ?_⟩
        have e0 : (224 + (r : Int) / 4096).toNat.toUInt8.toNat = 224 + r / 4096 := by rw [show (224 + (r : Int) / 4096).toNat = 224 + r / 4096 by omega]; exact toNat_u8 _ (by omega)
        unfold isCont; rw [e0]; simp; omega
      · rw [encodeRuneZ_four (by omega) (by omega)]
        refine ⟨_, _, rfl, ?_⟩
        have e0 : (240 + (r : Int) / 262144).toNat.toUInt8.toNat = 240 + r / 262144 := by rw [show (240 + (r : Int) / 262144).toNat = 240 + r / 262144 by omega]; exact toNat_u8 _ (by omega)
        unfold isCont; rw [e0]; simp; omega

theorem odd_cont (b : UInt8) (u : List UInt8) (h : isCont b = true) : oddH (b :: u) := by unfold oddH; rw [dec_cont b u h]; exact ⟨rfl, rfl⟩
theorem odd_drop (l : List UInt8) (h : oddH l) : l.drop (dec l).2 = l.tail := by rw [h.2]; cases l <;> rfl

/-- Folding keeps the row of continuation bytes at a text's head. -/
theorem fold_conts : ∀ (l : List UInt8), (foldD l).takeWhile isCont = l.takeWhile isCont
  | [] => rfl
  | b :: u => by
    by_cases hb : isCont b = true
    · have ho := odd_cont b u hb
      rw [foldD_step _ (by simp), piece_odd b u ho, odd_drop _ ho, List.tail_cons, List.cons_append, List.nil_append, List.takeWhile_cons, List.takeWhile_cons, if_pos hb, if_pos hb, fold_conts u]
    · have hb' : isCont b = false := by simpa using hb
      rw [List.takeWhile_cons, if_neg hb, foldD_step _ (by simp)]
      by_cases ho : oddH (b :: u)
      · rw [piece_odd b u ho, List.cons_append, List.takeWhile_cons, if_neg hb]
      · rw [piece_ok _ (by simp) ho]
        obtain ⟨r', e, hok, _⟩ := lower_nat _ (dec_ok (b :: u))
        rw [← e]
        obtain ⟨c, v, hv, hc⟩ := enc_head_not_cont r' hok
        rw [hv, List.cons_append, List.takeWhile_cons, if_neg (by simp [hc])]

theorem fold_odd (b : UInt8) (u : List UInt8) (h : oddH (b :: u)) : oddH (b :: foldD u) := by
  unfold oddH at h ⊢
  rw [dec_sim b (foldD u) u (fold_conts u)]
  exact h

/-- What is folded stays folded. -/
theorem fold_fold_at : ∀ (n : Nat) (l : List UInt8), l.length ≤ n → foldD (foldD l) = foldD l := by
  intro n
  induction n with
  | zero => intro l h; rw [List.length_eq_zero_iff.1 (by omega : l.length = 0)]; rfl
  | succ n ih =>
    intro l h
    match l with
    | [] => rfl
    | b :: u =>
      by_cases ho : oddH (b :: u)
      · have e : foldD (b :: u) = b :: foldD u := by rw [foldD_step _ (by simp), piece_odd b u ho, odd_drop _ ho]; rfl
        have ho2 := fold_odd b u ho
        rw [e, foldD_step _ (by simp), piece_odd b _ ho2, odd_drop _ ho2, List.tail_cons, ih u (by simp at h; omega)]
        rfl
      · obtain ⟨r', er, hok, hlow⟩ := lower_nat _ (dec_ok (b :: u))
        have g1 := dec_ge1 (b :: u)
        have e : foldD (b :: u) = encodeRune (r' : Int) ++ foldD ((b :: u).drop (dec (b :: u)).2) := by rw [foldD_step _ (by simp), piece_ok _ (by simp) ho, ← er]
        have hih := ih ((b :: u).drop (dec (b :: u)).2) (by rw [List.length_drop]; omega)
        have hne : encodeRune (r' : Int) ++ foldD ((b :: u).drop (dec (b :: u)).2) ≠ [] := by
          intro he; have h1 := enc_pos (r' : Int); have h2 := congrArg List.length he; rw [List.length_append, List.length_nil] at h2; omega
        rw [e, foldD_step _ hne, piece_ok _ hne (enc_not_odd r' hok _), dec_enc r' hok, hlow]
        rw [List.drop_append_of_le_length (Nat.le_refl _), List.drop_length, List.nil_append, hih]
theorem fold_fold (l : List UInt8) : foldD (foldD l) = foldD l := fold_fold_at _ l (Nat.le_refl _)

/-- Folding keeps validity. -/
theorem fold_valid_at : ∀ (n : Nat) (l : List UInt8), l.length ≤ n → Lib.validD (foldD l) = Lib.validD l := by
  intro n
  induction n with
  | zero => intro l h; rw [List.length_eq_zero_iff.1 (by omega : l.length = 0)]; rfl
  | succ n ih =>
    intro l h
    match l with
    | [] => rfl
    | b :: u =>
      by_cases ho : oddH (b :: u)
      · have e : foldD (b :: u) = b :: foldD u := by rw [foldD_step _ (by simp), piece_odd b u ho, odd_drop _ ho]; rfl
        have ho2 := fold_odd b u ho
        rw [e, validD_step _ (by simp), if_pos ho2, validD_step (b :: u) (by simp), if_pos ho]
      · obtain ⟨r', er, hok, hlow⟩ := lower_nat _ (dec_ok (b :: u))
        have g1 := dec_ge1 (b :: u)
        have e : foldD (b :: u) = encodeRune (r' : Int) ++ foldD ((b :: u).drop (dec (b :: u)).2) := by rw [foldD_step _ (by simp), piece_ok _ (by simp) ho, ← er]
        have hih := ih ((b :: u).drop (dec (b :: u)).2) (by rw [List.length_drop]; omega)
        have hne : encodeRune (r' : Int) ++ foldD ((b :: u).drop (dec (b :: u)).2) ≠ [] := by
          intro he; have h1 := enc_pos (r' : Int); have h2 := congrArg List.length he; rw [List.length_append, List.length_nil] at h2; omega
        rw [e, validD_step _ hne, if_neg (enc_not_odd r' hok _), dec_enc r' hok, validD_step (b :: u) (by simp), if_neg ho]
        rw [List.drop_append_of_le_length (Nat.le_refl _), List.drop_length, List.nil_append, hih]
theorem fold_valid (l : List UInt8) : Lib.validD (foldD l) = Lib.validD l := fold_valid_at _ l (Nat.le_refl _)

theorem tw_append : ∀ (u t : List UInt8), t.takeWhile isCont = [] → (u ++ t).takeWhile isCont = u.takeWhile isCont
  | [], t, h => by rw [List.nil_append, h]; rfl
  | x :: u, t, h => by
    rw [List.cons_append, List.takeWhile_cons, List.takeWhile_cons, tw_append u t h]
/-- Two texts together, the second not beginning within a rune of the first. -/
theorem fold_append_at : ∀ (n : Nat) (l t : List UInt8), l.length ≤ n → (Lib.validD l = true ∨ t.takeWhile isCont = []) → foldD (l ++ t) = foldD l ++ foldD t := by
  intro n
  induction n with
  | zero => intro l t h _; rw [List.length_eq_zero_iff.1 (by omega : l.length = 0)]; rfl
  | succ n ih =>
    intro l t h hp
    match l with
    | [] => rfl
    | b :: u =>
      by_cases ho : oddH (b :: u)
      · have hv : Lib.validD (b :: u) = false := by rw [validD_step _ (by simp), if_pos ho]
        have ht : t.takeWhile isCont = [] := hp.resolve_left (by rw [hv]; simp)
        have hs : (u ++ t).takeWhile isCont = u.takeWhile isCont := tw_append u t ht
        have ho2 : oddH (b :: (u ++ t)) := by unfold oddH at ho ⊢; rw [dec_sim b _ _ hs]; exact ho
        rw [List.cons_append, foldD_step (b :: (u ++ t)) (by simp), piece_odd b _ ho2, odd_drop _ ho2, List.tail_cons, ih u t (by simp at h; omega) (.inr ht), foldD_step (b :: u) (by simp), piece_odd b u ho, odd_drop _ ho, List.tail_cons, List.append_assoc]
      · have hf := dec_form (b :: u) (by simp) ho
        have g1 := dec_ge1 (b :: u)
        have g2 := dec_le (b :: u) (by simp)
        have hsplit : (b :: u) = encodeRune ((dec (b :: u)).1 : Int) ++ (b :: u).drop (dec (b :: u)).2 := by rw [hf, List.take_append_drop]
        have hlen : (encodeRune ((dec (b :: u)).1 : Int)).length = (dec (b :: u)).2 := by rw [hf, List.length_take]; omega
        have hd : dec ((b :: u) ++ t) = dec (b :: u) := by
          conv => lhs; rw [hsplit, List.append_assoc]
          rw [dec_enc _ (dec_ok _), hlen]
        have hne : (b :: u) ++ t ≠ [] := by simp
        have ho2 : ¬ oddH ((b :: u) ++ t) := by unfold oddH at ho ⊢; rw [hd]; exact ho
        have hv : Lib.validD ((b :: u).drop (dec (b :: u)).2) = true ∨ t.takeWhile isCont = [] := by
          refine hp.imp_left (fun h => ?_)
          rw [validD_step _ (by simp), if_neg ho] at h
          exact h
        rw [foldD_step _ hne, piece_ok _ hne ho2, hd, List.drop_append_of_le_length g2, ih _ t (by rw [List.length_drop]; omega) hv, foldD_step (b :: u) (by simp), piece_ok _ (by simp) ho, List.append_assoc]
theorem fold_append (l t : List UInt8) (h : Lib.validD l = true ∨ t.takeWhile isCont = []) : foldD (l ++ t) = foldD l ++ foldD t := fold_append_at _ l t (Nat.le_refl _) h

/-! texts of forms -/
def flat (rs : List Nat) : List UInt8 := rs.flatMap fun r : Nat => encodeRune (r : Int)
theorem flat_snoc (rs : List Nat) (r : Nat) : flat (rs ++ [r]) = flat rs ++ encodeRune (r : Int) := by simp [flat]
theorem flat_runes_at : ∀ (rs : List Nat) (pre : List UInt8), (∀ r ∈ rs, okRune r) → (runesAt (pre ++ flat rs) pre.length).map (·.2) = rs ∧ validAt (pre ++ flat rs) pre.length = true
  | [], pre, _ => by
    have : pre ++ flat [] = pre := by simp [flat]
    rw [this, runesAt_end _ _ (Nat.le_refl _), validAt_end _ _ (Nat.le_refl _)]
    exact ⟨rfl, rfl⟩
  | r :: rs, pre, h => by
    have hr := h r (by simp)
    have e : flat (r :: rs) = encodeRune (r : Int) ++ flat rs := by simp [flat]
    have hpos := enc_pos (r : Int)
    have hd : (pre ++ flat (r :: rs)).drop pre.length = encodeRune (r : Int) ++ flat rs := by rw [List.drop_append_of_le_length (Nat.le_refl _), List.drop_length, List.nil_append, e]
    have hlt : pre.length < (pre ++ flat (r :: rs)).length := by rw [e]; simp; omega
    have ih := flat_runes_at rs (pre ++ encodeRune (r : Int)) (fun x hx => h x (by simp [hx]))
    have e2 : pre ++ encodeRune (r : Int) ++ flat rs = pre ++ flat (r :: rs) := by rw [e, List.append_assoc]
    rw [e2, List.length_append] at ih
    have hno : ¬ odd (pre ++ flat (r :: rs)) pre.length := by
      unfold odd; rw [hd]; exact enc_not_odd r hr _
    rw [runesAt_step _ _ hlt, validAt_step _ _ hlt, if_neg hno, hd, dec_enc r hr]
    exact ⟨by simp only [List.map_cons]; rw [ih.1], ih.2⟩
theorem flat_runes (rs : List Nat) (h : ∀ r ∈ rs, okRune r) : (runes (flat rs)).map (·.2) = rs ∧ Lib.validD (flat rs) = true := by
  have := flat_runes_at rs [] h
  simpa [validAt] using this

end Go.Proofs.FoldText
