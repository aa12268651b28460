/- What the document's answer for texts computes (the printed functions), said by the plain functions on bytes. -/
import Derived.Test.YtgbphkckiekehaaDoorQFoldx
import Derived.Test.YtgbphkckiekehaaDoorFoldText
import Derived.Test.YtgbphkckiekehaaDoorFoldBridge
import Derived.Lib.Strings
set_option linter.unusedSimpArgs false
set_option linter.unusedVariables false
namespace Go.Proofs.YtgbphkckiekehaaDoor.FoldRef
open Go Go.RowKit Go.Proofs.YtgbphkckiekehaaDoor.QFold Go.Proofs.YtgbphkckiekehaaDoorW.PrintWords Go.Proofs.FoldPlain Go.Proofs.FoldText Go.Proofs.YtgbphkckiekehaaDoor.FoldBridge

theorem size_data (s : ByteArray) : s.data.toList.length = s.size := by rw [Array.length_toList]; rfl

/-- A byte of a text, as a number. -/
def by_ (l : List UInt8) (p : Nat) : Nat := (l.getD p 0).toNat
theorem by_lt (l : List UInt8) (p : Nat) : by_ l p < 256 := (l.getD p 0).toNat_lt
theorem bt_by (s : ByteArray) (p : Nat) (h : p < s.size) : bt s (p : Int) = (by_ s.data.toList p : Int) := by
  unfold bt by_
  rw [dif_pos (by simpa using h)]
  have h' : p < s.data.toList.length := by rw [size_data]; exact h
  simp only [Int.toNat_natCast, List.getD_eq_getElem?_getD, List.getElem?_eq_getElem h', Option.getD_some]
  rfl

theorem w64' {n : Int} (h0 : -9223372036854775808 ≤ n) (h1 : n ≤ 9223372036854775807) : wrap64 n = n := by unfold wrap64; omega

theorem strOf_data (xs : List Int) : (strOfNums xs).data.toList = xs.map fun n => UInt8.ofNat n.toNat := by simp [strOfNums]
theorem extract_data (s : ByteArray) (p q : Nat) (hq : q ≤ s.size) : (s.extract p q).data.toList = (s.data.toList.drop p).take (q - p) := by
  rw [ByteArray.data_extract]; simp [List.extract_eq_take_drop]

theorem nums_eq (xs : List Int) (bs : List UInt8) (h : ∀ x ∈ xs, 0 ≤ x ∧ x < 256) : (xs.map fun n => UInt8.ofNat n.toNat) = bs ↔ xs = bs.map fun b => (b.toNat : Int) := by
  constructor
  · rintro rfl
    rw [List.map_map]
    conv => lhs; rw [← List.map_id xs]
    apply List.map_congr_left
    intro x hx
    have := h x hx
    simp [Function.comp]
    omega
  · rintro rfl
    rw [List.map_map]
    conv => rhs; rw [← List.map_id bs]
    apply List.map_congr_left
    intro x _
    simp [Function.comp]

theorem encZ_nums (r : Int) (bs : List UInt8) : ((strOfNums (Lib.encodeRuneZ r)).data.toList = bs) ↔ Lib.encodeRuneZ r = bs.map fun b => (b.toNat : Int) := by
  rw [strOf_data]; exact nums_eq _ _ (Lib.encodeRuneZ_byte r)

/-- The check at the end of the document's decoder. -/
def tailD (r : Int) (n : Nat) (bs : List UInt8) : Int × Int := if Lib.validRune r = true ∧ Lib.encodeRuneZ r = bs.map fun b => (b.toNat : Int) then (r, (n : Int)) else (65533, 1)

theorem next_tail (k : Nat) (s : ByteArray) (p n : Nat) (r : Int) (hp : p + n ≤ s.size) (hs : s.size ≤ 140737488355328) :
    lecternref05_Next.l0 (k + 1) s (p : Int) (n : Int) r (n : Int) = some (tailD r n ((s.data.toList.drop p).take n)) := by
  simp only [lecternref05_Next.l0]
  rw [if_neg (by omega), rune_f, Option.bind_some]
  unfold tailD
  by_cases hv : Lib.validRune r = true
  · rw [if_pos hv, form_f r hv, Option.bind_some, w64' (by omega) (by omega), if_pos (by omega), if_pos (by omega), if_pos (by omega)]
    have e : (((p : Int) + (n : Int)).toNat) = p + n := by omega
    rw [Lib.toList_data, Lib.toList_data, Int.toNat_natCast, e, extract_data _ _ _ hp, show p + n - p = n by omega]
    by_cases he : (strOfNums (Lib.encodeRuneZ r)).data.toList = (s.data.toList.drop p).take n
    · rw [if_pos he, if_pos ⟨hv, (encZ_nums _ _).1 he⟩]
    · rw [if_neg he, if_neg (fun h => he ((encZ_nums _ _).2 h.2))]
  · rw [if_neg hv, if_neg (fun h => hv h.1)]

theorem and63 {x : Int} (h0 : 0 ≤ x) (h1 : x < 256) : Go.bits .and .u8 x 63 = x % 64 := u8_and63 x h0 h1

theorem next_step (k : Nat) (s : ByteArray) (p n i : Nat) (r : Int) (hi : i < n) (hp : p + n ≤ s.size) (hs : s.size ≤ 140737488355328) (h0 : 0 ≤ r) (h1 : r ≤ 2097151) :
    lecternref05_Next.l0 (k + 1) s (p : Int) (n : Int) r (i : Int) = lecternref05_Next.l0 k s (p : Int) (n : Int) (r * 64 + (by_ s.data.toList (p + i) % 64 : Nat)) ((i + 1 : Nat) : Int) := by
  have hb := by_lt s.data.toList (p + i)
  simp only [lecternref05_Next.l0]
  rw [if_pos (by omega), w64' (n := (p : Int) + (i : Int)) (by omega) (by omega), if_pos (by omega), if_pos (by omega), w64' (by omega) (by omega)]
  rw [show (p : Int) + (i : Int) = ((p + i : Nat) : Int) by omega, bt_by s _ (by omega), and63 (by omega) (by omega), w32 (n := r * 64) (by omega) (by omega), w32 (n := (by_ s.data.toList (p + i) : Int) % 64) (by omega) (by omega), w32 (by omega) (by omega)]
  congr 1

theorem drop_getD (l : List UInt8) (p k : Nat) : (l.drop p).getD k 0 = l.getD (p + k) 0 := by simp [List.getD, List.getElem?_drop]

/-- Two, three, four bytes. -/
theorem two (k : Nat) (s : ByteArray) (p : Nat) (r : Int) (hp : p + 2 ≤ s.size) (hs : s.size ≤ 140737488355328) (h0 : 0 ≤ r) (h1 : r ≤ 31) :
    lecternref05_Next.l0 (k + 2) s (p : Int) 2 r 1 = some (tailD (r * 64 + (by_ s.data.toList (p + 1) % 64 : Nat)) 2 ((s.data.toList.drop p).take 2)) := by
  have a := next_step (k + 1) s p 2 1 r (by omega) hp hs h0 (by omega)
  have b := next_tail k s p 2 (r * 64 + (by_ s.data.toList (p + 1) % 64 : Nat)) hp hs
  exact a.trans b
theorem three (k : Nat) (s : ByteArray) (p : Nat) (r : Int) (hp : p + 3 ≤ s.size) (hs : s.size ≤ 140737488355328) (h0 : 0 ≤ r) (h1 : r ≤ 15) :
    lecternref05_Next.l0 (k + 3) s (p : Int) 3 r 1 = some (tailD ((r * 64 + (by_ s.data.toList (p + 1) % 64 : Nat)) * 64 + (by_ s.data.toList (p + 2) % 64 : Nat)) 3 ((s.data.toList.drop p).take 3)) := by
  have a := next_step (k + 2) s p 3 1 r (by omega) hp hs h0 (by omega)
  have b := next_step (k + 1) s p 3 2 _ (by omega) hp hs (show (0 : Int) ≤ r * 64 + (by_ s.data.toList (p + 1) % 64 : Nat) by omega) (by omega)
  have c := next_tail k s p 3 ((r * 64 + (by_ s.data.toList (p + 1) % 64 : Nat)) * 64 + (by_ s.data.toList (p + 2) % 64 : Nat)) hp hs
  exact a.trans (b.trans c)
theorem four (k : Nat) (s : ByteArray) (p : Nat) (r : Int) (hp : p + 4 ≤ s.size) (hs : s.size ≤ 140737488355328) (h0 : 0 ≤ r) (h1 : r ≤ 7) :
    lecternref05_Next.l0 (k + 4) s (p : Int) 4 r 1 = some (tailD (((r * 64 + (by_ s.data.toList (p + 1) % 64 : Nat)) * 64 + (by_ s.data.toList (p + 2) % 64 : Nat)) * 64 + (by_ s.data.toList (p + 3) % 64 : Nat)) 4 ((s.data.toList.drop p).take 4)) := by
  have a := next_step (k + 3) s p 4 1 r (by omega) hp hs h0 (by omega)
  have b := next_step (k + 2) s p 4 2 _ (by omega) hp hs (show (0 : Int) ≤ r * 64 + (by_ s.data.toList (p + 1) % 64 : Nat) by omega) (by omega)
  have c := next_step (k + 1) s p 4 3 _ (by omega) hp hs (show (0 : Int) ≤ (r * 64 + (by_ s.data.toList (p + 1) % 64 : Nat)) * 64 + (by_ s.data.toList (p + 2) % 64 : Nat) by omega) (by omega)
  have d := next_tail k s p 4 (((r * 64 + (by_ s.data.toList (p + 1) % 64 : Nat)) * 64 + (by_ s.data.toList (p + 2) % 64 : Nat)) * 64 + (by_ s.data.toList (p + 3) % 64 : Nat)) hp hs
  exact a.trans (b.trans (c.trans d))

theorem valid_iff (r : Int) : Lib.validRune r = true ↔ (0 ≤ r ∧ r < 55296) ∨ (57343 < r ∧ r ≤ 1114111) := by unfold Lib.validRune; rw [decide_eq_true_iff]

set_option maxRecDepth 100000 in
set_option maxHeartbeats 1000000 in
/-- The decoder's two ways agree: over numbers. -/
theorem tail2 (n b0 b1 b2 b3 : Nat) (x y : UInt8) (hx : x.toNat = b0) (hy : y.toNat = b1) (h0 : 192 ≤ b0) (h1 : b0 < 224) (k1 : b1 < 256) (hn : 2 ≤ n) :
    tailD (((b0 : Int) - 192) * 64 + (b1 % 64 : Nat)) 2 [x, y] = (((Lib.decodeN n b0 b1 b2 b3).1 : Int), ((Lib.decodeN n b0 b1 b2 b3).2 : Int)) := by
  obtain ⟨r, hr⟩ : ∃ r : Int, r = ((b0 : Int) - 192) * 64 + (b1 % 64 : Nat) := ⟨_, rfl⟩
  rw [← hr]
  have hr' : r = ((b0 % 32 * 64 + b1 % 64 : Nat) : Int) := by omega
  have e : (Lib.validRune r = true ∧ Lib.encodeRuneZ r = [x, y].map fun b => (b.toNat : Int)) ↔ (b1 / 64 = 2 ∧ 128 ≤ r) := by
    simp only [List.map_cons, List.map_nil, hx, hy, valid_iff]
    constructor
    · rintro ⟨_, h⟩
      by_cases c1 : r ≤ 127
      · rw [Lib.encodeRuneZ_one (by omega) c1] at h; simp at h
      · rw [Lib.encodeRuneZ_two (by omega) (by omega)] at h
        obtain ⟨a1, h⟩ := List.cons_eq_cons.1 h
        obtain ⟨a2, h⟩ := List.cons_eq_cons.1 h
        omega
    · rintro ⟨h2, h3⟩
      refine ⟨by omega, ?_⟩
      rw [Lib.encodeRuneZ_two (by omega) (by omega)]
      exact List.cons_eq_cons.2 ⟨by omega, List.cons_eq_cons.2 ⟨by omega, rfl⟩⟩
  by_cases c : b1 / 64 = 2 ∧ 128 ≤ b0 % 32 * 64 + b1 % 64
  · have d : Lib.decodeN n b0 b1 b2 b3 = (b0 % 32 * 64 + b1 % 64, 2) := by
      unfold Lib.decodeN
      rw [if_neg (by omega), if_pos (show b0 / 32 = 6 ∧ (1 < n ∧ b1 / 64 = 2) from ⟨by omega, by omega, c.1⟩), if_pos c.2]
    rw [d]; unfold tailD
    rw [if_pos (e.2 ⟨c.1, by omega⟩), hr']
  · have d : Lib.decodeN n b0 b1 b2 b3 = (65533, 1) := by
      unfold Lib.decodeN
      rw [if_neg (by omega)]
      by_cases c' : b1 / 64 = 2
      · rw [if_pos (show b0 / 32 = 6 ∧ (1 < n ∧ b1 / 64 = 2) from ⟨by omega, by omega, c'⟩), if_neg (fun h => c ⟨c', h⟩)]
      · rw [if_neg (fun h => c' h.2.2), if_neg (fun h => c' h.2.1.2), if_neg (fun h => c' h.2.1.2)]
    rw [d]; unfold tailD
    rw [if_neg (fun h => c (by have := e.1 h; omega))]; rfl
set_option maxRecDepth 100000 in
set_option maxHeartbeats 1000000 in
theorem tail3 (n b0 b1 b2 b3 : Nat) (x y z : UInt8) (hx : x.toNat = b0) (hy : y.toNat = b1) (hz : z.toNat = b2) (h0 : 224 ≤ b0) (h1 : b0 < 240) (k1 : b1 < 256) (k2 : b2 < 256) (hn : 3 ≤ n) :
    tailD ((((b0 : Int) - 224) * 64 + (b1 % 64 : Nat)) * 64 + (b2 % 64 : Nat)) 3 [x, y, z] = (((Lib.decodeN n b0 b1 b2 b3).1 : Int), ((Lib.decodeN n b0 b1 b2 b3).2 : Int)) := by
  obtain ⟨r, hr⟩ : ∃ r : Int, r = (((b0 : Int) - 224) * 64 + (b1 % 64 : Nat)) * 64 + (b2 % 64 : Nat) := ⟨_, rfl⟩
  rw [← hr]
  have hr' : r = ((b0 % 16 * 4096 + b1 % 64 * 64 + b2 % 64 : Nat) : Int) := by omega
  have e : (Lib.validRune r = true ∧ Lib.encodeRuneZ r = [x, y, z].map fun b => (b.toNat : Int)) ↔ (b1 / 64 = 2 ∧ b2 / 64 = 2 ∧ 2048 ≤ r ∧ (r < 55296 ∨ 57344 ≤ r)) := by
    simp only [List.map_cons, List.map_nil, hx, hy, hz, valid_iff]
    constructor
    · rintro ⟨hv, h⟩
      by_cases c1 : r ≤ 127
      · rw [Lib.encodeRuneZ_one (by omega) c1] at h; simp at h
      · by_cases c2 : r ≤ 2047
        · rw [Lib.encodeRuneZ_two (by omega) (by omega)] at h; simp at h
        · rw [Lib.encodeRuneZ_three (by omega)] at h
          obtain ⟨a1, h⟩ := List.cons_eq_cons.1 h
          obtain ⟨a2, h⟩ := List.cons_eq_cons.1 h
          obtain ⟨a3, h⟩ := List.cons_eq_cons.1 h
          omega
    · rintro ⟨h2, h3, h4, h5⟩
      refine ⟨by omega, ?_⟩
      rw [Lib.encodeRuneZ_three (by omega)]
      exact List.cons_eq_cons.2 ⟨by omega, List.cons_eq_cons.2 ⟨by omega, List.cons_eq_cons.2 ⟨by omega, rfl⟩⟩⟩
  have n6 : ¬ (b0 / 32 = 6 ∧ (1 < n ∧ b1 / 64 = 2)) := fun h => by omega
  by_cases c : b1 / 64 = 2 ∧ b2 / 64 = 2 ∧ 2048 ≤ r ∧ (r < 55296 ∨ 57344 ≤ r)
  · have d : Lib.decodeN n b0 b1 b2 b3 = (b0 % 16 * 4096 + b1 % 64 * 64 + b2 % 64, 3) := by
      unfold Lib.decodeN
      rw [if_neg (by omega), if_neg n6, if_pos ⟨by omega, ⟨by omega, c.1⟩, by omega, c.2.1⟩, if_pos ⟨by omega, by omega⟩]
    rw [d]; unfold tailD
    rw [if_pos (e.2 c), hr']
  · have d : Lib.decodeN n b0 b1 b2 b3 = (65533, 1) := by
      unfold Lib.decodeN
      rw [if_neg (by omega), if_neg n6]
      by_cases c' : b0 / 16 = 14 ∧ (1 < n ∧ b1 / 64 = 2) ∧ (2 < n ∧ b2 / 64 = 2)
      · rw [if_pos c', if_neg (fun h => c ⟨c'.2.1.2, c'.2.2.2, by omega, by omega⟩)]
      · rw [if_neg c', if_neg (fun h => by omega)]
    rw [d]; unfold tailD
    rw [if_neg (fun h => c (e.1 h))]; rfl
set_option maxRecDepth 100000 in
set_option maxHeartbeats 1000000 in
theorem tail4 (n b0 b1 b2 b3 : Nat) (x y z u : UInt8) (hx : x.toNat = b0) (hy : y.toNat = b1) (hz : z.toNat = b2) (hu : u.toNat = b3) (h0 : 240 ≤ b0) (h1 : b0 < 248) (k1 : b1 < 256) (k2 : b2 < 256) (k3 : b3 < 256) (hn : 4 ≤ n) :
    tailD (((((b0 : Int) - 240) * 64 + (b1 % 64 : Nat)) * 64 + (b2 % 64 : Nat)) * 64 + (b3 % 64 : Nat)) 4 [x, y, z, u] = (((Lib.decodeN n b0 b1 b2 b3).1 : Int), ((Lib.decodeN n b0 b1 b2 b3).2 : Int)) := by
  obtain ⟨r, hr⟩ : ∃ r : Int, r = ((((b0 : Int) - 240) * 64 + (b1 % 64 : Nat)) * 64 + (b2 % 64 : Nat)) * 64 + (b3 % 64 : Nat) := ⟨_, rfl⟩
  rw [← hr]
  have hr' : r = ((b0 % 8 * 262144 + b1 % 64 * 4096 + b2 % 64 * 64 + b3 % 64 : Nat) : Int) := by omega
  have e : (Lib.validRune r = true ∧ Lib.encodeRuneZ r = [x, y, z, u].map fun b => (b.toNat : Int)) ↔ (b1 / 64 = 2 ∧ b2 / 64 = 2 ∧ b3 / 64 = 2 ∧ 65536 ≤ r ∧ r ≤ 1114111) := by
    simp only [List.map_cons, List.map_nil, hx, hy, hz, hu, valid_iff]
    constructor
    · rintro ⟨hv, h⟩
      by_cases c1 : r ≤ 127
      · rw [Lib.encodeRuneZ_one (by omega) c1] at h; simp at h
      · by_cases c2 : r ≤ 2047
        · rw [Lib.encodeRuneZ_two (by omega) (by omega)] at h; simp at h
        · by_cases c3 : r ≤ 65535
          · rw [Lib.encodeRuneZ_three (by omega)] at h; simp at h
          · rw [Lib.encodeRuneZ_four (by omega) (by omega)] at h
            obtain ⟨a1, h⟩ := List.cons_eq_cons.1 h
            obtain ⟨a2, h⟩ := List.cons_eq_cons.1 h
            obtain ⟨a3, h⟩ := List.cons_eq_cons.1 h
            obtain ⟨a4, h⟩ := List.cons_eq_cons.1 h
            omega
    · rintro ⟨h2, h3, h4, h5, h6⟩
      refine ⟨by omega, ?_⟩
      rw [Lib.encodeRuneZ_four (by omega) (by omega)]
      exact List.cons_eq_cons.2 ⟨by omega, List.cons_eq_cons.2 ⟨by omega, List.cons_eq_cons.2 ⟨by omega, List.cons_eq_cons.2 ⟨by omega, rfl⟩⟩⟩⟩
  have n6 : ¬ (b0 / 32 = 6 ∧ (1 < n ∧ b1 / 64 = 2)) := fun h => by omega
  have n14 : ¬ (b0 / 16 = 14 ∧ (1 < n ∧ b1 / 64 = 2) ∧ (2 < n ∧ b2 / 64 = 2)) := fun h => by omega
  by_cases c : b1 / 64 = 2 ∧ b2 / 64 = 2 ∧ b3 / 64 = 2 ∧ 65536 ≤ r ∧ r ≤ 1114111
  · have d : Lib.decodeN n b0 b1 b2 b3 = (b0 % 8 * 262144 + b1 % 64 * 4096 + b2 % 64 * 64 + b3 % 64, 4) := by
      unfold Lib.decodeN
      rw [if_neg (by omega), if_neg n6, if_neg n14, if_pos ⟨by omega, ⟨by omega, c.1⟩, ⟨by omega, c.2.1⟩, by omega, c.2.2.1⟩, if_pos ⟨by omega, by omega⟩]
    rw [d]; unfold tailD
    rw [if_pos (e.2 c), hr']
  · have d : Lib.decodeN n b0 b1 b2 b3 = (65533, 1) := by
      unfold Lib.decodeN
      rw [if_neg (by omega), if_neg n6, if_neg n14]
      by_cases c' : b0 / 8 = 30 ∧ (1 < n ∧ b1 / 64 = 2) ∧ (2 < n ∧ b2 / 64 = 2) ∧ (3 < n ∧ b3 / 64 = 2)
      · rw [if_pos c', if_neg (fun h => c ⟨c'.2.1.2, c'.2.2.1.2, c'.2.2.2.2, by omega, by omega⟩)]
      · rw [if_neg c']
    rw [d]; unfold tailD
    rw [if_neg (fun h => c (e.1 h))]; rfl

theorem short2 (n b0 b1 b2 b3 : Nat) (h : 192 ≤ b0 ∧ b0 < 224 ∧ n < 2 ∨ 224 ≤ b0 ∧ b0 < 240 ∧ n < 3 ∨ 240 ≤ b0 ∧ n < 4 ∨ 248 ≤ b0 ∨ 128 ≤ b0 ∧ b0 < 192) (hb : b0 < 256) : Lib.decodeN n b0 b1 b2 b3 = (65533, 1) := by
  unfold Lib.decodeN
  rw [if_neg (by omega), if_neg (fun h => by omega), if_neg (fun h => by omega), if_neg (fun h => by omega)]

set_option maxRecDepth 100000 in
/-- The document's decoder is the decoder. -/
theorem refNext_in (k : Nat) (s : ByteArray) (p : Nat) (hp : p < s.size) (hs : s.size ≤ 140737488355328) :
    lecternref05_Next.f (k + 8) s (p : Int) = some (nextD s.data.toList (p : Int)) := by
  rw [nextD_in _ _ (by rw [size_data]; exact hp)]
  unfold dec
  have hl := size_data s
  rw [Lib.decodeL_N, List.length_drop, drop_getD, drop_getD, drop_getD, drop_getD, Nat.add_zero, hl]
  have k0 := by_lt s.data.toList p
  have k1 := by_lt s.data.toList (p + 1)
  have k2 := by_lt s.data.toList (p + 2)
  have k3 := by_lt s.data.toList (p + 3)
  have hb := bt_by s p hp
  change _ = some (((Lib.decodeN (s.size - p) (by_ s.data.toList p) (by_ s.data.toList (p + 1)) (by_ s.data.toList (p + 2)) (by_ s.data.toList (p + 3))).1 : Int), ((Lib.decodeN (s.size - p) (by_ s.data.toList p) (by_ s.data.toList (p + 1)) (by_ s.data.toList (p + 2)) (by_ s.data.toList (p + 3))).2 : Int))
  have t2 : p + 2 ≤ s.size → (s.data.toList.drop p).take 2 = [s.data.toList.getD p 0, s.data.toList.getD (p + 1) 0] := fun h => by
    rw [Lib.takeB _ (by rw [List.length_drop]; omega), drop_getD, drop_getD, Nat.add_zero]
  have t3 : p + 3 ≤ s.size → (s.data.toList.drop p).take 3 = [s.data.toList.getD p 0, s.data.toList.getD (p + 1) 0, s.data.toList.getD (p + 2) 0] := fun h => by
    rw [Lib.takeC _ (by rw [List.length_drop]; omega), drop_getD, drop_getD, drop_getD, Nat.add_zero]
  have t4 : p + 4 ≤ s.size → (s.data.toList.drop p).take 4 = [s.data.toList.getD p 0, s.data.toList.getD (p + 1) 0, s.data.toList.getD (p + 2) 0, s.data.toList.getD (p + 3) 0] := fun h => by
    rw [Lib.takeD _ (by rw [List.length_drop]; omega), drop_getD, drop_getD, drop_getD, drop_getD, Nat.add_zero]
  have two' := fun k r => two k s p r
  have three' := fun k r => three k s p r
  have four' := fun k r => four k s p r
  have n2 := tail2 (s.size - p) (by_ s.data.toList p) (by_ s.data.toList (p + 1)) (by_ s.data.toList (p + 2)) (by_ s.data.toList (p + 3)) (s.data.toList.getD p 0) (s.data.toList.getD (p + 1) 0) rfl rfl
  have n3 := tail3 (s.size - p) (by_ s.data.toList p) (by_ s.data.toList (p + 1)) (by_ s.data.toList (p + 2)) (by_ s.data.toList (p + 3)) (s.data.toList.getD p 0) (s.data.toList.getD (p + 1) 0) (s.data.toList.getD (p + 2) 0) rfl rfl rfl
  have n4 := tail4 (s.size - p) (by_ s.data.toList p) (by_ s.data.toList (p + 1)) (by_ s.data.toList (p + 2)) (by_ s.data.toList (p + 3)) (s.data.toList.getD p 0) (s.data.toList.getD (p + 1) 0) (s.data.toList.getD (p + 2) 0) (s.data.toList.getD (p + 3) 0) rfl rfl rfl rfl
  have sh := short2 (s.size - p) (by_ s.data.toList p) (by_ s.data.toList (p + 1)) (by_ s.data.toList (p + 2)) (by_ s.data.toList (p + 3))
  revert hb k0 k1 k2 k3 two' three' four' n2 n3 n4 sh
  generalize by_ s.data.toList p = b0
  generalize by_ s.data.toList (p + 1) = b1
  generalize by_ s.data.toList (p + 2) = b2
  generalize by_ s.data.toList (p + 3) = b3
  intro k0 k1 k2 k3 hb two' three' four' n2 n3 n4 sh
  unfold lecternref05_Next.f
  rw [if_neg (by omega), decide_eq_false (by omega)]
  simp only [lecternref05_Next.j0, hb]
  rw [if_neg (by decide), if_pos (by omega), if_pos (by omega)]
  by_cases c0 : (b0 : Int) < 128
  · rw [if_pos c0, w32 (by omega) (by omega), Lib.decodeN_ascii _ _ _ _ _ (by omega)]; rfl
  · rw [if_neg c0]
    by_cases c1 : (b0 : Int) ≥ 192
    · rw [if_pos c1]
      by_cases c2 : (b0 : Int) < 224
      · rw [decide_eq_true c2]
        simp only [lecternref05_Next.j1, lecternref05_Next.j3]
        rw [if_pos trivial, w64' (by omega) (by omega)]
        by_cases hn : (s.size : Int) - (p : Int) < 2
        · rw [if_pos hn, sh (.inl ⟨by omega, by omega, by omega⟩) (by omega)]; rfl
        · rw [if_neg hn, show ((b0 : Int) - 192) % 256 = (b0 : Int) - 192 by omega, two' _ _ (by omega) hs (by omega) (by omega), t2 (by omega), n2 (by omega) (by omega) (by omega) (by omega)]
      · rw [decide_eq_false c2]
        simp only [lecternref05_Next.j1]
        rw [if_neg (by decide), if_pos (by omega)]
        by_cases c3 : (b0 : Int) < 240
        · rw [decide_eq_true c3]
          simp only [lecternref05_Next.j2, lecternref05_Next.j3]
          rw [if_pos trivial, w64' (by omega) (by omega)]
          by_cases hn : (s.size : Int) - (p : Int) < 3
          · rw [if_pos hn, sh (.inr (.inl ⟨by omega, by omega, by omega⟩)) (by omega)]; rfl
          · rw [if_neg hn, show ((b0 : Int) - 224) % 256 = (b0 : Int) - 224 by omega, three' _ _ (by omega) hs (by omega) (by omega), t3 (by omega), n3 (by omega) (by omega) (by omega) (by omega) (by omega)]
        · rw [decide_eq_false c3]
          simp only [lecternref05_Next.j2, lecternref05_Next.j3]
          rw [if_neg (by decide), if_pos (by omega)]
          by_cases c4 : (b0 : Int) < 248
          · rw [if_pos c4, w64' (by omega) (by omega)]
            by_cases hn : (s.size : Int) - (p : Int) < 4
            · rw [if_pos hn, sh (.inr (.inr (.inl ⟨by omega, by omega⟩))) (by omega)]; rfl
            · rw [if_neg hn, show ((b0 : Int) - 240) % 256 = (b0 : Int) - 240 by omega, four' _ _ (by omega) hs (by omega) (by omega), t4 (by omega), n4 (by omega) (by omega) (by omega) (by omega) (by omega) (by omega)]
          · rw [if_neg c4, sh (.inr (.inr (.inr (.inl (by omega))))) (by omega)]; rfl
    · rw [if_neg c1]
      simp only [lecternref05_Next.j1]
      rw [if_neg (by decide), if_neg (by omega)]
      simp only [lecternref05_Next.j2]
      rw [if_neg (by decide), if_neg (by omega), sh (.inr (.inr (.inr (.inr ⟨by omega, by omega⟩)))) (by omega)]; rfl

theorem refNext_f (k : Nat) (s : ByteArray) (p : Int) (hs : s.size ≤ 140737488355328) : lecternref05_Next.f (k + 8) s p = some (nextD s.data.toList p) := by
  by_cases h : p < 0
  · rw [nextD_out _ _ (.inl h)]
    unfold lecternref05_Next.f; rw [if_pos h]; simp [lecternref05_Next.j0]
  · by_cases h1 : (s.size : Int) ≤ p
    · rw [nextD_out _ _ (.inr (by rw [size_data]; exact h1))]
      unfold lecternref05_Next.f; rw [if_neg h, decide_eq_true h1]; simp [lecternref05_Next.j0]
    · have := refNext_in k s p.toNat (by omega) hs
      rwa [Int.toNat_of_nonneg (by omega)] at this

theorem refNext_at (k : Nat) (s : ByteArray) (p : Nat) (hp : p < s.size) (hs : s.size ≤ 140737488355328) :
    lecternref05_Next.f (k + 8) s (p : Int) = some (((dec (s.data.toList.drop p)).1 : Int), ((dec (s.data.toList.drop p)).2 : Int)) := by
  rw [refNext_f k s p hs, nextD_in _ _ (by rw [size_data]; exact hp)]

theorem refValid_l0 (s : ByteArray) (hs : s.size ≤ 140737488355328) : ∀ (d k p : Nat), s.size ≤ p + d → p ≤ s.size → d + 9 ≤ k → lecternref05_Valid.l0 k s (p : Int) = some (validAt s.data.toList p) := by
  intro d
  induction d with
  | zero =>
    intro k p h0 h1 hk
    obtain ⟨k, rfl⟩ : ∃ m, k = m + 1 := ⟨k - 1, by omega⟩
    rw [lecternref05_Valid.l0]
    rw [if_neg (by omega), validAt_end _ _ (by rw [size_data]; omega)]
  | succ d ih =>
    intro k p h0 h1 hk
    obtain ⟨k, rfl⟩ : ∃ m, k = m + 8 + 1 := ⟨k - 9, by omega⟩
    rw [lecternref05_Valid.l0]
    by_cases hp : p < s.size
    · have hl : p < s.data.toList.length := by rw [size_data]; exact hp
      have g1 := dec_ge1 (s.data.toList.drop p)
      have g2 := dec_in hl
      rw [size_data] at g2
      rw [if_pos (by omega), refNext_at k s p hp hs, Option.bind_some, validAt_step _ _ hl]
      have hn : lecternref05_Valid.l0 (k + 8) s (wrap64 ((p : Int) + ((dec (s.data.toList.drop p)).2 : Int))) = some (validAt s.data.toList (p + (dec (s.data.toList.drop p)).2)) := by
        rw [w64' (by omega) (by omega)]
        exact ih (k + 8) (p + (dec (s.data.toList.drop p)).2) (by omega) g2 (by omega)
      dsimp only
      rw [hn]
      by_cases ho : odd s.data.toList p
      · rw [if_pos ho, if_pos (by rw [ho.1]; rfl), if_pos (by rw [ho.2]; rfl)]
      · rw [if_neg ho]
        by_cases o1 : ((dec (s.data.toList.drop p)).1 : Int) = 65533
        · rw [if_pos o1, if_neg (fun o2 => ho ⟨by omega, by omega⟩)]
        · rw [if_neg o1]
    · rw [if_neg (by omega), validAt_end _ _ (by rw [size_data]; omega)]
theorem refValid_f (s : ByteArray) (hs : s.size ≤ 140737488355328) : lecternref05_Valid.f (s.size + 9) s = some (Lib.validD s.data.toList) :=
  refValid_l0 s hs s.size _ 0 (by omega) (by omega) (by omega)

/-- The runes of a text as two rows of numbers. -/
def placesZ (rs : List (Nat × Nat)) : List Int := rs.map fun x => (x.1 : Int)
def runesZ (rs : List (Nat × Nat)) : List Int := rs.map fun x => (x.2 : Int)
theorem placesZ_cons (x : Nat × Nat) (rs : List (Nat × Nat)) : placesZ (x :: rs) = (x.1 : Int) :: placesZ rs := rfl
theorem runesZ_cons (x : Nat × Nat) (rs : List (Nat × Nat)) : runesZ (x :: rs) = (x.2 : Int) :: runesZ rs := rfl

theorem refRunes_l0 (s : ByteArray) (hs : s.size ≤ 17592186044416) : ∀ (d k p : Nat) (xs ys : List Int), s.size ≤ p + d → p ≤ s.size → d + 9 ≤ k → xs.length ≤ p → ys.length ≤ p →
    lecternref05_Runes.l0 k s xs ys (p : Int) = some (xs ++ placesZ (runesAt s.data.toList p), ys ++ runesZ (runesAt s.data.toList p)) := by
  intro d
  induction d with
  | zero =>
    intro k p xs ys h0 h1 hk _ _
    obtain ⟨k, rfl⟩ : ∃ m, k = m + 1 := ⟨k - 1, by omega⟩
    rw [lecternref05_Runes.l0]
    rw [if_neg (by omega), runesAt_end _ _ (by rw [size_data]; omega)]
    simp [placesZ, runesZ]
  | succ d ih =>
    intro k p xs ys h0 h1 hk hx hy
    obtain ⟨k, rfl⟩ : ∃ m, k = m + 8 + 1 := ⟨k - 9, by omega⟩
    rw [lecternref05_Runes.l0]
    by_cases hp : p < s.size
    · have hl : p < s.data.toList.length := by rw [size_data]; exact hp
      have g1 := dec_ge1 (s.data.toList.drop p)
      have g2 := dec_in hl
      rw [size_data] at g2
      rw [if_pos (by omega), refNext_at k s p hp (by omega), Option.bind_some, if_pos (by omega), if_pos (by omega)]
      dsimp only
      rw [w64' (by omega) (by omega)]
      have hn := ih (k + 8) (p + (dec (s.data.toList.drop p)).2) (xs ++ [(p : Int)]) (ys ++ [((dec (s.data.toList.drop p)).1 : Int)]) (by omega) g2 (by omega) (by simp; omega) (by simp; omega)
      rw [show (p : Int) + ((dec (s.data.toList.drop p)).2 : Int) = ((p + (dec (s.data.toList.drop p)).2 : Nat) : Int) by omega, hn, runesAt_step _ _ hl, placesZ_cons, runesZ_cons]
      simp
    · rw [if_neg (by omega), runesAt_end _ _ (by rw [size_data]; omega)]
      simp [placesZ, runesZ]
theorem refRunes_f (s : ByteArray) (hs : s.size ≤ 17592186044416) : lecternref05_Runes.f (s.size + 9) s = some (placesZ (runes s.data.toList), runesZ (runes s.data.toList)) := by
  have := refRunes_l0 s hs s.size (s.size + 9) 0 [] [] (by omega) (by omega) (by omega) (by simp) (by simp)
  simpa [lecternref05_Runes.f] using this

theorem validRune_lower (l : List UInt8) : Lib.validRune (lowerD ((dec l).1 : Int)) = true := by
  rw [valid_iff]
  have := dec_rune l
  have := lowerD_range ((dec l).1 : Int)
  omega
theorem bytesOf_map (l : List UInt8) : (l.map fun b => (b.toNat : Int)).length = l.length := by simp
theorem encZ_encode (r : Int) : Lib.encodeRuneZ r = (Lib.encodeRune r).map fun b => (b.toNat : Int) := by
  exact (encZ_nums r _).1 (by rw [strOf_data]; rfl)

theorem refFold_l0 (s : ByteArray) (hs : s.size ≤ 140737488351232) : ∀ (d k p : Nat) (xs : List UInt8), s.size ≤ p + d → p ≤ s.size → d + 109 ≤ k → xs.length = p →
    lecternref05_Fold.l0 k s (xs.map fun b => (b.toNat : Int)) (p : Int) = some (strOfNums ((xs ++ foldAt s.data.toList p).map fun b => (b.toNat : Int))) := by
  intro d
  induction d with
  | zero =>
    intro k p xs h0 h1 hk _
    obtain ⟨k, rfl⟩ : ∃ m, k = m + 1 := ⟨k - 1, by omega⟩
    rw [lecternref05_Fold.l0]
    rw [if_neg (by omega), foldAt_end _ _ (by rw [size_data]; omega), List.append_nil]
  | succ d ih =>
    intro k p xs h0 h1 hk hx
    obtain ⟨k, rfl⟩ : ∃ m, k = m + 100 + 1 := ⟨k - 101, by omega⟩
    rw [lecternref05_Fold.l0]
    by_cases hp : p < s.size
    · have hl : p < s.data.toList.length := by rw [size_data]; exact hp
      have g1 := dec_ge1 (s.data.toList.drop p)
      have g2 := dec_in hl
      have g4 := dec_rune (s.data.toList.drop p)
      have gp := piece_length _ _ hl
      rw [size_data] at g2
      rw [if_pos (by omega), refNext_at (k + 92) s p hp (by omega), Option.bind_some]
      dsimp only
      rw [refLower_k k _ (by omega) (by omega), Option.bind_some]
      have hn := ih (k + 100) (p + (dec (s.data.toList.drop p)).2) (xs ++ piece s.data.toList p) (by omega) g2 (by omega) (by simp; omega)
      rw [show ((p + (dec (s.data.toList.drop p)).2 : Nat) : Int) = (p : Int) + ((dec (s.data.toList.drop p)).2 : Int) by omega] at hn
      rw [w64' (by omega) (by omega), foldAt_step _ _ hl, ← List.append_assoc]
      by_cases hlow : lowerD ((dec (s.data.toList.drop p)).1 : Int) = ((dec (s.data.toList.drop p)).1 : Int)
      · have ep : piece s.data.toList p = (s.data.toList.drop p).take (dec (s.data.toList.drop p)).2 := by unfold piece; rw [if_pos hlow]
        have ex : (s.extract (p : Int).toNat ((p : Int) + ((dec (s.data.toList.drop p)).2 : Int)).toNat).data.toList = piece s.data.toList p := by
          rw [show ((p : Int) + ((dec (s.data.toList.drop p)).2 : Int)).toNat = p + (dec (s.data.toList.drop p)).2 by omega, Int.toNat_natCast, extract_data _ _ _ g2, show p + (dec (s.data.toList.drop p)).2 - p = (dec (s.data.toList.drop p)).2 by omega, ep]
        have es : (s.extract (p : Int).toNat ((p : Int) + ((dec (s.data.toList.drop p)).2 : Int)).toNat).size = (dec (s.data.toList.drop p)).2 := by
          rw [← size_data, ex, gp]
        rw [if_pos hlow, if_pos (by omega), if_pos (by omega), if_pos (by omega), es, if_pos (by simp; omega)]
        unfold bytesOf
        rw [ex, ← List.map_append]
        exact hn
      · have ep : piece s.data.toList p = Lib.encodeRune (lowerD ((dec (s.data.toList.drop p)).1 : Int)) := by unfold piece; rw [if_neg hlow]
        rw [if_neg hlow, Option.bind_some, form_f _ (validRune_lower _), Option.bind_some, encZ_encode, ← ep]
        rw [if_pos (by simp; omega), ← List.map_append]
        exact hn
    · rw [if_neg (by omega), foldAt_end _ _ (by rw [size_data]; omega), List.append_nil]
/-- A text of bytes. -/
def strOf (l : List UInt8) : ByteArray := ⟨l.toArray⟩
theorem strOf_nums (l : List UInt8) : strOfNums (l.map fun b => (b.toNat : Int)) = strOf l := by
  unfold strOfNums strOf
  rw [List.map_map]
  congr 2
  conv => rhs; rw [← List.map_id l]
  apply List.map_congr_left
  intro x _
  simp [Function.comp]
theorem refFold_f (s : ByteArray) (hs : s.size ≤ 140737488351232) : lecternref05_Fold.f (s.size + 109) s = some (strOf (foldD s.data.toList)) := by
  have := refFold_l0 s hs s.size (s.size + 109) 0 [] (by omega) (by omega) (by omega) rfl
  rw [List.nil_append, strOf_nums] at this
  exact this

end Go.Proofs.YtgbphkckiekehaaDoor.FoldRef
