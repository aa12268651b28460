/- order.escaped and order.Bytes walked: a row of keys as bytes. -/
import Derived.Test.YtkndegjjiimheaaDoorQKeyx
import Derived.Test.YtkndegjjiimheaaDoorOrdRefDP
set_option linter.unusedVariables false
set_option linter.unusedSimpArgs false
namespace Go.Proofs.YtkndegjjiimheaaDoor.Ord
open Go Go.RowKit Go.Proofs.YtkndegjjiimheaaDoorW.PrintWords Go.Proofs.YtkndegjjiimheaaDoorW.PrintLast Go.Proofs.OrdPlain Go.Lib Go.Proofs.YtkndegjjiimheaaDoor.QKey

/-- A row of bytes, as numbers, of the call's own. -/
def OwnN (base : Nat) (W : World) (v : Value) (xs : List Int) : Prop := W.ownsRow base 5 1 v xs.length (nums .u8 xs)
theorem OwnN.nil (base : Nat) (W : World) : OwnN base W (.slice none 0 0) [] := World.ownsRow_nil _ _ _ _
theorem ownN_snoc {base : Nat} {W1 : World} {v' : Value} {xs : List Int} {x : Int} (h : W1.ownsRow base 5 1 v' (xs.length + 1) (nums .u8 xs ++ [.int .u8 x])) : OwnN base W1 v' (xs ++ [x]) := by
  unfold OwnN
  rw [nums_append, List.length_append]; exact h
theorem OwnN.raise {base : Nat} {W : World} {v : Value} {xs : List Int} (h : OwnN base W v xs) (hb : ∀ k, v.ownBlock = some k → base ≤ k) : OwnN base W v xs := h

def escZ (l : List UInt8) : List Int := l.flatMap fun c => if c = 0 then [0, 255] else [(c.toNat : Int)]
theorem escZ_len : ∀ l : List UInt8, (escZ l).length ≤ 2 * l.length
  | [] => by simp [escZ]
  | c :: r => by
    have ih := escZ_len r
    unfold escZ at ih ⊢
    rw [List.flatMap_cons, List.length_append, List.length_cons]
    by_cases h : c = 0
    · rw [if_pos h]; simp only [List.length_cons, List.length_nil]; omega
    · rw [if_neg h]; simp only [List.length_cons, List.length_nil]; omega
theorem escZ_snoc (l : List UInt8) (c : UInt8) : escZ (l ++ [c]) = escZ l ++ (if c = 0 then [0, 255] else [(c.toNat : Int)]) := by
  unfold escZ; rw [List.flatMap_append]; simp

theorem cell_two_new (w : World) (x y : Value) (e : TypeId) : ∀ j u, [x, y][j]? = some u → (w.alloc (.cells #[x, y] e)).cell? ((⟨w.heap.size, 0, none⟩ : Addr).add j) = some u := by
  intro j u h
  match j, h with
  | 0, h => simp [Addr.add, World.cell?_alloc_new] at h ⊢; exact h
  | 1, h => simp [Addr.add, World.cell?_alloc_new] at h ⊢; exact h
set_option maxRecDepth 100000 in
set_option maxHeartbeats 2000000 in
theorem escaped_c (l : List UInt8) (xs : List Int) (hsz : xs.length + 2 * l.length + 2 ≤ 140737488355328) (base : Nat) (v : Value) (w : World) (hbs : base ≤ w.heap.size) (hown : OwnN base w v xs) :
    Calls Tryd.prog 34 #[v, .string (txt l)] w fun e w' => (∃ v', e = .returned v' ∧ OwnN base w' v' (xs ++ (escZ l ++ [0, 1]))) ∧ Below base w w' := by
  have hS : (txt l).size = l.length := txt_size l
  have HAT := Aside0.mk (fun i => txt_at l i)
  obtain ⟨i0, hi, iz0, iz1, iz2⟩ := info_parts info5
  have HOW := Aside0.mk hown
  clear hown
  obtain ⟨S, hSS⟩ : ∃ S, S = txt l := ⟨_, rfl⟩
  rw [← hSS] at hS HAT ⊢
  obtain ⟨L, hL⟩ : ∃ L, L = l.length := ⟨_, rfl⟩
  rw [← hL] at hS hsz
  have HL := Aside0.mk hL
  clear hL hSS
  go_enter Tryd.func34, Tryd.ntmps34
  go_wp2
  go_loopw [0, 9] (fun v vi wr => ∃ k : Nat, k ≤ L ∧ vi = .int .i64 (k : Int) ∧ Hid (OwnN base wr v (xs ++ escZ (l.take k))) ∧ Hid (Below base w wr))
    (fun _ vi _ => L - (intOf vi).toNat)
  case atStart => exact ⟨0, Nat.zero_le _, rfl, Lib.hid (by rw [List.take_zero]; unfold escZ; rw [List.flatMap_nil, List.append_nil]; exact HOW.out), Lib.hid (Below.refl _ _)⟩
  case round =>
    obtain ⟨k, hk, rfl, ho, hbw⟩ := hrel
    have HO := Aside0.mk ho.out
    have HBW := Aside0.mk hbw.out
    clear ho hbw
    have hle := escZ_len (l.take k)
    have htl : (l.take k).length ≤ k := List.length_take_le _ _
    have hwb : base ≤ wr.heap.size := Nat.le_trans hbs HBW.out.size
    have ho := HO.out
    unfold OwnN at ho
    obtain ⟨ys, hys⟩ : ∃ ys, ys = xs ++ escZ (l.take k) := ⟨_, rfl⟩
    have hyl : ys.length ≤ xs.length + 2 * k := by rw [hys, List.length_append]; omega
    rw [← hys] at ho
    have HYS := Aside0.mk hys
    have HOO := Aside0.mk ho
    clear hys ho hle htl
    by_cases hlt : k < L
    · have hat := fun h => HAT.out k h
      have hts : l.take (k + 1) = l.take k ++ [l.getD k 0] := take_snoc' l k (by rw [← HL.out]; exact hlt)
      have k0 : (0 : Int) ≤ (k : Int) := by omega
      have k1 : (k : Int) < (L : Int) := by omega
      generalize l.getD k 0 = c at hat hts
      by_cases hc : c = 0
      · have HE := Aside0.mk (show xs ++ escZ (l.take (k + 1)) = ys ++ [0] ++ [255] by rw [hts, escZ_snoc, if_pos hc, HYS.out]; simp)
        rw [hc] at hat
        clear hts hc
        go_wp2_with (first
          | (at_builtin; refine wpList_append_own _ rfl _ _ 58 rfl base 5 i0 (.int .u8 0) 1 1 Tryd.underlying58 hi iz0 iz1 iz2 rfl (by decide) _ _ _ rfl (HOA.out.alloc _) ⟨wA.heap.size, 0, none⟩ 1 1 [.int .u8 255] rfl rfl (cell_one_new _ _ _) (by simp [Value.oneCell']) (by unfold maxLen; omega) (by omega) (by simp; omega) ?_; intro v2 wB hown2 hgrow2 hx; clear hx)
          | (at_builtin; refine wpList_append_own _ rfl _ _ 58 rfl base 5 i0 (.int .u8 0) 1 1 Tryd.underlying58 hi iz0 iz1 iz2 rfl (by decide) _ _ _ rfl (HOO.out.alloc _) ⟨wr.heap.size, 0, none⟩ 1 1 [.int .u8 0] rfl rfl (cell_one_new _ _ _) (by simp [Value.oneCell']) (by unfold maxLen; omega) (by omega) (by simp; omega) ?_; intro v1 wA hown1 hgrow1 hx; clear hx; have HBA := Aside0.mk (own_grown HBW.out HOO.out hwb hgrow1); have HOA := Aside0.mk hown1; have hwbA : base ≤ wA.heap.size := Nat.le_trans hbs HBA.out.size; clear hown1 hgrow1))
        refine ⟨⟨k + 1, hlt, rfl, Lib.hid (by rw [HE.out]; exact ownN_snoc (xs := ys ++ [0]) (by rw [List.length_append, nums_append]; exact hown2)), Lib.hid (own_grown HBA.out HOA.out hwbA hgrow2)⟩, ?_⟩
        simp [intOf]; omega
      · have HE := Aside0.mk (show xs ++ escZ (l.take (k + 1)) = ys ++ [(c.toNat : Int)] by rw [hts, escZ_snoc, if_neg hc, HYS.out]; simp)
        have hcz : ((c.toNat : Int) == 0) = false := beq_false_of_ne (fun e => hc (UInt8.toNat_inj.1 (show _ = 0 by omega)))
        clear hts hc
        go_wp2_with (at_builtin; refine wpList_append_own _ rfl _ _ 58 rfl base 5 i0 (.int .u8 0) 1 1 Tryd.underlying58 hi iz0 iz1 iz2 rfl (by decide) _ _ _ rfl (HOO.out.alloc _) ⟨wr.heap.size, 0, none⟩ 1 1 [.int .u8 (c.toNat : Int)] rfl rfl (cell_one_new _ _ _) (by simp [Value.oneCell']) (by unfold maxLen; omega) (by omega) (by simp; omega) ?_; intro v1 wA hown1 hgrow1 hx; clear hx)
        refine ⟨⟨k + 1, hlt, rfl, Lib.hid (by rw [HE.out]; exact ownN_snoc hown1), Lib.hid (own_grown HBW.out HOO.out hwb hgrow1)⟩, ?_⟩
        simp [intOf]; omega
    · have k1 : ¬ (k : Int) < (L : Int) := by omega
      have HE := Aside0.mk (show ys = xs ++ escZ l by rw [HYS.out, List.take_of_length_le (by rw [← HL.out]; omega)])
      go_wp2_with (at_builtin; refine wpList_append_own _ rfl _ _ 58 rfl base 5 i0 (.int .u8 0) 1 1 Tryd.underlying58 hi iz0 iz1 iz2 rfl (by decide) _ _ _ rfl (HOO.out.alloc _) ⟨wr.heap.size, 0, none⟩ 2 2 [.int .u8 0, .int .u8 1] rfl rfl (cell_two_new _ _ _ _) (by simp [Value.oneCell']) (by unfold maxLen; omega) (by omega) (by simp; omega) ?_; intro v1 wA hown1 hgrow1 hx; clear hx)
      go_ret
      exact ⟨⟨_, rfl, by
        have h2 : OwnN base wA v1 (ys ++ [0, 1]) := by
          unfold OwnN
          rw [List.length_append, nums_append]; exact hown1
        rw [HE.out, List.append_assoc] at h2; exact h2⟩, own_grown HBW.out HOO.out hwb hgrow1⟩

/-! ### order.Bytes -/
def rightB (k : S45) : Bool := if k.f0 = 0 then (k.f0 == 0 && (k.f1 == 0 && (k.f2.toList == ([] : List UInt8)))) else if k.f0 = 1 then (k.f2.toList == ([] : List UInt8)) else if k.f0 = 2 then (k.f1 == 0) else false
theorem right_f (k : S45) : order_Right.f k.f0 k.f1 k.f2 = some (rightB k) := by
  unfold order_Right.f rightB
  repeat' split
  all_goals rfl
theorem right_kind (k : S45) (h : rightB k = true) : k.f0 = 0 ∨ k.f0 = 1 ∨ k.f0 = 2 := by
  unfold rightB at h
  by_cases h0 : k.f0 = 0
  · exact .inl h0
  · by_cases h1 : k.f0 = 1
    · exact .inr (.inl h1)
    · by_cases h2 : k.f0 = 2
      · exact .inr (.inr h2)
      · rw [if_neg h0, if_neg h1, if_neg h2] at h; cases h
/-- The number that is written, its eight bytes. -/
def upZ (n : Int) : Int := IntKind.u64.wrap (IntKind.u64.wrap n + 9223372036854775808)
def byZ (u : Int) (i : Nat) : Int := u / 2 ^ (56 - 8 * i) % 256
def eightZ (n : Int) (k : Nat) : List Int := (List.range k).map fun i => byZ (upZ n) i
theorem eightZ_len (n : Int) (k : Nat) : (eightZ n k).length = k := by unfold eightZ; simp
theorem eightZ_succ (n : Int) (k : Nat) : eightZ n (k + 1) = eightZ n k ++ [byZ (upZ n) k] := by unfold eightZ; rw [List.range_succ, List.map_append]; rfl
def oneZ (k : S45) : List Int := [k.f0] ++ (if k.f0 = 1 then eightZ k.f1 8 else if k.f0 = 2 then escZ k.f2.data.toList ++ [0, 1] else [])
def bytesZ : List Int → List S45 → Option (List Int)
  | acc, [] => some acc
  | acc, k :: r => if rightB k = true then bytesZ (acc ++ oneZ k) r else none
def ansZ : Option (List Int) → ByteArray × Int
  | some xs => (strOfNums xs, 0)
  | none => (⟨#[]⟩, 1)
def bytesD (ks : List S45) : ByteArray × Int := ansZ (bytesZ [] ks)
def totZ : List S45 → Nat
  | [] => 0
  | k :: r => 12 + 2 * k.f2.size + totZ r
theorem tot_len : ∀ ks : List S45, 12 * ks.length ≤ totZ ks
  | [] => Nat.zero_le _
  | k :: r => by
    have := tot_len r
    rw [totZ, List.length_cons]; omega
theorem one_len (k : S45) : (oneZ k).length ≤ 11 + 2 * k.f2.size := by
  unfold oneZ
  rw [List.length_append]
  have := escZ_len k.f2.data.toList
  have hs : k.f2.data.toList.length = k.f2.size := by rw [Array.length_toList]; rfl
  split
  · rw [eightZ_len]; simp; omega
  · split
    · rw [List.length_append]; simp only [List.length_cons, List.length_nil]; omega
    · simp only [List.length_cons, List.length_nil]; omega
theorem at_K {w : World} {A : Option Addr} {n : Nat} {ks : List S45} (h : Kd.C k45 w A n ks) (i : Nat) (h1 : i < n) : ∃ ad, A = some ad ∧ w.cell? (ad.add (i * 3)) = some (.int .i64 (ks.getD i z45).f0) ∧
    w.cell? ⟨(ad.add (i * 3)).block, (ad.add (i * 3)).off + 1, none⟩ = some (.int .i64 (ks.getD i z45).f1) ∧ w.cell? ⟨(ad.add (i * 3)).block, (ad.add (i * 3)).off + 2, none⟩ = some (.string (ks.getD i z45).f2) := at_T45 h (i : Int) (by omega) (by omega)
theorem own_lt {base n : Nat} {W : World} {v : Value} {xs : List Value} (h : W.ownsRow base 5 1 v n xs) (k : Nat) (hk : v.ownBlock = some k) : k < W.heap.size := by
  rcases h.2 with ⟨rfl, _⟩ | ⟨g, cap, cur, rfl, hb, hg, _⟩
  · simp [Value.ownBlock] at hk
  · obtain rfl : g = k := by simpa [Value.ownBlock] using hk
    rcases Nat.lt_or_ge g W.heap.size with hlt | hge
    · exact hlt
    · rw [Array.getElem?_eq_none hge] at hg; cases hg
theorem bcell {W w1 : World} (hb : Below W.heap.size W w1) : (∀ b o, b < W.heap.size → w1.cell? ⟨b, o, none⟩ = W.cell? ⟨b, o, none⟩) ∧ (∀ b o, b < W.heap.size → w1.frozen? ⟨b, o, none⟩ = W.frozen? ⟨b, o, none⟩) :=
  ⟨fun b o h => hb.cell (p := ⟨b, o, none⟩) h, fun b o h => hb.frozen (p := ⟨b, o, none⟩) h⟩
/-- A box that lies behind a row's block stays as it is where the row grows. -/
theorem box_grown {W w1 : World} {v : Value} {tmp : Obj} {b : Nat} (hgrow : (W.alloc tmp).grownBy w1 v.ownBlock) (hb : b < W.heap.size) (hne : ∀ k, v.ownBlock = some k → k ≠ b) (o : Nat) : w1.cell? ⟨b, o, none⟩ = W.cell? ⟨b, o, none⟩ :=
  (World.cell?_of_block (a := ⟨b, o, none⟩) (hgrow.block b (by rw [World.size_alloc]; omega) (fun e => hne b e.symm rfl))).trans (World.cell?_alloc_lt W tmp ⟨b, o, none⟩ hb)

theorem blk_grown {W w1 : World} {v : Value} {tmp o : Obj} {b : Nat} (hgrow : (W.alloc tmp).grownBy w1 v.ownBlock) (hb : W.heap[b]? = some o) (hne : ∀ k, v.ownBlock = some k → k ≠ b) : w1.heap[b]? = some o := by
  have hlt : b < W.heap.size := by
    rcases Nat.lt_or_ge b W.heap.size with h | h
    · exact h
    · rw [Array.getElem?_eq_none h] at hb; cases hb
  exact (hgrow.block b (by rw [World.size_alloc]; omega) (fun e => hne b e.symm rfl)).trans ((Below.heap_alloc W tmp b hlt).trans hb)
theorem box_cells {W : World} {b : Nat} {a0 a1 a2 : Value} (h : W.heap[b]? = some (.cells #[a0, a1, a2] 45 (0, 0))) : W.cell? ⟨b, 0, none⟩ = some a0 ∧ W.cell? ⟨b, 1, none⟩ = some a1 ∧ W.cell? ⟨b, 2, none⟩ = some a2 :=
  ⟨cell_of_row W b 0 _ _ _ h, cell_of_row W b 1 _ _ _ h, cell_of_row W b 2 _ _ _ h⟩
theorem own_base {base n : Nat} {W : World} {v : Value} {xs : List Value} (h : W.ownsRow base 5 1 v n xs) (k : Nat) (hk : v.ownBlock = some k) : base ≤ k := by
  rcases h.2 with ⟨rfl, _⟩ | ⟨g, cap, cur, rfl, hb, hg, _⟩
  · simp [Value.ownBlock] at hk
  · obtain rfl : g = k := by simpa [Value.ownBlock] using hk
    exact hb
set_option maxRecDepth 100000 in
set_option maxHeartbeats 4000000 in
theorem bytes_c (ks : List S45) (hsz : totZ ks ≤ 140737488355328) (A : Option Addr) (c : Nat) (hc : ks.length ≤ c) (w : World) (hC : Kd.C k45 w A ks.length ks) :
    Calls Tryd.prog 11 #[.slice A ks.length c] w fun e w' => e = .returned (.tuple #[.string (bytesD ks).1, .int .i64 (bytesD ks).2]) ∧ Below w.heap.size w w' := by
  obtain ⟨i0, hi, iz0, iz1, iz2⟩ := info_parts info5
  have HC := Aside0.mk hC
  clear hC
  have hnt := tot_len ks
  obtain ⟨n, hn⟩ : ∃ n, n = ks.length := ⟨_, rfl⟩
  obtain ⟨Y, hY⟩ : ∃ Y, Y = bytesZ [] ks := ⟨_, rfl⟩
  obtain ⟨D, hD⟩ : ∃ D, D = bytesD ks := ⟨_, rfl⟩
  have HD := Aside0.mk (show D = ansZ Y by rw [hD, hY]; rfl)
  rw [← hn] at HC hc hnt ⊢
  have hn48 : n ≤ 140737488355328 := by omega
  clear hnt
  rw [← hD]
  have HN := Aside0.mk hn
  have HY := Aside0.mk hY
  have hu45 := Tryd.underlying45
  clear hn hY hD
  go_enter Tryd.func11, Tryd.ntmps11
  go_wp2
  go_loopw [4, 11] (fun v vi wr => ∃ (i : Nat) (ys : List Int), vi = .int .i64 (i : Int) ∧ i ≤ n ∧ Hid (OwnN w.heap.size wr v ys) ∧ ys.length + totZ (ks.drop i) ≤ totZ ks ∧ Hid (bytesZ ys (ks.drop i) = Y) ∧ Hid (Below w.heap.size w wr))
    (fun _ vi _ => n - (intOf vi).toNat)
  case atStart => exact ⟨0, [], rfl, Nat.zero_le _, Lib.hid (OwnN.nil _ _), by simp, Lib.hid HY.out.symm, Lib.hid (Below.refl _ _)⟩
  case round =>
    obtain ⟨i, ys, rfl, hin, ho, htot, hgo, hbw⟩ := hrel
    have HO := Aside0.mk ho.out
    have HBW := Aside0.mk hbw.out
    have HG := Aside0.mk hgo.out
    clear ho hbw hgo
    by_cases hlt : i < n
    · obtain ⟨ad, rfl, k0, k1, k2⟩ := at_K (Kd.C_below HC.out HBW.out) i hlt
      have hlk : i < ks.length := by rw [← HN.out]; exact hlt
      have hdr : ks.drop i = ks.getD i z45 :: ks.drop (i + 1) := by rw [List.drop_eq_getElem_cons hlk, List.getD_eq_getElem?_getD, List.getElem?_eq_getElem hlk]; rfl
      have hg := HG.out
      rw [hdr, bytesZ] at hg
      rw [hdr, totZ] at htot
      generalize ks.getD i z45 = x at k0 k1 k2 hg htot
      have hone := one_len x
      have hrx := fun W => order_Right.calls x.f0 x.f1 x.f2 (rightB x) W (right_f x)
      clear hdr hlk
      cases hr : rightB x with
      | false =>
        rw [hr] at hg hrx
        have HYN := Aside0.mk (show Y = none by rw [← hg]; rfl)
        have HDN := Aside0.mk (show D = (⟨#[]⟩, 1) by rw [HD.out, HYN.out]; rfl)
        clear hg hr hone
        go_wp2_with (go_at_call 19; (with_reducible refine (hrx _).mono ?_); clear hrx; rintro e w1 ⟨rfl, hb1⟩; have HB1 := Aside0.mk hb1; clear hb1)
        go_ret2
        exact ⟨by rw [HDN.out]; rfl, below_step (below_alloc HBW.out _) HB1.out⟩
      | true =>
        rw [hr, if_pos rfl] at hg
        rw [hr] at hrx
        have hkd := right_kind x hr
        have HR := Aside0.mk hr
        have hbs := HBW.out.size
        have hro : ∀ (W : World) (v : Value), OwnN w.heap.size wr v ys → Below wr.heap.size wr W → OwnN w.heap.size W v ys := fun W v h hb => own_move h (fun g hgk => hb.block g (own_lt h g hgk))
        have HRO := Aside0.mk hro
        have HG1 := Aside0.mk hg
        have hyl : ys.length + 12 ≤ 140737488355328 := by omega
        have htot2 : (ys ++ oneZ x).length + totZ (ks.drop (i + 1)) ≤ totZ ks := by rw [List.length_append]; omega
        clear hg hr hro
        rcases hkd with hk | hk | hk
        · have h1x : oneZ x = [0] := by unfold oneZ; rw [hk]; rfl
          have HOX := Aside0.mk h1x
          rw [hk] at k0 hrx
          clear h1x hk hone
          go_wp2_with (first
            | (go_at_call 19; (with_reducible refine (hrx _).mono ?_); clear hrx; rintro e w1 ⟨rfl, hb1⟩; have HB1 := Aside0.mk (below_step (below_alloc (Below.refl wr.heap.size wr) _) hb1); have HBW1 := Aside0.mk (below_step (below_alloc HBW.out _) hb1); have HOO1 := Aside0.mk (show w1.ownsRow w.heap.size 5 1 _ ys.length (nums .u8 ys) from HRO.out _ _ HO.out HB1.out); have hbs1 := HBW1.out.size; have hz1 : wr.heap.size < w1.heap.size := (by have := hb1.size; simp at this; omega); have HK1 := Aside0.mk ((hb1.block _ (by simp)).trans (heap_alloc_new wr _)); obtain ⟨q10, q11, q12⟩ := box_cells HK1.out; clear hb1)
            | (at_builtin; refine wpList_append_own _ rfl _ _ 58 rfl w.heap.size 5 i0 (.int .u8 0) 1 1 Tryd.underlying58 hi iz0 iz1 iz2 rfl (by decide) _ _ _ rfl (HOO1.out.alloc _) ⟨w1.heap.size, 0, none⟩ 1 1 [.int .u8 0] rfl rfl (cell_one_new _ _ _) (by simp [Value.oneCell']) (by unfold maxLen; omega) (by omega) (by simp; omega) ?_; intro v2 w2 hown2 hgrow2 hx; clear hx; have HK2 := Aside0.mk (blk_grown hgrow2 HK1.out (fun k hk => Nat.ne_of_lt (own_lt HO.out k hk))); obtain ⟨q20, q21, q22⟩ := box_cells HK2.out; have HB2 := Aside0.mk (own_grown HBW1.out HOO1.out hbs1 hgrow2); have HOO2 := Aside0.mk hown2; clear hown2 hgrow2 q10 q11 q12))
          refine ⟨⟨i + 1, ys ++ oneZ x, by go_num, hlt, Lib.hid (by rw [HOX.out]; exact ownN_snoc HOO2.out), htot2, Lib.hid HG1.out, Lib.hid HB2.out⟩, ?_⟩
          simp [intOf]; omega
        · have h1x : oneZ x = [1] ++ eightZ x.f1 8 := by unfold oneZ; rw [hk, if_pos rfl]
          have HOX := Aside0.mk h1x
          rw [hk] at k0 hrx
          clear h1x hk hone
          go_wp2_with (first
            | (go_at_call 19; (with_reducible refine (hrx _).mono ?_); clear hrx; rintro e w1 ⟨rfl, hb1⟩; have HB1 := Aside0.mk (below_step (below_alloc (Below.refl wr.heap.size wr) _) hb1); have HBW1 := Aside0.mk (below_step (below_alloc HBW.out _) hb1); have HOO1 := Aside0.mk (show w1.ownsRow w.heap.size 5 1 _ ys.length (nums .u8 ys) from HRO.out _ _ HO.out HB1.out); have hbs1 := HBW1.out.size; have hz1 : wr.heap.size < w1.heap.size := (by have := hb1.size; simp at this; omega); have HK1 := Aside0.mk ((hb1.block _ (by simp)).trans (heap_alloc_new wr _)); obtain ⟨q10, q11, q12⟩ := box_cells HK1.out; clear hb1)
            | (at_builtin; refine wpList_append_own _ rfl _ _ 58 rfl w.heap.size 5 i0 (.int .u8 0) 1 1 Tryd.underlying58 hi iz0 iz1 iz2 rfl (by decide) _ _ _ rfl (HOO1.out.alloc _) ⟨w1.heap.size, 0, none⟩ 1 1 [.int .u8 1] rfl rfl (cell_one_new _ _ _) (by simp [Value.oneCell']) (by unfold maxLen; omega) (by omega) (by simp; omega) ?_; intro v2 w2 hown2 hgrow2 hx; clear hx; have HK2 := Aside0.mk (blk_grown hgrow2 HK1.out (fun k hk => Nat.ne_of_lt (own_lt HO.out k hk))); obtain ⟨q20, q21, q22⟩ := box_cells HK2.out; have HB2 := Aside0.mk (own_grown HBW1.out HOO1.out hbs1 hgrow2); have HOO2 := Aside0.mk hown2; clear hown2 hgrow2 q10 q11 q12))
          go_loopw [4, 32] (fun v vi wx => ∃ k : Nat, vi = .int .i64 (k : Int) ∧ k ≤ 8 ∧ Hid (OwnN w.heap.size wx v (ys ++ [1] ++ eightZ x.f1 k)) ∧ Hid (Below w.heap.size w wx))
            (fun _ vi _ => 8 - (intOf vi).toNat)
          case atStart => exact ⟨0, rfl, Nat.zero_le _, Lib.hid (by rw [show eightZ x.f1 0 = [] from rfl, List.append_nil]; exact ownN_snoc HOO2.out), Lib.hid HB2.out⟩
          case round =>
            obtain ⟨k, rfl, hk8, hok, hbk⟩ := hrel
            have HOK := Aside0.mk hok.out
            have HBK := Aside0.mk hbk.out
            clear hok hbk
            by_cases hlk : k < 8
            · have hol := HOK.out
              unfold OwnN at hol
              obtain ⟨zs, hzs⟩ : ∃ zs, zs = ys ++ [1] ++ eightZ x.f1 k := ⟨_, rfl⟩
              have hzl : zs.length ≤ ys.length + 9 := by rw [hzs, List.length_append, List.length_append, eightZ_len]; simp only [List.length_cons, List.length_nil]; omega
              rw [← hzs] at hol
              have HZ := Aside0.mk (show ys ++ [1] ++ eightZ x.f1 (k + 1) = zs ++ [byZ (upZ x.f1) k] by rw [eightZ_succ, hzs]; simp only [List.append_assoc])
              have HOL := Aside0.mk hol
              have hwk : w.heap.size ≤ wr.heap.size := HBK.out.size
              clear hol hzs
              have k0 : (0 : Int) ≤ (k : Int) := by omega
              have k8 : (k : Int) < 8 := by omega
              go_wp2_with (at_builtin; refine wpList_append_own _ rfl _ _ 58 rfl w.heap.size 5 i0 (.int .u8 0) 1 1 Tryd.underlying58 hi iz0 iz1 iz2 rfl (by decide) _ _ _ rfl (HOL.out.alloc _) ⟨wr.heap.size, 0, none⟩ 1 1 [.int .u8 (byZ (upZ x.f1) k)] rfl rfl (cell_one_new _ _ _) (by simp [Value.oneCell']) (by unfold maxLen; omega) (by omega) (by simp; omega) ?_; intro v4 w4 hown4 hgrow4 hx; clear hx)
              refine ⟨⟨k + 1, by go_num, hlk, Lib.hid (by rw [HZ.out]; exact ownN_snoc hown4), Lib.hid (own_grown HBK.out HOL.out hwk hgrow4)⟩, ?_⟩
              simp [intOf]; omega
            · have e8 : k = 8 := by omega
              have HOE := Aside0.mk (show OwnN w.heap.size wr u4 (ys ++ oneZ x) by rw [HOX.out, ← List.append_assoc, ← e8]; exact HOK.out)
              clear e8
              go_wp2
              refine ⟨⟨i + 1, ys ++ oneZ x, by go_num, hlt, Lib.hid HOE.out, htot2, Lib.hid HG1.out, Lib.hid HBK.out⟩, ?_⟩
              simp [intOf]; omega
        · have h1x : oneZ x = [2] ++ (escZ x.f2.data.toList ++ [0, 1]) := by unfold oneZ; rw [hk]; rfl
          have HOX := Aside0.mk h1x
          have hxt : x.f2 = txt x.f2.data.toList := (txt_of _).symm
          have hxs : x.f2.data.toList.length = x.f2.size := by rw [Array.length_toList]; rfl
          have hes := fun v W h1 h2 => escaped_c x.f2.data.toList (ys ++ [2]) (by rw [List.length_append, hxs]; simp only [List.length_cons, List.length_nil]; omega) w.heap.size v W h1 h2
          rw [← hxt] at hes
          have HES := Aside0.mk hes
          rw [hk] at k0 hrx
          clear h1x hk hone hxt hes hxs
          go_wp2_with (first
            | (go_at_call 19; (with_reducible refine (hrx _).mono ?_); clear hrx; rintro e w1 ⟨rfl, hb1⟩; have HB1 := Aside0.mk (below_step (below_alloc (Below.refl wr.heap.size wr) _) hb1); have HBW1 := Aside0.mk (below_step (below_alloc HBW.out _) hb1); have HOO1 := Aside0.mk (show w1.ownsRow w.heap.size 5 1 _ ys.length (nums .u8 ys) from HRO.out _ _ HO.out HB1.out); have hbs1 := HBW1.out.size; have hz1 : wr.heap.size < w1.heap.size := (by have := hb1.size; simp at this; omega); have HK1 := Aside0.mk ((hb1.block _ (by simp)).trans (heap_alloc_new wr _)); obtain ⟨q10, q11, q12⟩ := box_cells HK1.out; clear hb1)
            | (at_builtin; refine wpList_append_own _ rfl _ _ 58 rfl w.heap.size 5 i0 (.int .u8 0) 1 1 Tryd.underlying58 hi iz0 iz1 iz2 rfl (by decide) _ _ _ rfl (HOO1.out.alloc _) ⟨w1.heap.size, 0, none⟩ 1 1 [.int .u8 2] rfl rfl (cell_one_new _ _ _) (by simp [Value.oneCell']) (by unfold maxLen; omega) (by omega) (by simp; omega) ?_; intro v2 w2 hown2 hgrow2 hx; clear hx; have HK2 := Aside0.mk (blk_grown hgrow2 HK1.out (fun k hk => Nat.ne_of_lt (own_lt HO.out k hk))); obtain ⟨q20, q21, q22⟩ := box_cells HK2.out; have HB2 := Aside0.mk (own_grown HBW1.out HOO1.out hbs1 hgrow2); have HOO2 := Aside0.mk hown2; clear hown2 hgrow2 q10 q11 q12)
            | (go_at_call 34; (with_reducible refine (HES.out _ _ ?_ ?_).mono ?_); (exact HB2.out.size); (exact ownN_snoc HOO2.out); rintro e w3 ⟨⟨v3, rfl, ho3⟩, hb3⟩; have HO3 := Aside0.mk ho3; have HB3 := Aside0.mk (HB2.out.trans hb3); clear ho3 hb3))
          refine ⟨⟨i + 1, ys ++ oneZ x, by go_num, hlt, Lib.hid (by rw [HOX.out, ← List.append_assoc]; exact HO3.out), htot2, Lib.hid HG1.out, Lib.hid HB3.out⟩, ?_⟩
          simp [intOf]; omega
    · have HE := Aside0.mk (show Y = some ys by
        have hg := HG.out
        rw [List.drop_eq_nil_of_le (by rw [← HN.out]; omega), bytesZ] at hg
        exact hg.symm)
      have HDS := Aside0.mk (show D = (strOfNums ys, 0) by rw [HD.out, HE.out]; rfl)
      have hcv := own_string (P := Tryd.prog) (xs := ys) Tryd.underlying58 Tryd.underlying5 Tryd.underlying9 HO.out
      go_wp2
      go_ret2
      exact ⟨by rw [HDS.out]; rfl, HBW.out⟩
end Go.Proofs.YtkndegjjiimheaaDoor.Ord
