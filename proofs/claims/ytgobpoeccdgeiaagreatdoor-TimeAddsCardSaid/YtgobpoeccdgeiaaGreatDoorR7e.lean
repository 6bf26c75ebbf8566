/- Package chiselref04: Div (printed by gendiv7.py). -/
import Derived.Test.YtgobpoeccdgeiaaGreatDoorR7d
namespace Go.Proofs.YtgobpoeccdgeiaaGreatDoor
open Go.RowKit NumP DigP DurP TimeP Go.Proofs.YtgobpoeccdgeiaaGreatDoorW.PrintWords
set_option linter.unusedVariables false

/-- a / b, rounded half to even at 20 places -/
def divE (a b : List UInt8) : List UInt8 × Int := outN (bothN a b (divN fun x y => checkedN ⟨x.neg != y.neg, cutN .even (x.neg != y.neg) (x.d * P20) y.d⟩))
theorem div_even (neg : Bool) (X m : Nat) : cutN .even neg X m = X / m + (upE (dg (X / m) 0) (cmpN (X % m + X % m) m)).toNat := by
  unfold cutN
  congr 1
  congr 1
  unfold NumP.Way.up upE cmpN
  show (decide (m < 2 * (X % m)) || (decide (2 * (X % m) = m) && decide (X / m % 2 = 1))) = _
  have hd : (dg (X / m) 0 % 2 = 1) ↔ (X / m % 2 = 1) := by unfold dg; rw [Nat.pow_zero, Nat.div_one]; omega
  generalize X % m = r
  rcases Nat.lt_trichotomy (r + r) m with h1 | h1 | h1
  · rw [if_pos h1]
    have a1 : ¬ m < 2 * r := by omega
    have a2 : ¬ 2 * r = m := by omega
    simp [a1, a2]
  · rw [if_neg (by omega), if_pos h1]
    have a1 : ¬ m < 2 * r := by omega
    have a2 : 2 * r = m := by omega
    simp [a2, hd]
  · rw [if_neg (by omega), if_neg (by omega)]
    have a1 : m < 2 * r := by omega
    simp [a1]
theorem below_of_eq {w w' : World} (h : w = w') : Below w.heap.size w w' := by rw [h]; exact Below.refl _ _
theorem DAt.last {w : World} {A : Option Addr} {k c n : Nat} (h : DAt w (.slice A k c) k n) (h0 : 0 < k) : ∃ g off, A = some ⟨g, off, none⟩ ∧ w.cell? ⟨g, off + (k - 1), none⟩ = some (.int .i64 (dg n 0 : Nat)) := by
  obtain ⟨A', c', e, -, h2⟩ := h.at_
  injection e with e1 e2 e3
  subst e1
  obtain ⟨g, off, ea, hc⟩ := h2 h0
  refine ⟨g, off, ea, ?_⟩
  have := hc (k - 1) (by omega)
  rw [show k - 1 - (k - 1) = 0 by omega] at this
  exact this
set_option maxHeartbeats 4000000 in
set_option maxRecDepth 100000 in
theorem Div_r (s t : ByteArray) (W : World) (hs : s.size ≤ maxLen) (ht : t.size ≤ maxLen) : Calls Tryz.prog 99 #[.string s, .string t] W (OutE W (divE s.data.toList t.data.toList)) := by
  have htw := two_r s t W hs ht
  obtain ⟨R, hR⟩ : ∃ R, R = divE s.data.toList t.data.toList := ⟨_, rfl⟩
  rw [← hR]
  unfold divE at hR
  rw [bothN_R] at hR
  obtain ⟨R1, hR1⟩ : ∃ R, R = canonN s.data.toList := ⟨_, rfl⟩
  obtain ⟨R2, hR2⟩ : ∃ R, R = canonN t.data.toList := ⟨_, rfl⟩
  rw [← hR1, ← hR2] at hR htw
  clear hR1 hR2
  replace hR := Lib.hid hR
  go_enter Tryz.func99, Tryz.ntmps99
  go_wp2_with fail
  refine htw.mono ?_
  rintro e w ⟨hb, b, A, k, c, b2, A2, k2, c2, ok, ok2, rfl, h1, h2⟩
  clear htw
  replace hb := Lib.hid hb
  cases ok with
  | false =>
    have hR2 : Hid (R = ([], 1)) := Lib.hid (by rw [hR.out, bothR_no1 _ (h1.no rfl)]; rfl)
    obtain ⟨W2, hW2, hb2, -⟩ := box_two4 w b b2 (.slice A k c) (.slice A2 k2 c2)
    clear h1 h2
    go_wp2_with fail
    rw [← hW2]
    go_ret2
    exact ⟨by rw [hR2.out]; rfl, hb.out.trans (hb2.mono hb.out.size)⟩
  | true =>
  cases ok2 with
  | false =>
    have hR2 : Hid (R = ([], 1)) := Lib.hid (by rw [hR.out, bothR_no2 _ (h2.no rfl)]; rfl)
    obtain ⟨W2, hW2, hb2, -⟩ := box_two4 w b b2 (.slice A k c) (.slice A2 k2 c2)
    clear h1 h2
    go_wp2_with fail
    rw [← hW2]
    go_ret2
    exact ⟨by rw [hR2.out]; rfl, hb.out.trans (hb2.mono hb.out.size)⟩
  | true =>
  obtain ⟨d, rfl, hk, hd, h50⟩ := h1.yes rfl
  obtain ⟨d2, rfl, hk2, hd2, h502⟩ := h2.yes rfl
  clear h1 h2
  rw [← hk] at hd h50
  rw [← hk2] at hd2 h502
  obtain ⟨W2, hW2, hb2, hq, hp⟩ := box_two4 w b b2 (.slice A k c) (.slice A2 k2 c2)
  by_cases h0 : k2 = 0
  · have hd0 : d2 = 0 := by
      rcases Nat.eq_zero_or_pos d2 with h | h
      · exact h
      · have := (lenD_pos d2).2 h; omega
    have hR2 : Hid (R = ([], 41)) := Lib.hid (by rw [hR.out]; unfold bothR divN; simp only; rw [if_pos hd0]; rfl)
    have g1 : ((k2 : Int) == 0) = true := by simp; omega
    replace hk := Lib.hid hk
    replace hk2 := Lib.hid hk2
    replace hd := Lib.hid hd
    replace hd2 := Lib.hid hd2
    clear h0 hd0 hq hp
    go_wp2_with fail
    rw [← hW2]
    go_ret2
    exact ⟨by rw [hR2.out]; rfl, hb.out.trans (hb2.mono hb.out.size)⟩
  have g1 : ((k2 : Int) == 0) = false := by simp; omega
  have hdp : 0 < d2 := (lenD_pos d2).1 (by omega)
  obtain ⟨q, hqe⟩ : ∃ q, q = w.heap.size := ⟨_, rfl⟩
  rw [← hqe] at hq hp
  have hlt : Hid (q < W2.heap.size ∧ q + 1 < W2.heap.size) := Lib.hid ⟨heap_lt hq, heap_lt hp⟩
  obtain ⟨b0, b1, e0, e1⟩ := cells_of hq hp
  obtain ⟨X, hX⟩ : ∃ X, X = d * 10 ^ 20 := ⟨_, rfl⟩
  have hXK : X < 10 ^ (k + 20) := by rw [hX, Nat.pow_add]; exact Nat.mul_lt_mul_of_pos_right (by rw [hk]; exact lenD_self _) (by decide)
  have hXl : lenD X ≤ 71 := by
    have h7 := lenD_mul d (10 ^ 20) 50 21 (by rw [← hk]; exact h50) (by decide)
    rw [hX]; exact h7
  obtain ⟨Q, hQ⟩ : ∃ Q, Q = X / d2 := ⟨_, rfl⟩
  obtain ⟨M, hM⟩ : ∃ M, M = X % d2 := ⟨_, rfl⟩
  have hQl : lenD Q ≤ 71 := by rw [hQ]; exact Nat.le_trans (lenD_mono (Nat.div_le_self _ _)) hXl
  have hMl : lenD M ≤ 50 := by rw [hM]; exact Nat.le_trans (lenD_mono (Nat.le_of_lt (Nat.mod_lt _ hdp))) (by rw [← hk2]; exact h502)
  obtain ⟨KQ, hKQ⟩ : ∃ K, K = lenD Q := ⟨_, rfl⟩
  obtain ⟨KM, hKM⟩ : ∃ K, K = lenD M := ⟨_, rfl⟩
  have hQs : Q < 10 ^ KQ := by rw [hKQ]; exact lenD_self _
  have hMs : M < 10 ^ KM := by rw [hKM]; exact lenD_self _
  have hd2s : d2 < 10 ^ k2 := by rw [hk2]; exact lenD_self _
  obtain ⟨ng, hng⟩ : ∃ ng, ng = (b != b2) := ⟨_, rfl⟩
  have hnb : (!b == b2) = ng := hng.symm
  have hnb2 : (b != b2) = ng := hng.symm
  obtain ⟨last, hlast⟩ : ∃ l, l = dg Q 0 := ⟨_, rfl⟩
  have hl10 : last < 10 := by rw [hlast]; exact dg_lt _ _
  obtain ⟨half, hhalf⟩ : ∃ x, x = cmpN (M + M) d2 := ⟨_, rfl⟩
  have hR3 : Hid (R = outN (checkedN ⟨ng, Q + (upE last half).toNat⟩)) := Lib.hid (by
    rw [hR.out, hng, hlast, hhalf, hQ, hM, hX]
    unfold bothR divN
    simp only
    rw [if_neg (by omega), div_even]; rfl)
  have cz := Lib.hid (fun (w : World) (h : DAt w (.slice A k c) k d) => (show Calls Tryz.prog 112 #[.slice A k c, .int .i64 20] w (SlPost w (k + 20) X) by
    have := zeros_s _ k d 20 w h (by omega) (by decide)
    rw [← hX] at this
    exact this))
  have cd := Lib.hid (fun (A6 : Option Addr) (c6 : Nat) (w : World) (h : DAt w (.slice A6 (k + 20) c6) (k + 20) X) (h2 : DAt w (.slice A2 k2 c2) k2 d2) => (show Calls Tryz.prog 143 #[.slice A6 (k + 20) c6, .slice A2 k2 c2] w (fun e w' => ∃ A c A' c', e = .returned (.tuple #[.slice A KQ c, .slice A' KM c']) ∧ DAt w' (.slice A KQ c) KQ Q ∧ DAt w' (.slice A' KM c') KM M ∧ Below w.heap.size w w') by
    have := (div_r _ _ (k + 20) k2 X d2 w h h2 hXK hd2s hdp (by omega) (by omega)).mono fun _ _ h => DivPost.sl h
    rw [← hQ, ← hM, ← hKQ, ← hKM] at this
    exact this))
  obtain ⟨K2, hK2⟩ : ∃ K, K = lenD (M + M) := ⟨_, rfl⟩
  have hK2l : K2 ≤ 1000 := by
    have h7 : M + M < 10 ^ (KM + 1) := by rw [Nat.pow_succ]; omega
    have := (lenD_le (M + M) (KM + 1)).2 h7
    omega
  have ca := Lib.hid (fun (A4 : Option Addr) (c4 : Nat) (w : World) (h : DAt w (.slice A4 KM c4) KM M) => (show Calls Tryz.prog 140 #[.slice A4 KM c4, .slice A4 KM c4] w (SlPost w K2 (M + M)) by
    have := (add_r _ _ KM KM M M w h h hMs hMs (by omega) (by omega)).mono fun _ _ h => DgPost.sl h
    rw [← hK2] at this
    exact this))
  have cc := Lib.hid (fun (A5 : Option Addr) (c5 : Nat) (w : World) (h : DAt w (.slice A5 K2 c5) K2 (M + M)) (h2 : DAt w (.slice A2 k2 c2) k2 d2) => (show Calls Tryz.prog 141 #[.slice A5 K2 c5, .slice A2 k2 c2] w (fun e w' => e = .returned (.int .i64 half) ∧ Below w.heap.size w w') by
    have := cmp_r _ _ K2 k2 (M + M) d2 w h h2 (by rw [hK2]; exact lenD_self _) hd2s (by omega) (by omega)
    rw [← hhalf] at this
    exact this))
  have cr := Lib.hid (fun (v : Value) (K : Nat) (N : Nat) (w : World) (h : DAt w v K N) (hN : N < 10 ^ K) (hKl : K ≤ 1000) => result_r ng v K N w h hN (by omega))
  replace hk := Lib.hid hk
  replace hk2 := Lib.hid hk2
  replace hQ := Lib.hid hQ
  replace hM := Lib.hid hM
  replace hX := Lib.hid hX
  replace hKQ := Lib.hid hKQ
  replace hKM := Lib.hid hKM
  replace hK2 := Lib.hid hK2
  replace hng := Lib.hid hng
  replace hlast := Lib.hid hlast
  replace hhalf := Lib.hid hhalf
  replace hQs := Lib.hid hQs
  replace hMs := Lib.hid hMs
  have hd' := Lib.hid (hd.below hb2)
  have hd2' := Lib.hid (hd2.below hb2)
  have hB2 := Lib.hid (hb.out.trans (hb2.mono hb.out.size))
  replace hd := Lib.hid hd
  replace hd2 := Lib.hid hd2
  replace hq := Lib.hid hq
  replace hp := Lib.hid hp
  have hQl2 : KQ ≤ 100 := by have := hKQ.out; omega
  clear hXl hQl hMl hXK hd2s hb2
  have hS : Hid (W2.drew.cell? ⟨q, 0, none⟩ = some (.bool b) ∧ W2.drew.cell? ⟨q, 1, none⟩ = some (.slice A k c) ∧ W2.drew.cell? ⟨q + 1, 0, none⟩ = some (.bool b2) ∧ W2.drew.cell? ⟨q + 1, 1, none⟩ = some (.slice A2 k2 c2) ∧ Hid (Below W2.heap.size W2 W2.drew)) := Lib.hid ⟨b0, b1, e0, e1, Lib.hid (Below.refl _ _).drew⟩
  go_upto_region 6 with fail
  rw [← hW2, ← hqe]
  replace hqe := Lib.hid hqe
  replace hW2 := Lib.hid hW2
  clear b0 b1 e0 e1
  go_wp2_with fail
  go_region_held3 (fun w' => w'.cell? ⟨q, 0, none⟩ = some (.bool b) ∧ w'.cell? ⟨q, 1, none⟩ = some (.slice A k c) ∧ w'.cell? ⟨q + 1, 0, none⟩ = some (.bool b2) ∧ w'.cell? ⟨q + 1, 1, none⟩ = some (.slice A2 k2 c2) ∧ Hid (Below W2.heap.size W2 w'))
    (first | exact hS.out | assumption | exact four_later hlt (by assumption) (by assumption))
    (first
      | (go_at_call 112; refine (cz.out _ (hd'.out.below (four_out (by assumption)))).mono ?_; rintro e w' ⟨A6, c6, rfl, hv6, hbb⟩)
      | (go_at_call 143; refine (cd.out _ _ _ (by assumption) (hd2'.out.below (four_out (by assumption)))).mono ?_; rintro e w5 ⟨A3, c3, A4, c4, rfl, hv3, hv4, hbb5⟩))
  rename_i hH
  obtain ⟨f0, f1, f2, f3, f4⟩ := hH
  have hB5 := Lib.hid (hB2.out.trans (f4.out.mono hB2.out.size))
  have hlt5 : Hid (q < w5.heap.size ∧ q + 1 < w5.heap.size) := Lib.hid ⟨Nat.lt_of_lt_of_le hlt.out.1 f4.out.size, Nat.lt_of_lt_of_le hlt.out.2 f4.out.size⟩
  have hd25 := Lib.hid (hd2'.out.below f4.out)
  have hS5 : Hid (w5.drew.cell? ⟨q, 0, none⟩ = some (.bool b) ∧ w5.drew.cell? ⟨q, 1, none⟩ = some (.slice A k c) ∧ w5.drew.cell? ⟨q + 1, 0, none⟩ = some (.bool b2) ∧ w5.drew.cell? ⟨q + 1, 1, none⟩ = some (.slice A2 k2 c2) ∧ Hid (Below w5.heap.size w5 w5.drew)) := Lib.hid ⟨f0, f1, f2, f3, Lib.hid (Below.refl _ _).drew⟩
  have hq5 := Lib.hid hv3
  have hr5 := Lib.hid hv4
  have hlc := hv3.last
  clear f0 f1 f2 f3 f4 hv3 hv4 hbb5
  have g7 : (((KM : Nat) : Int) == 0) = ((KM : Int) == 0) := rfl
  clear g7
  by_cases hKQ0 : 0 < KQ
  · obtain ⟨g, off, rfl, hcl⟩ := hlc hKQ0
    rw [← hlast.out] at hcl
    have a1 : ((KQ : Int) > 0) := by omega
    have a2 : (KQ : Int) - 1 = ((KQ - 1 : Nat) : Int) := by omega
    have a3 : (((KQ - 1 : Nat) : Int) < (KQ : Int)) := by omega
    have a4 : KQ - 1 < KQ := by omega
    go_upto_region 10 with fail
    go_wp2_with fail
    go_region_held3 (fun w' => w'.cell? ⟨q, 0, none⟩ = some (.bool b) ∧ w'.cell? ⟨q, 1, none⟩ = some (.slice A k c) ∧ w'.cell? ⟨q + 1, 0, none⟩ = some (.bool b2) ∧ w'.cell? ⟨q + 1, 1, none⟩ = some (.slice A2 k2 c2) ∧ Hid (Below w5.heap.size w5 w'))
      (first | exact hS5.out | assumption | exact four_later hlt5 (by assumption) (by assumption))
      (first
        | (go_at_call 140; refine (ca.out _ _ _ (hr5.out.below (four_out (by assumption)))).mono ?_; rintro e w' ⟨A7, c7, rfl, hv7, hbb⟩)
        | (go_at_call 141; refine (cc.out _ _ _ (by assumption) (hd25.out.below (four_out (by assumption)))).mono ?_; rintro e w' ⟨rfl, hbb⟩)
        | (go_at_call 144; refine (up_r false _ last half _ (by omega)).mono ?_; rintro e w' ⟨rfl, hww⟩; have hbb : Below _ _ _ := below_of_eq hww))
    rename_i hH
    obtain ⟨f0, f1, f2, f3, f4⟩ := hH
    obtain ⟨w8, hw8⟩ : ∃ w, w = w' := ⟨_, rfl⟩
    rw [← hw8] at f0 f1 f2 f3 f4 ⊢
    have hB8 := Lib.hid (hB5.out.trans (f4.out.mono hB5.out.size))
    have hq8 := Lib.hid (hq5.out.below f4.out)
    replace f4 := Lib.hid f4
    clear hw8
    cases hup : upE last half with
    | true =>
      have hR4 : Hid (R = outN (checkedN ⟨ng, Q + 1⟩)) := Lib.hid (by rw [hR3.out, hup]; rfl)
      have hone := own_digit w8 (show 1 < 10 by decide)
      have hb9 : Below w8.heap.size w8 (w8.alloc (.cells #[.int .i64 1] 3)) := (Below.refl _ _).alloc (Nat.le_refl _) _
      have hB9 := Lib.hid (hB8.out.trans (hb9.mono hB8.out.size))
      have had := (add_r _ (.slice (some ⟨w8.heap.size, 0, none⟩) 1 1) KQ 1 Q 1 (w8.alloc (.cells #[.int .i64 1] 3)) (hq8.out.below hb9) (own_DAt hone) hQs.out (by decide) (by omega) (by decide)).mono fun _ _ h => DgPost.sl h
      have hqs : q < w8.heap.size := Nat.lt_of_lt_of_le hlt5.out.1 f4.out.out.size
      have hps : q + 1 < w8.heap.size := Nat.lt_of_lt_of_le hlt5.out.2 f4.out.out.size
      have hS9 := four_later (W4 := w8) (Lib.hid ⟨hqs, hps⟩) ⟨f0, f1, f2, f3, Lib.hid (Below.refl _ _)⟩ hb9
      have hlt9 : Hid (q < (w8.alloc (.cells #[.int .i64 1] 3)).heap.size ∧ q + 1 < (w8.alloc (.cells #[.int .i64 1] 3)).heap.size) := Lib.hid ⟨Nat.lt_of_lt_of_le hqs hb9.size, Nat.lt_of_lt_of_le hps hb9.size⟩
      obtain ⟨i0, i1, i2, i3, -⟩ := hS9
      have hS9 := Lib.hid (And.intro i0 (And.intro i1 (And.intro i2 i3)))
      have hKs : lenD (Q + 1) ≤ 1000 := by
        have h7 : Q + 1 < 10 ^ (KQ + 1) := by have := hQs.out; rw [Nat.pow_succ]; omega
        have := (lenD_le (Q + 1) (KQ + 1)).2 h7
        omega
      have cr1 := Lib.hid (fun A c w (h : DAt w (.slice A (lenD (Q + 1)) c) (lenD (Q + 1)) (Q + 1)) => cr.out _ _ _ w h (lenD_self _) hKs)
      obtain ⟨K9, hK9⟩ : ∃ K, K = lenD (Q + 1) := ⟨_, rfl⟩
      rw [← hK9] at had cr1
      replace hK9 := Lib.hid hK9
      clear hone i0 i1 i2 i3 hqs hps hup hKs hb9 f0 f1 f2 f3
      go_wp2_with fail
      refine had.mono ?_
      rintro e w10 ⟨A9, c9, rfl, hv9, hb10⟩
      have hB10 := Lib.hid (hB9.out.trans (hb10.mono hB9.out.size))
      have hS10 := four_later hlt9 ⟨hS9.out.1, hS9.out.2.1, hS9.out.2.2.1, hS9.out.2.2.2, Lib.hid (Below.refl _ _)⟩ hb10
      obtain ⟨j0, j1, j2, j3, -⟩ := hS10
      have hres := cr1.out _ _ w10 hv9
      clear had hv9 hb10
      go_wp2_with fail
      refine hres.mono ?_
      rintro e w11 ⟨rfl, hb11⟩
      go_wp2_with fail
      go_ret2
      exact ⟨by rw [hR4.out]; rfl, hB10.out.trans (hb11.mono hB10.out.size)⟩
    | false =>
      have hR4 : Hid (R = outN (checkedN ⟨ng, Q⟩)) := Lib.hid (by rw [hR3.out, hup]; rfl)
      have hres := cr.out _ _ _ w8 hq8.out hQs.out (by omega)
      clear hup
      go_wp2_with fail
      refine hres.mono ?_
      rintro e w11 ⟨rfl, hb11⟩
      go_wp2_with fail
      go_ret2
      exact ⟨by rw [hR4.out]; rfl, hB8.out.trans (hb11.mono hB8.out.size)⟩
  · have a1 : ¬ ((KQ : Int) > 0) := by omega
    have hl0 : Hid (last = 0) := Lib.hid (by
      rw [hlast.out]
      have := hQs.out
      rw [show KQ = 0 by omega] at this
      exact dg_out (by simpa using this))
    clear hlc
    go_upto_region 10 with fail
    go_wp2_with fail
    go_region_held3 (fun w' => w'.cell? ⟨q, 0, none⟩ = some (.bool b) ∧ w'.cell? ⟨q, 1, none⟩ = some (.slice A k c) ∧ w'.cell? ⟨q + 1, 0, none⟩ = some (.bool b2) ∧ w'.cell? ⟨q + 1, 1, none⟩ = some (.slice A2 k2 c2) ∧ Hid (Below w5.heap.size w5 w'))
      (first | exact hS5.out | assumption | exact four_later hlt5 (by assumption) (by assumption))
      (first
        | (go_at_call 140; refine (ca.out _ _ _ (hr5.out.below (four_out (by assumption)))).mono ?_; rintro e w' ⟨A7, c7, rfl, hv7, hbb⟩)
        | (go_at_call 141; refine (cc.out _ _ _ (by assumption) (hd25.out.below (four_out (by assumption)))).mono ?_; rintro e w' ⟨rfl, hbb⟩)
        | (go_at_call 144; refine (up_r false _ 0 half _ (by omega)).mono ?_; rintro e w' ⟨rfl, hww⟩; have hbb : Below _ _ _ := below_of_eq hww))
    rename_i hH
    obtain ⟨f0, f1, f2, f3, f4⟩ := hH
    obtain ⟨w8, hw8⟩ : ∃ w, w = w' := ⟨_, rfl⟩
    rw [← hw8] at f0 f1 f2 f3 f4 ⊢
    have hB8 := Lib.hid (hB5.out.trans (f4.out.mono hB5.out.size))
    have hq8 := Lib.hid (hq5.out.below f4.out)
    replace f4 := Lib.hid f4
    clear hw8
    cases hup : upE 0 half with
    | true =>
      have hR4 : Hid (R = outN (checkedN ⟨ng, Q + 1⟩)) := Lib.hid (by rw [hR3.out, hl0.out, hup]; rfl)
      have hone := own_digit w8 (show 1 < 10 by decide)
      have hb9 : Below w8.heap.size w8 (w8.alloc (.cells #[.int .i64 1] 3)) := (Below.refl _ _).alloc (Nat.le_refl _) _
      have hB9 := Lib.hid (hB8.out.trans (hb9.mono hB8.out.size))
      have had := (add_r _ (.slice (some ⟨w8.heap.size, 0, none⟩) 1 1) KQ 1 Q 1 (w8.alloc (.cells #[.int .i64 1] 3)) (hq8.out.below hb9) (own_DAt hone) hQs.out (by decide) (by omega) (by decide)).mono fun _ _ h => DgPost.sl h
      have hqs : q < w8.heap.size := Nat.lt_of_lt_of_le hlt5.out.1 f4.out.out.size
      have hps : q + 1 < w8.heap.size := Nat.lt_of_lt_of_le hlt5.out.2 f4.out.out.size
      have hS9 := four_later (W4 := w8) (Lib.hid ⟨hqs, hps⟩) ⟨f0, f1, f2, f3, Lib.hid (Below.refl _ _)⟩ hb9
      have hlt9 : Hid (q < (w8.alloc (.cells #[.int .i64 1] 3)).heap.size ∧ q + 1 < (w8.alloc (.cells #[.int .i64 1] 3)).heap.size) := Lib.hid ⟨Nat.lt_of_lt_of_le hqs hb9.size, Nat.lt_of_lt_of_le hps hb9.size⟩
      obtain ⟨i0, i1, i2, i3, -⟩ := hS9
      have hS9 := Lib.hid (And.intro i0 (And.intro i1 (And.intro i2 i3)))
      have hKs : lenD (Q + 1) ≤ 1000 := by
        have h7 : Q + 1 < 10 ^ (KQ + 1) := by have := hQs.out; rw [Nat.pow_succ]; omega
        have := (lenD_le (Q + 1) (KQ + 1)).2 h7
        omega
      have cr1 := Lib.hid (fun A c w (h : DAt w (.slice A (lenD (Q + 1)) c) (lenD (Q + 1)) (Q + 1)) => cr.out _ _ _ w h (lenD_self _) hKs)
      obtain ⟨K9, hK9⟩ : ∃ K, K = lenD (Q + 1) := ⟨_, rfl⟩
      rw [← hK9] at had cr1
      replace hK9 := Lib.hid hK9
      clear hone i0 i1 i2 i3 hqs hps hup hKs hb9 f0 f1 f2 f3
      go_wp2_with fail
      refine had.mono ?_
      rintro e w10 ⟨A9, c9, rfl, hv9, hb10⟩
      have hB10 := Lib.hid (hB9.out.trans (hb10.mono hB9.out.size))
      have hS10 := four_later hlt9 ⟨hS9.out.1, hS9.out.2.1, hS9.out.2.2.1, hS9.out.2.2.2, Lib.hid (Below.refl _ _)⟩ hb10
      obtain ⟨j0, j1, j2, j3, -⟩ := hS10
      have hres := cr1.out _ _ w10 hv9
      clear had hv9 hb10
      go_wp2_with fail
      refine hres.mono ?_
      rintro e w11 ⟨rfl, hb11⟩
      go_wp2_with fail
      go_ret2
      exact ⟨by rw [hR4.out]; rfl, hB10.out.trans (hb11.mono hB10.out.size)⟩
    | false =>
      have hR4 : Hid (R = outN (checkedN ⟨ng, Q⟩)) := Lib.hid (by rw [hR3.out, hl0.out, hup]; rfl)
      have hres := cr.out _ _ _ w8 hq8.out hQs.out (by omega)
      clear hup
      go_wp2_with fail
      refine hres.mono ?_
      rintro e w11 ⟨rfl, hb11⟩
      go_wp2_with fail
      go_ret2
      exact ⟨by rw [hR4.out]; rfl, hB8.out.trans (hb11.mono hB8.out.size)⟩
end Go.Proofs.YtgobpoeccdgeiaaGreatDoor
