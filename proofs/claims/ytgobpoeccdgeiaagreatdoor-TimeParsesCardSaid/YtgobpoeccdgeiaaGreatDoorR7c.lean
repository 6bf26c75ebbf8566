/- Package chiselref04: Up and cut for the ways "even", "cut", "floor" (printed by gencutw.py). -/
import Derived.Test.YtgobpoeccdgeiaaGreatDoorQk
import Derived.Test.YtgobpoeccdgeiaaGreatDoorR7b
namespace Go.Proofs.YtgobpoeccdgeiaaGreatDoor
open Go.RowKit NumP DigP Go.Proofs.YtgobpoeccdgeiaaGreatDoorW.PrintWords
set_option linter.unusedVariables false

theorem lenD_zero7 (m : Nat) : (((lenD m : Nat) : Int) == 0) = decide (m = 0) := by
  have h := lenD_le m 0
  by_cases hm : m = 0
  · have : lenD m = 0 := by have := h.2 (by rw [hm]; decide); omega
    rw [this, hm]; rfl
  · have : lenD m ≠ 0 := fun e => hm (by have := h.1 (by omega); simpa using this)
    simp [hm]; omega
/-- What Up says of a way of rounding. -/
def UpOk (neg : Bool) (how : ByteArray) (up : Nat → Int → Bool → Bool) : Prop := ∀ (last : Nat) (half : Int) (none : Bool) (W : World), last < 10 → Calls Tryz.prog 144 #[.bool neg, .int .i64 (last : Int), .int .i64 half, .bool none, .string how] W fun e w' => e = .returned (.bool (up last half none)) ∧ W = w'
def CutOk (neg : Bool) (way : NumP.Way) (up : Nat → Int → Bool → Bool) : Prop := ∀ D n : Nat, 1 ≤ n → cutN way neg D (10 ^ n) = D / 10 ^ n + (up (dg D n) (cmpN (D % 10 ^ n) (5 * 10 ^ (n - 1))) (decide (D % 10 ^ n = 0))).toNat
set_option maxRecDepth 100000 in
set_option maxHeartbeats 2000000 in
theorem cut_up (neg : Bool) : UpOk neg ⟨#[99, 117, 116]⟩ (fun _ _ _ => false) := fun last half none W hl => by
  clear hl
  go_enter Tryz.func144, Tryz.ntmps144
  go_wp2_with fail
  go_ret
  exact ⟨rfl, rfl⟩
theorem cut_cut (neg : Bool) : CutOk neg .cut (fun _ _ _ => false) := fun D n hn => by unfold cutN; rfl
set_option maxRecDepth 100000 in
set_option maxHeartbeats 4000000 in
theorem cutw_low (neg : Bool) (how : ByteArray) (way : NumP.Way) (up : Nat → Int → Bool → Bool) (hUp : UpOk neg how up) (hcut : CutOk neg way up) (v : Value) (k D n : Nat) (W : World) (h : DAt W v k D) (hD : D < 10 ^ k) (hn : 1 ≤ n) (hnk : n ≤ k) (hk : k ≤ 1000) : Calls Tryz.prog 110 #[.bool neg, v, .int .i64 (n : Int), .string how] W (DgPost W (cutN way neg D (10 ^ n))) := by
  obtain ⟨A, c, rfl, ⟨h1, -⟩, h2⟩ := h.at_
  obtain ⟨g, off, rfl, hc⟩ := h2 (by omega)
  have hst := Lib.hid (h.front hnk)
  have hof := Lib.hid (h.back (c2 := c - (k - n)) hnk (by omega))
  have g1 : ¬ ((n : Int) > (k : Int)) := by omega
  have e1 : k - (k - n) = n := by omega
  have e2 : max 0 ((n : Int) - 1) = ((n - 1 : Nat) : Int) := by omega
  obtain ⟨nn, hnn⟩ : ∃ b, b = decide (D % 10 ^ n = 0) := ⟨_, rfl⟩
  have hR : Hid (cutN way neg D (10 ^ n) = D / 10 ^ n + (up (dg D n) (cmpN (D % 10 ^ n) (5 * 10 ^ (n - 1))) nn).toNat) := Lib.hid (by rw [hnn]; exact hcut D n hn)
  have g7 : (((lenD (D % 10 ^ n) : Nat) : Int) == 0) = nn := by rw [hnn]; exact lenD_zero7 _
  replace hnn := Lib.hid hnn
  replace hUp := Lib.hid hUp
  clear hcut
  obtain ⟨last, hlast⟩ : ∃ l, l = dg D n := ⟨_, rfl⟩
  obtain ⟨half, hhalf⟩ : ∃ x, x = cmpN (D % 10 ^ n) (5 * 10 ^ (n - 1)) := ⟨_, rfl⟩
  rw [← hlast, ← hhalf] at hR
  have hl10 : last < 10 := by rw [hlast]; exact dg_lt _ _
  have hs : k - n ≤ 1000 := by omega
  have hSt : Hid (D / 10 ^ n < 10 ^ (k - n)) := Lib.hid (by rw [Nat.div_lt_iff_lt_mul (Nat.pow_pos (by decide)), ← Nat.pow_add, show k - n + n = k by omega]; exact hD)
  have hlc : Hid (0 < k - n → W.cell? ⟨g, off + (k - n - 1), none⟩ = some (.int .i64 (last : Nat))) := Lib.hid (fun h0 => by
    have := hc (k - n - 1) (by omega)
    rw [show k - 1 - (k - n - 1) = n by omega, ← hlast] at this
    exact this)
  have hl0 : Hid (¬ 0 < k - n → last = 0) := Lib.hid (fun h0 => by
    rw [hlast]; exact dg_out (by rw [show n = k by omega]; exact hD))
  replace hhalf := Lib.hid hhalf
  replace hlast := Lib.hid hlast
  replace hc := Lib.hid hc
  replace h2 := Lib.hid h2
  replace h := Lib.hid h
  go_enter Tryz.func110, Tryz.ntmps110
  go_upto_region 3 with fail
  go_quiet (fail)
  obtain ⟨W2, hW2⟩ : ∃ W2, W2 = W.drewN nq := ⟨_, rfl⟩
  rw [← hW2]
  have hB2 := Lib.hid (show Below W.heap.size W W2 by rw [hW2]; exact below_drewN (Below.refl _ _) nq)
  clear hW2
  have hfive := own_digit W2 (show 5 < 10 by decide)
  have hb2 : Below W2.heap.size W2 (W2.alloc (.cells #[.int .i64 5] 3)) := (Below.refl _ _).alloc (Nat.le_refl _) _
  have hbs := hb2.size
  replace hb2 := Lib.hid hb2
  go_wp2_with (at_builtin; refine wpList_append_zeros rfl _ _ rfl W2.heap.size _ 1 _ rfl hfive (n - 1) rfl (by omega) (by omega) hbs ?_; intro v3 w3 hown3 hgrow3)
  rw [ints_zero, ← ints_app, fixN_app, show 1 + (n - 1) = n by omega] at hown3
  have hB23 := Below.grown hb2.out hgrow3 hb2.out.size (fun j hj => (hfive.lt _ hj).1)
  have hB3 := Lib.hid (hB2.out.trans (hB23.mono hB2.out.size))
  have hd3 := own_DAt hown3
  have hcm := cmp_r _ v3 n n (D % 10 ^ n) (5 * 10 ^ (n - 1)) w3 (hof.out.below hB3.out) hd3 (Nat.mod_lt _ (Nat.pow_pos (by decide))) (by have := pow_half hn; have := Nat.pow_pos (n := n) (show 0 < 10 by decide); omega) (by omega) (by omega)
  rw [← hhalf.out] at hcm
  clear hown3 hgrow3 hB23 hd3 hfive hbs
  refine hcm.mono ?_
  rintro e w4 ⟨rfl, hb4⟩
  have hB4 := Lib.hid (hB3.out.trans (hb4.mono hB3.out.size))
  clear hcm hb4
  obtain ⟨i0, hi, hz0, hz1, hz2⟩ := info_parts info_int
  have ht := trim_r _ n (D % 10 ^ n) w4 (hof.out.below hB4.out) (Nat.mod_lt _ (Nat.pow_pos (by decide))) (by omega)
  have g5 : ((n : Int) > 0) := by omega
  obtain ⟨j, hj⟩ : ∃ j, j = k - n := ⟨_, rfl⟩
  rw [← hj] at hst hSt hlc hl0 hs ht ⊢
  rw [← hj] at e1
  replace hj := Lib.hid hj
  by_cases hj0 : 0 < j
  · have qc := (hB4.out.cell (World.block_lt_of_cell? W _ (hlc.out hj0))).trans (hlc.out hj0)
    have g2 : ((j : Int) > 0) := by omega
    have g3 : (j : Int) - 1 = ((j - 1 : Nat) : Int) := by omega
    have g4 : (((j - 1 : Nat) : Int) < (j : Int)) := by omega
    have g6 : j - 1 < j := by omega
    go_wp2_with fail
    refine ht.mono ?_
    rintro e w ⟨v', rfl, hd', rfl⟩
    obtain ⟨A', c', rfl, -⟩ := hd'.at_
    clear ht hd'
    go_wp2_with fail
    refine (hUp.out last half nn _ hl10).mono ?_
    rintro e w ⟨rfl, rfl⟩
    cases hup : up last half nn with
    | true =>
      rw [hup] at hR
      have hone := own_digit w4 (show 1 < 10 by decide)
      have hb5 : Below w4.heap.size w4 (w4.alloc (.cells #[.int .i64 1] 3)) := (Below.refl _ _).alloc (Nat.le_refl _) _
      have hB5 := Lib.hid (hB4.out.trans (hb5.mono hB4.out.size))
      have had := add_r _ (.slice (some ⟨w4.heap.size, 0, none⟩) 1 1) j 1 (D / 10 ^ n) 1 (w4.alloc (.cells #[.int .i64 1] 3)) (hst.out.below hB5.out) (own_DAt hone) hSt.out (by decide) (by omega) (by decide)
      clear hone hb5
      go_wp2_with fail
      refine had.mono ?_
      rintro e w6 ⟨r, rfl, hr, hb6⟩
      replace hr := Lib.hid hr
      obtain ⟨A3, c3, e3, -⟩ := hr.out.at_
      subst e3
      go_wp2_with fail
      go_ret
      exact ⟨_, rfl, by rw [hR.out]; exact hr.out, by exact hB5.out.trans (hb6.mono hB5.out.size)⟩
    | false =>
      rw [hup] at hR
      have hemp := own_empty w4
      have hb5 : Below w4.heap.size w4 (w4.alloc (.cells #[] 3)) := (Below.refl _ _).alloc (Nat.le_refl _) _
      have hB5 := Lib.hid (hB4.out.trans (hb5.mono hB4.out.size))
      have hnews := (hst.out.below hB5.out).news _ rfl
      have hone := ints_one (fixN j (D / 10 ^ n))
      have hnl : (ints (fixN j (D / 10 ^ n))).length = j * 1 := by rw [ints_len, fixN_len, Nat.mul_one]
      have hbs := hb5.size
      clear hb5
      go_wp2_with (at_builtin; refine wpList_append_own _ rfl _ _ 120 rfl w4.heap.size 3 i0 (.int .i64 0) 1 8 Tryz.underlying120 hi hz0 hz1 hz2 rfl (by decide) _ _ _ rfl hemp ⟨g, off, none⟩ j c (ints (fixN j (D / 10 ^ n))) rfl hnl hnews hone (by unfold maxLen; omega) (by omega) hbs ?_; intro v6 w6 hown6 hgrow6 hnil6)
      rw [List.nil_append, Nat.zero_add] at hown6
      have hB6 := Lib.hid (Below.grown hB5.out hgrow6 hB5.out.size (fun k hk => Nat.le_trans hB4.out.size (hemp.lt _ hk).1))
      have ht2 := trim_r v6 j (D / 10 ^ n) w6 (own_DAt hown6) hSt.out (by omega)
      clear hown6 hgrow6 hnil6 hnews hone hemp
      refine ht2.mono ?_
      rintro e w7 ⟨r, rfl, hr, rfl⟩
      replace hr := Lib.hid hr
      obtain ⟨A3, c3, e3, -⟩ := hr.out.at_
      subst e3
      go_wp2_with fail
      go_ret
      exact ⟨_, rfl, by rw [hR.out]; exact hr.out, hB6.out⟩
  · have hj00 : j = 0 := by omega
    have g2 : ¬ ((j : Int) > 0) := by omega
    have hla := hl0.out hj0
    subst hla
    replace hj00 := Lib.hid hj00
    go_wp2_with fail
    refine ht.mono ?_
    rintro e w ⟨v', rfl, hd', rfl⟩
    obtain ⟨A', c', rfl, -⟩ := hd'.at_
    clear ht hd'
    go_wp2_with fail
    refine (hUp.out 0 half nn _ hl10).mono ?_
    rintro e w ⟨rfl, rfl⟩
    cases hup : up 0 half nn with
    | true =>
      rw [hup] at hR
      have hone := own_digit w4 (show 1 < 10 by decide)
      have hb5 : Below w4.heap.size w4 (w4.alloc (.cells #[.int .i64 1] 3)) := (Below.refl _ _).alloc (Nat.le_refl _) _
      have hB5 := Lib.hid (hB4.out.trans (hb5.mono hB4.out.size))
      have had := add_r _ (.slice (some ⟨w4.heap.size, 0, none⟩) 1 1) j 1 (D / 10 ^ n) 1 (w4.alloc (.cells #[.int .i64 1] 3)) (hst.out.below hB5.out) (own_DAt hone) hSt.out (by decide) (by omega) (by decide)
      clear hone hb5
      go_wp2_with fail
      refine had.mono ?_
      rintro e w6 ⟨r, rfl, hr, hb6⟩
      replace hr := Lib.hid hr
      obtain ⟨A3, c3, e3, -⟩ := hr.out.at_
      subst e3
      go_wp2_with fail
      go_ret
      exact ⟨_, rfl, by rw [hR.out]; exact hr.out, by exact hB5.out.trans (hb6.mono hB5.out.size)⟩
    | false =>
      rw [hup] at hR
      have hemp := own_empty w4
      have hb5 : Below w4.heap.size w4 (w4.alloc (.cells #[] 3)) := (Below.refl _ _).alloc (Nat.le_refl _) _
      have hB5 := Lib.hid (hB4.out.trans (hb5.mono hB4.out.size))
      have hnews := (hst.out.below hB5.out).news _ rfl
      have hone := ints_one (fixN j (D / 10 ^ n))
      have hnl : (ints (fixN j (D / 10 ^ n))).length = j * 1 := by rw [ints_len, fixN_len, Nat.mul_one]
      have hbs := hb5.size
      clear hb5
      go_wp2_with (at_builtin; refine wpList_append_own _ rfl _ _ 120 rfl w4.heap.size 3 i0 (.int .i64 0) 1 8 Tryz.underlying120 hi hz0 hz1 hz2 rfl (by decide) _ _ _ rfl hemp ⟨g, off, none⟩ j c (ints (fixN j (D / 10 ^ n))) rfl hnl hnews hone (by unfold maxLen; omega) (by omega) hbs ?_; intro v6 w6 hown6 hgrow6 hnil6)
      rw [List.nil_append, Nat.zero_add] at hown6
      have hB6 := Lib.hid (Below.grown hB5.out hgrow6 hB5.out.size (fun k hk => Nat.le_trans hB4.out.size (hemp.lt _ hk).1))
      have ht2 := trim_r v6 j (D / 10 ^ n) w6 (own_DAt hown6) hSt.out (by omega)
      clear hown6 hgrow6 hnil6 hnews hone hemp
      refine ht2.mono ?_
      rintro e w7 ⟨r, rfl, hr, rfl⟩
      replace hr := Lib.hid hr
      obtain ⟨A3, c3, e3, -⟩ := hr.out.at_
      subst e3
      go_wp2_with fail
      go_ret
      exact ⟨_, rfl, by rw [hR.out]; exact hr.out, hB6.out⟩
set_option maxRecDepth 100000 in
set_option maxHeartbeats 4000000 in
theorem cutw_high (neg : Bool) (how : ByteArray) (way : NumP.Way) (up : Nat → Int → Bool → Bool) (hUp : UpOk neg how up) (hcut : CutOk neg way up) (v : Value) (k D n : Nat) (W : World) (h : DAt W v k D) (hD : D < 10 ^ k) (hn : 1 ≤ n) (hnk : k < n) (hn1 : n ≤ 1000) : Calls Tryz.prog 110 #[.bool neg, v, .int .i64 (n : Int), .string how] W (DgPost W (cutN way neg D (10 ^ n))) := by
  obtain ⟨A, c0, rfl, ⟨h1, h1n⟩, h2⟩ := h.at_
  obtain ⟨i0, hi, hz0, hz1, hz2⟩ := info_parts info_int
  have hDn : D < 10 ^ n := Nat.lt_of_lt_of_le hD (Nat.pow_le_pow_right (by decide) (by omega))
  have hq0 : D / 10 ^ n = 0 := Nat.div_eq_of_lt hDn
  have hm0 : D % 10 ^ n = D := Nat.mod_eq_of_lt hDn
  have e2 : max 0 ((n : Int) - 1) = ((n - 1 : Nat) : Int) := by omega
  obtain ⟨nn, hnn⟩ : ∃ b, b = decide (D = 0) := ⟨_, rfl⟩
  have hR : Hid (cutN way neg D (10 ^ n) = 0 + (up 0 (cmpN D (5 * 10 ^ (n - 1))) nn).toNat) := Lib.hid (by
    have := hcut D n hn
    rw [hq0, hm0, dg_out hDn] at this
    rw [hnn]
    exact this)
  have g7 : (((lenD D : Nat) : Int) == 0) = nn := by rw [hnn]; exact lenD_zero7 _
  replace hnn := Lib.hid hnn
  replace hUp := Lib.hid hUp
  clear hcut
  obtain ⟨half, hhalf⟩ : ∃ x, x = cmpN D (5 * 10 ^ (n - 1)) := ⟨_, rfl⟩
  rw [← hhalf] at hR
  have hl10 : 0 < 10 := by decide
  have g1 : ((n : Int) > (k : Int)) := by omega
  have hmk := make_ints W (n - k) (by omega)
  rw [show ((n - k : Nat) : Int) = (n : Int) - (k : Int) by omega] at hmk
  have hown := made_ints W (n - k) (by omega)
  obtain ⟨W1, hW1⟩ : ∃ W1, W1 = W.alloc (.cells (madeCells #[.int .i64 0] (n - k)) 3) := ⟨_, rfl⟩
  have hb1 : Below W.heap.size W W1 := by rw [hW1]; exact (Below.refl _ _).alloc (Nat.le_refl _) _
  rw [← hW1] at hown hmk
  have hbs := hb1.size
  have hd1 := h.below hb1
  have hlen : (ints (fixN k D)).length = k * 1 := by rw [ints_len, fixN_len, Nat.mul_one]
  have hone0 := ints_one (fixN k D)
  have hkn : n - k + k = n := by omega
  have hlist : Hid (ints (fixN (n - k) 0) ++ ints (fixN k D) = ints (fixN n D)) := Lib.hid (by rw [← ints_app, fixN_ahead hD, hkn])
  replace hb1 := Lib.hid hb1
  replace hhalf := Lib.hid hhalf
  replace h2 := Lib.hid h2
  replace hq0 := Lib.hid hq0
  replace hm0 := Lib.hid hm0
  have rest : Hid (A = none → k = 0 ∧ c0 = 0) := Lib.hid (fun hA => ⟨by have := h1n hA; omega, h1n hA⟩)
  clear hW1 h1n
  have hfirst : Hid (∀ v1 w1, w1.ownsRow W.heap.size 3 1 v1 n (ints (fixN n D)) → Below W.heap.size W w1 → ∃ g c, v1 = .slice (some ⟨g, 0, none⟩) n c ∧ DAt w1 (.slice (some ⟨g, 0, none⟩) n c) n D ∧ n ≤ c) := Lib.hid (fun v1 w1 ho hb => by
    have hd := own_DAt ho
    obtain ⟨g, c, rfl⟩ := own_form1 ho (by omega)
    obtain ⟨A', c', e', ⟨q1, _⟩, _⟩ := hd.at_
    injection e' with _ _ e3
    subst e3
    exact ⟨g, c, rfl, hd, q1⟩)
  go_enter Tryz.func110, Tryz.ntmps110
  cases A with
  | none =>
    obtain ⟨hk0, hc0⟩ := rest.out rfl
    subst hk0
    subst hc0
    rw [show (n : Int) - ((0 : Nat) : Int) = (n : Int) by simp, Nat.sub_zero] at hmk
    rw [Nat.sub_zero] at hown
    go_upto_region 3 with (at_builtin; refine wpList_append_own_none rfl _ _ 120 rfl W.heap.size 3 i0 1 Tryz.underlying120 hi _ _ _ rfl hown rfl ?_)
    have hown1 := hown
    have hB1 := hb1
    obtain ⟨w1, hw1⟩ : ∃ w, w = W1 := ⟨_, rfl⟩
    obtain ⟨v1, hv1⟩ : ∃ v, v = Value.slice (some ⟨W.heap.size, 0, none⟩) n n := ⟨_, rfl⟩
    have hl := hlist.out
    rw [Nat.sub_zero, show ints (fixN 0 D) = [] from rfl, List.append_nil] at hl
    rw [← hw1, ← hv1, hl] at hown1
    rw [← hw1] at hB1
    rw [← hw1, ← hv1]
    clear hv1 hw1 hown hmk
    obtain ⟨g, c, rfl, hd, hnc⟩ := hfirst.out v1 w1 hown1 hB1.out
    have hof := Lib.hid hd
    have hst : Hid (DAt w1 (.slice (some ⟨g, 0, none⟩) 0 c) 0 0) := Lib.hid ⟨_, _, rfl, ⟨Nat.zero_le _, fun h => by cases h⟩, fun h => by omega⟩
    have comp : Hid (∀ w, Below w1.heap.size w1 w → Below W.heap.size W w) := Lib.hid (fun w h => hB1.out.trans (h.mono hB1.out.size))
    clear hown1 hd hfirst
    go_quiet (fail)
    obtain ⟨W2, hW2⟩ : ∃ W2, W2 = w1.drewN nq := ⟨_, rfl⟩
    rw [← hW2]
    have hB2 := Lib.hid (show Below w1.heap.size w1 W2 by rw [hW2]; exact below_drewN (Below.refl _ _) nq)
    clear hW2
    have hfive := own_digit W2 (show 5 < 10 by decide)
    have hb2 : Below W2.heap.size W2 (W2.alloc (.cells #[.int .i64 5] 3)) := (Below.refl _ _).alloc (Nat.le_refl _) _
    have hbs2 := hb2.size
    replace hb2 := Lib.hid hb2
    go_wp2_with (at_builtin; refine wpList_append_zeros rfl _ _ rfl W2.heap.size _ 1 _ rfl hfive (n - 1) rfl (by omega) (by omega) hbs2 ?_; intro v3 w3 hown3 hgrow3)
    rw [ints_zero, ← ints_app, fixN_app, show 1 + (n - 1) = n by omega] at hown3
    have hB23 := Below.grown hb2.out hgrow3 hb2.out.size (fun j hj => (hfive.lt _ hj).1)
    have hB3 := Lib.hid (hB2.out.trans (hB23.mono hB2.out.size))
    have hd3 := own_DAt hown3
    have hcm := cmp_r _ v3 n n D (5 * 10 ^ (n - 1)) w3 (hof.out.below hB3.out) hd3 hDn (by have := pow_half hn; have := Nat.pow_pos (n := n) (show 0 < 10 by decide); omega) (by omega) (by omega)
    rw [← hhalf.out] at hcm
    clear hown3 hgrow3 hB23 hd3 hfive hbs2
    refine hcm.mono ?_
    rintro e w4 ⟨rfl, hb4⟩
    have hB4 := Lib.hid (hB3.out.trans (hb4.mono hB3.out.size))
    clear hcm hb4
    have ht := trim_r _ n D w4 (hof.out.below hB4.out) hDn (by omega)
    have g5 : ((n : Int) > 0) := by omega
    go_wp2_with fail
    refine ht.mono ?_
    rintro e w ⟨v', rfl, hd', rfl⟩
    obtain ⟨A', c', rfl, -⟩ := hd'.at_
    clear ht hd'
    go_wp2_with fail
    refine (hUp.out 0 half nn _ hl10).mono ?_
    rintro e w ⟨rfl, rfl⟩
    cases hup : up 0 half nn with
    | true =>
      rw [hup] at hR
      have hone := own_digit w4 (show 1 < 10 by decide)
      have hb5 : Below w4.heap.size w4 (w4.alloc (.cells #[.int .i64 1] 3)) := (Below.refl _ _).alloc (Nat.le_refl _) _
      have hB5 := Lib.hid (hB4.out.trans (hb5.mono hB4.out.size))
      have had := add_r _ (.slice (some ⟨w4.heap.size, 0, none⟩) 1 1) 0 1 0 1 (w4.alloc (.cells #[.int .i64 1] 3)) (hst.out.below hB5.out) (own_DAt hone) (by decide) (by decide) (by decide) (by decide)
      clear hone hb5
      go_wp2_with fail
      refine had.mono ?_
      rintro e w6 ⟨r, rfl, hr, hb6⟩
      replace hr := Lib.hid hr
      obtain ⟨A3, c3, e3, -⟩ := hr.out.at_
      subst e3
      go_wp2_with fail
      go_ret
      exact ⟨_, rfl, by rw [hR.out]; exact hr.out, by exact comp.out _ (hB5.out.trans (hb6.mono hB5.out.size))⟩
    | false =>
      rw [hup] at hR
      have hemp := own_empty w4
      have hb5 : Below w4.heap.size w4 (w4.alloc (.cells #[] 3)) := (Below.refl _ _).alloc (Nat.le_refl _) _
      have hB5 := Lib.hid (hB4.out.trans (hb5.mono hB4.out.size))
      have hnews := (hst.out.below hB5.out).news _ rfl
      have hone := ints_one (fixN 0 0)
      have hnl : (ints (fixN 0 0)).length = 0 * 1 := by rw [ints_len, fixN_len, Nat.mul_one]
      have hbs := hb5.size
      clear hb5
      go_wp2_with (at_builtin; refine wpList_append_own _ rfl _ _ 120 rfl w4.heap.size 3 i0 (.int .i64 0) 1 8 Tryz.underlying120 hi hz0 hz1 hz2 rfl (by decide) _ _ _ rfl hemp ⟨g, 0, none⟩ 0 c (ints (fixN 0 0)) rfl hnl hnews hone (by unfold maxLen; omega) (by omega) hbs ?_; intro v6 w6 hown6 hgrow6 hnil6)
      rw [List.nil_append, Nat.zero_add] at hown6
      have hB6 := Lib.hid (Below.grown hB5.out hgrow6 hB5.out.size (fun k hk => Nat.le_trans hB4.out.size (hemp.lt _ hk).1))
      have ht2 := trim_r v6 0 0 w6 (own_DAt hown6) (by decide) (by decide)
      clear hown6 hgrow6 hnil6 hnews hone hemp
      refine ht2.mono ?_
      rintro e w7 ⟨r, rfl, hr, rfl⟩
      replace hr := Lib.hid hr
      obtain ⟨A3, c3, e3, -⟩ := hr.out.at_
      subst e3
      go_wp2_with fail
      go_ret
      exact ⟨_, rfl, by rw [hR.out]; exact hr.out, comp.out _ hB6.out⟩
  | some ad =>
    have hnews := hd1.news ad rfl
    go_upto_region 3 with (at_builtin; go_loud (refine wpList_append_own _ rfl _ _ 120 rfl W.heap.size 3 i0 (.int .i64 0) 1 8 Tryz.underlying120 hi hz0 hz1 hz2 rfl (by decide) _ _ _ rfl hown ad k c0 (ints (fixN k D)) rfl hlen hnews hone0 (by unfold maxLen; omega) (by omega) hbs ?_); intro v1 w1 hown1 hgrow1 hnil1)
    rw [hkn, hlist.out] at hown1
    have hB1 := Lib.hid (Below.grown hb1.out hgrow1 hb1.out.size (fun j hj => (hown.lt _ hj).1))
    clear hgrow1 hnil1 hnews hown hmk hd1
    obtain ⟨g, c, rfl, hd, hnc⟩ := hfirst.out v1 w1 hown1 hB1.out
    have hof := Lib.hid hd
    have hst : Hid (DAt w1 (.slice (some ⟨g, 0, none⟩) 0 c) 0 0) := Lib.hid ⟨_, _, rfl, ⟨Nat.zero_le _, fun h => by cases h⟩, fun h => by omega⟩
    have comp : Hid (∀ w, Below w1.heap.size w1 w → Below W.heap.size W w) := Lib.hid (fun w h => hB1.out.trans (h.mono hB1.out.size))
    clear hown1 hd hfirst
    go_quiet (fail)
    obtain ⟨W2, hW2⟩ : ∃ W2, W2 = w1.drewN nq := ⟨_, rfl⟩
    rw [← hW2]
    have hB2 := Lib.hid (show Below w1.heap.size w1 W2 by rw [hW2]; exact below_drewN (Below.refl _ _) nq)
    clear hW2
    have hfive := own_digit W2 (show 5 < 10 by decide)
    have hb2 : Below W2.heap.size W2 (W2.alloc (.cells #[.int .i64 5] 3)) := (Below.refl _ _).alloc (Nat.le_refl _) _
    have hbs2 := hb2.size
    replace hb2 := Lib.hid hb2
    go_wp2_with (at_builtin; refine wpList_append_zeros rfl _ _ rfl W2.heap.size _ 1 _ rfl hfive (n - 1) rfl (by omega) (by omega) hbs2 ?_; intro v3 w3 hown3 hgrow3)
    rw [ints_zero, ← ints_app, fixN_app, show 1 + (n - 1) = n by omega] at hown3
    have hB23 := Below.grown hb2.out hgrow3 hb2.out.size (fun j hj => (hfive.lt _ hj).1)
    have hB3 := Lib.hid (hB2.out.trans (hB23.mono hB2.out.size))
    have hd3 := own_DAt hown3
    have hcm := cmp_r _ v3 n n D (5 * 10 ^ (n - 1)) w3 (hof.out.below hB3.out) hd3 hDn (by have := pow_half hn; have := Nat.pow_pos (n := n) (show 0 < 10 by decide); omega) (by omega) (by omega)
    rw [← hhalf.out] at hcm
    clear hown3 hgrow3 hB23 hd3 hfive hbs2
    refine hcm.mono ?_
    rintro e w4 ⟨rfl, hb4⟩
    have hB4 := Lib.hid (hB3.out.trans (hb4.mono hB3.out.size))
    clear hcm hb4
    have ht := trim_r _ n D w4 (hof.out.below hB4.out) hDn (by omega)
    have g5 : ((n : Int) > 0) := by omega
    go_wp2_with fail
    refine ht.mono ?_
    rintro e w ⟨v', rfl, hd', rfl⟩
    obtain ⟨A', c', rfl, -⟩ := hd'.at_
    clear ht hd'
    go_wp2_with fail
    refine (hUp.out 0 half nn _ hl10).mono ?_
    rintro e w ⟨rfl, rfl⟩
    cases hup : up 0 half nn with
    | true =>
      rw [hup] at hR
      have hone := own_digit w4 (show 1 < 10 by decide)
      have hb5 : Below w4.heap.size w4 (w4.alloc (.cells #[.int .i64 1] 3)) := (Below.refl _ _).alloc (Nat.le_refl _) _
      have hB5 := Lib.hid (hB4.out.trans (hb5.mono hB4.out.size))
      have had := add_r _ (.slice (some ⟨w4.heap.size, 0, none⟩) 1 1) 0 1 0 1 (w4.alloc (.cells #[.int .i64 1] 3)) (hst.out.below hB5.out) (own_DAt hone) (by decide) (by decide) (by decide) (by decide)
      clear hone hb5
      go_wp2_with fail
      refine had.mono ?_
      rintro e w6 ⟨r, rfl, hr, hb6⟩
      replace hr := Lib.hid hr
      obtain ⟨A3, c3, e3, -⟩ := hr.out.at_
      subst e3
      go_wp2_with fail
      go_ret
      exact ⟨_, rfl, by rw [hR.out]; exact hr.out, by exact comp.out _ (hB5.out.trans (hb6.mono hB5.out.size))⟩
    | false =>
      rw [hup] at hR
      have hemp := own_empty w4
      have hb5 : Below w4.heap.size w4 (w4.alloc (.cells #[] 3)) := (Below.refl _ _).alloc (Nat.le_refl _) _
      have hB5 := Lib.hid (hB4.out.trans (hb5.mono hB4.out.size))
      have hnews := (hst.out.below hB5.out).news _ rfl
      have hone := ints_one (fixN 0 0)
      have hnl : (ints (fixN 0 0)).length = 0 * 1 := by rw [ints_len, fixN_len, Nat.mul_one]
      have hbs := hb5.size
      clear hb5
      go_wp2_with (at_builtin; refine wpList_append_own _ rfl _ _ 120 rfl w4.heap.size 3 i0 (.int .i64 0) 1 8 Tryz.underlying120 hi hz0 hz1 hz2 rfl (by decide) _ _ _ rfl hemp ⟨g, 0, none⟩ 0 c (ints (fixN 0 0)) rfl hnl hnews hone (by unfold maxLen; omega) (by omega) hbs ?_; intro v6 w6 hown6 hgrow6 hnil6)
      rw [List.nil_append, Nat.zero_add] at hown6
      have hB6 := Lib.hid (Below.grown hB5.out hgrow6 hB5.out.size (fun k hk => Nat.le_trans hB4.out.size (hemp.lt _ hk).1))
      have ht2 := trim_r v6 0 0 w6 (own_DAt hown6) (by decide) (by decide)
      clear hown6 hgrow6 hnil6 hnews hone hemp
      refine ht2.mono ?_
      rintro e w7 ⟨r, rfl, hr, rfl⟩
      replace hr := Lib.hid hr
      obtain ⟨A3, c3, e3, -⟩ := hr.out.at_
      subst e3
      go_wp2_with fail
      go_ret
      exact ⟨_, rfl, by rw [hR.out]; exact hr.out, comp.out _ hB6.out⟩
theorem cutw_r (neg : Bool) (how : ByteArray) (way : NumP.Way) (up : Nat → Int → Bool → Bool) (hUp : UpOk neg how up) (hcut : CutOk neg way up) (v : Value) (k D n : Nat) (W : World) (h : DAt W v k D) (hD : D < 10 ^ k) (hn : 1 ≤ n) (hk : k ≤ 1000) (hn1 : n ≤ 1000) : Calls Tryz.prog 110 #[.bool neg, v, .int .i64 (n : Int), .string how] W (DgPost W (cutN way neg D (10 ^ n))) := by
  by_cases hnk : n ≤ k
  · exact cutw_low neg how way up hUp hcut v k D n W h hD hn hnk hk
  · exact cutw_high neg how way up hUp hcut v k D n W h hD hn (by omega) hn1
end Go.Proofs.YtgobpoeccdgeiaaGreatDoor
