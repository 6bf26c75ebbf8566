/- Package chiselref04: Cmp, and Round for the ways "cut", "floor", "even" (printed by genrnd7.py). -/
import Derived.Test.YtgobpoeccdgeiaaGreatDoorQm
import Derived.Test.YtgobpoeccdgeiaaGreatDoorR7c
namespace Go.Proofs.YtgobpoeccdgeiaaGreatDoor
open Go.RowKit NumP DigP DurP TimeP Go.Proofs.YtgobpoeccdgeiaaGreatDoorW.PrintWords
set_option linter.unusedVariables false

def cmpR (r1 r2 : NumP.R) : Int × Int := match r1 with
  | .error _ => (0, 1)
  | .ok x => match r2 with
    | .error _ => (0, 1)
    | .ok y => (sgnI (toI x - toI y), 0)
theorem cmpR_no1 (r2 : NumP.R) {r1 : NumP.R} (h : ∃ k, r1 = .error k) : cmpR r1 r2 = (0, 1) := by obtain ⟨k, rfl⟩ := h; rfl
theorem cmpR_no2 (r1 : NumP.R) {r2 : NumP.R} (h : ∃ k, r2 = .error k) : cmpR r1 r2 = (0, 1) := by obtain ⟨k, rfl⟩ := h; cases r1 <;> rfl
theorem cmp_sgn (n m : Nat) : cmpN n m = sgnI ((n : Int) - (m : Int)) := by
  unfold cmpN sgnI
  rcases Nat.lt_trichotomy n m with h | h | h
  · rw [if_pos h, if_pos (show (n : Int) - (m : Int) < 0 by omega)]
  · rw [if_neg (show ¬ n < m by omega), if_pos h, if_neg (show ¬ (n : Int) - (m : Int) < 0 by omega), if_pos (show (n : Int) - (m : Int) = 0 by omega)]
  · rw [if_neg (show ¬ n < m by omega), if_neg (show ¬ n = m by omega), if_neg (show ¬ (n : Int) - (m : Int) < 0 by omega), if_neg (show ¬ (n : Int) - (m : Int) = 0 by omega)]
set_option maxHeartbeats 4000000 in
set_option maxRecDepth 100000 in
theorem Cmp_r (s t : ByteArray) (W : World) (hs : s.size ≤ maxLen) (ht : t.size ≤ maxLen) : Calls Tryz.prog 113 #[.string s, .string t] W fun e w' => e = .returned (.tuple #[.int .i64 (cmpR (canonN s.data.toList) (canonN t.data.toList)).1, .int .i64 (cmpR (canonN s.data.toList) (canonN t.data.toList)).2]) ∧ Below W.heap.size W w' := by
  have htw := two_r s t W hs ht
  have hg1 : ∀ x, canonN s.data.toList = .ok x → NumP.Good x := fun x h => (canonN_good h).1
  have hg2 : ∀ x, canonN t.data.toList = .ok x → NumP.Good x := fun x h => (canonN_good h).1
  obtain ⟨R1, hR1⟩ : ∃ R, R = canonN s.data.toList := ⟨_, rfl⟩
  obtain ⟨R2, hR2⟩ : ∃ R, R = canonN t.data.toList := ⟨_, rfl⟩
  rw [← hR1] at htw hg1 ⊢
  rw [← hR2] at htw hg2 ⊢
  clear hR1 hR2
  obtain ⟨⟨rn, rk⟩, hR⟩ : ∃ R, R = cmpR R1 R2 := ⟨_, rfl⟩
  rw [← hR]
  replace hR := Lib.hid hR
  replace hg1 := Lib.hid hg1
  replace hg2 := Lib.hid hg2
  go_enter Tryz.func113, Tryz.ntmps113
  go_wp2_with fail
  refine htw.mono ?_
  rintro e w ⟨hb, b, A, k, c, b2, A2, k2, c2, ok, ok2, rfl, h1, h2⟩
  clear htw
  replace hb := Lib.hid hb
  cases ok with
  | false =>
    have hR2 : Hid ((rn, rk) = ((0, 1) : Int × Int)) := Lib.hid (by rw [hR.out, cmpR_no1 _ (h1.no rfl)])
    obtain ⟨W2, hW2, hb2, -⟩ := box_two4 w b b2 (.slice A k c) (.slice A2 k2 c2)
    clear h1 h2
    go_wp2_with fail
    rw [← hW2]
    go_ret2
    exact ⟨by have := hR2.out; injection this with a1 a2; rw [a1, a2]; rfl, hb.out.trans (hb2.mono hb.out.size)⟩
  | true =>
  cases ok2 with
  | false =>
    have hR2 : Hid ((rn, rk) = ((0, 1) : Int × Int)) := Lib.hid (by rw [hR.out, cmpR_no2 _ (h2.no rfl)])
    obtain ⟨W2, hW2, hb2, -⟩ := box_two4 w b b2 (.slice A k c) (.slice A2 k2 c2)
    clear h1 h2
    go_wp2_with fail
    rw [← hW2]
    go_ret2
    exact ⟨by have := hR2.out; injection this with a1 a2; rw [a1, a2]; rfl, hb.out.trans (hb2.mono hb.out.size)⟩
  | true =>
  obtain ⟨d, rfl, hk, hd, h50⟩ := h1.yes rfl
  obtain ⟨d2, rfl, hk2, hd2, h502⟩ := h2.yes rfl
  clear h1 h2
  rw [← hk] at hd h50
  rw [← hk2] at hd2 h502
  obtain ⟨W2, hW2, hb2, hq, hp⟩ := box_two4 w b b2 (.slice A k c) (.slice A2 k2 c2)
  obtain ⟨q, hqe⟩ : ∃ q, q = w.heap.size := ⟨_, rfl⟩
  rw [← hqe] at hq hp
  obtain ⟨b0, b1, e0, e1⟩ := cells_of hq hp
  have hR3 : (rn, rk) = (sgnI (toI ⟨b, d⟩ - toI ⟨b2, d2⟩), (0 : Int)) := hR.out
  have z1 := (hg1.out _ rfl)
  have z2 := (hg2.out _ rfl)
  have hsd := hd.below hb2
  have hsd2 := hd2.below hb2
  have hB2 := Lib.hid (hb.out.trans (hb2.mono hb.out.size))
  replace hd := Lib.hid hd
  replace hd2 := Lib.hid hd2
  replace hq := Lib.hid hq
  replace hp := Lib.hid hp
  replace hk := Lib.hid hk
  replace hk2 := Lib.hid hk2
  cases b with
  | true =>
    cases b2 with
    | true =>
      have hcm := cmp_r _ _ k2 k d2 d W2 hsd2 hsd (by rw [hk2.out]; exact lenD_self _) (by rw [hk.out]; exact lenD_self _) (by omega) (by omega)
      have hV : Hid (rn = cmpN d2 d ∧ rk = 0) := Lib.hid (by
        injection hR3 with a1 a2
        refine ⟨?_, a2⟩
        rw [a1, cmp_sgn]; unfold toI; congr 1; simp; omega)
      clear hR3 z1 z2 hsd hsd2 hb2
      go_wp2_with fail
      rw [← hW2]
      clear hW2 hqe b0 b1 e0 e1
      refine hcm.mono ?_
      rintro e w4 ⟨rfl, hb4⟩
      go_wp2_with fail
      go_ret2
      exact ⟨by rw [hV.out.1, hV.out.2]; rfl, hB2.out.trans (hb4.mono hB2.out.size)⟩
    | false =>
      have hV : Hid (rn = -1 ∧ rk = 0) := Lib.hid (by
        injection hR3 with a1 a2
        refine ⟨?_, a2⟩
        have z3 : 0 < d := z1.2 rfl
        rw [a1]; unfold toI sgnI; simp; omega)
      clear hR3 z1 z2 hsd hsd2
      go_wp2_with fail
      rw [← hW2]
      go_ret2
      exact ⟨by rw [hV.out.1, hV.out.2]; rfl, hB2.out⟩
  | false =>
    cases b2 with
    | true =>
      have hV : Hid (rn = 1 ∧ rk = 0) := Lib.hid (by
        injection hR3 with a1 a2
        refine ⟨?_, a2⟩
        have z3 : 0 < d2 := z2.2 rfl
        rw [a1]; unfold toI sgnI
        simp only [Bool.false_eq_true, if_false, if_true]
        rw [if_neg (by omega), if_neg (by omega)])
      clear hR3 z1 z2 hsd hsd2
      go_wp2_with fail
      rw [← hW2]
      go_ret2
      exact ⟨by rw [hV.out.1, hV.out.2]; rfl, hB2.out⟩
    | false =>
      have hcm := cmp_r _ _ k k2 d d2 W2 hsd hsd2 (by rw [hk.out]; exact lenD_self _) (by rw [hk2.out]; exact lenD_self _) (by omega) (by omega)
      have hV : Hid (rn = cmpN d d2 ∧ rk = 0) := Lib.hid (by
        injection hR3 with a1 a2
        refine ⟨?_, a2⟩
        rw [a1, cmp_sgn]; rfl)
      clear hR3 z1 z2 hsd hsd2 hb2
      go_wp2_with fail
      rw [← hW2]
      clear hW2 hqe b0 b1 e0 e1
      refine hcm.mono ?_
      rintro e w4 ⟨rfl, hb4⟩
      go_wp2_with fail
      go_ret2
      exact ⟨by rw [hV.out.1, hV.out.2]; rfl, hB2.out.trans (hb4.mono hB2.out.size)⟩
def rndR (w : NumP.Way) (n : Nat) (r : NumP.R) : NumP.R := match r with
  | .error e => .error e
  | .ok x => checkedN ⟨x.neg, cutN w x.neg x.d (10 ^ n) * 10 ^ n⟩
theorem rnd_out7 {V : World} {q : Nat} {a b : Value} {w : World} (e : w.cell? ⟨q, 0, none⟩ = some a ∧ w.cell? ⟨q, 1, none⟩ = some b ∧ Hid (Below V.heap.size V w)) : Below V.heap.size V w := e.2.2.out
theorem cutN_small (w : NumP.Way) (neg : Bool) (d n : Nat) : cutN w neg d (10 ^ n) ≤ d + 1 := by
  unfold cutN
  have h1 : d / 10 ^ n ≤ d := Nat.div_le_self _ _
  have h2 : ∀ b : Bool, b.toNat ≤ 1 := fun b => by cases b <;> decide
  have := h2 (w.up neg (d / 10 ^ n) (d % 10 ^ n) (10 ^ n))
  omega
set_option maxHeartbeats 4000000 in
set_option maxRecDepth 100000 in
theorem RRound_cut (s : ByteArray) (dg : Int) (W : World) (hs : s.size ≤ maxLen) (h1 : -30 ≤ dg) (h2 : dg ≤ 19) : Calls Tryz.prog 64 #[.string s, .int .i64 dg, .string ⟨#[99, 117, 116]⟩] W (OutE W (roundT s.data.toList dg [99, 117, 116])) := by
  have hca := can_of s W hs
  obtain ⟨n, hn⟩ : ∃ n : Nat, (20 : Int) - dg = (n : Int) := ⟨(20 - dg).toNat, by omega⟩
  have hn1 : 1 ≤ n := by omega
  have hn2 : n ≤ 50 := by omega
  obtain ⟨R, hR⟩ : ∃ R, R = roundT s.data.toList dg [99, 117, 116] := ⟨_, rfl⟩
  rw [← hR]
  obtain ⟨C1, hC1⟩ : ∃ R, R = canonN s.data.toList := ⟨_, rfl⟩
  replace hR : R = outN (rndR .cut n C1) := by
    rw [hR, hC1]; unfold roundT rndR
    congr 1
    cases canonN s.data.toList with
    | error e => rfl
    | ok x =>
      simp only
      rw [if_neg (by omega), show (20 - dg).toNat = n by omega]; rfl
  have hno : (∃ k, C1 = .error k) → C1 = .error 1 := fun h => by
    rw [hC1] at h ⊢
    unfold canonN at h ⊢
    split
    · split
      · rename_i x hx htx
        rw [hx] at h
        simp only [htx, if_true] at h
        obtain ⟨k, h⟩ := h
        cases h
      · rfl
    · rfl
  rw [← hC1] at hca
  clear hC1
  replace hR := Lib.hid hR
  replace hno := Lib.hid hno
  go_enter Tryz.func64, Tryz.ntmps64
  go_wp2_with fail
  refine hca.mono ?_
  rintro e w ⟨hb, b, A, k, c, ok, rfl, h3⟩
  clear hca
  replace hb := Lib.hid hb
  obtain ⟨W2, hW2⟩ : ∃ w', w' = w.alloc (.cells #[.bool b, .slice A k c] 122) := ⟨_, rfl⟩
  have hb2 : Below w.heap.size w W2 := by rw [hW2]; exact (Below.refl _ _).alloc (Nat.le_refl _) _
  obtain ⟨q, hqe⟩ : ∃ q, q = w.heap.size := ⟨_, rfl⟩
  have hq : W2.heap[q]? = some (.cells #[.bool b, .slice A k c] 122 (0, 0)) := by rw [hW2, hqe]; exact (MapKept.heap_alloc _ _).1
  have hB2 := Lib.hid (hb.out.trans (hb2.mono hb.out.size))
  cases ok with
  | false =>
    have hR2 : Hid (R = ([], 1)) := Lib.hid (by rw [hR.out, hno.out (h3.no rfl)]; rfl)
    replace hq := Lib.hid hq
    clear h3 hqe
    go_wp2_with fail
    rw [← hW2]
    go_ret2
    exact ⟨by rw [hR2.out]; rfl, hB2.out⟩
  | true =>
  obtain ⟨d, hC, hk, hd, h50⟩ := h3.yes rfl
  clear h3
  rw [← hk] at hd h50
  have hd2 := hd.below hb2
  have hR2 : R = outN (checkedN ⟨b, cutN .cut b d (10 ^ n) * 10 ^ n⟩) := by rw [hR.out, hC]; rfl
  have hct := (cutw_r b ⟨#[99, 117, 116]⟩ .cut _ (cut_up b) (cut_cut b) (.slice A k c) k d n W2 hd2 (by rw [hk]; exact lenD_self _) hn1 (by omega) (by omega)).mono (fun _ _ h => DgPost.sl h)
  have hsm := cutN_small .cut b d n
  obtain ⟨C, hCe⟩ : ∃ C, C = cutN .cut b d (10 ^ n) := ⟨_, rfl⟩
  rw [← hCe] at hct hR2 hsm
  have hCl : lenD C ≤ 51 := by
    have h7 : d < 10 ^ 50 := (lenD_le d 50).1 (by rw [← hk]; exact h50)
    exact (lenD_le C 51).2 (Nat.lt_of_le_of_lt hsm (Nat.lt_of_le_of_lt h7 (by decide)))
  obtain ⟨KC, hKC⟩ : ∃ K, K = lenD C := ⟨_, rfl⟩
  rw [← hKC] at hct hCl
  obtain ⟨D, hD⟩ : ∃ D, D = C * 10 ^ n := ⟨_, rfl⟩
  rw [← hD] at hR2
  have cz : ∀ (A : Option Addr) (c : Nat) w, DAt w (.slice A KC c) KC C → Calls Tryz.prog 112 #[.slice A KC c, .int .i64 (n : Int)] w (SlPost w (KC + n) D) := fun A c w h => by
    have := zeros_s _ KC C n w h (by omega) (by omega)
    rw [← hD] at this
    exact this
  have hDK : D < 10 ^ (KC + n) := by rw [hD, Nat.pow_add]; exact Nat.mul_lt_mul_of_pos_right (by rw [hKC]; exact lenD_self _) (Nat.pow_pos (by decide))
  have cr : ∀ v w, DAt w v (KC + n) D → Calls Tryz.prog 111 #[.bool b, v] w (OutE w (outN (checkedN ⟨b, D⟩))) := fun v w h => result_r b v _ D w h hDK (by omega)
  obtain ⟨res, hres⟩ : ∃ r, r = outN (checkedN ⟨b, D⟩) := ⟨_, rfl⟩
  rw [← hres] at cr hR2
  replace hR2 := Lib.hid hR2
  obtain ⟨⟨b0, b1⟩, -⟩ := cells2 hq
  have hlt : Hid (q < W2.heap.size) := Lib.hid (heap_lt hq)
  have g1 : ¬ (dg < -30) := by omega
  have gw : IntKind.i64.wrap (20 - dg) = (n : Int) := by rw [hn]; exact IntWalk.i64_in _ (by omega)
  have gw2 : IntKind.i64.wrap (n : Int) = (n : Int) := IntWalk.i64_in _ (by omega)
  have g2 : ¬ (dg > 20) := by omega
  replace hk := Lib.hid hk
  replace hC := Lib.hid hC
  replace hCe := Lib.hid hCe
  replace hKC := Lib.hid hKC
  replace hD := Lib.hid hD
  replace hDK := Lib.hid hDK
  replace hres := Lib.hid hres
  replace hd := Lib.hid hd
  replace cz := Lib.hid cz
  replace cr := Lib.hid cr
  replace hq := Lib.hid hq
  clear hCl hsm hd2
  go_wp2_with fail
  rw [← hW2, ← hqe]
  replace hqe := Lib.hid hqe
  replace hW2 := Lib.hid hW2
  refine hct.mono ?_
  rintro e w3 ⟨A3, c3, rfl, hv3, hb3⟩
  clear hct
  have hS2 := two_later hlt (And.intro b0 (And.intro b1 (Lib.hid (Below.refl _ _)))) hb3
  obtain ⟨f0, f1, -⟩ := hS2
  have hlt3 : Hid (q < w3.heap.size) := Lib.hid (Nat.lt_of_lt_of_le hlt.out hb3.size)
  have hb03 := Lib.hid (hB2.out.trans (hb3.mono hB2.out.size))
  clear hb3 b0 b1 hb2
  have hv3' := Lib.hid hv3
  have hS : Hid (w3.drew.cell? ⟨q, 0, none⟩ = some (.bool b) ∧ w3.drew.cell? ⟨q, 1, none⟩ = some (.slice A k c) ∧ Hid (Below w3.heap.size w3 w3.drew)) := Lib.hid ⟨f0, f1, Lib.hid (Below.refl _ _).drew⟩
  clear hv3 f0 f1
  go_wp2_with fail
  go_region_held3 (fun w' => w'.cell? ⟨q, 0, none⟩ = some (.bool b) ∧ w'.cell? ⟨q, 1, none⟩ = some (.slice A k c) ∧ Hid (Below w3.heap.size w3 w'))
    (first | exact hS.out | assumption | exact two_later hlt3 (by assumption) (by assumption))
    (first
      | (go_at_call 112; refine (cz.out _ _ _ (hv3'.out.below (rnd_out7 (by assumption)))).mono ?_; rintro e w' ⟨A6, c6, rfl, hv6, hbb⟩)
      | (go_at_call 111; refine (cr.out _ _ (by assumption)).mono ?_; rintro e w' ⟨rfl, hbb⟩))
  rename_i hH
  have hbb := Lib.hid hH.2.2.out
  go_wp2_with fail
  go_ret2
  exact ⟨by rw [hR2.out]; rfl, hb03.out.trans (hbb.out.mono hb03.out.size)⟩
end Go.Proofs.YtgobpoeccdgeiaaGreatDoor
