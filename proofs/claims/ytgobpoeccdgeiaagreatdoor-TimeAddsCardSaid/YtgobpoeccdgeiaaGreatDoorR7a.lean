/- Package chiselref07: Leap, Days, Number, kinds, decimal, integer. -/
import Derived.Test.YtgobpoeccdgeiaaGreatDoorOe
import Derived.Test.YtgobpoeccdgeiaaGreatDoorQb
namespace Go.Proofs.YtgobpoeccdgeiaaGreatDoor
open Go.RowKit NumP DurP TimeP Go.Proofs.YtgobpoeccdgeiaaGreatDoorW.PrintWords
set_option linter.unusedVariables false

set_option maxRecDepth 100000 in
set_option maxHeartbeats 2000000 in
theorem Leap_r (y : Nat) (W : World) : Calls Tryz.prog 97 #[.int .i64 (y : Int)] W fun e w' => e = .returned (.bool (leapN y)) ∧ W = w' := by
  by_cases c4 : y % 4 = 0
  · have g1 : ((y : Int) % 4 == 0) = true := by simp; omega
    by_cases c1 : y % 100 = 0
    · have g2 : ((y : Int) % 100 != 0) = false := by simp; omega
      by_cases c0 : y % 400 = 0
      · have g3 : ((y : Int) % 400 == 0) = true := by simp; omega
        have hl : Hid (leapN y = true) := Lib.hid (by unfold leapN; simp [c4, c1, c0])
        clear c4 c1 c0
        go_enter Tryz.func97, Tryz.ntmps97
        go_wp2_with fail
        go_ret
        exact ⟨by rw [hl.out]; rfl, rfl⟩
      · have g3 : ((y : Int) % 400 == 0) = false := by simp; omega
        have hl : Hid (leapN y = false) := Lib.hid (by unfold leapN; simp [c1, c0])
        clear c4 c1 c0
        go_enter Tryz.func97, Tryz.ntmps97
        go_wp2_with fail
        go_ret
        exact ⟨by rw [hl.out]; rfl, rfl⟩
    · have g2 : ((y : Int) % 100 != 0) = true := by simp; omega
      have hl : Hid (leapN y = true) := Lib.hid (by unfold leapN; simp [c4, c1])
      clear c4 c1
      go_enter Tryz.func97, Tryz.ntmps97
      go_wp2_with fail
      go_ret
      exact ⟨by rw [hl.out]; rfl, rfl⟩
  · have g1 : ((y : Int) % 4 == 0) = false := by simp; omega
    have g3 : ((y : Int) % 400 == 0) = false := by simp; omega
    have hl : Hid (leapN y = false) := Lib.hid (by unfold leapN; simp [c4]; omega)
    clear c4
    go_enter Tryz.func97, Tryz.ntmps97
    go_wp2_with fail
    go_ret
    exact ⟨by rw [hl.out]; rfl, rfl⟩
set_option maxRecDepth 100000 in
set_option maxHeartbeats 2000000 in
theorem Days_r (y m : Nat) (W : World) : Calls Tryz.prog 60 #[.int .i64 (y : Int), .int .i64 (m : Int)] W fun e w' => e = .returned (.int .i64 (lenM y m : Nat)) ∧ W = w' := by
  obtain ⟨L, hL⟩ : ∃ L, L = lenM y m := ⟨_, rfl⟩
  rw [← hL]
  unfold lenM at hL
  have hle := fun W => Leap_r y W
  obtain ⟨lp, hlp⟩ : ∃ b, b = leapN y := ⟨_, rfl⟩
  rw [← hlp] at hL hle
  replace hlp := Lib.hid hlp
  replace hle := Lib.hid hle
  by_cases h2 : m = 2
  · have g2 : ((m : Int) == 2) = true := by simp; omega
    rw [if_pos h2] at hL
    cases lp with
    | true =>
      replace hL : Hid (L = 29) := Lib.hid (by simpa using hL)
      replace h2 := Lib.hid h2
      go_enter Tryz.func60, Tryz.ntmps60
      go_wp2_with fail
      refine (hle.out _).mono ?_
      rintro e w ⟨rfl, rfl⟩
      go_wp2_with fail
      go_ret
      exact ⟨by rw [hL.out]; rfl, rfl⟩
    | false =>
      replace hL : Hid (L = 28) := Lib.hid (by simpa using hL)
      replace h2 := Lib.hid h2
      go_enter Tryz.func60, Tryz.ntmps60
      go_wp2_with fail
      refine (hle.out _).mono ?_
      rintro e w ⟨rfl, rfl⟩
      go_wp2_with fail
      go_ret
      exact ⟨by rw [hL.out]; rfl, rfl⟩
  · have g2 : ((m : Int) == 2) = false := by simp; omega
    rw [if_neg h2] at hL
    by_cases h4 : m = 4
    · have g4 : ((m : Int) == 4) = true := by simp; omega
      replace hL : Hid (L = 30) := Lib.hid (by rw [hL, if_pos (Or.inl h4)])
      replace h2 := Lib.hid h2
      replace h4 := Lib.hid h4
      go_enter Tryz.func60, Tryz.ntmps60
      go_wp2_with fail
      go_ret
      exact ⟨by rw [hL.out]; rfl, rfl⟩
    · have g4 : ((m : Int) == 4) = false := by simp; omega
      by_cases h6 : m = 6
      · have g6 : ((m : Int) == 6) = true := by simp; omega
        replace hL : Hid (L = 30) := Lib.hid (by rw [hL, if_pos (Or.inr (Or.inl h6))])
        replace h2 := Lib.hid h2
        replace h4 := Lib.hid h4
        replace h6 := Lib.hid h6
        go_enter Tryz.func60, Tryz.ntmps60
        go_wp2_with fail
        go_ret
        exact ⟨by rw [hL.out]; rfl, rfl⟩
      · have g6 : ((m : Int) == 6) = false := by simp; omega
        by_cases h9 : m = 9
        · have g9 : ((m : Int) == 9) = true := by simp; omega
          replace hL : Hid (L = 30) := Lib.hid (by rw [hL, if_pos (Or.inr (Or.inr (Or.inl h9)))])
          replace h2 := Lib.hid h2
          replace h4 := Lib.hid h4
          replace h6 := Lib.hid h6
          replace h9 := Lib.hid h9
          go_enter Tryz.func60, Tryz.ntmps60
          go_wp2_with fail
          go_ret
          exact ⟨by rw [hL.out]; rfl, rfl⟩
        · have g9 : ((m : Int) == 9) = false := by simp; omega
          by_cases h11 : m = 11
          · have g11 : ((m : Int) == 11) = true := by simp; omega
            replace hL : Hid (L = 30) := Lib.hid (by rw [hL, if_pos (Or.inr (Or.inr (Or.inr h11)))])
            replace h2 := Lib.hid h2
            replace h4 := Lib.hid h4
            replace h6 := Lib.hid h6
            replace h9 := Lib.hid h9
            replace h11 := Lib.hid h11
            go_enter Tryz.func60, Tryz.ntmps60
            go_wp2_with fail
            go_ret
            exact ⟨by rw [hL.out]; rfl, rfl⟩
          · have g11 : ((m : Int) == 11) = false := by simp; omega
            replace hL : Hid (L = 31) := Lib.hid (by rw [hL, if_neg (by omega)])
            replace h2 := Lib.hid h2
            replace h4 := Lib.hid h4
            replace h6 := Lib.hid h6
            replace h9 := Lib.hid h9
            replace h11 := Lib.hid h11
            go_enter Tryz.func60, Tryz.ntmps60
            go_wp2_with fail
            go_ret
            exact ⟨by rw [hL.out]; rfl, rfl⟩
theorem yearS_le {y : Nat} (h : y ≤ 10000) : yearS y ≤ 3652059 := by unfold yearS; omega
theorem monS_le (y : Nat) : ∀ m, monS y m ≤ 31 * m
  | 0 => by simp [monS]
  | k + 1 => by
    rw [monS]
    split
    · omega
    · have := monS_le y k; have := (lenM_pos y k).2; omega
set_option maxRecDepth 100000 in
set_option maxHeartbeats 4000000 in
theorem Number_r (y m d : Nat) (W : World) (hy1 : 1 ≤ y) (hy2 : y ≤ 10000) (hm1 : 1 ≤ m) (hm2 : m ≤ 12) (hd1 : 1 ≤ d) (hd2 : d ≤ 31) : Calls Tryz.prog 55 #[.int .i64 (y : Int), .int .i64 (m : Int), .int .i64 (d : Int)] W fun e w' => e = .returned (.int .i64 (dayN y m d : Nat)) ∧ W = w' := by
  have hV : Hid (((dayN y m d : Nat) : Int) = ((yearS y : Nat) : Int) + ((monS y m : Nat) : Int) + (d : Int) - 1) := Lib.hid (by unfold dayN; omega)
  obtain ⟨q, hq⟩ : ∃ q, q = (y - 1) / 400 := ⟨_, rfl⟩
  have q1 : ((y : Int) - 1) / 400 = (q : Int) := by omega
  have q2 : q ≤ 24 := by omega
  have q3 : Hid (1 + q * 400 ≤ y) := Lib.hid (by omega)
  have q4 : Hid (((yearS (1 + q * 400) : Nat) : Int) = (q : Int) * 146097) := Lib.hid (by rw [yearS_400]; omega)
  replace hq := Lib.hid hq
  have hle := Lib.hid (fun (k : Nat) W => Leap_r k W)
  have hda := Lib.hid (fun (k : Nat) W => Days_r y k W)
  go_enter Tryz.func55, Tryz.ntmps55
  go_wp2_with fail
  replace q1 := Lib.hid q1
  go_loopw [7, 8] (fun nv kv wr => ∃ (k : Nat) (s : Int), kv = .int .i64 (k : Int) ∧ 1 ≤ k ∧ k ≤ y ∧ nv = .int .i64 s ∧ 0 ≤ s ∧ s ≤ 3652059 ∧ Hid (s = ((yearS k : Nat) : Int)) ∧ W = wr) (fun _ kv _ => y - (intOf kv).toNat)
  case atStart => exact ⟨1 + q * 400, (q : Int) * 146097, by rw [show ((1 + q * 400 : Nat) : Int) = (q : Int) * 400 + 1 by omega], by omega, q3.out, rfl, by omega, by omega, Lib.hid q4.out.symm, rfl⟩
  case round =>
    obtain ⟨k, s, rfl, hk1, hk2, rfl, hs1, hs2, hs, hw⟩ := hrel
    subst hw
    by_cases hlt : k < y
    · have gk : (k : Int) < (y : Int) := by omega
      have hst := yearS_step hk1
      have hsm := yearS_le (y := k + 1) (by omega)
      have hl := leapI_le k
      obtain ⟨b, hb⟩ : ∃ b, b = leapN k := ⟨_, rfl⟩
      have hlc := hle.out k W
      rw [← hb] at hlc
      unfold leapI at hst hl
      rw [← hb] at hst hl
      have hk3 : k ≤ 10000 := by omega
      replace hb := Lib.hid hb
      cases b with
      | true =>
        rw [if_pos rfl] at hst hl
        have hs3 : Hid (s + 365 + 1 = ((yearS (k + 1) : Nat) : Int)) := Lib.hid (by rw [hst, hs.out]; push_cast; omega)
        have hs4 : s + 365 + 1 ≤ 3652059 := by have := hs3.out; omega
        clear hst hl hsm
        go_wp2_with fail
        refine hlc.mono ?_
        rintro e w ⟨rfl, rfl⟩
        go_wp2_with fail
        go_roundw
        case rel => exact ⟨k + 1, _, by go_num, by omega, by omega, rfl, by omega, hs4, hs3, trivial⟩
        case measure => simp [intOf]; omega
      | false =>
        rw [if_neg (by decide)] at hst hl
        have hs3 : Hid (s + 365 = ((yearS (k + 1) : Nat) : Int)) := Lib.hid (by rw [hst, hs.out]; push_cast; omega)
        have hs4 : s + 365 ≤ 3652059 := by have := hs3.out; omega
        clear hst hl hsm
        go_wp2_with fail
        refine hlc.mono ?_
        rintro e w ⟨rfl, rfl⟩
        go_wp2_with fail
        go_roundw
        case rel => exact ⟨k + 1, _, by go_num, by omega, by omega, rfl, by omega, hs4, hs3, trivial⟩
        case measure => simp [intOf]; omega
    · obtain rfl : k = y := by omega
      have hs0 : Hid (s = ((yearS k : Nat) : Int) + ((monS k 1 : Nat) : Int)) := Lib.hid (by rw [hs.out, monS_one]; simp)
      have hyl := yearS_le hy2
      clear q2
      go_wp2_with fail
      go_loopw [7, 9] (fun nv jv wr => ∃ (j : Nat) (t : Int), jv = .int .i64 (j : Int) ∧ 1 ≤ j ∧ j ≤ m ∧ nv = .int .i64 t ∧ 0 ≤ t ∧ t ≤ 3700000 ∧ Hid (t = ((yearS k : Nat) : Int) + ((monS k j : Nat) : Int)) ∧ W = wr) (fun _ jv _ => m - (intOf jv).toNat)
      case atStart => exact ⟨1, s, rfl, by omega, hm1, rfl, hs1, by omega, hs0, rfl⟩
      case round =>
        obtain ⟨j, t, rfl, hj1, hj2, rfl, ht1, ht2, ht, hw⟩ := hrel
        subst hw
        by_cases hjm : j < m
        · have gj : (j : Int) < (m : Int) := by omega
          have hst := monS_step k hj1
          have hlm := (lenM_pos k j).2
          have hml := monS_le k (j + 1)
          have hdc := hda.out j W
          obtain ⟨L, hL⟩ : ∃ L, L = lenM k j := ⟨_, rfl⟩
          rw [← hL] at hdc hst hlm
          have ht3 : Hid (t + (L : Int) = ((yearS k : Nat) : Int) + ((monS k (j + 1) : Nat) : Int)) := Lib.hid (by rw [hst, ht.out]; push_cast; omega)
          have ht4 : t + (L : Int) ≤ 3700000 := by have := ht3.out; omega
          replace hL := Lib.hid hL
          clear hst hml
          go_wp2_with fail
          refine hdc.mono ?_
          rintro e w ⟨rfl, rfl⟩
          go_wp2_with fail
          go_roundw
          case rel => exact ⟨j + 1, _, by go_num, by omega, by omega, rfl, by omega, ht4, ht3, trivial⟩
          case measure => simp [intOf]; omega
        · obtain rfl : j = m := by omega
          go_wp2_with fail
          go_ret
          exact ⟨by rw [hV.out, ← ht.out]; rfl, rfl⟩
end Go.Proofs.YtgobpoeccdgeiaaGreatDoor
