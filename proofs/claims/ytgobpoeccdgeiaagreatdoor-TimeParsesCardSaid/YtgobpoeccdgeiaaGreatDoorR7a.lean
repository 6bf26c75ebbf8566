/- Package chiselref07: Leap, Days, Number, kinds, decimal, integer. -/
import Derived.Test.YtgobpoeccdgeiaaGreatDoorOe
namespace Go.Proofs.YtgobpoeccdgeiaaGreatDoor
open Go.RowKit NumP DurP TimeP Go.Proofs.YtgobpoeccdgeiaaGreatDoorW.PrintWords
set_option linter.unusedVariables false

set_option maxRecDepth 100000 in
set_option maxHeartbeats 2000000 in
theorem Leap_r (y : Nat) (W : World) : Calls Tryz.prog 97 #[.int .i64 (y : Int)] W fun e w' => e = .returned (.bool (leapN y)) ∧ W = w' := by
  by_cases c4 : y % 4 = 0
  · have g1 : ((y : Int) % 4 == 0) = true := by simp; omega
    by_cases c1 : y % 100 = 0
    · have g2 : ((y : Int) % 100 != 0) = false := by simp; omega
      by_cases c0 : y % 400 = 0
      · have g3 : ((y : Int) % 400 == 0) = true := by simp; omega
        have hl : Hid (leapN y = true) := Lib.hid (by unfold leapN; simp [c4, c1, c0])
        clear c4 c1 c0
        go_enter Tryz.func97, Tryz.ntmps97
        go_wp2_with fail
        go_ret
        exact ⟨by rw [hl.out]; rfl, rfl⟩
      · have g3 : ((y : Int) % 400 == 0) = false := by simp; omega
        have hl : Hid (leapN y = false) := Lib.hid (by unfold leapN; simp [c1, c0])
        clear c4 c1 c0
        go_enter Tryz.func97, Tryz.ntmps97
        go_wp2_with fail
        go_ret
        exact ⟨by rw [hl.out]; rfl, rfl⟩
    · have g2 : ((y : Int) % 100 != 0) = true := by simp; omega
      have hl : Hid (leapN y = true) := Lib.hid (by unfold leapN; simp [c4, c1])
      clear c4 c1
      go_enter Tryz.func97, Tryz.ntmps97
      go_wp2_with fail
      go_ret
      exact ⟨by rw [hl.out]; rfl, rfl⟩
  · have g1 : ((y : Int) % 4 == 0) = false := by simp; omega
    have g3 : ((y : Int) % 400 == 0) = false := by simp; omega
    have hl : Hid (leapN y = false) := Lib.hid (by unfold leapN; simp [c4]; omega)
    clear c4
    go_enter Tryz.func97, Tryz.ntmps97
    go_wp2_with fail
    go_ret
    exact ⟨by rw [hl.out]; rfl, rfl⟩
set_option maxRecDepth 100000 in
set_option maxHeartbeats 2000000 in
theorem Days_r (y m : Nat) (W : World) : Calls Tryz.prog 60 #[.int .i64 (y : Int), .int .i64 (m : Int)] W fun e w' => e = .returned (.int .i64 (lenM y m : Nat)) ∧ W = w' := by
  obtain ⟨L, hL⟩ : ∃ L, L = lenM y m := ⟨_, rfl⟩
  rw [← hL]
  unfold lenM at hL
  have hle := fun W => Leap_r y W
  obtain ⟨lp, hlp⟩ : ∃ b, b = leapN y := ⟨_, rfl⟩
  rw [← hlp] at hL hle
  replace hlp := Lib.hid hlp
  replace hle := Lib.hid hle
  by_cases h2 : m = 2
  · have g2 : ((m : Int) == 2) = true := by simp; omega
    rw [if_pos h2] at hL
    cases lp with
    | true =>
      replace hL : Hid (L = 29) := Lib.hid (by simpa using hL)
      replace h2 := Lib.hid h2
      go_enter Tryz.func60, Tryz.ntmps60
      go_wp2_with fail
      refine (hle.out _).mono ?_
      rintro e w ⟨rfl, rfl⟩
      go_wp2_with fail
      go_ret
      exact ⟨by rw [hL.out]; rfl, rfl⟩
    | false =>
      replace hL : Hid (L = 28) := Lib.hid (by simpa using hL)
      replace h2 := Lib.hid h2
      go_enter Tryz.func60, Tryz.ntmps60
      go_wp2_with fail
      refine (hle.out _).mono ?_
      rintro e w ⟨rfl, rfl⟩
      go_wp2_with fail
      go_ret
      exact ⟨by rw [hL.out]; rfl, rfl⟩
  · have g2 : ((m : Int) == 2) = false := by simp; omega
    rw [if_neg h2] at hL
    by_cases h4 : m = 4
    · have g4 : ((m : Int) == 4) = true := by simp; omega
      replace hL : Hid (L = 30) := Lib.hid (by rw [hL, if_pos (Or.inl h4)])
      replace h2 := Lib.hid h2
      replace h4 := Lib.hid h4
      go_enter Tryz.func60, Tryz.ntmps60
      go_wp2_with fail
      go_ret
      exact ⟨by rw [hL.out]; rfl, rfl⟩
    · have g4 : ((m : Int) == 4) = false := by simp; omega
      by_cases h6 : m = 6
      · have g6 : ((m : Int) == 6) = true := by simp; omega
        replace hL : Hid (L = 30) := Lib.hid (by rw [hL, if_pos (Or.inr (Or.inl h6))])
        replace h2 := Lib.hid h2
        replace h4 := Lib.hid h4
        replace h6 := Lib.hid h6
        go_enter Tryz.func60, Tryz.ntmps60
        go_wp2_with fail
        go_ret
        exact ⟨by rw [hL.out]; rfl, rfl⟩
      · have g6 : ((m : Int) == 6) = false := by simp; omega
        by_cases h9 : m = 9
        · have g9 : ((m : Int) == 9) = true := by simp; omega
          replace hL : Hid (L = 30) := Lib.hid (by rw [hL, if_pos (Or.inr (Or.inr (Or.inl h9)))])
          replace h2 := Lib.hid h2
          replace h4 := Lib.hid h4
          replace h6 := Lib.hid h6
          replace h9 := Lib.hid h9
          go_enter Tryz.func60, Tryz.ntmps60
          go_wp2_with fail
          go_ret
          exact ⟨by rw [hL.out]; rfl, rfl⟩
        · have g9 : ((m : Int) == 9) = false := by simp; omega
          by_cases h11 : m = 11
          · have g11 : ((m : Int) == 11) = true := by simp; omega
            replace hL : Hid (L = 30) := Lib.hid (by rw [hL, if_pos (Or.inr (Or.inr (Or.inr h11)))])
            replace h2 := Lib.hid h2
            replace h4 := Lib.hid h4
            replace h6 := Lib.hid h6
            replace h9 := Lib.hid h9
            replace h11 := Lib.hid h11
            go_enter Tryz.func60, Tryz.ntmps60
            go_wp2_with fail
            go_ret
            exact ⟨by rw [hL.out]; rfl, rfl⟩
          · have g11 : ((m : Int) == 11) = false := by simp; omega
            replace hL : Hid (L = 31) := Lib.hid (by rw [hL, if_neg (by omega)])
            replace h2 := Lib.hid h2
            replace h4 := Lib.hid h4
            replace h6 := Lib.hid h6
            replace h9 := Lib.hid h9
            replace h11 := Lib.hid h11
            go_enter Tryz.func60, Tryz.ntmps60
            go_wp2_with fail
            go_ret
            exact ⟨by rw [hL.out]; rfl, rfl⟩
end Go.Proofs.YtgobpoeccdgeiaaGreatDoor
