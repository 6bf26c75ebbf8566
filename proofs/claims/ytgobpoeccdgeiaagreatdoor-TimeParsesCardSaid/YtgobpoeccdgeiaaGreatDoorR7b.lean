/- Package chiselref07: kinds, decimal, integer. -/
import Derived.Test.YtgobpoeccdgeiaaGreatDoorR7a
namespace Go.Proofs.YtgobpoeccdgeiaaGreatDoor
open Go.RowKit NumP DurP TimeP Go.Proofs.YtgobpoeccdgeiaaGreatDoorW.PrintWords
set_option linter.unusedVariables false

set_option maxRecDepth 100000 in
set_option maxHeartbeats 2000000 in
theorem kinds_r (k : Int) (W : World) : Calls Tryz.prog 38 #[.int .i64 k] W fun e w' => e = .returned (.bool (TimeP.kindOk k)) ∧ W = w' := by
  by_cases h6 : k = 6
  · subst h6
    go_enter Tryz.func38, Tryz.ntmps38
    go_wp2_with fail
    go_ret
    exact ⟨rfl, rfl⟩
  · by_cases h7 : k = 7
    · subst h7
      go_enter Tryz.func38, Tryz.ntmps38
      go_wp2_with fail
      go_ret
      exact ⟨rfl, rfl⟩
    · by_cases h8 : k = 8
      · subst h8
        go_enter Tryz.func38, Tryz.ntmps38
        go_wp2_with fail
        go_ret
        exact ⟨rfl, rfl⟩
      · have g6 : (k == 6) = false := by simpa using h6
        have g7 : (k == 7) = false := by simpa using h7
        have g8 : (k == 8) = false := by simpa using h8
        have hV : Hid (TimeP.kindOk k = false) := Lib.hid (by unfold TimeP.kindOk; simp; omega)
        replace h6 := Lib.hid h6
        replace h7 := Lib.hid h7
        replace h8 := Lib.hid h8
        go_enter Tryz.func38, Tryz.ntmps38
        go_wp2_with fail
        go_ret
        exact ⟨by rw [hV.out]; rfl, rfl⟩
end Go.Proofs.YtgobpoeccdgeiaaGreatDoor
