/- Package chiselref07: local, Seconds, Weekday (printed by genloc7.py). -/
import Derived.Test.YtgobpoeccdgeiaaGreatDoorR7g
import Derived.Deep.RegionHeld3
namespace Go.Proofs.YtgobpoeccdgeiaaGreatDoor.TimeP
open NumP DurP
set_option linter.unusedVariables false

end Go.Proofs.YtgobpoeccdgeiaaGreatDoor.TimeP
namespace Go.Proofs.YtgobpoeccdgeiaaGreatDoor
open Go.RowKit NumP DigP DurP TimeP Go.Proofs.YtgobpoeccdgeiaaGreatDoorW.PrintWords
set_option linter.unusedVariables false

theorem lenM_le31 (y m : Nat) : lenM y m ≤ 31 := by
  unfold lenM
  split
  · split <;> omega
  · split <;> omega
theorem mom_nat {y mo d h mi : Int} {s : ByteArray} {z : Int} {has : Bool} (hv : validP ⟨y, mo, d, h, mi, s.data.toList, z, has⟩ = true) : ∃ y' mo' d' h' mi' n : Nat, y = y' ∧ mo = mo' ∧ d = d' ∧ h = h' ∧ mi = mi' ∧ s.data.toList = tx (n * P14) ∧ Parts y' mo' d' h' mi' n ∧ Zone z has ∧ (⟨y, mo, d, h, mi, s.data.toList, z, has⟩ : Mom) = mkM y' mo' d' h' mi' n z has := by
  obtain ⟨y', mo', d', h', mi', n, e, hp, hz⟩ := valid_of hv
  unfold mkM at e
  have e2 := e
  simp only [Mom.mk.injEq] at e2
  exact ⟨y', mo', d', h', mi', n, e2.1, e2.2.1, e2.2.2.1, e2.2.2.2.1, e2.2.2.2.2.1, e2.2.2.2.2.2.1, hp, hz, e⟩
end Go.Proofs.YtgobpoeccdgeiaaGreatDoor
