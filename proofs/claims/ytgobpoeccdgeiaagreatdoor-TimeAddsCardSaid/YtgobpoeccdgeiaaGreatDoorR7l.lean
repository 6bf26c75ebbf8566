/- Package chiselref07: the days of seconds: the plain law. -/
import Derived.Test.YtgobpoeccdgeiaaGreatDoorR7j
namespace Go.Proofs.YtgobpoeccdgeiaaGreatDoor.TimeP
open NumP DurP
set_option linter.unusedVariables false

theorem quo_days (t : Nat) (neg : Bool) : ∃ c, cutN .even neg (t * P14 * P20) (86400 * P20) = t / 86400000000 * P20 + c ∧ c < P20 ∧ (c = 0 ↔ t % 86400000000 = 0) := by
  obtain ⟨a, ha⟩ : ∃ a, a = t / 86400000000 := ⟨_, rfl⟩
  obtain ⟨r, hr⟩ : ∃ r, r = t % 86400000000 := ⟨_, rfl⟩
  have ht : t = a * 86400000000 + r := by omega
  have hrl : r < 86400000000 := by omega
  rw [← ha, ← hr]
  have h1 : t * P14 * P20 / (86400 * P20) = a * P20 + r * P14 / 86400 := by
    rw [Nat.mul_div_mul_right _ _ (show 0 < P20 by decide), ht]
    have e14 : P14 = 100000000000000 := rfl
    have e20 : P20 = 100000000000000000000 := rfl
    rw [e14, e20]
    omega
  obtain ⟨u, hu⟩ : ∃ u, u = (NumP.Way.up .even neg (t * P14 * P20 / (86400 * P20)) (t * P14 * P20 % (86400 * P20)) (86400 * P20)).toNat := ⟨_, rfl⟩
  have hu1 : u ≤ 1 := by rw [hu]; cases NumP.Way.up .even neg (t * P14 * P20 / (86400 * P20)) (t * P14 * P20 % (86400 * P20)) (86400 * P20) <;> decide
  have hu0 : r = 0 → u = 0 := by
    intro h0
    have hm : t * P14 * P20 % (86400 * P20) = 0 := by
      rw [Nat.mul_mod_mul_right, ht, h0]
      have e14 : P14 = 100000000000000 := rfl
      rw [e14]
      have : (a * 86400000000 + 0) * 100000000000000 % 86400 = 0 := by omega
      rw [this, Nat.zero_mul]
    rw [hu, hm]
    rfl
  refine ⟨r * P14 / 86400 + u, ?_, ?_, ?_⟩
  · unfold cutN
    rw [← hu, h1]
    omega
  · have e14 : P14 = 100000000000000 := rfl
    have e20 : P20 = 100000000000000000000 := rfl
    rw [e14, e20]
    omega
  · have e14 : P14 = 100000000000000 := rfl
    rw [e14]
    constructor
    · intro h; omega
    · intro h; have := hu0 h; omega
end Go.Proofs.YtgobpoeccdgeiaaGreatDoor.TimeP
