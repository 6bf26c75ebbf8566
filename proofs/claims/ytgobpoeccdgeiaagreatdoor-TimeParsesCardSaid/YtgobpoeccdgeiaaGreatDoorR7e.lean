/- Package chiselref04: Div (printed by gendiv7.py). -/
import Derived.Test.YtgobpoeccdgeiaaGreatDoorR7d
namespace Go.Proofs.YtgobpoeccdgeiaaGreatDoor
open Go.RowKit NumP DigP DurP TimeP Go.Proofs.YtgobpoeccdgeiaaGreatDoorW.PrintWords
set_option linter.unusedVariables false

theorem DAt.last {w : World} {A : Option Addr} {k c n : Nat} (h : DAt w (.slice A k c) k n) (h0 : 0 < k) : ∃ g off, A = some ⟨g, off, none⟩ ∧ w.cell? ⟨g, off + (k - 1), none⟩ = some (.int .i64 (dg n 0 : Nat)) := by
  obtain ⟨A', c', e, -, h2⟩ := h.at_
  injection e with e1 e2 e3
  subst e1
  obtain ⟨g, off, ea, hc⟩ := h2 h0
  refine ⟨g, off, ea, ?_⟩
  have := hc (k - 1) (by omega)
  rw [show k - 1 - (k - 1) = 0 by omega] at this
  exact this
end Go.Proofs.YtgobpoeccdgeiaaGreatDoor
