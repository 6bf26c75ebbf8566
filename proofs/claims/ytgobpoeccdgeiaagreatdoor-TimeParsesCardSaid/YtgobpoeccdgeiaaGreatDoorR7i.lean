/- Package chiselref07: Text (printed by gentxt7.py). -/
import Derived.Test.YtgobpoeccdgeiaaGreatDoorR7h
import Derived.Test.YtgobpoeccdgeiaaGreatDoorOe
namespace Go.Proofs.YtgobpoeccdgeiaaGreatDoor
open Go.RowKit NumP DigP DurP TimeP Go.Proofs.YtgobpoeccdgeiaaGreatDoorW.PrintWords
set_option linter.unusedVariables false

end Go.Proofs.YtgobpoeccdgeiaaGreatDoor
