/- Package chiselref07: the two blocks of a function that returns a moment; AddMonths. (Printed by genam7.py.) -/
import Derived.Test.YtgobpoeccdgeiaaGreatDoorR7j
namespace Go.Proofs.YtgobpoeccdgeiaaGreatDoor
open Go.RowKit NumP DurP TimeP Go.Proofs.YtgobpoeccdgeiaaGreatDoorW.PrintWords
set_option linter.unusedVariables false

/-- The world with a moment's block and the result's. -/
def twoC (W : World) (y mo d h mi : Int) (s : ByteArray) (z : Int) (has : Bool) : World := (W.alloc (.cells #[.int .i64 y, .int .i64 mo, .int .i64 d, .int .i64 h, .int .i64 mi, .string s, .int .i64 z, .bool has] 28)).alloc (.cells #[.int .i64 0, .int .i64 0, .int .i64 0, .int .i64 0, .int .i64 0, .string ⟨#[]⟩, .int .i64 0, .bool false] 28)
/-- What is known of the two blocks. -/
structure TwoC (W : World) (q : Nat) (w : World) (y mo d h mi : Int) (s : ByteArray) (z : Int) (has : Bool) : Prop where
  hq : w.heap[q]? = some (.cells #[.int .i64 y, .int .i64 mo, .int .i64 d, .int .i64 h, .int .i64 mi, .string s, .int .i64 z, .bool has] 28 (0, 0))
  hp : w.heap[q + 1]? = some (.cells #[.int .i64 0, .int .i64 0, .int .i64 0, .int .i64 0, .int .i64 0, .string ⟨#[]⟩, .int .i64 0, .bool false] 28 (0, 0))
  hb : Below W.heap.size W w
theorem TwoC.init (W : World) (y mo d h mi : Int) (s : ByteArray) (z : Int) (has : Bool) : TwoC W W.heap.size (twoC W y mo d h mi s z has) y mo d h mi s z has := by
  refine ⟨?_, ?_, ((Below.refl _ _).alloc (Nat.le_refl _) _).alloc (by simp) _⟩
  · unfold twoC
    rw [(MapKept.heap_alloc _ _).2 _ (by simp)]
    exact (MapKept.heap_alloc _ _).1
  · unfold twoC
    rw [show W.heap.size + 1 = (W.alloc (.cells #[.int .i64 y, .int .i64 mo, .int .i64 d, .int .i64 h, .int .i64 mi, .string s, .int .i64 z, .bool has] 28)).heap.size by simp]
    exact (MapKept.heap_alloc _ _).1
theorem TwoC.later {W : World} {q : Nat} {w w' : World} {y mo d h mi : Int} {s : ByteArray} {z : Int} {has : Bool} (t : TwoC W q w y mo d h mi s z has) (hb : Below w.heap.size w w') : TwoC W q w' y mo d h mi s z has :=
  ⟨(hb.block q (heap_lt t.hq)).trans t.hq, (hb.block (q + 1) (heap_lt t.hp)).trans t.hp, t.hb.trans (hb.mono t.hb.size)⟩
theorem TwoC.mom {W : World} {q : Nat} {w : World} {y mo d h mi : Int} {s : ByteArray} {z : Int} {has : Bool} (t : TwoC W q w y mo d h mi s z has) : MomAt w q y mo d h mi s z has := MomAt.of_heap t.hq
theorem TwoC.res {W : World} {q : Nat} {w : World} {y mo d h mi : Int} {s : ByteArray} {z : Int} {has : Bool} (t : TwoC W q w y mo d h mi s z has) : MomAt w (q + 1) 0 0 0 0 0 ⟨#[]⟩ 0 false := MomAt.of_heap t.hp
/-- A moment with two results. -/
theorem put_resC {W : World} {q : Nat} {w : World} {y mo d h mi : Int} {s : ByteArray} {z : Int} {has : Bool} (t : TwoC W q w y mo d h mi s z has) (hq : q = W.heap.size) (a0 a1 a2 a3 a4 a5 a6 a7 : Value) :
    ∃ W5, W5 = (((((((w.setCell ⟨q + 1, 0, none⟩ a0).setCell ⟨q + 1, 1, none⟩ a1).setCell ⟨q + 1, 2, none⟩ a2).setCell ⟨q + 1, 3, none⟩ a3).setCell ⟨q + 1, 4, none⟩ a4).setCell ⟨q + 1, 5, none⟩ a5).setCell ⟨q + 1, 6, none⟩ a6).setCell ⟨q + 1, 7, none⟩ a7 ∧ W5.heap[q + 1]? = some (.cells #[a0, a1, a2, a3, a4, a5, a6, a7] 28 (0, 0)) ∧ Below W.heap.size W W5 := by
  obtain ⟨W5, h1, h2, h3⟩ := put8 t.hp a0 a1 a2 a3 a4 a5 a6 a7 (B := W.heap.size) (by omega)
  exact ⟨W5, h1, h2, t.hb.trans h3⟩
/-- One field of the moment is stored. -/
theorem TwoC.set {W : World} {q : Nat} {w : World} {y mo d h mi : Int} {s : ByteArray} {z : Int} {has : Bool} (t : TwoC W q w y mo d h mi s z has) (hq : q = W.heap.size) (i : Nat) (v : Value) {y2 mo2 d2 h2 mi2 : Int} {s2 : ByteArray} {z2 : Int} {has2 : Bool}
    (e : (#[.int .i64 y, .int .i64 mo, .int .i64 d, .int .i64 h, .int .i64 mi, .string s, .int .i64 z, .bool has] : Array Value).set! i v = #[.int .i64 y2, .int .i64 mo2, .int .i64 d2, .int .i64 h2, .int .i64 mi2, .string s2, .int .i64 z2, .bool has2]) : TwoC W q (w.setCell ⟨q, i, none⟩ v) y2 mo2 d2 h2 mi2 s2 z2 has2 := by
  refine ⟨?_, ?_, t.hb.setCell (p := ⟨q, i, none⟩) (by show W.heap.size ≤ q; omega) _⟩
  · rw [← e]; exact Lib.heap_setCell_same t.hq v
  · rw [Below.heap_setCell _ _ _ _ (by simp)]; exact t.hp
end Go.Proofs.YtgobpoeccdgeiaaGreatDoor
