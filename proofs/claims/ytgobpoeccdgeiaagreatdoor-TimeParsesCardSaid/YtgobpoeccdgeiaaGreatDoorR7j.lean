/- Package chiselref07: Text whole; contracts; the law's spec. (Printed by gencon7.py.) -/
import Derived.Test.YtgobpoeccdgeiaaGreatDoorR7i
import Derived.Test.YtgobpoeccdgeiaaGreatDoorOe
namespace Go.Proofs.YtgobpoeccdgeiaaGreatDoor
open Go.RowKit NumP DurP TimeP Go.Proofs.YtgobpoeccdgeiaaGreatDoorW.PrintWords
set_option linter.unusedVariables false

theorem res_one7 {fn : Func} {p : Tmp} {ty : TypeId} (h : fn.results = #[.cell p ty]) (tmps : Array Value) (P : Program) (w : World) :
    (results fn tmps).run P w = ((asAddr (tmps.getD p undef)).run P w).andThen fun a w₁ => ((loadVar ty a).run P w₁).andThen fun v w₂ => .ok v w₂ := by
  simp only [results, h]
  simp [Sem.run_bind, Result.andThen]
  cases Sem.run P (asAddr (tmps[p]?.getD undef)) w with
  | ok a w1 => cases hh : Sem.run P (loadVar ty a) w1 <;> simp [hh]
  | halt h w1 => rfl
set_option maxRecDepth 100000 in
set_option maxHeartbeats 4000000 in
theorem spec_r (y mo d h mi : Int) (s : ByteArray) (z : Int) (has : Bool) (W : World) : Calls Tryz.prog 17 #[.agg #[.int .i64 y, .int .i64 mo, .int .i64 d, .int .i64 h, .int .i64 mi, .string s, .int .i64 z, .bool has]] W fun e w' => e = .returned (.agg #[.int .i64 y, .int .i64 mo, .int .i64 d, .int .i64 h, .int .i64 mi, .string s, .int .i64 z, .bool has]) ∧ Below W.heap.size W w' := by
  obtain ⟨W1, hW1⟩ : ∃ w, w = (W.alloc (.cells #[.int .i64 y, .int .i64 mo, .int .i64 d, .int .i64 h, .int .i64 mi, .string s, .int .i64 z, .bool has] 24)).alloc (.cells #[.int .i64 0, .int .i64 0, .int .i64 0, .int .i64 0, .int .i64 0, .string ⟨#[]⟩, .int .i64 0, .bool false] 28) := ⟨_, rfl⟩
  obtain ⟨q, hq⟩ : ∃ q, q = W.heap.size := ⟨_, rfl⟩
  have h1 : W1.heap[q]? = some (.cells #[.int .i64 y, .int .i64 mo, .int .i64 d, .int .i64 h, .int .i64 mi, .string s, .int .i64 z, .bool has] 24 (0, 0)) := by
    rw [hW1, hq, (MapKept.heap_alloc _ _).2 _ (by simp)]
    exact (MapKept.heap_alloc _ _).1
  have h2 : W1.heap[q + 1]? = some (.cells #[.int .i64 0, .int .i64 0, .int .i64 0, .int .i64 0, .int .i64 0, .string ⟨#[]⟩, .int .i64 0, .bool false] 28 (0, 0)) := by
    rw [hW1, hq, show W.heap.size + 1 = (W.alloc (.cells #[.int .i64 y, .int .i64 mo, .int .i64 d, .int .i64 h, .int .i64 mi, .string s, .int .i64 z, .bool has] 24)).heap.size by simp]
    exact (MapKept.heap_alloc _ _).1
  have hb1 : Below W.heap.size W W1 := by rw [hW1]; exact ((Below.refl _ _).alloc (Nat.le_refl _) _).alloc (by simp) _
  obtain ⟨c0, c1, c2, c3, c4, c5, c6, c7⟩ := MomAt.of_heap h1
  obtain ⟨d0, d1, d2, d3, d4, d5, d6, d7⟩ := MomAt.of_heap h2
  obtain ⟨f0, f1, f2, f3, f4, f5, f6, f7⟩ := froz8 h2
  obtain ⟨W5, hW5, hp5, hb5⟩ := put8 h2 (.int .i64 y) (.int .i64 mo) (.int .i64 d) (.int .i64 h) (.int .i64 mi) (.string s) (.int .i64 z) (.bool has) (B := W.heap.size) (by omega)
  have hB := Lib.hid (hb1.trans hb5)
  replace hW5 := Lib.hid hW5
  replace hp5 := Lib.hid hp5
  clear h1 h2 hb1 hb5
  go_enter Tryz.func17, Tryz.ntmps17
  go_upto_region 1 with fail
  rw [← hW1, ← hq]
  replace hW1 := Lib.hid hW1
  replace hq := Lib.hid hq
  go_wp2_with fail
  rw [← hW5.out]
  clear hW5 c0 c1 c2 c3 c4 c5 c6 c7 d0 d1 d2 d3 d4 d5 d6 d7 f0 f1 f2 f3 f4 f5 f6 f7
  obtain ⟨c0, c1, c2, c3, c4, c5, c6, c7⟩ := MomAt.of_heap hp5.out
  refine bodyPost_ret (v := .agg #[.int .i64 y, .int .i64 mo, .int .i64 d, .int .i64 h, .int .i64 mi, .string s, .int .i64 z, .bool has]) ?ret rfl ?post
  case ret => rw [res_one7 rfl]; go_simp
  case post => exact ⟨rfl, hB.out⟩
end Go.Proofs.YtgobpoeccdgeiaaGreatDoor
