/- TimeKnown: the examples: the walk. (Printed by genknown7.py.) -/
import Derived.Test.YtgobpoeccdgeiaaGreatDoorOe
namespace Go.Proofs.YtgobpoeccdgeiaaGreatDoor
open Go.RowKit NumP DurP TimeP Go.Proofs.YtgobpoeccdgeiaaGreatDoorW.PrintWords
set_option linter.unusedVariables false

set_option maxRecDepth 100000 in
set_option maxHeartbeats 4000000 in
theorem timeKnown_walk (W : World) (hL : LaidT W) : Calls Tryz.prog 12 #[] W (fun e w' => e = .returned (.bool true) ∧ Below W.heap.size W w') := by
  obtain ⟨p1, -, -, -⟩ := works_plainT
  obtain ⟨a1, a2, a3, a4, a5⟩ := known_a
  obtain ⟨b1, b2, b3, b4⟩ := known_b
  obtain ⟨e1, e2, e3, e4, e5⟩ := known_c
  have c1 : Hid (∀ w, LaidT w → Calls Tryz.prog 15 #[.int .i64 8, .string ⟨#[50, 48, 50, 54, 45, 49, 49, 45, 49, 54, 84, 50, 52, 58, 48, 48, 58, 48, 48, 46, 48, 48, 48, 45, 48, 56, 58, 48, 48]⟩] w (fun e w' => e = .returned (.tuple #[.agg #[.int .i64 2026, .int .i64 11, .int .i64 17, .int .i64 0, .int .i64 0, .string ⟨#[48]⟩, .int .i64 (-480), .bool true], .int .i64 0]) ∧ Below w.heap.size w w')) := Lib.hid (fun w hw => Parse_c 8 ⟨#[50, 48, 50, 54, 45, 49, 49, 45, 49, 54, 84, 50, 52, 58, 48, 48, 58, 48, 48, 46, 48, 48, 48, 45, 48, 56, 58, 48, 48]⟩ ⟨2026, 11, 17, 0, 0, ⟨#[48]⟩, (-480), true⟩ 0 (p1) (by decide) w hw)
  have c2 : Hid (∀ w, LaidT w → Calls Tryz.prog 18 #[.int .i64 6, .agg #[.int .i64 2026, .int .i64 11, .int .i64 17, .int .i64 0, .int .i64 0, .string ⟨#[48]⟩, .int .i64 (-480), .bool true]] w (fun e w' => e = .returned (.tuple #[.string ⟨#[50, 48, 50, 54, 45, 49, 49, 45, 49, 55, 45, 48, 56, 58, 48, 48]⟩, .int .i64 0]) ∧ Below w.heap.size w w')) := Lib.hid (fun w hw => Text_c ⟨2026, 11, 17, 0, 0, ⟨#[48]⟩, (-480), true⟩ 6 ⟨#[50, 48, 50, 54, 45, 49, 49, 45, 49, 55, 45, 48, 56, 58, 48, 48]⟩ 0 (a1) (by decide) w hw)
  have c3 : Hid (∀ w, LaidT w → Calls Tryz.prog 18 #[.int .i64 8, .agg #[.int .i64 2026, .int .i64 11, .int .i64 17, .int .i64 0, .int .i64 0, .string ⟨#[48]⟩, .int .i64 (-480), .bool true]] w (fun e w' => e = .returned (.tuple #[.string ⟨#[50, 48, 50, 54, 45, 49, 49, 45, 49, 55, 84, 48, 48, 58, 48, 48, 58, 48, 48, 45, 48, 56, 58, 48, 48]⟩, .int .i64 0]) ∧ Below w.heap.size w w')) := Lib.hid (fun w hw => Text_c ⟨2026, 11, 17, 0, 0, ⟨#[48]⟩, (-480), true⟩ 8 ⟨#[50, 48, 50, 54, 45, 49, 49, 45, 49, 55, 84, 48, 48, 58, 48, 48, 58, 48, 48, 45, 48, 56, 58, 48, 48]⟩ 0 (a2) (by decide) w hw)
  have c4 : Hid (∀ w, LaidT w → Calls Tryz.prog 15 #[.int .i64 6, .string ⟨#[50, 48, 50, 54, 45, 48, 50, 45, 50, 57]⟩] w (fun e w' => e = .returned (.tuple #[.agg #[.int .i64 0, .int .i64 0, .int .i64 0, .int .i64 0, .int .i64 0, .string ⟨#[]⟩, .int .i64 0, .bool false], .int .i64 6]) ∧ Below w.heap.size w w')) := Lib.hid (fun w hw => Parse_c 6 ⟨#[50, 48, 50, 54, 45, 48, 50, 45, 50, 57]⟩ ⟨0, 0, 0, 0, 0, ⟨#[]⟩, 0, false⟩ 6 (a3) (by decide) w hw)
  have c5 : Hid (∀ w, LaidT w → Calls Tryz.prog 15 #[.int .i64 6, .string ⟨#[50, 48, 50, 54, 45, 50, 45, 50, 56]⟩] w (fun e w' => e = .returned (.tuple #[.agg #[.int .i64 0, .int .i64 0, .int .i64 0, .int .i64 0, .int .i64 0, .string ⟨#[]⟩, .int .i64 0, .bool false], .int .i64 5]) ∧ Below w.heap.size w w')) := Lib.hid (fun w hw => Parse_c 6 ⟨#[50, 48, 50, 54, 45, 50, 45, 50, 56]⟩ ⟨0, 0, 0, 0, 0, ⟨#[]⟩, 0, false⟩ 5 (a4) (by decide) w hw)
  have c6 : Hid (∀ w, LaidT w → Calls Tryz.prog 15 #[.int .i64 1, .string ⟨#[50, 48, 50, 54, 45, 48, 50, 45, 50, 56]⟩] w (fun e w' => e = .returned (.tuple #[.agg #[.int .i64 0, .int .i64 0, .int .i64 0, .int .i64 0, .int .i64 0, .string ⟨#[]⟩, .int .i64 0, .bool false], .int .i64 1]) ∧ Below w.heap.size w w')) := Lib.hid (fun w hw => Parse_c 1 ⟨#[50, 48, 50, 54, 45, 48, 50, 45, 50, 56]⟩ ⟨0, 0, 0, 0, 0, ⟨#[]⟩, 0, false⟩ 1 (a5) (by decide) w hw)
  have c7 : Hid (∀ w, LaidT w → Calls Tryz.prog 20 #[.agg #[.int .i64 1970, .int .i64 1, .int .i64 2, .int .i64 0, .int .i64 0, .string ⟨#[48]⟩, .int .i64 60, .bool true]] w (fun e w' => e = .returned (.tuple #[.string ⟨#[56, 50, 56, 48, 48]⟩, .int .i64 0]) ∧ Below w.heap.size w w')) := Lib.hid (fun w hw => Seconds_c ⟨1970, 1, 2, 0, 0, ⟨#[48]⟩, 60, true⟩ ⟨#[56, 50, 56, 48, 48]⟩ 0 (b1) (by decide) w hw)
  have c8 : Hid (∀ w, LaidT w → Calls Tryz.prog 20 #[.agg #[.int .i64 1969, .int .i64 12, .int .i64 31, .int .i64 23, .int .i64 59, .string ⟨#[53, 57, 46, 53]⟩, .int .i64 0, .bool false]] w (fun e w' => e = .returned (.tuple #[.string ⟨#[45, 48, 46, 53]⟩, .int .i64 0]) ∧ Below w.heap.size w w')) := Lib.hid (fun w hw => Seconds_c ⟨1969, 12, 31, 23, 59, ⟨#[53, 57, 46, 53]⟩, 0, false⟩ ⟨#[45, 48, 46, 53]⟩ 0 (b2) (by decide) w hw)
  have c9 : Hid (∀ w, LaidT w → Calls Tryz.prog 24 #[.agg #[.int .i64 2024, .int .i64 2, .int .i64 29, .int .i64 0, .int .i64 0, .string ⟨#[48]⟩, .int .i64 0, .bool false], .int .i64 (-12)] w (fun e w' => e = .returned (.tuple #[.agg #[.int .i64 2023, .int .i64 2, .int .i64 28, .int .i64 0, .int .i64 0, .string ⟨#[48]⟩, .int .i64 0, .bool false], .int .i64 0]) ∧ Below w.heap.size w w')) := Lib.hid (fun w hw => Months_c ⟨2024, 2, 29, 0, 0, ⟨#[48]⟩, 0, false⟩ ⟨2023, 2, 28, 0, 0, ⟨#[48]⟩, 0, false⟩ (-12) 0 (b3) (by decide) w hw)
  have c10 : Hid (∀ w, LaidT w → Calls Tryz.prog 28 #[.agg #[.int .i64 2024, .int .i64 2, .int .i64 28, .int .i64 23, .int .i64 59, .string ⟨#[53, 57, 46, 53]⟩, .int .i64 0, .bool false], .string ⟨#[48, 46, 53]⟩] w (fun e w' => e = .returned (.tuple #[.agg #[.int .i64 2024, .int .i64 2, .int .i64 29, .int .i64 0, .int .i64 0, .string ⟨#[48]⟩, .int .i64 0, .bool false], .int .i64 0]) ∧ Below w.heap.size w w')) := Lib.hid (fun w hw => Secs_c ⟨2024, 2, 28, 23, 59, ⟨#[53, 57, 46, 53]⟩, 0, false⟩ ⟨2024, 2, 29, 0, 0, ⟨#[48]⟩, 0, false⟩ ⟨#[48, 46, 53]⟩ 0 (b4) (by decide) (by decide) w hw)
  have c11 : Hid (∀ w, LaidT w → Calls Tryz.prog 25 #[.agg #[.int .i64 2026, .int .i64 11, .int .i64 16, .int .i64 20, .int .i64 0, .string ⟨#[48]⟩, .int .i64 (-480), .bool true], .int .i64 60, .bool true] w (fun e w' => e = .returned (.tuple #[.agg #[.int .i64 2026, .int .i64 11, .int .i64 17, .int .i64 5, .int .i64 0, .string ⟨#[48]⟩, .int .i64 60, .bool true], .int .i64 0]) ∧ Below w.heap.size w w')) := Lib.hid (fun w hw => Adjust_c ⟨2026, 11, 16, 20, 0, ⟨#[48]⟩, (-480), true⟩ ⟨2026, 11, 17, 5, 0, ⟨#[48]⟩, 60, true⟩ 60 true 0 (e1) (by decide) w hw)
  have c12 : Hid (∀ w, LaidT w → Calls Tryz.prog 18 #[.int .i64 8, .agg #[.int .i64 2026, .int .i64 11, .int .i64 17, .int .i64 5, .int .i64 0, .string ⟨#[48]⟩, .int .i64 60, .bool true]] w (fun e w' => e = .returned (.tuple #[.string ⟨#[50, 48, 50, 54, 45, 49, 49, 45, 49, 55, 84, 48, 53, 58, 48, 48, 58, 48, 48, 43, 48, 49, 58, 48, 48]⟩, .int .i64 0]) ∧ Below w.heap.size w w')) := Lib.hid (fun w hw => Text_c ⟨2026, 11, 17, 5, 0, ⟨#[48]⟩, 60, true⟩ 8 ⟨#[50, 48, 50, 54, 45, 49, 49, 45, 49, 55, 84, 48, 53, 58, 48, 48, 58, 48, 48, 43, 48, 49, 58, 48, 48]⟩ 0 (e2) (by decide) w hw)
  have c13 : Hid (∀ w, LaidT w → Calls Tryz.prog 22 #[.agg #[.int .i64 2026, .int .i64 11, .int .i64 16, .int .i64 0, .int .i64 0, .string ⟨#[48]⟩, .int .i64 0, .bool false]] w (fun e w' => e = .returned (.int .i64 1) ∧ Below w.heap.size w w')) := Lib.hid (fun w hw => Weekday_c ⟨2026, 11, 16, 0, 0, ⟨#[48]⟩, 0, false⟩ 1 (e3) (by decide) w hw)
  have c14 : Hid (∀ w, LaidT w → Calls Tryz.prog 22 #[.agg #[.int .i64 1, .int .i64 1, .int .i64 1, .int .i64 0, .int .i64 0, .string ⟨#[48]⟩, .int .i64 0, .bool false]] w (fun e w' => e = .returned (.int .i64 1) ∧ Below w.heap.size w w')) := Lib.hid (fun w hw => Weekday_c ⟨1, 1, 1, 0, 0, ⟨#[48]⟩, 0, false⟩ 1 (e4) (by decide) w hw)
  have c15 : Hid (∀ w, LaidT w → Calls Tryz.prog 22 #[.agg #[.int .i64 0, .int .i64 0, .int .i64 0, .int .i64 0, .int .i64 0, .string ⟨#[]⟩, .int .i64 0, .bool false]] w (fun e w' => e = .returned (.int .i64 0) ∧ Below w.heap.size w w')) := Lib.hid (fun w hw => Weekday_c ⟨0, 0, 0, 0, 0, ⟨#[]⟩, 0, false⟩ 0 (e5) (by decide) w hw)
  have d1 : Hid (∀ w, LaidT w → Calls Tryz.prog 32 #[.int .i64 1970, .int .i64 1, .int .i64 2, .int .i64 0, .int .i64 0, .string ⟨#[48]⟩] w (fun e w' => e = .returned (.agg #[.int .i64 1970, .int .i64 1, .int .i64 2, .int .i64 0, .int .i64 0, .string ⟨#[48]⟩, .int .i64 0, .bool false]) ∧ Below w.heap.size w w')) := Lib.hid (fun w hw => at_c 1970 1 2 0 0 ⟨#[48]⟩ w)
  have d2 : Hid (∀ w, LaidT w → Calls Tryz.prog 32 #[.int .i64 1969, .int .i64 12, .int .i64 31, .int .i64 23, .int .i64 59, .string ⟨#[53, 57, 46, 53]⟩] w (fun e w' => e = .returned (.agg #[.int .i64 1969, .int .i64 12, .int .i64 31, .int .i64 23, .int .i64 59, .string ⟨#[53, 57, 46, 53]⟩, .int .i64 0, .bool false]) ∧ Below w.heap.size w w')) := Lib.hid (fun w hw => at_c 1969 12 31 23 59 ⟨#[53, 57, 46, 53]⟩ w)
  have d3 : Hid (∀ w, LaidT w → Calls Tryz.prog 32 #[.int .i64 2024, .int .i64 2, .int .i64 29, .int .i64 0, .int .i64 0, .string ⟨#[48]⟩] w (fun e w' => e = .returned (.agg #[.int .i64 2024, .int .i64 2, .int .i64 29, .int .i64 0, .int .i64 0, .string ⟨#[48]⟩, .int .i64 0, .bool false]) ∧ Below w.heap.size w w')) := Lib.hid (fun w hw => at_c 2024 2 29 0 0 ⟨#[48]⟩ w)
  have d4 : Hid (∀ w, LaidT w → Calls Tryz.prog 32 #[.int .i64 2024, .int .i64 2, .int .i64 28, .int .i64 23, .int .i64 59, .string ⟨#[53, 57, 46, 53]⟩] w (fun e w' => e = .returned (.agg #[.int .i64 2024, .int .i64 2, .int .i64 28, .int .i64 23, .int .i64 59, .string ⟨#[53, 57, 46, 53]⟩, .int .i64 0, .bool false]) ∧ Below w.heap.size w w')) := Lib.hid (fun w hw => at_c 2024 2 28 23 59 ⟨#[53, 57, 46, 53]⟩ w)
  have d5 : Hid (∀ w, LaidT w → Calls Tryz.prog 32 #[.int .i64 2026, .int .i64 11, .int .i64 16, .int .i64 20, .int .i64 0, .string ⟨#[48]⟩] w (fun e w' => e = .returned (.agg #[.int .i64 2026, .int .i64 11, .int .i64 16, .int .i64 20, .int .i64 0, .string ⟨#[48]⟩, .int .i64 0, .bool false]) ∧ Below w.heap.size w w')) := Lib.hid (fun w hw => at_c 2026 11 16 20 0 ⟨#[48]⟩ w)
  have d6 : Hid (∀ w, LaidT w → Calls Tryz.prog 32 #[.int .i64 2026, .int .i64 11, .int .i64 16, .int .i64 0, .int .i64 0, .string ⟨#[48]⟩] w (fun e w' => e = .returned (.agg #[.int .i64 2026, .int .i64 11, .int .i64 16, .int .i64 0, .int .i64 0, .string ⟨#[48]⟩, .int .i64 0, .bool false]) ∧ Below w.heap.size w w')) := Lib.hid (fun w hw => at_c 2026 11 16 0 0 ⟨#[48]⟩ w)
  have d7 : Hid (∀ w, LaidT w → Calls Tryz.prog 32 #[.int .i64 1, .int .i64 1, .int .i64 1, .int .i64 0, .int .i64 0, .string ⟨#[48]⟩] w (fun e w' => e = .returned (.agg #[.int .i64 1, .int .i64 1, .int .i64 1, .int .i64 0, .int .i64 0, .string ⟨#[48]⟩, .int .i64 0, .bool false]) ∧ Below w.heap.size w w')) := Lib.hid (fun w hw => at_c 1 1 1 0 0 ⟨#[48]⟩ w)
  clear p1 a1 a2 a3 a4 a5 b1 b2 b3 b4 e1 e2 e3 e4 e5
  obtain ⟨w1, hw⟩ : ∃ w, w = W := ⟨_, rfl⟩
  have hB1 : Hid (Below W.heap.size W w1) := Lib.hid (by rw [hw]; exact Below.refl _ _)
  have hL1 : Hid (LaidT w1) := Lib.hid (by rw [hw]; exact hL)
  replace hw := Lib.hid hw
  replace hL := Lib.hid hL
  go_enter Tryz.func12, Tryz.ntmps12
  go_wp2_with fail
  rw [← hw.out]
  clear hw
  refine (c1.out w1 hL1.out).mono ?_
  rintro e w2 ⟨rfl, hb⟩
  have hB2 := Lib.hid (hB1.out.trans (hb.mono hB1.out.size))
  have hL2 := Lib.hid (hL.out.below hB2.out hL.out.size)
  clear hb hB1 hL1
  obtain ⟨p, hp⟩ : ∃ q, q = w2.heap.size := ⟨_, rfl⟩
  obtain ⟨w3, hw⟩ : ∃ w, w = w2.alloc (.cells #[.int .i64 2026, .int .i64 11, .int .i64 17, .int .i64 0, .int .i64 0, .string ⟨#[48]⟩, .int .i64 (-480), .bool true] 24) := ⟨_, rfl⟩
  have hb : Below w2.heap.size w2 w3 := by rw [hw]; exact (Below.refl _ _).alloc (Nat.le_refl _) _
  have hMp3 : Hid (MoAt w3 p 2026 11 17 0 0 ⟨#[48]⟩ (-480) true) := Lib.hid (by rw [hw, hp]; exact (MapKept.heap_alloc _ _).1)
  have hgep : Hid (W.heap.size ≤ p) := Lib.hid (by rw [hp]; exact hB2.out.size)
  replace hp := Lib.hid hp
  replace hw := Lib.hid hw
  have hB3 := Lib.hid (hB2.out.trans (hb.mono hB2.out.size))
  have hL3 := Lib.hid (hL.out.below hB3.out hL.out.size)
  clear hb hB2 hL2
  go_upto_region 2 with fail
  rw [← hw.out, ← hp.out]
  clear hw hp
  obtain ⟨cp0, cp1, cp2, cp3, cp4, cp5, cp6, cp7⟩ := MomAt.of_heap hMp3.out
  go_wp2_with fail
  refine (c2.out w3 hL3.out).mono ?_
  rintro e w4 ⟨rfl, hb⟩
  have hB4 := Lib.hid (hB3.out.trans (hb.mono hB3.out.size))
  have hL4 := Lib.hid (hL.out.below hB4.out hL.out.size)
  have hMp4 : Hid (MoAt w4 p 2026 11 17 0 0 ⟨#[48]⟩ (-480) true) := Lib.hid ((hb.block p (heap_lt hMp3.out)).trans hMp3.out)
  clear hb hB3 hL3 hMp3
  clear cp0 cp1 cp2 cp3 cp4 cp5 cp6 cp7
  obtain ⟨cp0, cp1, cp2, cp3, cp4, cp5, cp6, cp7⟩ := MomAt.of_heap hMp4.out
  go_wp2_with fail
  refine (c3.out w4 hL4.out).mono ?_
  rintro e w5 ⟨rfl, hb⟩
  have hB5 := Lib.hid (hB4.out.trans (hb.mono hB4.out.size))
  have hL5 := Lib.hid (hL.out.below hB5.out hL.out.size)
  have hMp5 : Hid (MoAt w5 p 2026 11 17 0 0 ⟨#[48]⟩ (-480) true) := Lib.hid ((hb.block p (heap_lt hMp4.out)).trans hMp4.out)
  clear hb hB4 hL4 hMp4
  clear cp0 cp1 cp2 cp3 cp4 cp5 cp6 cp7
  go_wp2_with fail
  refine (c4.out w5 hL5.out).mono ?_
  rintro e w6 ⟨rfl, hb⟩
  have hB6 := Lib.hid (hB5.out.trans (hb.mono hB5.out.size))
  have hL6 := Lib.hid (hL.out.below hB6.out hL.out.size)
  have hMp6 : Hid (MoAt w6 p 2026 11 17 0 0 ⟨#[48]⟩ (-480) true) := Lib.hid ((hb.block p (heap_lt hMp5.out)).trans hMp5.out)
  clear hb hB5 hL5 hMp5
  go_wp2_with fail
  refine (c5.out w6 hL6.out).mono ?_
  rintro e w7 ⟨rfl, hb⟩
  have hB7 := Lib.hid (hB6.out.trans (hb.mono hB6.out.size))
  have hL7 := Lib.hid (hL.out.below hB7.out hL.out.size)
  have hMp7 : Hid (MoAt w7 p 2026 11 17 0 0 ⟨#[48]⟩ (-480) true) := Lib.hid ((hb.block p (heap_lt hMp6.out)).trans hMp6.out)
  clear hb hB6 hL6 hMp6
  go_wp2_with fail
  refine (c6.out w7 hL7.out).mono ?_
  rintro e w8 ⟨rfl, hb⟩
  have hB8 := Lib.hid (hB7.out.trans (hb.mono hB7.out.size))
  have hL8 := Lib.hid (hL.out.below hB8.out hL.out.size)
  have hMp8 : Hid (MoAt w8 p 2026 11 17 0 0 ⟨#[48]⟩ (-480) true) := Lib.hid ((hb.block p (heap_lt hMp7.out)).trans hMp7.out)
  clear hb hB7 hL7 hMp7
  obtain ⟨r, hr⟩ : ∃ q, q = w8.heap.size := ⟨_, rfl⟩
  obtain ⟨w9, hw⟩ : ∃ w, w = w8.alloc (.cells #[.int .i64 0, .int .i64 0, .int .i64 0, .int .i64 0, .int .i64 0, .string ⟨#[]⟩, .int .i64 0, .bool false] 24) := ⟨_, rfl⟩
  have hb : Below w8.heap.size w8 w9 := by rw [hw]; exact (Below.refl _ _).alloc (Nat.le_refl _) _
  have hMr9 : Hid (MoAt w9 r 0 0 0 0 0 ⟨#[]⟩ 0 false) := Lib.hid (by rw [hw, hr]; exact (MapKept.heap_alloc _ _).1)
  have hger : Hid (W.heap.size ≤ r) := Lib.hid (by rw [hr]; exact hB8.out.size)
  replace hr := Lib.hid hr
  replace hw := Lib.hid hw
  have hB9 := Lib.hid (hB8.out.trans (hb.mono hB8.out.size))
  have hL9 := Lib.hid (hL.out.below hB9.out hL.out.size)
  clear hb hB8 hL8
  go_upto_region 9 with fail
  rw [← hw.out, ← hr.out]
  clear hw hr
  go_wp2_with fail
  refine (d1.out w9 hL9.out).mono ?_
  rintro e w10 ⟨rfl, hb⟩
  have hB10 := Lib.hid (hB9.out.trans (hb.mono hB9.out.size))
  have hL10 := Lib.hid (hL.out.below hB10.out hL.out.size)
  clear hb hB9 hL9
  obtain ⟨c, hc⟩ : ∃ q, q = w10.heap.size := ⟨_, rfl⟩
  obtain ⟨w11, hw⟩ : ∃ w, w = w10.alloc (.cells #[.int .i64 1970, .int .i64 1, .int .i64 2, .int .i64 0, .int .i64 0, .string ⟨#[48]⟩, .int .i64 0, .bool false] 24) := ⟨_, rfl⟩
  have hb : Below w10.heap.size w10 w11 := by rw [hw]; exact (Below.refl _ _).alloc (Nat.le_refl _) _
  have hMc11 : Hid (MoAt w11 c 1970 1 2 0 0 ⟨#[48]⟩ 0 false) := Lib.hid (by rw [hw, hc]; exact (MapKept.heap_alloc _ _).1)
  have hgec : Hid (W.heap.size ≤ c) := Lib.hid (by rw [hc]; exact hB10.out.size)
  replace hc := Lib.hid hc
  replace hw := Lib.hid hw
  have hB11 := Lib.hid (hB10.out.trans (hb.mono hB10.out.size))
  have hL11 := Lib.hid (hL.out.below hB11.out hL.out.size)
  clear hb hB10 hL10
  go_upto_region 12 with fail
  rw [← hw.out, ← hc.out]
  clear hw hc
  obtain ⟨cc0, cc1, cc2, cc3, cc4, cc5, cc6, cc7⟩ := MomAt.of_heap hMc11.out
  have ff6 := Lib.frozen_of_heap hMc11.out 6
  have ff7 := Lib.frozen_of_heap hMc11.out 7
  obtain ⟨w12, hw⟩ : ∃ w, w = ((w11.setCell ⟨c, 6, none⟩ (.int .i64 60)).setCell ⟨c, 7, none⟩ (.bool true)) := ⟨_, rfl⟩
  have hB12 : Hid (Below W.heap.size W w12) := Lib.hid (by rw [hw]; exact hB11.out.trans (((Below.refl _ _).setCell (p := ⟨c, 6, none⟩) hgec.out _).setCell (p := ⟨c, 7, none⟩) hgec.out _))
  have hL12 := Lib.hid (hL.out.below hB12.out hL.out.size)
  have hMc12 : Hid (MoAt w12 c 1970 1 2 0 0 ⟨#[48]⟩ 60 true) := Lib.hid (by rw [hw]; exact (Lib.heap_setCell_same (i := 7) (Lib.heap_setCell_same (i := 6) hMc11.out _) _))
  replace hw := Lib.hid hw
  go_upto_region 13 with fail
  rw [← hw.out]
  clear hw ff6 ff7
  clear cc0 cc1 cc2 cc3 cc4 cc5 cc6 cc7
  clear hB11 hL11 hMc11
  obtain ⟨cc0, cc1, cc2, cc3, cc4, cc5, cc6, cc7⟩ := MomAt.of_heap hMc12.out
  go_wp2_with fail
  refine (c7.out w12 hL12.out).mono ?_
  rintro e w13 ⟨rfl, hb⟩
  have hB13 := Lib.hid (hB12.out.trans (hb.mono hB12.out.size))
  have hL13 := Lib.hid (hL.out.below hB13.out hL.out.size)
  have hMc13 : Hid (MoAt w13 c 1970 1 2 0 0 ⟨#[48]⟩ 60 true) := Lib.hid ((hb.block c (heap_lt hMc12.out)).trans hMc12.out)
  clear hb hB12 hL12 hMc12
  clear cc0 cc1 cc2 cc3 cc4 cc5 cc6 cc7
  go_wp2_with fail
  refine (d2.out w13 hL13.out).mono ?_
  rintro e w14 ⟨rfl, hb⟩
  have hB14 := Lib.hid (hB13.out.trans (hb.mono hB13.out.size))
  have hL14 := Lib.hid (hL.out.below hB14.out hL.out.size)
  clear hb hB13 hL13
  go_wp2_with fail
  refine (c8.out w14 hL14.out).mono ?_
  rintro e w15 ⟨rfl, hb⟩
  have hB15 := Lib.hid (hB14.out.trans (hb.mono hB14.out.size))
  have hL15 := Lib.hid (hL.out.below hB15.out hL.out.size)
  clear hb hB14 hL14
  go_wp2_with fail
  refine (d3.out w15 hL15.out).mono ?_
  rintro e w16 ⟨rfl, hb⟩
  have hB16 := Lib.hid (hB15.out.trans (hb.mono hB15.out.size))
  have hL16 := Lib.hid (hL.out.below hB16.out hL.out.size)
  clear hb hB15 hL15
  go_wp2_with fail
  refine (c9.out w16 hL16.out).mono ?_
  rintro e w17 ⟨rfl, hb⟩
  have hB17 := Lib.hid (hB16.out.trans (hb.mono hB16.out.size))
  have hL17 := Lib.hid (hL.out.below hB17.out hL.out.size)
  clear hb hB16 hL16
  obtain ⟨n, hn⟩ : ∃ q, q = w17.heap.size := ⟨_, rfl⟩
  obtain ⟨w18, hw⟩ : ∃ w, w = w17.alloc (.cells #[.int .i64 2023, .int .i64 2, .int .i64 28, .int .i64 0, .int .i64 0, .string ⟨#[48]⟩, .int .i64 0, .bool false] 24) := ⟨_, rfl⟩
  have hb : Below w17.heap.size w17 w18 := by rw [hw]; exact (Below.refl _ _).alloc (Nat.le_refl _) _
  have hMn18 : Hid (MoAt w18 n 2023 2 28 0 0 ⟨#[48]⟩ 0 false) := Lib.hid (by rw [hw, hn]; exact (MapKept.heap_alloc _ _).1)
  have hgen : Hid (W.heap.size ≤ n) := Lib.hid (by rw [hn]; exact hB17.out.size)
  replace hn := Lib.hid hn
  replace hw := Lib.hid hw
  have hB18 := Lib.hid (hB17.out.trans (hb.mono hB17.out.size))
  have hL18 := Lib.hid (hL.out.below hB18.out hL.out.size)
  clear hb hB17 hL17
  go_upto_region 16 with fail
  rw [← hw.out, ← hn.out]
  clear hw hn
  go_wp2_with fail
  refine (d4.out w18 hL18.out).mono ?_
  rintro e w19 ⟨rfl, hb⟩
  have hB19 := Lib.hid (hB18.out.trans (hb.mono hB18.out.size))
  have hL19 := Lib.hid (hL.out.below hB19.out hL.out.size)
  have hMn19 : Hid (MoAt w19 n 2023 2 28 0 0 ⟨#[48]⟩ 0 false) := Lib.hid ((hb.block n (heap_lt hMn18.out)).trans hMn18.out)
  clear hb hB18 hL18 hMn18
  go_wp2_with fail
  refine (c10.out w19 hL19.out).mono ?_
  rintro e w20 ⟨rfl, hb⟩
  have hB20 := Lib.hid (hB19.out.trans (hb.mono hB19.out.size))
  have hL20 := Lib.hid (hL.out.below hB20.out hL.out.size)
  have hMn20 : Hid (MoAt w20 n 2023 2 28 0 0 ⟨#[48]⟩ 0 false) := Lib.hid ((hb.block n (heap_lt hMn19.out)).trans hMn19.out)
  clear hb hB19 hL19 hMn19
  obtain ⟨o, ho⟩ : ∃ q, q = w20.heap.size := ⟨_, rfl⟩
  obtain ⟨w21, hw⟩ : ∃ w, w = w20.alloc (.cells #[.int .i64 2024, .int .i64 2, .int .i64 29, .int .i64 0, .int .i64 0, .string ⟨#[48]⟩, .int .i64 0, .bool false] 24) := ⟨_, rfl⟩
  have hb : Below w20.heap.size w20 w21 := by rw [hw]; exact (Below.refl _ _).alloc (Nat.le_refl _) _
  have hMo21 : Hid (MoAt w21 o 2024 2 29 0 0 ⟨#[48]⟩ 0 false) := Lib.hid (by rw [hw, ho]; exact (MapKept.heap_alloc _ _).1)
  have hgeo : Hid (W.heap.size ≤ o) := Lib.hid (by rw [ho]; exact hB20.out.size)
  have hnno : Hid (n ≠ o) := Lib.hid (by rw [ho]; exact Nat.ne_of_lt (heap_lt hMn20.out))
  have hnon : Hid (o ≠ n) := Lib.hid (fun e => hnno.out e.symm)
  replace ho := Lib.hid ho
  replace hw := Lib.hid hw
  have hB21 := Lib.hid (hB20.out.trans (hb.mono hB20.out.size))
  have hL21 := Lib.hid (hL.out.below hB21.out hL.out.size)
  have hMn21 : Hid (MoAt w21 n 2023 2 28 0 0 ⟨#[48]⟩ 0 false) := Lib.hid ((hb.block n (heap_lt hMn20.out)).trans hMn20.out)
  clear hb hB20 hL20 hMn20
  go_upto_region 17 with fail
  rw [← hw.out, ← ho.out]
  clear hw ho
  have SL : Hid (∀ w' w'', (w'.cell? ⟨n, 0, none⟩ = some (.int .i64 2023) ∧ w'.cell? ⟨n, 1, none⟩ = some (.int .i64 2) ∧ w'.cell? ⟨n, 2, none⟩ = some (.int .i64 28) ∧ w'.cell? ⟨n, 3, none⟩ = some (.int .i64 0) ∧ w'.cell? ⟨n, 4, none⟩ = some (.int .i64 0) ∧ w'.cell? ⟨n, 5, none⟩ = some (.string ⟨#[48]⟩) ∧ w'.cell? ⟨n, 6, none⟩ = some (.int .i64 0) ∧ w'.cell? ⟨n, 7, none⟩ = some (.bool false) ∧ w'.cell? ⟨o, 0, none⟩ = some (.int .i64 2024) ∧ w'.cell? ⟨o, 1, none⟩ = some (.int .i64 2) ∧ w'.cell? ⟨o, 2, none⟩ = some (.int .i64 29) ∧ w'.cell? ⟨o, 3, none⟩ = some (.int .i64 0) ∧ w'.cell? ⟨o, 4, none⟩ = some (.int .i64 0) ∧ w'.cell? ⟨o, 5, none⟩ = some (.string ⟨#[48]⟩) ∧ w'.cell? ⟨o, 6, none⟩ = some (.int .i64 0) ∧ w'.cell? ⟨o, 7, none⟩ = some (.bool false) ∧ Hid (MoAt w' n 2023 2 28 0 0 ⟨#[48]⟩ 0 false) ∧ Hid (MoAt w' o 2024 2 29 0 0 ⟨#[48]⟩ 0 false) ∧ Hid (Below w21.heap.size w21 w')) → Below w'.heap.size w' w'' → (w''.cell? ⟨n, 0, none⟩ = some (.int .i64 2023) ∧ w''.cell? ⟨n, 1, none⟩ = some (.int .i64 2) ∧ w''.cell? ⟨n, 2, none⟩ = some (.int .i64 28) ∧ w''.cell? ⟨n, 3, none⟩ = some (.int .i64 0) ∧ w''.cell? ⟨n, 4, none⟩ = some (.int .i64 0) ∧ w''.cell? ⟨n, 5, none⟩ = some (.string ⟨#[48]⟩) ∧ w''.cell? ⟨n, 6, none⟩ = some (.int .i64 0) ∧ w''.cell? ⟨n, 7, none⟩ = some (.bool false) ∧ w''.cell? ⟨o, 0, none⟩ = some (.int .i64 2024) ∧ w''.cell? ⟨o, 1, none⟩ = some (.int .i64 2) ∧ w''.cell? ⟨o, 2, none⟩ = some (.int .i64 29) ∧ w''.cell? ⟨o, 3, none⟩ = some (.int .i64 0) ∧ w''.cell? ⟨o, 4, none⟩ = some (.int .i64 0) ∧ w''.cell? ⟨o, 5, none⟩ = some (.string ⟨#[48]⟩) ∧ w''.cell? ⟨o, 6, none⟩ = some (.int .i64 0) ∧ w''.cell? ⟨o, 7, none⟩ = some (.bool false) ∧ Hid (MoAt w'' n 2023 2 28 0 0 ⟨#[48]⟩ 0 false) ∧ Hid (MoAt w'' o 2024 2 29 0 0 ⟨#[48]⟩ 0 false) ∧ Hid (Below w21.heap.size w21 w''))) := Lib.hid (by
    rintro w' w'' ⟨-, -, -, -, -, -, -, -, -, -, -, -, -, -, -, -, hn, ho, hb⟩ hk
    have gn : MoAt w'' n 2023 2 28 0 0 ⟨#[48]⟩ 0 false := (hk.block n (heap_lt hn.out)).trans hn.out
    have go : MoAt w'' o 2024 2 29 0 0 ⟨#[48]⟩ 0 false := (hk.block o (heap_lt ho.out)).trans ho.out
    obtain ⟨cn0, cn1, cn2, cn3, cn4, cn5, cn6, cn7⟩ := MomAt.of_heap gn
    obtain ⟨co0, co1, co2, co3, co4, co5, co6, co7⟩ := MomAt.of_heap go
    exact ⟨cn0, cn1, cn2, cn3, cn4, cn5, cn6, cn7, co0, co1, co2, co3, co4, co5, co6, co7, Lib.hid gn, Lib.hid go, Lib.hid (hb.out.trans (hk.mono hb.out.size))⟩)
  have SO : Hid (∀ w', (w'.cell? ⟨n, 0, none⟩ = some (.int .i64 2023) ∧ w'.cell? ⟨n, 1, none⟩ = some (.int .i64 2) ∧ w'.cell? ⟨n, 2, none⟩ = some (.int .i64 28) ∧ w'.cell? ⟨n, 3, none⟩ = some (.int .i64 0) ∧ w'.cell? ⟨n, 4, none⟩ = some (.int .i64 0) ∧ w'.cell? ⟨n, 5, none⟩ = some (.string ⟨#[48]⟩) ∧ w'.cell? ⟨n, 6, none⟩ = some (.int .i64 0) ∧ w'.cell? ⟨n, 7, none⟩ = some (.bool false) ∧ w'.cell? ⟨o, 0, none⟩ = some (.int .i64 2024) ∧ w'.cell? ⟨o, 1, none⟩ = some (.int .i64 2) ∧ w'.cell? ⟨o, 2, none⟩ = some (.int .i64 29) ∧ w'.cell? ⟨o, 3, none⟩ = some (.int .i64 0) ∧ w'.cell? ⟨o, 4, none⟩ = some (.int .i64 0) ∧ w'.cell? ⟨o, 5, none⟩ = some (.string ⟨#[48]⟩) ∧ w'.cell? ⟨o, 6, none⟩ = some (.int .i64 0) ∧ w'.cell? ⟨o, 7, none⟩ = some (.bool false) ∧ Hid (MoAt w' n 2023 2 28 0 0 ⟨#[48]⟩ 0 false) ∧ Hid (MoAt w' o 2024 2 29 0 0 ⟨#[48]⟩ 0 false) ∧ Hid (Below w21.heap.size w21 w')) → LaidT w') := Lib.hid (by
    rintro w' ⟨-, -, -, -, -, -, -, -, -, -, -, -, -, -, -, -, hn, ho, hb⟩
    exact hL.out.below (hB21.out.trans (hb.out.mono hB21.out.size)) hL.out.size)
  have hS := SL.out w21 w21.drew ⟨(MomAt.of_heap hMn21.out).c0, (MomAt.of_heap hMn21.out).c1, (MomAt.of_heap hMn21.out).c2, (MomAt.of_heap hMn21.out).c3, (MomAt.of_heap hMn21.out).c4, (MomAt.of_heap hMn21.out).c5, (MomAt.of_heap hMn21.out).c6, (MomAt.of_heap hMn21.out).c7, (MomAt.of_heap hMo21.out).c0, (MomAt.of_heap hMo21.out).c1, (MomAt.of_heap hMo21.out).c2, (MomAt.of_heap hMo21.out).c3, (MomAt.of_heap hMo21.out).c4, (MomAt.of_heap hMo21.out).c5, (MomAt.of_heap hMo21.out).c6, (MomAt.of_heap hMo21.out).c7, hMn21, hMo21, Lib.hid (Below.refl _ _)⟩ (Below.refl _ _).drew
  replace hS := Lib.hid hS
  go_wp2_with fail
  go_region_held3 (fun w' => w'.cell? ⟨n, 0, none⟩ = some (.int .i64 2023) ∧ w'.cell? ⟨n, 1, none⟩ = some (.int .i64 2) ∧ w'.cell? ⟨n, 2, none⟩ = some (.int .i64 28) ∧ w'.cell? ⟨n, 3, none⟩ = some (.int .i64 0) ∧ w'.cell? ⟨n, 4, none⟩ = some (.int .i64 0) ∧ w'.cell? ⟨n, 5, none⟩ = some (.string ⟨#[48]⟩) ∧ w'.cell? ⟨n, 6, none⟩ = some (.int .i64 0) ∧ w'.cell? ⟨n, 7, none⟩ = some (.bool false) ∧ w'.cell? ⟨o, 0, none⟩ = some (.int .i64 2024) ∧ w'.cell? ⟨o, 1, none⟩ = some (.int .i64 2) ∧ w'.cell? ⟨o, 2, none⟩ = some (.int .i64 29) ∧ w'.cell? ⟨o, 3, none⟩ = some (.int .i64 0) ∧ w'.cell? ⟨o, 4, none⟩ = some (.int .i64 0) ∧ w'.cell? ⟨o, 5, none⟩ = some (.string ⟨#[48]⟩) ∧ w'.cell? ⟨o, 6, none⟩ = some (.int .i64 0) ∧ w'.cell? ⟨o, 7, none⟩ = some (.bool false) ∧ Hid (MoAt w' n 2023 2 28 0 0 ⟨#[48]⟩ 0 false) ∧ Hid (MoAt w' o 2024 2 29 0 0 ⟨#[48]⟩ 0 false) ∧ Hid (Below w21.heap.size w21 w'))
    (first | exact hS.out | assumption | exact SL.out _ _ (by assumption) (by assumption))
    (first | (go_at_call 32; refine (at_c _ _ _ _ _ _ _).mono ?_; rintro e w' ⟨rfl, hbb⟩))
  rename_i hH
  obtain ⟨-, -, -, -, -, -, -, -, -, -, -, -, -, -, -, -, hn, ho, hb⟩ := hH
  clear SL SO hS
  obtain ⟨w50, hw⟩ : ∃ w, w = w' := ⟨_, rfl⟩
  have hB50 : Hid (Below W.heap.size W w50) := Lib.hid (by rw [hw]; exact hB21.out.trans (hb.out.mono hB21.out.size))
  have hL50 := Lib.hid (hL.out.below hB50.out hL.out.size)
  rw [← hw]
  clear hw hn ho hb hB21 hL21 hMn21 hMo21
  go_wp2_with fail
  refine (d5.out w50 hL50.out).mono ?_
  rintro e w51 ⟨rfl, hb⟩
  have hB51 := Lib.hid (hB50.out.trans (hb.mono hB50.out.size))
  have hL51 := Lib.hid (hL.out.below hB51.out hL.out.size)
  clear hb hB50 hL50
  obtain ⟨d, hd⟩ : ∃ q, q = w51.heap.size := ⟨_, rfl⟩
  obtain ⟨w52, hw⟩ : ∃ w, w = w51.alloc (.cells #[.int .i64 2026, .int .i64 11, .int .i64 16, .int .i64 20, .int .i64 0, .string ⟨#[48]⟩, .int .i64 0, .bool false] 24) := ⟨_, rfl⟩
  have hb : Below w51.heap.size w51 w52 := by rw [hw]; exact (Below.refl _ _).alloc (Nat.le_refl _) _
  have hMd52 : Hid (MoAt w52 d 2026 11 16 20 0 ⟨#[48]⟩ 0 false) := Lib.hid (by rw [hw, hd]; exact (MapKept.heap_alloc _ _).1)
  have hged : Hid (W.heap.size ≤ d) := Lib.hid (by rw [hd]; exact hB51.out.size)
  replace hd := Lib.hid hd
  replace hw := Lib.hid hw
  have hB52 := Lib.hid (hB51.out.trans (hb.mono hB51.out.size))
  have hL52 := Lib.hid (hL.out.below hB52.out hL.out.size)
  clear hb hB51 hL51
  go_upto_region 20 with fail
  rw [← hw.out, ← hd.out]
  clear hw hd
  obtain ⟨cd0, cd1, cd2, cd3, cd4, cd5, cd6, cd7⟩ := MomAt.of_heap hMd52.out
  have ff6 := Lib.frozen_of_heap hMd52.out 6
  have ff7 := Lib.frozen_of_heap hMd52.out 7
  obtain ⟨w53, hw⟩ : ∃ w, w = ((w52.setCell ⟨d, 6, none⟩ (.int .i64 (-480))).setCell ⟨d, 7, none⟩ (.bool true)) := ⟨_, rfl⟩
  have hB53 : Hid (Below W.heap.size W w53) := Lib.hid (by rw [hw]; exact hB52.out.trans (((Below.refl _ _).setCell (p := ⟨d, 6, none⟩) hged.out _).setCell (p := ⟨d, 7, none⟩) hged.out _))
  have hL53 := Lib.hid (hL.out.below hB53.out hL.out.size)
  have hMd53 : Hid (MoAt w53 d 2026 11 16 20 0 ⟨#[48]⟩ (-480) true) := Lib.hid (by rw [hw]; exact (Lib.heap_setCell_same (i := 7) (Lib.heap_setCell_same (i := 6) hMd52.out _) _))
  replace hw := Lib.hid hw
  go_upto_region 21 with fail
  rw [← hw.out]
  clear hw ff6 ff7
  clear cd0 cd1 cd2 cd3 cd4 cd5 cd6 cd7
  clear hB52 hL52 hMd52
  obtain ⟨cd0, cd1, cd2, cd3, cd4, cd5, cd6, cd7⟩ := MomAt.of_heap hMd53.out
  go_wp2_with fail
  refine (c11.out w53 hL53.out).mono ?_
  rintro e w54 ⟨rfl, hb⟩
  have hB54 := Lib.hid (hB53.out.trans (hb.mono hB53.out.size))
  have hL54 := Lib.hid (hL.out.below hB54.out hL.out.size)
  have hMd54 : Hid (MoAt w54 d 2026 11 16 20 0 ⟨#[48]⟩ (-480) true) := Lib.hid ((hb.block d (heap_lt hMd53.out)).trans hMd53.out)
  clear hb hB53 hL53 hMd53
  clear cd0 cd1 cd2 cd3 cd4 cd5 cd6 cd7
  obtain ⟨p, hp⟩ : ∃ q, q = w54.heap.size := ⟨_, rfl⟩
  obtain ⟨w55, hw⟩ : ∃ w, w = w54.alloc (.cells #[.int .i64 2026, .int .i64 11, .int .i64 17, .int .i64 5, .int .i64 0, .string ⟨#[48]⟩, .int .i64 60, .bool true] 24) := ⟨_, rfl⟩
  have hb : Below w54.heap.size w54 w55 := by rw [hw]; exact (Below.refl _ _).alloc (Nat.le_refl _) _
  have hMp55 : Hid (MoAt w55 p 2026 11 17 5 0 ⟨#[48]⟩ 60 true) := Lib.hid (by rw [hw, hp]; exact (MapKept.heap_alloc _ _).1)
  have hgep : Hid (W.heap.size ≤ p) := Lib.hid (by rw [hp]; exact hB54.out.size)
  replace hp := Lib.hid hp
  replace hw := Lib.hid hw
  have hB55 := Lib.hid (hB54.out.trans (hb.mono hB54.out.size))
  have hL55 := Lib.hid (hL.out.below hB55.out hL.out.size)
  clear hb hB54 hL54
  go_upto_region 22 with fail
  rw [← hw.out, ← hp.out]
  clear hw hp
  obtain ⟨cp0, cp1, cp2, cp3, cp4, cp5, cp6, cp7⟩ := MomAt.of_heap hMp55.out
  go_wp2_with fail
  refine (c12.out w55 hL55.out).mono ?_
  rintro e w56 ⟨rfl, hb⟩
  have hB56 := Lib.hid (hB55.out.trans (hb.mono hB55.out.size))
  have hL56 := Lib.hid (hL.out.below hB56.out hL.out.size)
  have hMp56 : Hid (MoAt w56 p 2026 11 17 5 0 ⟨#[48]⟩ 60 true) := Lib.hid ((hb.block p (heap_lt hMp55.out)).trans hMp55.out)
  clear hb hB55 hL55 hMp55
  clear cp0 cp1 cp2 cp3 cp4 cp5 cp6 cp7
  go_wp2_with fail
  refine (d6.out w56 hL56.out).mono ?_
  rintro e w57 ⟨rfl, hb⟩
  have hB57 := Lib.hid (hB56.out.trans (hb.mono hB56.out.size))
  have hL57 := Lib.hid (hL.out.below hB57.out hL.out.size)
  clear hb hB56 hL56
  go_wp2_with fail
  refine (c13.out w57 hL57.out).mono ?_
  rintro e w58 ⟨rfl, hb⟩
  have hB58 := Lib.hid (hB57.out.trans (hb.mono hB57.out.size))
  have hL58 := Lib.hid (hL.out.below hB58.out hL.out.size)
  clear hb hB57 hL57
  go_wp2_with fail
  refine (d7.out w58 hL58.out).mono ?_
  rintro e w59 ⟨rfl, hb⟩
  have hB59 := Lib.hid (hB58.out.trans (hb.mono hB58.out.size))
  have hL59 := Lib.hid (hL.out.below hB59.out hL.out.size)
  clear hb hB58 hL58
  go_wp2_with fail
  refine (c14.out w59 hL59.out).mono ?_
  rintro e w60 ⟨rfl, hb⟩
  have hB60 := Lib.hid (hB59.out.trans (hb.mono hB59.out.size))
  have hL60 := Lib.hid (hL.out.below hB60.out hL.out.size)
  clear hb hB59 hL59
  go_wp2_with fail
  refine (c15.out w60 hL60.out).mono ?_
  rintro e w61 ⟨rfl, hb⟩
  have hB61 := Lib.hid (hB60.out.trans (hb.mono hB60.out.size))
  have hL61 := Lib.hid (hL.out.below hB61.out hL.out.size)
  clear hb hB60 hL60
  go_wp2_with fail
  refine (works_c w61 hL61.out).mono ?_
  rintro e w ⟨rfl, hb⟩
  go_wp2_with fail
  go_ret
  exact ⟨rfl, hB61.out.trans (hb.mono hB61.out.size)⟩
end Go.Proofs.YtgobpoeccdgeiaaGreatDoor
