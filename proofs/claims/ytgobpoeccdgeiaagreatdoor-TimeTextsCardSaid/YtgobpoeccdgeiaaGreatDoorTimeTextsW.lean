/- TimeTexts: the texts, the seconds and the weekdays are those of the chapter: the walk. (Printed by gentexts7.py.) -/
import Derived.Test.YtgobpoeccdgeiaaGreatDoorR7j
import Derived.Test.YtgobpoeccdgeiaaGreatDoorOe
import Derived.Deep.CutRange
namespace Go.Proofs.YtgobpoeccdgeiaaGreatDoor
open Go.RowKit NumP DurP TimeP Go.Proofs.YtgobpoeccdgeiaaGreatDoorW.PrintWords
set_option linter.unusedVariables false

set_option maxRecDepth 100000 in
set_option maxHeartbeats 4000000 in
theorem timeTexts_walk (k : Int) (m : MB) (W : World) (hL : LaidT W) : Calls Tryz.prog 5 #[.int .i64 k, .agg #[.int .i64 m.y, .int .i64 m.mo, .int .i64 m.d, .int .i64 m.h, .int .i64 m.mi, .string m.s, .int .i64 m.z, .bool m.has]] W (fun e w' => e = .returned (.bool true) ∧ Below W.heap.size W w') := by
  by_cases hs : (m.s.size : Int) > 300
  · obtain ⟨q, hq⟩ : ∃ q, q = W.heap.size := ⟨_, rfl⟩
    obtain ⟨w1, hw⟩ : ∃ w, w = W.alloc (.cells #[.int .i64 m.y, .int .i64 m.mo, .int .i64 m.d, .int .i64 m.h, .int .i64 m.mi, .string m.s, .int .i64 m.z, .bool m.has] 24) := ⟨_, rfl⟩
    have hB1 : Hid (Below W.heap.size W w1) := Lib.hid (by rw [hw]; exact (Below.refl _ _).alloc (Nat.le_refl _) _)
    have hL1 := Lib.hid (hL.below hB1.out hL.size)
    have hMq1 : Hid (MoAt w1 q m.y m.mo m.d m.h m.mi m.s m.z m.has) := Lib.hid (by rw [hw, hq]; exact (MapKept.heap_alloc _ _).1)
    have hgeq : Hid (W.heap.size ≤ q) := Lib.hid (by rw [hq]; exact Nat.le_refl _)
    replace hq := Lib.hid hq
    replace hw := Lib.hid hw
    replace hL := Lib.hid hL
    go_enter Tryz.func5, Tryz.ntmps5
    go_upto_region 1 with fail
    rw [← hw.out, ← hq.out]
    clear hw
    obtain ⟨cq0, cq1, cq2, cq3, cq4, cq5, cq6, cq7⟩ := MomAt.of_heap hMq1.out
    go_wp2_with fail
    refine (works_c w1 hL1.out).mono ?_
    rintro e w ⟨rfl, hb⟩
    go_wp2_with fail
    go_ret
    exact ⟨rfl, hB1.out.trans (hb.mono hB1.out.size)⟩
  · have hsm : m.s.size ≤ 1000 := by omega
    obtain ⟨S, k1, e1⟩ := SB.ex (textMom k m.P)
    obtain ⟨U, k2, e2⟩ := SB.ex (secondsT m.P)
    obtain ⟨wd, e3⟩ : ∃ k, weekdayP m.P = k := ⟨_, rfl⟩
    have c1 : Hid (∀ w, LaidT w → Calls Tryz.prog 18 #[.int .i64 k, .agg #[.int .i64 m.y, .int .i64 m.mo, .int .i64 m.d, .int .i64 m.h, .int .i64 m.mi, .string m.s, .int .i64 m.z, .bool m.has]] w fun e w' => e = .returned (.tuple #[.string S, .int .i64 k1]) ∧ Below w.heap.size w w') := Lib.hid (fun w hw => Text_c m k S k1 e1 hsm w hw)
    have c2 : Hid (∀ w, LaidT w → Calls Tryz.prog 19 #[.int .i64 k, .agg #[.int .i64 m.y, .int .i64 m.mo, .int .i64 m.d, .int .i64 m.h, .int .i64 m.mi, .string m.s, .int .i64 m.z, .bool m.has]] w fun e w' => e = .returned (.tuple #[.string S, .int .i64 k1]) ∧ Below w.heap.size w w') := Lib.hid (fun w hw => Text7_c m k S k1 e1 hsm w)
    have c3 : Hid (∀ w, LaidT w → Calls Tryz.prog 20 #[.agg #[.int .i64 m.y, .int .i64 m.mo, .int .i64 m.d, .int .i64 m.h, .int .i64 m.mi, .string m.s, .int .i64 m.z, .bool m.has]] w fun e w' => e = .returned (.tuple #[.string U, .int .i64 k2]) ∧ Below w.heap.size w w') := Lib.hid (fun w hw => Seconds_c m U k2 e2 hsm w hw)
    have c4 : Hid (∀ w, LaidT w → Calls Tryz.prog 21 #[.agg #[.int .i64 m.y, .int .i64 m.mo, .int .i64 m.d, .int .i64 m.h, .int .i64 m.mi, .string m.s, .int .i64 m.z, .bool m.has]] w fun e w' => e = .returned (.tuple #[.string U, .int .i64 k2]) ∧ Below w.heap.size w w') := Lib.hid (fun w hw => Seconds7_c m U k2 e2 hsm w)
    have c5 : Hid (∀ w, LaidT w → Calls Tryz.prog 22 #[.agg #[.int .i64 m.y, .int .i64 m.mo, .int .i64 m.d, .int .i64 m.h, .int .i64 m.mi, .string m.s, .int .i64 m.z, .bool m.has]] w fun e w' => e = .returned (.int .i64 wd) ∧ Below w.heap.size w w') := Lib.hid (fun w hw => Weekday_c m wd e3 hsm w hw)
    have c6 : Hid (∀ w, LaidT w → Calls Tryz.prog 23 #[.agg #[.int .i64 m.y, .int .i64 m.mo, .int .i64 m.d, .int .i64 m.h, .int .i64 m.mi, .string m.s, .int .i64 m.z, .bool m.has]] w fun e w' => e = .returned (.int .i64 wd) ∧ Below w.heap.size w w') := Lib.hid (fun w hw => Weekday7_c m wd e3 hsm w)
    have cs : Hid (∀ w, LaidT w → Calls Tryz.prog 17 #[.agg #[.int .i64 m.y, .int .i64 m.mo, .int .i64 m.d, .int .i64 m.h, .int .i64 m.mi, .string m.s, .int .i64 m.z, .bool m.has]] w fun e w' => e = .returned (.agg #[.int .i64 m.y, .int .i64 m.mo, .int .i64 m.d, .int .i64 m.h, .int .i64 m.mi, .string m.s, .int .i64 m.z, .bool m.has]) ∧ Below w.heap.size w w') := Lib.hid (fun w hw => spec_c m w)
    clear e1 e2 e3
    have g1 : (S.toList == S.toList) = true := beq_self_eq_true _
    have g2 : (U.toList == U.toList) = true := beq_self_eq_true _
    have g3 : (k1 == k1) = true := beq_self_eq_true _
    have g4 : (k2 == k2) = true := beq_self_eq_true _
    have g5 : (wd == wd) = true := beq_self_eq_true _
    obtain ⟨q, hq⟩ : ∃ q, q = W.heap.size := ⟨_, rfl⟩
    obtain ⟨w1, hw⟩ : ∃ w, w = W.alloc (.cells #[.int .i64 m.y, .int .i64 m.mo, .int .i64 m.d, .int .i64 m.h, .int .i64 m.mi, .string m.s, .int .i64 m.z, .bool m.has] 24) := ⟨_, rfl⟩
    have hB1 : Hid (Below W.heap.size W w1) := Lib.hid (by rw [hw]; exact (Below.refl _ _).alloc (Nat.le_refl _) _)
    have hL1 := Lib.hid (hL.below hB1.out hL.size)
    have hMq1 : Hid (MoAt w1 q m.y m.mo m.d m.h m.mi m.s m.z m.has) := Lib.hid (by rw [hw, hq]; exact (MapKept.heap_alloc _ _).1)
    have hgeq : Hid (W.heap.size ≤ q) := Lib.hid (by rw [hq]; exact Nat.le_refl _)
    replace hq := Lib.hid hq
    replace hw := Lib.hid hw
    replace hL := Lib.hid hL
    go_enter Tryz.func5, Tryz.ntmps5
    go_upto_region 1 with fail
    rw [← hw.out, ← hq.out]
    clear hw
    obtain ⟨cq0, cq1, cq2, cq3, cq4, cq5, cq6, cq7⟩ := MomAt.of_heap hMq1.out
    go_wp2_with fail
    refine (c1.out w1 hL1.out).mono ?_
    rintro e w2 ⟨rfl, hb⟩
    have hB2 := Lib.hid (hB1.out.trans (hb.mono hB1.out.size))
    have hL2 := Lib.hid (hL.out.below hB2.out hL.out.size)
    have hMq2 : Hid (MoAt w2 q m.y m.mo m.d m.h m.mi m.s m.z m.has) := Lib.hid ((hb.block q (heap_lt hMq1.out)).trans hMq1.out)
    clear hb hB1 hL1 hMq1
    clear cq0 cq1 cq2 cq3 cq4 cq5 cq6 cq7
    obtain ⟨cq0, cq1, cq2, cq3, cq4, cq5, cq6, cq7⟩ := MomAt.of_heap hMq2.out
    go_wp2_with fail
    refine (cs.out w2 hL2.out).mono ?_
    rintro e w3 ⟨rfl, hb⟩
    have hB3 := Lib.hid (hB2.out.trans (hb.mono hB2.out.size))
    have hL3 := Lib.hid (hL.out.below hB3.out hL.out.size)
    have hMq3 : Hid (MoAt w3 q m.y m.mo m.d m.h m.mi m.s m.z m.has) := Lib.hid ((hb.block q (heap_lt hMq2.out)).trans hMq2.out)
    clear hb hB2 hL2 hMq2
    clear cq0 cq1 cq2 cq3 cq4 cq5 cq6 cq7
    go_wp2_with fail
    refine (c2.out w3 hL3.out).mono ?_
    rintro e w4 ⟨rfl, hb⟩
    have hB4 := Lib.hid (hB3.out.trans (hb.mono hB3.out.size))
    have hL4 := Lib.hid (hL.out.below hB4.out hL.out.size)
    have hMq4 : Hid (MoAt w4 q m.y m.mo m.d m.h m.mi m.s m.z m.has) := Lib.hid ((hb.block q (heap_lt hMq3.out)).trans hMq3.out)
    clear hb hB3 hL3 hMq3
    obtain ⟨cq0, cq1, cq2, cq3, cq4, cq5, cq6, cq7⟩ := MomAt.of_heap hMq4.out
    go_wp2_with fail
    refine (c3.out w4 hL4.out).mono ?_
    rintro e w5 ⟨rfl, hb⟩
    have hB5 := Lib.hid (hB4.out.trans (hb.mono hB4.out.size))
    have hL5 := Lib.hid (hL.out.below hB5.out hL.out.size)
    have hMq5 : Hid (MoAt w5 q m.y m.mo m.d m.h m.mi m.s m.z m.has) := Lib.hid ((hb.block q (heap_lt hMq4.out)).trans hMq4.out)
    clear hb hB4 hL4 hMq4
    clear cq0 cq1 cq2 cq3 cq4 cq5 cq6 cq7
    obtain ⟨cq0, cq1, cq2, cq3, cq4, cq5, cq6, cq7⟩ := MomAt.of_heap hMq5.out
    go_wp2_with fail
    refine (cs.out w5 hL5.out).mono ?_
    rintro e w6 ⟨rfl, hb⟩
    have hB6 := Lib.hid (hB5.out.trans (hb.mono hB5.out.size))
    have hL6 := Lib.hid (hL.out.below hB6.out hL.out.size)
    have hMq6 : Hid (MoAt w6 q m.y m.mo m.d m.h m.mi m.s m.z m.has) := Lib.hid ((hb.block q (heap_lt hMq5.out)).trans hMq5.out)
    clear hb hB5 hL5 hMq5
    clear cq0 cq1 cq2 cq3 cq4 cq5 cq6 cq7
    go_wp2_with fail
    refine (c4.out w6 hL6.out).mono ?_
    rintro e w7 ⟨rfl, hb⟩
    have hB7 := Lib.hid (hB6.out.trans (hb.mono hB6.out.size))
    have hL7 := Lib.hid (hL.out.below hB7.out hL.out.size)
    have hMq7 : Hid (MoAt w7 q m.y m.mo m.d m.h m.mi m.s m.z m.has) := Lib.hid ((hb.block q (heap_lt hMq6.out)).trans hMq6.out)
    clear hb hB6 hL6 hMq6
    have SL : Hid (∀ w' w'', (w'.cell? ⟨q, 0, none⟩ = some (.int .i64 m.y) ∧ w'.cell? ⟨q, 1, none⟩ = some (.int .i64 m.mo) ∧ w'.cell? ⟨q, 2, none⟩ = some (.int .i64 m.d) ∧ w'.cell? ⟨q, 3, none⟩ = some (.int .i64 m.h) ∧ w'.cell? ⟨q, 4, none⟩ = some (.int .i64 m.mi) ∧ w'.cell? ⟨q, 5, none⟩ = some (.string m.s) ∧ w'.cell? ⟨q, 6, none⟩ = some (.int .i64 m.z) ∧ w'.cell? ⟨q, 7, none⟩ = some (.bool m.has) ∧ Hid (MoAt w' q m.y m.mo m.d m.h m.mi m.s m.z m.has) ∧ Hid (Below w7.heap.size w7 w')) → Below w'.heap.size w' w'' → (w''.cell? ⟨q, 0, none⟩ = some (.int .i64 m.y) ∧ w''.cell? ⟨q, 1, none⟩ = some (.int .i64 m.mo) ∧ w''.cell? ⟨q, 2, none⟩ = some (.int .i64 m.d) ∧ w''.cell? ⟨q, 3, none⟩ = some (.int .i64 m.h) ∧ w''.cell? ⟨q, 4, none⟩ = some (.int .i64 m.mi) ∧ w''.cell? ⟨q, 5, none⟩ = some (.string m.s) ∧ w''.cell? ⟨q, 6, none⟩ = some (.int .i64 m.z) ∧ w''.cell? ⟨q, 7, none⟩ = some (.bool m.has) ∧ Hid (MoAt w'' q m.y m.mo m.d m.h m.mi m.s m.z m.has) ∧ Hid (Below w7.heap.size w7 w''))) := Lib.hid (by
      rintro w' w'' ⟨-, -, -, -, -, -, -, -, hq, hb⟩ hk
      have gq : MoAt w'' q m.y m.mo m.d m.h m.mi m.s m.z m.has := (hk.block q (heap_lt hq.out)).trans hq.out
      obtain ⟨cq0, cq1, cq2, cq3, cq4, cq5, cq6, cq7⟩ := MomAt.of_heap gq
      exact ⟨cq0, cq1, cq2, cq3, cq4, cq5, cq6, cq7, Lib.hid gq, Lib.hid (hb.out.trans (hk.mono hb.out.size))⟩)
    have SO : Hid (∀ w', (w'.cell? ⟨q, 0, none⟩ = some (.int .i64 m.y) ∧ w'.cell? ⟨q, 1, none⟩ = some (.int .i64 m.mo) ∧ w'.cell? ⟨q, 2, none⟩ = some (.int .i64 m.d) ∧ w'.cell? ⟨q, 3, none⟩ = some (.int .i64 m.h) ∧ w'.cell? ⟨q, 4, none⟩ = some (.int .i64 m.mi) ∧ w'.cell? ⟨q, 5, none⟩ = some (.string m.s) ∧ w'.cell? ⟨q, 6, none⟩ = some (.int .i64 m.z) ∧ w'.cell? ⟨q, 7, none⟩ = some (.bool m.has) ∧ Hid (MoAt w' q m.y m.mo m.d m.h m.mi m.s m.z m.has) ∧ Hid (Below w7.heap.size w7 w')) → LaidT w') := Lib.hid (by
      rintro w' ⟨-, -, -, -, -, -, -, -, hq, hb⟩
      exact hL.out.below (hB7.out.trans (hb.out.mono hB7.out.size)) hL.out.size)
    have hS := SL.out w7 w7.drew ⟨(MomAt.of_heap hMq7.out).c0, (MomAt.of_heap hMq7.out).c1, (MomAt.of_heap hMq7.out).c2, (MomAt.of_heap hMq7.out).c3, (MomAt.of_heap hMq7.out).c4, (MomAt.of_heap hMq7.out).c5, (MomAt.of_heap hMq7.out).c6, (MomAt.of_heap hMq7.out).c7, hMq7, Lib.hid (Below.refl _ _)⟩ (Below.refl _ _).drew
    replace hS := Lib.hid hS
    go_wp2_with fail
    go_region_held3 (fun w' => w'.cell? ⟨q, 0, none⟩ = some (.int .i64 m.y) ∧ w'.cell? ⟨q, 1, none⟩ = some (.int .i64 m.mo) ∧ w'.cell? ⟨q, 2, none⟩ = some (.int .i64 m.d) ∧ w'.cell? ⟨q, 3, none⟩ = some (.int .i64 m.h) ∧ w'.cell? ⟨q, 4, none⟩ = some (.int .i64 m.mi) ∧ w'.cell? ⟨q, 5, none⟩ = some (.string m.s) ∧ w'.cell? ⟨q, 6, none⟩ = some (.int .i64 m.z) ∧ w'.cell? ⟨q, 7, none⟩ = some (.bool m.has) ∧ Hid (MoAt w' q m.y m.mo m.d m.h m.mi m.s m.z m.has) ∧ Hid (Below w7.heap.size w7 w'))
      (first | exact hS.out | assumption | exact SL.out _ _ (by assumption) (by assumption))
      (first | (go_at_call 22; refine (c5.out _ (SO.out _ (by assumption))).mono ?_; rintro e w' ⟨rfl, hbb⟩) | (go_at_call 17; refine (cs.out _ (SO.out _ (by assumption))).mono ?_; rintro e w' ⟨rfl, hbb⟩) | (go_at_call 23; refine (c6.out _ (SO.out _ (by assumption))).mono ?_; rintro e w' ⟨rfl, hbb⟩) | (go_at_call 14; refine (works_c _ (SO.out _ (by assumption))).mono ?_; rintro e w' ⟨rfl, hbb⟩))
    rename_i hH
    obtain ⟨-, -, -, -, -, -, -, -, hq, hb⟩ := hH
    clear SL SO hS
    go_wp2_with fail
    go_ret
    exact ⟨rfl, hB7.out.trans (hb.out.mono hB7.out.size)⟩
end Go.Proofs.YtgobpoeccdgeiaaGreatDoor
