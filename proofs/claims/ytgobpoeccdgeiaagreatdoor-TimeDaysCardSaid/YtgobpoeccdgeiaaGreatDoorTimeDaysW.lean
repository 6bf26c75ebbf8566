/- TimeDays: a day later is the next weekday; 400 years later it is the same: the walk. (Printed by gendays.py.) -/
import Derived.Test.YtgobpoeccdgeiaaGreatDoorOe
import Derived.Deep.CutRange
namespace Go.Proofs.YtgobpoeccdgeiaaGreatDoor
open Go.RowKit NumP DurP TimeP Go.Proofs.YtgobpoeccdgeiaaGreatDoorW.PrintWords
set_option linter.unusedVariables false

set_option maxRecDepth 100000 in
set_option maxHeartbeats 4000000 in
theorem timeDays_walk (m : MB) (W : World) (hL : LaidT W) : Calls Tryz.prog 10 #[.agg #[.int .i64 m.y, .int .i64 m.mo, .int .i64 m.d, .int .i64 m.h, .int .i64 m.mi, .string m.s, .int .i64 m.z, .bool m.has]] W (fun e w' => e = .returned (.bool true) ∧ Below W.heap.size W w') := by
  by_cases hs : (m.s.size : Int) > 300
  · obtain ⟨q, hq⟩ : ∃ q, q = W.heap.size := ⟨_, rfl⟩
    obtain ⟨w1, hw⟩ : ∃ w, w = W.alloc (.cells #[.int .i64 m.y, .int .i64 m.mo, .int .i64 m.d, .int .i64 m.h, .int .i64 m.mi, .string m.s, .int .i64 m.z, .bool m.has] 24) := ⟨_, rfl⟩
    have hB1 : Hid (Below W.heap.size W w1) := Lib.hid (by rw [hw]; exact (Below.refl _ _).alloc (Nat.le_refl _) _)
    have hL1 := Lib.hid (hL.below hB1.out hL.size)
    have hMq1 : Hid (MoAt w1 q m.y m.mo m.d m.h m.mi m.s m.z m.has) := Lib.hid (by rw [hw, hq]; exact (MapKept.heap_alloc _ _).1)
    have hgeq : Hid (W.heap.size ≤ q) := Lib.hid (by rw [hq]; exact Nat.le_refl _)
    replace hq := Lib.hid hq
    replace hw := Lib.hid hw
    replace hL := Lib.hid hL
    go_enter Tryz.func10, Tryz.ntmps10
    go_upto_region 1 with fail
    rw [← hw.out, ← hq.out]
    clear hw
    obtain ⟨cq0, cq1, cq2, cq3, cq4, cq5, cq6, cq7⟩ := MomAt.of_heap hMq1.out
    go_wp2_with fail
    refine (works_c w1 hL1.out).mono ?_
    rintro e w ⟨rfl, hb⟩
    go_wp2_with fail
    go_ret
    exact ⟨rfl, hB1.out.trans (hb.mono hB1.out.size)⟩
  · have hsm : m.s.size ≤ 1000 := by omega
    by_cases hv : validP m.P = true
    · obtain ⟨w1, w7⟩ := week_range hv
      obtain ⟨wd, ew⟩ : ∃ k, weekdayP m.P = k := ⟨_, rfl⟩
      rw [ew] at w1 w7
      have gw : (wd == 0) = false := by simp; omega
      have c1 : Hid (∀ w, LaidT w → Calls Tryz.prog 22 #[.agg #[.int .i64 m.y, .int .i64 m.mo, .int .i64 m.d, .int .i64 m.h, .int .i64 m.mi, .string m.s, .int .i64 m.z, .bool m.has]] w (fun e w' => e = .returned (.int .i64 wd) ∧ Below w.heap.size w w')) := Lib.hid (fun w hw => Weekday_c m wd ew hsm w hw)
      obtain ⟨a, ka, ea⟩ := MB.ex (addSecondsP m.P [56, 54, 52, 48, 48])
      by_cases hka : ka = 0
      · subst hka
        have hnx := day_next ea
        rw [ew] at hnx
        have hva : a.s.size ≤ 1000 := by
          have h1 : validP a.P = true := by
            obtain ⟨c, s, t, -, -, -, h5, -⟩ := sums_law ea
            have := seconds_err (m := a.P)
            rw [h5] at this
            cases h : validP a.P with
            | true => rfl
            | false => rw [h] at this; cases this
          rw [← list_len]; have : a.s.data.toList.length ≤ 60 := valid_short h1; omega
        have c2 : Hid (∀ w, LaidT w → Calls Tryz.prog 28 #[.agg #[.int .i64 m.y, .int .i64 m.mo, .int .i64 m.d, .int .i64 m.h, .int .i64 m.mi, .string m.s, .int .i64 m.z, .bool m.has], .string ⟨#[56, 54, 52, 48, 48]⟩] w (fun e w' => e = .returned (.tuple #[.agg #[.int .i64 a.y, .int .i64 a.mo, .int .i64 a.d, .int .i64 a.h, .int .i64 a.mi, .string a.s, .int .i64 a.z, .bool a.has], .int .i64 0]) ∧ Below w.heap.size w w')) := Lib.hid (fun w hw => Secs_c m a ⟨#[56, 54, 52, 48, 48]⟩ 0 ea hsm (by decide) w hw)
        have c3 : Hid (∀ w, LaidT w → Calls Tryz.prog 22 #[.agg #[.int .i64 a.y, .int .i64 a.mo, .int .i64 a.d, .int .i64 a.h, .int .i64 a.mi, .string a.s, .int .i64 a.z, .bool a.has]] w (fun e w' => e = .returned (.int .i64 (wd % 7 + 1)) ∧ Below w.heap.size w w')) := Lib.hid (fun w hw => Weekday_c a _ hnx hva w hw)
        clear ea hnx
        obtain ⟨b, kb, eb⟩ := MB.ex (addMonthsP m.P 4800)
        by_cases hkb : kb = 0
        · subst hkb
          obtain ⟨hw4, hd4⟩ := years_400 eb
          rw [ew] at hw4
          have hvb : b.s.data.toList.length ≤ 60 := by
            obtain ⟨b', -, -, -, -, hbs⟩ := months_there eb
            have : b.s.data.toList = m.s.data.toList := hbs
            rw [this]; exact valid_short hv
          have hsb : b.s.size ≤ 1000 := by rw [← list_len]; omega
          have gd : (b.d != m.d) = false := by have : b.d = m.d := hd4; simpa using this
          have c4 : Hid (∀ w, LaidT w → Calls Tryz.prog 24 #[.agg #[.int .i64 m.y, .int .i64 m.mo, .int .i64 m.d, .int .i64 m.h, .int .i64 m.mi, .string m.s, .int .i64 m.z, .bool m.has], .int .i64 4800] w (fun e w' => e = .returned (.tuple #[.agg #[.int .i64 b.y, .int .i64 b.mo, .int .i64 b.d, .int .i64 b.h, .int .i64 b.mi, .string b.s, .int .i64 b.z, .bool b.has], .int .i64 0]) ∧ Below w.heap.size w w')) := Lib.hid (fun w hw => Months_c m b 4800 0 eb hsm w hw)
          have c5 : Hid (∀ w, LaidT w → Calls Tryz.prog 22 #[.agg #[.int .i64 b.y, .int .i64 b.mo, .int .i64 b.d, .int .i64 b.h, .int .i64 b.mi, .string b.s, .int .i64 b.z, .bool b.has]] w (fun e w' => e = .returned (.int .i64 wd) ∧ Below w.heap.size w w')) := Lib.hid (fun w hw => Weekday_c b wd hw4 hsb w hw)
          clear eb hw4 hd4 hvb ew
          replace hv := Lib.hid hv
          obtain ⟨q, hq⟩ : ∃ q, q = W.heap.size := ⟨_, rfl⟩
          obtain ⟨w1, hw⟩ : ∃ w, w = W.alloc (.cells #[.int .i64 m.y, .int .i64 m.mo, .int .i64 m.d, .int .i64 m.h, .int .i64 m.mi, .string m.s, .int .i64 m.z, .bool m.has] 24) := ⟨_, rfl⟩
          have hB1 : Hid (Below W.heap.size W w1) := Lib.hid (by rw [hw]; exact (Below.refl _ _).alloc (Nat.le_refl _) _)
          have hL1 := Lib.hid (hL.below hB1.out hL.size)
          have hMq1 : Hid (MoAt w1 q m.y m.mo m.d m.h m.mi m.s m.z m.has) := Lib.hid (by rw [hw, hq]; exact (MapKept.heap_alloc _ _).1)
          have hgeq : Hid (W.heap.size ≤ q) := Lib.hid (by rw [hq]; exact Nat.le_refl _)
          replace hq := Lib.hid hq
          replace hw := Lib.hid hw
          replace hL := Lib.hid hL
          go_enter Tryz.func10, Tryz.ntmps10
          go_upto_region 1 with fail
          rw [← hw.out, ← hq.out]
          clear hw
          obtain ⟨cq0, cq1, cq2, cq3, cq4, cq5, cq6, cq7⟩ := MomAt.of_heap hMq1.out
          go_wp2_with fail
          refine (c1.out w1 hL1.out).mono ?_
          rintro e w2 ⟨rfl, hb⟩
          have hB2 := Lib.hid (hB1.out.trans (hb.mono hB1.out.size))
          have hL2 := Lib.hid (hL.out.below hB2.out hL.out.size)
          have hMq2 : Hid (MoAt w2 q m.y m.mo m.d m.h m.mi m.s m.z m.has) := Lib.hid ((hb.block q (heap_lt hMq1.out)).trans hMq1.out)
          clear hb hB1 hL1 hMq1
          clear cq0 cq1 cq2 cq3 cq4 cq5 cq6 cq7
          obtain ⟨cq0, cq1, cq2, cq3, cq4, cq5, cq6, cq7⟩ := MomAt.of_heap hMq2.out
          go_wp2_with fail
          refine (c2.out w2 hL2.out).mono ?_
          rintro e w3 ⟨rfl, hb⟩
          have hB3 := Lib.hid (hB2.out.trans (hb.mono hB2.out.size))
          have hL3 := Lib.hid (hL.out.below hB3.out hL.out.size)
          have hMq3 : Hid (MoAt w3 q m.y m.mo m.d m.h m.mi m.s m.z m.has) := Lib.hid ((hb.block q (heap_lt hMq2.out)).trans hMq2.out)
          clear hb hB2 hL2 hMq2
          clear cq0 cq1 cq2 cq3 cq4 cq5 cq6 cq7
          obtain ⟨p1, hp1⟩ : ∃ q, q = w3.heap.size := ⟨_, rfl⟩
          obtain ⟨w4, hw⟩ : ∃ w, w = w3.alloc (.cells #[.int .i64 a.y, .int .i64 a.mo, .int .i64 a.d, .int .i64 a.h, .int .i64 a.mi, .string a.s, .int .i64 a.z, .bool a.has] 24) := ⟨_, rfl⟩
          have hb : Below w3.heap.size w3 w4 := by rw [hw]; exact (Below.refl _ _).alloc (Nat.le_refl _) _
          have hMp14 : Hid (MoAt w4 p1 a.y a.mo a.d a.h a.mi a.s a.z a.has) := Lib.hid (by rw [hw, hp1]; exact (MapKept.heap_alloc _ _).1)
          have hgep1 : Hid (W.heap.size ≤ p1) := Lib.hid (by rw [hp1]; exact hB3.out.size)
          have hnqp1 : Hid (q ≠ p1) := Lib.hid (by rw [hp1]; exact Nat.ne_of_lt (heap_lt hMq3.out))
          have hnp1q : Hid (p1 ≠ q) := Lib.hid (fun e => hnqp1.out e.symm)
          replace hp1 := Lib.hid hp1
          replace hw := Lib.hid hw
          have hB4 := Lib.hid (hB3.out.trans (hb.mono hB3.out.size))
          have hL4 := Lib.hid (hL.out.below hB4.out hL.out.size)
          have hMq4 : Hid (MoAt w4 q m.y m.mo m.d m.h m.mi m.s m.z m.has) := Lib.hid ((hb.block q (heap_lt hMq3.out)).trans hMq3.out)
          clear hb hB3 hL3 hMq3
          go_upto_region 8 with fail
          rw [← hw.out, ← hp1.out]
          clear hw hp1
          obtain ⟨cp10, cp11, cp12, cp13, cp14, cp15, cp16, cp17⟩ := MomAt.of_heap hMp14.out
          go_wp2_with fail
          refine (c3.out w4 hL4.out).mono ?_
          rintro e w5 ⟨rfl, hb⟩
          have hB5 := Lib.hid (hB4.out.trans (hb.mono hB4.out.size))
          have hL5 := Lib.hid (hL.out.below hB5.out hL.out.size)
          have hMq5 : Hid (MoAt w5 q m.y m.mo m.d m.h m.mi m.s m.z m.has) := Lib.hid ((hb.block q (heap_lt hMq4.out)).trans hMq4.out)
          have hMp15 : Hid (MoAt w5 p1 a.y a.mo a.d a.h a.mi a.s a.z a.has) := Lib.hid ((hb.block p1 (heap_lt hMp14.out)).trans hMp14.out)
          clear hb hB4 hL4 hMq4 hMp14
          clear cp10 cp11 cp12 cp13 cp14 cp15 cp16 cp17
          obtain ⟨cq0, cq1, cq2, cq3, cq4, cq5, cq6, cq7⟩ := MomAt.of_heap hMq5.out
          go_wp2_with fail
          refine (c4.out w5 hL5.out).mono ?_
          rintro e w6 ⟨rfl, hb⟩
          have hB6 := Lib.hid (hB5.out.trans (hb.mono hB5.out.size))
          have hL6 := Lib.hid (hL.out.below hB6.out hL.out.size)
          have hMq6 : Hid (MoAt w6 q m.y m.mo m.d m.h m.mi m.s m.z m.has) := Lib.hid ((hb.block q (heap_lt hMq5.out)).trans hMq5.out)
          have hMp16 : Hid (MoAt w6 p1 a.y a.mo a.d a.h a.mi a.s a.z a.has) := Lib.hid ((hb.block p1 (heap_lt hMp15.out)).trans hMp15.out)
          clear hb hB5 hL5 hMq5 hMp15
          clear cq0 cq1 cq2 cq3 cq4 cq5 cq6 cq7
          obtain ⟨p2, hp2⟩ : ∃ q, q = w6.heap.size := ⟨_, rfl⟩
          obtain ⟨w7, hw⟩ : ∃ w, w = w6.alloc (.cells #[.int .i64 b.y, .int .i64 b.mo, .int .i64 b.d, .int .i64 b.h, .int .i64 b.mi, .string b.s, .int .i64 b.z, .bool b.has] 24) := ⟨_, rfl⟩
          have hb : Below w6.heap.size w6 w7 := by rw [hw]; exact (Below.refl _ _).alloc (Nat.le_refl _) _
          have hMp27 : Hid (MoAt w7 p2 b.y b.mo b.d b.h b.mi b.s b.z b.has) := Lib.hid (by rw [hw, hp2]; exact (MapKept.heap_alloc _ _).1)
          have hgep2 : Hid (W.heap.size ≤ p2) := Lib.hid (by rw [hp2]; exact hB6.out.size)
          have hnqp2 : Hid (q ≠ p2) := Lib.hid (by rw [hp2]; exact Nat.ne_of_lt (heap_lt hMq6.out))
          have hnp2q : Hid (p2 ≠ q) := Lib.hid (fun e => hnqp2.out e.symm)
          have hnp1p2 : Hid (p1 ≠ p2) := Lib.hid (by rw [hp2]; exact Nat.ne_of_lt (heap_lt hMp16.out))
          have hnp2p1 : Hid (p2 ≠ p1) := Lib.hid (fun e => hnp1p2.out e.symm)
          replace hp2 := Lib.hid hp2
          replace hw := Lib.hid hw
          have hB7 := Lib.hid (hB6.out.trans (hb.mono hB6.out.size))
          have hL7 := Lib.hid (hL.out.below hB7.out hL.out.size)
          have hMq7 : Hid (MoAt w7 q m.y m.mo m.d m.h m.mi m.s m.z m.has) := Lib.hid ((hb.block q (heap_lt hMq6.out)).trans hMq6.out)
          have hMp17 : Hid (MoAt w7 p1 a.y a.mo a.d a.h a.mi a.s a.z a.has) := Lib.hid ((hb.block p1 (heap_lt hMp16.out)).trans hMp16.out)
          clear hb hB6 hL6 hMq6 hMp16
          go_upto_region 11 with fail
          rw [← hw.out, ← hp2.out]
          clear hw hp2
          obtain ⟨cp20, cp21, cp22, cp23, cp24, cp25, cp26, cp27⟩ := MomAt.of_heap hMp27.out
          go_wp2_with fail
          refine (c5.out w7 hL7.out).mono ?_
          rintro e w8 ⟨rfl, hb⟩
          have hB8 := Lib.hid (hB7.out.trans (hb.mono hB7.out.size))
          have hL8 := Lib.hid (hL.out.below hB8.out hL.out.size)
          have hMq8 : Hid (MoAt w8 q m.y m.mo m.d m.h m.mi m.s m.z m.has) := Lib.hid ((hb.block q (heap_lt hMq7.out)).trans hMq7.out)
          have hMp18 : Hid (MoAt w8 p1 a.y a.mo a.d a.h a.mi a.s a.z a.has) := Lib.hid ((hb.block p1 (heap_lt hMp17.out)).trans hMp17.out)
          have hMp28 : Hid (MoAt w8 p2 b.y b.mo b.d b.h b.mi b.s b.z b.has) := Lib.hid ((hb.block p2 (heap_lt hMp27.out)).trans hMp27.out)
          clear hb hB7 hL7 hMq7 hMp17 hMp27
          clear cp20 cp21 cp22 cp23 cp24 cp25 cp26 cp27
          obtain ⟨cq0, cq1, cq2, cq3, cq4, cq5, cq6, cq7⟩ := MomAt.of_heap hMq8.out
          obtain ⟨cp20, cp21, cp22, cp23, cp24, cp25, cp26, cp27⟩ := MomAt.of_heap hMp28.out
          go_wp2_with fail
          refine (works_c w8 hL8.out).mono ?_
          rintro e w ⟨rfl, hb⟩
          go_wp2_with fail
          go_ret
          exact ⟨rfl, hB8.out.trans (hb.mono hB8.out.size)⟩
        · have hb : b.P = mom0 := by have := months_err (m := m.P) (k := 4800) (by rw [eb]; exact hkb); rw [eb] at this; exact this
          have gb : (kb == 0) = false := by simpa using hkb
          replace hkb := Lib.hid hkb
          have c4 : Hid (∀ w, LaidT w → Calls Tryz.prog 24 #[.agg #[.int .i64 m.y, .int .i64 m.mo, .int .i64 m.d, .int .i64 m.h, .int .i64 m.mi, .string m.s, .int .i64 m.z, .bool m.has], .int .i64 4800] w (fun e w' => e = .returned (.tuple #[.agg #[.int .i64 0, .int .i64 0, .int .i64 0, .int .i64 0, .int .i64 0, .string ⟨#[]⟩, .int .i64 0, .bool false], .int .i64 kb]) ∧ Below w.heap.size w w')) := Lib.hid (fun w hw => Months_c m ⟨0, 0, 0, 0, 0, ⟨#[]⟩, 0, false⟩ 4800 kb (by rw [eb, hb]; rfl) hsm w hw)
          clear eb hb ew
          replace hv := Lib.hid hv
          obtain ⟨q, hq⟩ : ∃ q, q = W.heap.size := ⟨_, rfl⟩
          obtain ⟨w1, hw⟩ : ∃ w, w = W.alloc (.cells #[.int .i64 m.y, .int .i64 m.mo, .int .i64 m.d, .int .i64 m.h, .int .i64 m.mi, .string m.s, .int .i64 m.z, .bool m.has] 24) := ⟨_, rfl⟩
          have hB1 : Hid (Below W.heap.size W w1) := Lib.hid (by rw [hw]; exact (Below.refl _ _).alloc (Nat.le_refl _) _)
          have hL1 := Lib.hid (hL.below hB1.out hL.size)
          have hMq1 : Hid (MoAt w1 q m.y m.mo m.d m.h m.mi m.s m.z m.has) := Lib.hid (by rw [hw, hq]; exact (MapKept.heap_alloc _ _).1)
          have hgeq : Hid (W.heap.size ≤ q) := Lib.hid (by rw [hq]; exact Nat.le_refl _)
          replace hq := Lib.hid hq
          replace hw := Lib.hid hw
          replace hL := Lib.hid hL
          go_enter Tryz.func10, Tryz.ntmps10
          go_upto_region 1 with fail
          rw [← hw.out, ← hq.out]
          clear hw
          obtain ⟨cq0, cq1, cq2, cq3, cq4, cq5, cq6, cq7⟩ := MomAt.of_heap hMq1.out
          go_wp2_with fail
          refine (c1.out w1 hL1.out).mono ?_
          rintro e w2 ⟨rfl, hb⟩
          have hB2 := Lib.hid (hB1.out.trans (hb.mono hB1.out.size))
          have hL2 := Lib.hid (hL.out.below hB2.out hL.out.size)
          have hMq2 : Hid (MoAt w2 q m.y m.mo m.d m.h m.mi m.s m.z m.has) := Lib.hid ((hb.block q (heap_lt hMq1.out)).trans hMq1.out)
          clear hb hB1 hL1 hMq1
          clear cq0 cq1 cq2 cq3 cq4 cq5 cq6 cq7
          obtain ⟨cq0, cq1, cq2, cq3, cq4, cq5, cq6, cq7⟩ := MomAt.of_heap hMq2.out
          go_wp2_with fail
          refine (c2.out w2 hL2.out).mono ?_
          rintro e w3 ⟨rfl, hb⟩
          have hB3 := Lib.hid (hB2.out.trans (hb.mono hB2.out.size))
          have hL3 := Lib.hid (hL.out.below hB3.out hL.out.size)
          have hMq3 : Hid (MoAt w3 q m.y m.mo m.d m.h m.mi m.s m.z m.has) := Lib.hid ((hb.block q (heap_lt hMq2.out)).trans hMq2.out)
          clear hb hB2 hL2 hMq2
          clear cq0 cq1 cq2 cq3 cq4 cq5 cq6 cq7
          obtain ⟨p1, hp1⟩ : ∃ q, q = w3.heap.size := ⟨_, rfl⟩
          obtain ⟨w4, hw⟩ : ∃ w, w = w3.alloc (.cells #[.int .i64 a.y, .int .i64 a.mo, .int .i64 a.d, .int .i64 a.h, .int .i64 a.mi, .string a.s, .int .i64 a.z, .bool a.has] 24) := ⟨_, rfl⟩
          have hb : Below w3.heap.size w3 w4 := by rw [hw]; exact (Below.refl _ _).alloc (Nat.le_refl _) _
          have hMp14 : Hid (MoAt w4 p1 a.y a.mo a.d a.h a.mi a.s a.z a.has) := Lib.hid (by rw [hw, hp1]; exact (MapKept.heap_alloc _ _).1)
          have hgep1 : Hid (W.heap.size ≤ p1) := Lib.hid (by rw [hp1]; exact hB3.out.size)
          have hnqp1 : Hid (q ≠ p1) := Lib.hid (by rw [hp1]; exact Nat.ne_of_lt (heap_lt hMq3.out))
          have hnp1q : Hid (p1 ≠ q) := Lib.hid (fun e => hnqp1.out e.symm)
          replace hp1 := Lib.hid hp1
          replace hw := Lib.hid hw
          have hB4 := Lib.hid (hB3.out.trans (hb.mono hB3.out.size))
          have hL4 := Lib.hid (hL.out.below hB4.out hL.out.size)
          have hMq4 : Hid (MoAt w4 q m.y m.mo m.d m.h m.mi m.s m.z m.has) := Lib.hid ((hb.block q (heap_lt hMq3.out)).trans hMq3.out)
          clear hb hB3 hL3 hMq3
          go_upto_region 8 with fail
          rw [← hw.out, ← hp1.out]
          clear hw hp1
          obtain ⟨cp10, cp11, cp12, cp13, cp14, cp15, cp16, cp17⟩ := MomAt.of_heap hMp14.out
          go_wp2_with fail
          refine (c3.out w4 hL4.out).mono ?_
          rintro e w5 ⟨rfl, hb⟩
          have hB5 := Lib.hid (hB4.out.trans (hb.mono hB4.out.size))
          have hL5 := Lib.hid (hL.out.below hB5.out hL.out.size)
          have hMq5 : Hid (MoAt w5 q m.y m.mo m.d m.h m.mi m.s m.z m.has) := Lib.hid ((hb.block q (heap_lt hMq4.out)).trans hMq4.out)
          have hMp15 : Hid (MoAt w5 p1 a.y a.mo a.d a.h a.mi a.s a.z a.has) := Lib.hid ((hb.block p1 (heap_lt hMp14.out)).trans hMp14.out)
          clear hb hB4 hL4 hMq4 hMp14
          clear cp10 cp11 cp12 cp13 cp14 cp15 cp16 cp17
          obtain ⟨cq0, cq1, cq2, cq3, cq4, cq5, cq6, cq7⟩ := MomAt.of_heap hMq5.out
          go_wp2_with fail
          refine (c4.out w5 hL5.out).mono ?_
          rintro e w6 ⟨rfl, hb⟩
          have hB6 := Lib.hid (hB5.out.trans (hb.mono hB5.out.size))
          have hL6 := Lib.hid (hL.out.below hB6.out hL.out.size)
          have hMq6 : Hid (MoAt w6 q m.y m.mo m.d m.h m.mi m.s m.z m.has) := Lib.hid ((hb.block q (heap_lt hMq5.out)).trans hMq5.out)
          have hMp16 : Hid (MoAt w6 p1 a.y a.mo a.d a.h a.mi a.s a.z a.has) := Lib.hid ((hb.block p1 (heap_lt hMp15.out)).trans hMp15.out)
          clear hb hB5 hL5 hMq5 hMp15
          clear cq0 cq1 cq2 cq3 cq4 cq5 cq6 cq7
          obtain ⟨p2, hp2⟩ : ∃ q, q = w6.heap.size := ⟨_, rfl⟩
          obtain ⟨w7, hw⟩ : ∃ w, w = w6.alloc (.cells #[.int .i64 0, .int .i64 0, .int .i64 0, .int .i64 0, .int .i64 0, .string ⟨#[]⟩, .int .i64 0, .bool false] 24) := ⟨_, rfl⟩
          have hb : Below w6.heap.size w6 w7 := by rw [hw]; exact (Below.refl _ _).alloc (Nat.le_refl _) _
          have hMp27 : Hid (MoAt w7 p2 0 0 0 0 0 ⟨#[]⟩ 0 false) := Lib.hid (by rw [hw, hp2]; exact (MapKept.heap_alloc _ _).1)
          have hgep2 : Hid (W.heap.size ≤ p2) := Lib.hid (by rw [hp2]; exact hB6.out.size)
          have hnqp2 : Hid (q ≠ p2) := Lib.hid (by rw [hp2]; exact Nat.ne_of_lt (heap_lt hMq6.out))
          have hnp2q : Hid (p2 ≠ q) := Lib.hid (fun e => hnqp2.out e.symm)
          have hnp1p2 : Hid (p1 ≠ p2) := Lib.hid (by rw [hp2]; exact Nat.ne_of_lt (heap_lt hMp16.out))
          have hnp2p1 : Hid (p2 ≠ p1) := Lib.hid (fun e => hnp1p2.out e.symm)
          replace hp2 := Lib.hid hp2
          replace hw := Lib.hid hw
          have hB7 := Lib.hid (hB6.out.trans (hb.mono hB6.out.size))
          have hL7 := Lib.hid (hL.out.below hB7.out hL.out.size)
          have hMq7 : Hid (MoAt w7 q m.y m.mo m.d m.h m.mi m.s m.z m.has) := Lib.hid ((hb.block q (heap_lt hMq6.out)).trans hMq6.out)
          have hMp17 : Hid (MoAt w7 p1 a.y a.mo a.d a.h a.mi a.s a.z a.has) := Lib.hid ((hb.block p1 (heap_lt hMp16.out)).trans hMp16.out)
          clear hb hB6 hL6 hMq6 hMp16
          go_upto_region 11 with fail
          rw [← hw.out, ← hp2.out]
          clear hw hp2
          obtain ⟨cq0, cq1, cq2, cq3, cq4, cq5, cq6, cq7⟩ := MomAt.of_heap hMq7.out
          obtain ⟨cp20, cp21, cp22, cp23, cp24, cp25, cp26, cp27⟩ := MomAt.of_heap hMp27.out
          go_wp2_with fail
          refine (works_c w7 hL7.out).mono ?_
          rintro e w ⟨rfl, hb⟩
          go_wp2_with fail
          go_ret
          exact ⟨rfl, hB7.out.trans (hb.mono hB7.out.size)⟩
      · have ha : a.P = mom0 := sums_zero ea hka
        have ga : (ka == 0) = false := by simpa using hka
        replace hka := Lib.hid hka
        have c2 : Hid (∀ w, LaidT w → Calls Tryz.prog 28 #[.agg #[.int .i64 m.y, .int .i64 m.mo, .int .i64 m.d, .int .i64 m.h, .int .i64 m.mi, .string m.s, .int .i64 m.z, .bool m.has], .string ⟨#[56, 54, 52, 48, 48]⟩] w (fun e w' => e = .returned (.tuple #[.agg #[.int .i64 0, .int .i64 0, .int .i64 0, .int .i64 0, .int .i64 0, .string ⟨#[]⟩, .int .i64 0, .bool false], .int .i64 ka]) ∧ Below w.heap.size w w')) := Lib.hid (fun w hw => Secs_c m ⟨0, 0, 0, 0, 0, ⟨#[]⟩, 0, false⟩ ⟨#[56, 54, 52, 48, 48]⟩ ka (by rw [← show a = ⟨0, 0, 0, 0, 0, ⟨#[]⟩, 0, false⟩ from MB.inj ha]; exact ea) hsm (by decide) w hw)
        clear ea ha
        obtain ⟨b, kb, eb⟩ := MB.ex (addMonthsP m.P 4800)
        by_cases hkb : kb = 0
        · subst hkb
          obtain ⟨hw4, hd4⟩ := years_400 eb
          rw [ew] at hw4
          have hvb : b.s.data.toList.length ≤ 60 := by
            obtain ⟨b', -, -, -, -, hbs⟩ := months_there eb
            have : b.s.data.toList = m.s.data.toList := hbs
            rw [this]; exact valid_short hv
          have hsb : b.s.size ≤ 1000 := by rw [← list_len]; omega
          have gd : (b.d != m.d) = false := by have : b.d = m.d := hd4; simpa using this
          have c4 : Hid (∀ w, LaidT w → Calls Tryz.prog 24 #[.agg #[.int .i64 m.y, .int .i64 m.mo, .int .i64 m.d, .int .i64 m.h, .int .i64 m.mi, .string m.s, .int .i64 m.z, .bool m.has], .int .i64 4800] w (fun e w' => e = .returned (.tuple #[.agg #[.int .i64 b.y, .int .i64 b.mo, .int .i64 b.d, .int .i64 b.h, .int .i64 b.mi, .string b.s, .int .i64 b.z, .bool b.has], .int .i64 0]) ∧ Below w.heap.size w w')) := Lib.hid (fun w hw => Months_c m b 4800 0 eb hsm w hw)
          have c5 : Hid (∀ w, LaidT w → Calls Tryz.prog 22 #[.agg #[.int .i64 b.y, .int .i64 b.mo, .int .i64 b.d, .int .i64 b.h, .int .i64 b.mi, .string b.s, .int .i64 b.z, .bool b.has]] w (fun e w' => e = .returned (.int .i64 wd) ∧ Below w.heap.size w w')) := Lib.hid (fun w hw => Weekday_c b wd hw4 hsb w hw)
          clear eb hw4 hd4 hvb ew
          replace hv := Lib.hid hv
          obtain ⟨q, hq⟩ : ∃ q, q = W.heap.size := ⟨_, rfl⟩
          obtain ⟨w1, hw⟩ : ∃ w, w = W.alloc (.cells #[.int .i64 m.y, .int .i64 m.mo, .int .i64 m.d, .int .i64 m.h, .int .i64 m.mi, .string m.s, .int .i64 m.z, .bool m.has] 24) := ⟨_, rfl⟩
          have hB1 : Hid (Below W.heap.size W w1) := Lib.hid (by rw [hw]; exact (Below.refl _ _).alloc (Nat.le_refl _) _)
          have hL1 := Lib.hid (hL.below hB1.out hL.size)
          have hMq1 : Hid (MoAt w1 q m.y m.mo m.d m.h m.mi m.s m.z m.has) := Lib.hid (by rw [hw, hq]; exact (MapKept.heap_alloc _ _).1)
          have hgeq : Hid (W.heap.size ≤ q) := Lib.hid (by rw [hq]; exact Nat.le_refl _)
          replace hq := Lib.hid hq
          replace hw := Lib.hid hw
          replace hL := Lib.hid hL
          go_enter Tryz.func10, Tryz.ntmps10
          go_upto_region 1 with fail
          rw [← hw.out, ← hq.out]
          clear hw
          obtain ⟨cq0, cq1, cq2, cq3, cq4, cq5, cq6, cq7⟩ := MomAt.of_heap hMq1.out
          go_wp2_with fail
          refine (c1.out w1 hL1.out).mono ?_
          rintro e w2 ⟨rfl, hb⟩
          have hB2 := Lib.hid (hB1.out.trans (hb.mono hB1.out.size))
          have hL2 := Lib.hid (hL.out.below hB2.out hL.out.size)
          have hMq2 : Hid (MoAt w2 q m.y m.mo m.d m.h m.mi m.s m.z m.has) := Lib.hid ((hb.block q (heap_lt hMq1.out)).trans hMq1.out)
          clear hb hB1 hL1 hMq1
          clear cq0 cq1 cq2 cq3 cq4 cq5 cq6 cq7
          obtain ⟨cq0, cq1, cq2, cq3, cq4, cq5, cq6, cq7⟩ := MomAt.of_heap hMq2.out
          go_wp2_with fail
          refine (c2.out w2 hL2.out).mono ?_
          rintro e w3 ⟨rfl, hb⟩
          have hB3 := Lib.hid (hB2.out.trans (hb.mono hB2.out.size))
          have hL3 := Lib.hid (hL.out.below hB3.out hL.out.size)
          have hMq3 : Hid (MoAt w3 q m.y m.mo m.d m.h m.mi m.s m.z m.has) := Lib.hid ((hb.block q (heap_lt hMq2.out)).trans hMq2.out)
          clear hb hB2 hL2 hMq2
          clear cq0 cq1 cq2 cq3 cq4 cq5 cq6 cq7
          obtain ⟨p1, hp1⟩ : ∃ q, q = w3.heap.size := ⟨_, rfl⟩
          obtain ⟨w4, hw⟩ : ∃ w, w = w3.alloc (.cells #[.int .i64 0, .int .i64 0, .int .i64 0, .int .i64 0, .int .i64 0, .string ⟨#[]⟩, .int .i64 0, .bool false] 24) := ⟨_, rfl⟩
          have hb : Below w3.heap.size w3 w4 := by rw [hw]; exact (Below.refl _ _).alloc (Nat.le_refl _) _
          have hMp14 : Hid (MoAt w4 p1 0 0 0 0 0 ⟨#[]⟩ 0 false) := Lib.hid (by rw [hw, hp1]; exact (MapKept.heap_alloc _ _).1)
          have hgep1 : Hid (W.heap.size ≤ p1) := Lib.hid (by rw [hp1]; exact hB3.out.size)
          have hnqp1 : Hid (q ≠ p1) := Lib.hid (by rw [hp1]; exact Nat.ne_of_lt (heap_lt hMq3.out))
          have hnp1q : Hid (p1 ≠ q) := Lib.hid (fun e => hnqp1.out e.symm)
          replace hp1 := Lib.hid hp1
          replace hw := Lib.hid hw
          have hB4 := Lib.hid (hB3.out.trans (hb.mono hB3.out.size))
          have hL4 := Lib.hid (hL.out.below hB4.out hL.out.size)
          have hMq4 : Hid (MoAt w4 q m.y m.mo m.d m.h m.mi m.s m.z m.has) := Lib.hid ((hb.block q (heap_lt hMq3.out)).trans hMq3.out)
          clear hb hB3 hL3 hMq3
          go_upto_region 8 with fail
          rw [← hw.out, ← hp1.out]
          clear hw hp1
          obtain ⟨cq0, cq1, cq2, cq3, cq4, cq5, cq6, cq7⟩ := MomAt.of_heap hMq4.out
          obtain ⟨cp10, cp11, cp12, cp13, cp14, cp15, cp16, cp17⟩ := MomAt.of_heap hMp14.out
          go_wp2_with fail
          refine (c4.out w4 hL4.out).mono ?_
          rintro e w5 ⟨rfl, hb⟩
          have hB5 := Lib.hid (hB4.out.trans (hb.mono hB4.out.size))
          have hL5 := Lib.hid (hL.out.below hB5.out hL.out.size)
          have hMq5 : Hid (MoAt w5 q m.y m.mo m.d m.h m.mi m.s m.z m.has) := Lib.hid ((hb.block q (heap_lt hMq4.out)).trans hMq4.out)
          have hMp15 : Hid (MoAt w5 p1 0 0 0 0 0 ⟨#[]⟩ 0 false) := Lib.hid ((hb.block p1 (heap_lt hMp14.out)).trans hMp14.out)
          clear hb hB4 hL4 hMq4 hMp14
          clear cq0 cq1 cq2 cq3 cq4 cq5 cq6 cq7
          clear cp10 cp11 cp12 cp13 cp14 cp15 cp16 cp17
          obtain ⟨p2, hp2⟩ : ∃ q, q = w5.heap.size := ⟨_, rfl⟩
          obtain ⟨w6, hw⟩ : ∃ w, w = w5.alloc (.cells #[.int .i64 b.y, .int .i64 b.mo, .int .i64 b.d, .int .i64 b.h, .int .i64 b.mi, .string b.s, .int .i64 b.z, .bool b.has] 24) := ⟨_, rfl⟩
          have hb : Below w5.heap.size w5 w6 := by rw [hw]; exact (Below.refl _ _).alloc (Nat.le_refl _) _
          have hMp26 : Hid (MoAt w6 p2 b.y b.mo b.d b.h b.mi b.s b.z b.has) := Lib.hid (by rw [hw, hp2]; exact (MapKept.heap_alloc _ _).1)
          have hgep2 : Hid (W.heap.size ≤ p2) := Lib.hid (by rw [hp2]; exact hB5.out.size)
          have hnqp2 : Hid (q ≠ p2) := Lib.hid (by rw [hp2]; exact Nat.ne_of_lt (heap_lt hMq5.out))
          have hnp2q : Hid (p2 ≠ q) := Lib.hid (fun e => hnqp2.out e.symm)
          have hnp1p2 : Hid (p1 ≠ p2) := Lib.hid (by rw [hp2]; exact Nat.ne_of_lt (heap_lt hMp15.out))
          have hnp2p1 : Hid (p2 ≠ p1) := Lib.hid (fun e => hnp1p2.out e.symm)
          replace hp2 := Lib.hid hp2
          replace hw := Lib.hid hw
          have hB6 := Lib.hid (hB5.out.trans (hb.mono hB5.out.size))
          have hL6 := Lib.hid (hL.out.below hB6.out hL.out.size)
          have hMq6 : Hid (MoAt w6 q m.y m.mo m.d m.h m.mi m.s m.z m.has) := Lib.hid ((hb.block q (heap_lt hMq5.out)).trans hMq5.out)
          have hMp16 : Hid (MoAt w6 p1 0 0 0 0 0 ⟨#[]⟩ 0 false) := Lib.hid ((hb.block p1 (heap_lt hMp15.out)).trans hMp15.out)
          clear hb hB5 hL5 hMq5 hMp15
          go_upto_region 11 with fail
          rw [← hw.out, ← hp2.out]
          clear hw hp2
          obtain ⟨cp20, cp21, cp22, cp23, cp24, cp25, cp26, cp27⟩ := MomAt.of_heap hMp26.out
          go_wp2_with fail
          refine (c5.out w6 hL6.out).mono ?_
          rintro e w7 ⟨rfl, hb⟩
          have hB7 := Lib.hid (hB6.out.trans (hb.mono hB6.out.size))
          have hL7 := Lib.hid (hL.out.below hB7.out hL.out.size)
          have hMq7 : Hid (MoAt w7 q m.y m.mo m.d m.h m.mi m.s m.z m.has) := Lib.hid ((hb.block q (heap_lt hMq6.out)).trans hMq6.out)
          have hMp17 : Hid (MoAt w7 p1 0 0 0 0 0 ⟨#[]⟩ 0 false) := Lib.hid ((hb.block p1 (heap_lt hMp16.out)).trans hMp16.out)
          have hMp27 : Hid (MoAt w7 p2 b.y b.mo b.d b.h b.mi b.s b.z b.has) := Lib.hid ((hb.block p2 (heap_lt hMp26.out)).trans hMp26.out)
          clear hb hB6 hL6 hMq6 hMp16 hMp26
          clear cp20 cp21 cp22 cp23 cp24 cp25 cp26 cp27
          obtain ⟨cq0, cq1, cq2, cq3, cq4, cq5, cq6, cq7⟩ := MomAt.of_heap hMq7.out
          obtain ⟨cp20, cp21, cp22, cp23, cp24, cp25, cp26, cp27⟩ := MomAt.of_heap hMp27.out
          go_wp2_with fail
          refine (works_c w7 hL7.out).mono ?_
          rintro e w ⟨rfl, hb⟩
          go_wp2_with fail
          go_ret
          exact ⟨rfl, hB7.out.trans (hb.mono hB7.out.size)⟩
        · have hb : b.P = mom0 := by have := months_err (m := m.P) (k := 4800) (by rw [eb]; exact hkb); rw [eb] at this; exact this
          have gb : (kb == 0) = false := by simpa using hkb
          replace hkb := Lib.hid hkb
          have c4 : Hid (∀ w, LaidT w → Calls Tryz.prog 24 #[.agg #[.int .i64 m.y, .int .i64 m.mo, .int .i64 m.d, .int .i64 m.h, .int .i64 m.mi, .string m.s, .int .i64 m.z, .bool m.has], .int .i64 4800] w (fun e w' => e = .returned (.tuple #[.agg #[.int .i64 0, .int .i64 0, .int .i64 0, .int .i64 0, .int .i64 0, .string ⟨#[]⟩, .int .i64 0, .bool false], .int .i64 kb]) ∧ Below w.heap.size w w')) := Lib.hid (fun w hw => Months_c m ⟨0, 0, 0, 0, 0, ⟨#[]⟩, 0, false⟩ 4800 kb (by rw [eb, hb]; rfl) hsm w hw)
          clear eb hb ew
          replace hv := Lib.hid hv
          obtain ⟨q, hq⟩ : ∃ q, q = W.heap.size := ⟨_, rfl⟩
          obtain ⟨w1, hw⟩ : ∃ w, w = W.alloc (.cells #[.int .i64 m.y, .int .i64 m.mo, .int .i64 m.d, .int .i64 m.h, .int .i64 m.mi, .string m.s, .int .i64 m.z, .bool m.has] 24) := ⟨_, rfl⟩
          have hB1 : Hid (Below W.heap.size W w1) := Lib.hid (by rw [hw]; exact (Below.refl _ _).alloc (Nat.le_refl _) _)
          have hL1 := Lib.hid (hL.below hB1.out hL.size)
          have hMq1 : Hid (MoAt w1 q m.y m.mo m.d m.h m.mi m.s m.z m.has) := Lib.hid (by rw [hw, hq]; exact (MapKept.heap_alloc _ _).1)
          have hgeq : Hid (W.heap.size ≤ q) := Lib.hid (by rw [hq]; exact Nat.le_refl _)
          replace hq := Lib.hid hq
          replace hw := Lib.hid hw
          replace hL := Lib.hid hL
          go_enter Tryz.func10, Tryz.ntmps10
          go_upto_region 1 with fail
          rw [← hw.out, ← hq.out]
          clear hw
          obtain ⟨cq0, cq1, cq2, cq3, cq4, cq5, cq6, cq7⟩ := MomAt.of_heap hMq1.out
          go_wp2_with fail
          refine (c1.out w1 hL1.out).mono ?_
          rintro e w2 ⟨rfl, hb⟩
          have hB2 := Lib.hid (hB1.out.trans (hb.mono hB1.out.size))
          have hL2 := Lib.hid (hL.out.below hB2.out hL.out.size)
          have hMq2 : Hid (MoAt w2 q m.y m.mo m.d m.h m.mi m.s m.z m.has) := Lib.hid ((hb.block q (heap_lt hMq1.out)).trans hMq1.out)
          clear hb hB1 hL1 hMq1
          clear cq0 cq1 cq2 cq3 cq4 cq5 cq6 cq7
          obtain ⟨cq0, cq1, cq2, cq3, cq4, cq5, cq6, cq7⟩ := MomAt.of_heap hMq2.out
          go_wp2_with fail
          refine (c2.out w2 hL2.out).mono ?_
          rintro e w3 ⟨rfl, hb⟩
          have hB3 := Lib.hid (hB2.out.trans (hb.mono hB2.out.size))
          have hL3 := Lib.hid (hL.out.below hB3.out hL.out.size)
          have hMq3 : Hid (MoAt w3 q m.y m.mo m.d m.h m.mi m.s m.z m.has) := Lib.hid ((hb.block q (heap_lt hMq2.out)).trans hMq2.out)
          clear hb hB2 hL2 hMq2
          clear cq0 cq1 cq2 cq3 cq4 cq5 cq6 cq7
          obtain ⟨p1, hp1⟩ : ∃ q, q = w3.heap.size := ⟨_, rfl⟩
          obtain ⟨w4, hw⟩ : ∃ w, w = w3.alloc (.cells #[.int .i64 0, .int .i64 0, .int .i64 0, .int .i64 0, .int .i64 0, .string ⟨#[]⟩, .int .i64 0, .bool false] 24) := ⟨_, rfl⟩
          have hb : Below w3.heap.size w3 w4 := by rw [hw]; exact (Below.refl _ _).alloc (Nat.le_refl _) _
          have hMp14 : Hid (MoAt w4 p1 0 0 0 0 0 ⟨#[]⟩ 0 false) := Lib.hid (by rw [hw, hp1]; exact (MapKept.heap_alloc _ _).1)
          have hgep1 : Hid (W.heap.size ≤ p1) := Lib.hid (by rw [hp1]; exact hB3.out.size)
          have hnqp1 : Hid (q ≠ p1) := Lib.hid (by rw [hp1]; exact Nat.ne_of_lt (heap_lt hMq3.out))
          have hnp1q : Hid (p1 ≠ q) := Lib.hid (fun e => hnqp1.out e.symm)
          replace hp1 := Lib.hid hp1
          replace hw := Lib.hid hw
          have hB4 := Lib.hid (hB3.out.trans (hb.mono hB3.out.size))
          have hL4 := Lib.hid (hL.out.below hB4.out hL.out.size)
          have hMq4 : Hid (MoAt w4 q m.y m.mo m.d m.h m.mi m.s m.z m.has) := Lib.hid ((hb.block q (heap_lt hMq3.out)).trans hMq3.out)
          clear hb hB3 hL3 hMq3
          go_upto_region 8 with fail
          rw [← hw.out, ← hp1.out]
          clear hw hp1
          obtain ⟨cq0, cq1, cq2, cq3, cq4, cq5, cq6, cq7⟩ := MomAt.of_heap hMq4.out
          obtain ⟨cp10, cp11, cp12, cp13, cp14, cp15, cp16, cp17⟩ := MomAt.of_heap hMp14.out
          go_wp2_with fail
          refine (c4.out w4 hL4.out).mono ?_
          rintro e w5 ⟨rfl, hb⟩
          have hB5 := Lib.hid (hB4.out.trans (hb.mono hB4.out.size))
          have hL5 := Lib.hid (hL.out.below hB5.out hL.out.size)
          have hMq5 : Hid (MoAt w5 q m.y m.mo m.d m.h m.mi m.s m.z m.has) := Lib.hid ((hb.block q (heap_lt hMq4.out)).trans hMq4.out)
          have hMp15 : Hid (MoAt w5 p1 0 0 0 0 0 ⟨#[]⟩ 0 false) := Lib.hid ((hb.block p1 (heap_lt hMp14.out)).trans hMp14.out)
          clear hb hB4 hL4 hMq4 hMp14
          clear cq0 cq1 cq2 cq3 cq4 cq5 cq6 cq7
          clear cp10 cp11 cp12 cp13 cp14 cp15 cp16 cp17
          obtain ⟨p2, hp2⟩ : ∃ q, q = w5.heap.size := ⟨_, rfl⟩
          obtain ⟨w6, hw⟩ : ∃ w, w = w5.alloc (.cells #[.int .i64 0, .int .i64 0, .int .i64 0, .int .i64 0, .int .i64 0, .string ⟨#[]⟩, .int .i64 0, .bool false] 24) := ⟨_, rfl⟩
          have hb : Below w5.heap.size w5 w6 := by rw [hw]; exact (Below.refl _ _).alloc (Nat.le_refl _) _
          have hMp26 : Hid (MoAt w6 p2 0 0 0 0 0 ⟨#[]⟩ 0 false) := Lib.hid (by rw [hw, hp2]; exact (MapKept.heap_alloc _ _).1)
          have hgep2 : Hid (W.heap.size ≤ p2) := Lib.hid (by rw [hp2]; exact hB5.out.size)
          have hnqp2 : Hid (q ≠ p2) := Lib.hid (by rw [hp2]; exact Nat.ne_of_lt (heap_lt hMq5.out))
          have hnp2q : Hid (p2 ≠ q) := Lib.hid (fun e => hnqp2.out e.symm)
          have hnp1p2 : Hid (p1 ≠ p2) := Lib.hid (by rw [hp2]; exact Nat.ne_of_lt (heap_lt hMp15.out))
          have hnp2p1 : Hid (p2 ≠ p1) := Lib.hid (fun e => hnp1p2.out e.symm)
          replace hp2 := Lib.hid hp2
          replace hw := Lib.hid hw
          have hB6 := Lib.hid (hB5.out.trans (hb.mono hB5.out.size))
          have hL6 := Lib.hid (hL.out.below hB6.out hL.out.size)
          have hMq6 : Hid (MoAt w6 q m.y m.mo m.d m.h m.mi m.s m.z m.has) := Lib.hid ((hb.block q (heap_lt hMq5.out)).trans hMq5.out)
          have hMp16 : Hid (MoAt w6 p1 0 0 0 0 0 ⟨#[]⟩ 0 false) := Lib.hid ((hb.block p1 (heap_lt hMp15.out)).trans hMp15.out)
          clear hb hB5 hL5 hMq5 hMp15
          go_upto_region 11 with fail
          rw [← hw.out, ← hp2.out]
          clear hw hp2
          obtain ⟨cq0, cq1, cq2, cq3, cq4, cq5, cq6, cq7⟩ := MomAt.of_heap hMq6.out
          obtain ⟨cp20, cp21, cp22, cp23, cp24, cp25, cp26, cp27⟩ := MomAt.of_heap hMp26.out
          go_wp2_with fail
          refine (works_c w6 hL6.out).mono ?_
          rintro e w ⟨rfl, hb⟩
          go_wp2_with fail
          go_ret
          exact ⟨rfl, hB6.out.trans (hb.mono hB6.out.size)⟩
    · rw [Bool.not_eq_true] at hv
      have ew := week_bad hv
      obtain ⟨S, k3, eS⟩ := SB.ex (secondsT m.P)
      have hk3 := seconds_err (m := m.P)
      rw [eS, hv] at hk3
      replace hk3 : k3 = 1 := hk3
      subst hk3
      have c1 : Hid (∀ w, LaidT w → Calls Tryz.prog 22 #[.agg #[.int .i64 m.y, .int .i64 m.mo, .int .i64 m.d, .int .i64 m.h, .int .i64 m.mi, .string m.s, .int .i64 m.z, .bool m.has]] w (fun e w' => e = .returned (.int .i64 0) ∧ Below w.heap.size w w')) := Lib.hid (fun w hw => Weekday_c m 0 ew hsm w hw)
      have c2 : Hid (∀ w, LaidT w → Calls Tryz.prog 20 #[.agg #[.int .i64 m.y, .int .i64 m.mo, .int .i64 m.d, .int .i64 m.h, .int .i64 m.mi, .string m.s, .int .i64 m.z, .bool m.has]] w (fun e w' => e = .returned (.tuple #[.string S, .int .i64 1]) ∧ Below w.heap.size w w')) := Lib.hid (fun w hw => Seconds_c m S 1 eS hsm w hw)
      clear ew eS
      replace hv := Lib.hid hv
      obtain ⟨q, hq⟩ : ∃ q, q = W.heap.size := ⟨_, rfl⟩
      obtain ⟨w1, hw⟩ : ∃ w, w = W.alloc (.cells #[.int .i64 m.y, .int .i64 m.mo, .int .i64 m.d, .int .i64 m.h, .int .i64 m.mi, .string m.s, .int .i64 m.z, .bool m.has] 24) := ⟨_, rfl⟩
      have hB1 : Hid (Below W.heap.size W w1) := Lib.hid (by rw [hw]; exact (Below.refl _ _).alloc (Nat.le_refl _) _)
      have hL1 := Lib.hid (hL.below hB1.out hL.size)
      have hMq1 : Hid (MoAt w1 q m.y m.mo m.d m.h m.mi m.s m.z m.has) := Lib.hid (by rw [hw, hq]; exact (MapKept.heap_alloc _ _).1)
      have hgeq : Hid (W.heap.size ≤ q) := Lib.hid (by rw [hq]; exact Nat.le_refl _)
      replace hq := Lib.hid hq
      replace hw := Lib.hid hw
      replace hL := Lib.hid hL
      go_enter Tryz.func10, Tryz.ntmps10
      go_upto_region 1 with fail
      rw [← hw.out, ← hq.out]
      clear hw
      obtain ⟨cq0, cq1, cq2, cq3, cq4, cq5, cq6, cq7⟩ := MomAt.of_heap hMq1.out
      go_wp2_with fail
      refine (c1.out w1 hL1.out).mono ?_
      rintro e w2 ⟨rfl, hb⟩
      have hB2 := Lib.hid (hB1.out.trans (hb.mono hB1.out.size))
      have hL2 := Lib.hid (hL.out.below hB2.out hL.out.size)
      have hMq2 : Hid (MoAt w2 q m.y m.mo m.d m.h m.mi m.s m.z m.has) := Lib.hid ((hb.block q (heap_lt hMq1.out)).trans hMq1.out)
      clear hb hB1 hL1 hMq1
      clear cq0 cq1 cq2 cq3 cq4 cq5 cq6 cq7
      obtain ⟨cq0, cq1, cq2, cq3, cq4, cq5, cq6, cq7⟩ := MomAt.of_heap hMq2.out
      go_wp2_with fail
      refine (c2.out w2 hL2.out).mono ?_
      rintro e w3 ⟨rfl, hb⟩
      have hB3 := Lib.hid (hB2.out.trans (hb.mono hB2.out.size))
      have hL3 := Lib.hid (hL.out.below hB3.out hL.out.size)
      have hMq3 : Hid (MoAt w3 q m.y m.mo m.d m.h m.mi m.s m.z m.has) := Lib.hid ((hb.block q (heap_lt hMq2.out)).trans hMq2.out)
      clear hb hB2 hL2 hMq2
      clear cq0 cq1 cq2 cq3 cq4 cq5 cq6 cq7
      obtain ⟨cq0, cq1, cq2, cq3, cq4, cq5, cq6, cq7⟩ := MomAt.of_heap hMq3.out
      go_wp2_with fail
      refine (works_c w3 hL3.out).mono ?_
      rintro e w ⟨rfl, hb⟩
      go_wp2_with fail
      go_ret
      exact ⟨rfl, hB3.out.trans (hb.mono hB3.out.size)⟩
end Go.Proofs.YtgobpoeccdgeiaaGreatDoor
