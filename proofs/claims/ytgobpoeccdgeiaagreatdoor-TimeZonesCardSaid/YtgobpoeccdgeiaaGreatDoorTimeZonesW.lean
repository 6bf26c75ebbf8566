/- TimeZones: a moment in another zone has the same seconds, and leads back; without a zone it has the same local time: the walk. (Printed by genzones.py.) -/
import Derived.Test.YtgobpoeccdgeiaaGreatDoorOe
namespace Go.Proofs.YtgobpoeccdgeiaaGreatDoor
open Go.RowKit NumP DurP TimeP Go.Proofs.YtgobpoeccdgeiaaGreatDoorW.PrintWords
set_option linter.unusedVariables false

set_option maxRecDepth 100000 in
set_option maxHeartbeats 4000000 in
theorem timeZones_walk (m : MB) (zone : Int) (W : World) (hL : LaidT W) : Calls Tryz.prog 8 #[.agg #[.int .i64 m.y, .int .i64 m.mo, .int .i64 m.d, .int .i64 m.h, .int .i64 m.mi, .string m.s, .int .i64 m.z, .bool m.has], .int .i64 zone] W (fun e w' => e = .returned (.bool true) ∧ Below W.heap.size W w') := by
  by_cases hs : (m.s.size : Int) > 300
  · obtain ⟨q, hq⟩ : ∃ q, q = W.heap.size := ⟨_, rfl⟩
    obtain ⟨w1, hw⟩ : ∃ w, w = W.alloc (.cells #[.int .i64 m.y, .int .i64 m.mo, .int .i64 m.d, .int .i64 m.h, .int .i64 m.mi, .string m.s, .int .i64 m.z, .bool m.has] 24) := ⟨_, rfl⟩
    have hB1 : Hid (Below W.heap.size W w1) := Lib.hid (by rw [hw]; exact (Below.refl _ _).alloc (Nat.le_refl _) _)
    have hL1 := Lib.hid (hL.below hB1.out hL.size)
    have hMq1 : Hid (MoAt w1 q m.y m.mo m.d m.h m.mi m.s m.z m.has) := Lib.hid (by rw [hw, hq]; exact (MapKept.heap_alloc _ _).1)
    have hgeq : Hid (W.heap.size ≤ q) := Lib.hid (by rw [hq]; exact Nat.le_refl _)
    replace hq := Lib.hid hq
    replace hw := Lib.hid hw
    replace hL := Lib.hid hL
    go_enter Tryz.func8, Tryz.ntmps8
    go_upto_region 1 with fail
    rw [← hw.out, ← hq.out]
    clear hw
    obtain ⟨cq0, cq1, cq2, cq3, cq4, cq5, cq6, cq7⟩ := MomAt.of_heap hMq1.out
    go_wp2_with fail
    refine (works_c w1 hL1.out).mono ?_
    rintro e w ⟨rfl, hb⟩
    go_wp2_with fail
    go_ret
    exact ⟨rfl, hB1.out.trans (hb.mono hB1.out.size)⟩
  · have hsm : m.s.size ≤ 1000 := by omega
    obtain ⟨S, k3, eS⟩ := SB.ex (secondsT m.P)
    have hk3 := seconds_err (m := m.P)
    rw [eS] at hk3
    replace hk3 : k3 = if validP m.P = true then 0 else 1 := hk3
    by_cases hv : validP m.P = true
    · rw [if_pos hv] at hk3
      subst hk3
      have e3 := zones_no hv zone
      obtain ⟨a, k, ea⟩ := MB.ex (adjustP m.P zone true)
      have c1 : Hid (∀ w, LaidT w → Calls Tryz.prog 20 #[.agg #[.int .i64 m.y, .int .i64 m.mo, .int .i64 m.d, .int .i64 m.h, .int .i64 m.mi, .string m.s, .int .i64 m.z, .bool m.has]] w (fun e w' => e = .returned (.tuple #[.string S, .int .i64 0]) ∧ Below w.heap.size w w')) := Lib.hid (fun w hw => Seconds_c m S 0 eS hsm w hw)
      have c3 : Hid (∀ w, LaidT w → Calls Tryz.prog 25 #[.agg #[.int .i64 m.y, .int .i64 m.mo, .int .i64 m.d, .int .i64 m.h, .int .i64 m.mi, .string m.s, .int .i64 m.z, .bool m.has], .int .i64 zone, .bool false] w (fun e w' => e = .returned (.tuple #[.agg #[.int .i64 m.y, .int .i64 m.mo, .int .i64 m.d, .int .i64 m.h, .int .i64 m.mi, .string m.s, .int .i64 0, .bool false], .int .i64 0]) ∧ Below w.heap.size w w')) := Lib.hid (fun w hw => Adjust_c m ⟨m.y, m.mo, m.d, m.h, m.mi, m.s, 0, false⟩ zone false 0 e3 hsm w hw)
      by_cases hk : k = 0
      · subst hk
        obtain ⟨-, hva, hz, hh, hbk, hsec⟩ := zones_there ea
        obtain ⟨ay, amo, ad, ah, ami, sa, az, ahas⟩ := a
        replace hz : az = zone := hz
        replace hh : ahas = true := hh
        subst hz hh
        have hsa : sa.size ≤ 1000 := by have := valid_short hva; rw [← list_len]; exact Nat.le_trans this (by decide)
        obtain ⟨T, k4, eT⟩ := SB.ex (secondsT (MB.P ⟨ay, amo, ad, ah, ami, sa, az, true⟩))
        have hk4 := seconds_err (m := MB.P ⟨ay, amo, ad, ah, ami, sa, az, true⟩)
        rw [eT, if_pos hva] at hk4
        replace hk4 : k4 = 0 := hk4
        subst hk4
        have c2 : Hid (∀ w, LaidT w → Calls Tryz.prog 25 #[.agg #[.int .i64 m.y, .int .i64 m.mo, .int .i64 m.d, .int .i64 m.h, .int .i64 m.mi, .string m.s, .int .i64 m.z, .bool m.has], .int .i64 az, .bool true] w (fun e w' => e = .returned (.tuple #[.agg #[.int .i64 ay, .int .i64 amo, .int .i64 ad, .int .i64 ah, .int .i64 ami, .string sa, .int .i64 az, .bool true], .int .i64 0]) ∧ Below w.heap.size w w')) := Lib.hid (fun w hw => Adjust_c m ⟨ay, amo, ad, ah, ami, sa, az, true⟩ az true 0 ea hsm w hw)
        have c4 : Hid (∀ w, LaidT w → Calls Tryz.prog 20 #[.agg #[.int .i64 ay, .int .i64 amo, .int .i64 ad, .int .i64 ah, .int .i64 ami, .string sa, .int .i64 az, .bool true]] w (fun e w' => e = .returned (.tuple #[.string T, .int .i64 0]) ∧ Below w.heap.size w w')) := Lib.hid (fun w hw => Seconds_c ⟨ay, amo, ad, ah, ami, sa, az, true⟩ T 0 eT hsa w hw)
        have c5 : Hid (∀ w, LaidT w → Calls Tryz.prog 25 #[.agg #[.int .i64 ay, .int .i64 amo, .int .i64 ad, .int .i64 ah, .int .i64 ami, .string sa, .int .i64 az, .bool true], .int .i64 m.z, .bool m.has] w (fun e w' => e = .returned (.tuple #[.agg #[.int .i64 m.y, .int .i64 m.mo, .int .i64 m.d, .int .i64 m.h, .int .i64 m.mi, .string m.s, .int .i64 m.z, .bool m.has], .int .i64 0]) ∧ Below w.heap.size w w')) := Lib.hid (fun w hw => Adjust_c ⟨ay, amo, ad, ah, ami, sa, az, true⟩ m m.z m.has 0 hbk hsa w hw)
        clear ea hva hbk e3 hsm hsa
        replace hv := Lib.hid hv
        cases hmh : m.has with
        | false =>
          simp only [hmh] at c1 c2 c3 c5 ⊢
          replace hmh := Lib.hid hmh
          clear hsec
          clear eS eT
          obtain ⟨q, hq⟩ : ∃ q, q = W.heap.size := ⟨_, rfl⟩
          obtain ⟨w1, hw⟩ : ∃ w, w = W.alloc (.cells #[.int .i64 m.y, .int .i64 m.mo, .int .i64 m.d, .int .i64 m.h, .int .i64 m.mi, .string m.s, .int .i64 m.z, .bool false] 24) := ⟨_, rfl⟩
          have hB1 : Hid (Below W.heap.size W w1) := Lib.hid (by rw [hw]; exact (Below.refl _ _).alloc (Nat.le_refl _) _)
          have hL1 := Lib.hid (hL.below hB1.out hL.size)
          have hMq1 : Hid (MoAt w1 q m.y m.mo m.d m.h m.mi m.s m.z false) := Lib.hid (by rw [hw, hq]; exact (MapKept.heap_alloc _ _).1)
          have hgeq : Hid (W.heap.size ≤ q) := Lib.hid (by rw [hq]; exact Nat.le_refl _)
          replace hq := Lib.hid hq
          replace hw := Lib.hid hw
          replace hL := Lib.hid hL
          go_enter Tryz.func8, Tryz.ntmps8
          go_upto_region 1 with fail
          rw [← hw.out, ← hq.out]
          clear hw
          obtain ⟨cq0, cq1, cq2, cq3, cq4, cq5, cq6, cq7⟩ := MomAt.of_heap hMq1.out
          go_wp2_with fail
          refine (c1.out w1 hL1.out).mono ?_
          rintro e w2 ⟨rfl, hb⟩
          have hB2 := Lib.hid (hB1.out.trans (hb.mono hB1.out.size))
          have hL2 := Lib.hid (hL.out.below hB2.out hL.out.size)
          have hMq2 : Hid (MoAt w2 q m.y m.mo m.d m.h m.mi m.s m.z false) := Lib.hid ((hb.block q (heap_lt hMq1.out)).trans hMq1.out)
          clear hb hB1 hL1 hMq1
          clear cq0 cq1 cq2 cq3 cq4 cq5 cq6 cq7
          obtain ⟨cq0, cq1, cq2, cq3, cq4, cq5, cq6, cq7⟩ := MomAt.of_heap hMq2.out
          go_wp2_with fail
          refine (c2.out w2 hL2.out).mono ?_
          rintro e w3 ⟨rfl, hb⟩
          have hB3 := Lib.hid (hB2.out.trans (hb.mono hB2.out.size))
          have hL3 := Lib.hid (hL.out.below hB3.out hL.out.size)
          have hMq3 : Hid (MoAt w3 q m.y m.mo m.d m.h m.mi m.s m.z false) := Lib.hid ((hb.block q (heap_lt hMq2.out)).trans hMq2.out)
          clear hb hB2 hL2 hMq2
          clear cq0 cq1 cq2 cq3 cq4 cq5 cq6 cq7
          obtain ⟨p1, hp1⟩ : ∃ q, q = w3.heap.size := ⟨_, rfl⟩
          obtain ⟨w4, hw⟩ : ∃ w, w = w3.alloc (.cells #[.int .i64 ay, .int .i64 amo, .int .i64 ad, .int .i64 ah, .int .i64 ami, .string sa, .int .i64 az, .bool true] 24) := ⟨_, rfl⟩
          have hb : Below w3.heap.size w3 w4 := by rw [hw]; exact (Below.refl _ _).alloc (Nat.le_refl _) _
          have hMp14 : Hid (MoAt w4 p1 ay amo ad ah ami sa az true) := Lib.hid (by rw [hw, hp1]; exact (MapKept.heap_alloc _ _).1)
          have hgep1 : Hid (W.heap.size ≤ p1) := Lib.hid (by rw [hp1]; exact hB3.out.size)
          have hnqp1 : Hid (q ≠ p1) := Lib.hid (by rw [hp1]; exact Nat.ne_of_lt (heap_lt hMq3.out))
          have hnp1q : Hid (p1 ≠ q) := Lib.hid (fun e => hnqp1.out e.symm)
          replace hp1 := Lib.hid hp1
          replace hw := Lib.hid hw
          have hB4 := Lib.hid (hB3.out.trans (hb.mono hB3.out.size))
          have hL4 := Lib.hid (hL.out.below hB4.out hL.out.size)
          have hMq4 : Hid (MoAt w4 q m.y m.mo m.d m.h m.mi m.s m.z false) := Lib.hid ((hb.block q (heap_lt hMq3.out)).trans hMq3.out)
          clear hb hB3 hL3 hMq3
          go_upto_region 5 with fail
          rw [← hw.out, ← hp1.out]
          clear hw hp1
          obtain ⟨cq0, cq1, cq2, cq3, cq4, cq5, cq6, cq7⟩ := MomAt.of_heap hMq4.out
          go_wp2_with fail
          refine (c3.out w4 hL4.out).mono ?_
          rintro e w5 ⟨rfl, hb⟩
          have hB5 := Lib.hid (hB4.out.trans (hb.mono hB4.out.size))
          have hL5 := Lib.hid (hL.out.below hB5.out hL.out.size)
          have hMq5 : Hid (MoAt w5 q m.y m.mo m.d m.h m.mi m.s m.z false) := Lib.hid ((hb.block q (heap_lt hMq4.out)).trans hMq4.out)
          have hMp15 : Hid (MoAt w5 p1 ay amo ad ah ami sa az true) := Lib.hid ((hb.block p1 (heap_lt hMp14.out)).trans hMp14.out)
          clear hb hB4 hL4 hMq4 hMp14
          clear cq0 cq1 cq2 cq3 cq4 cq5 cq6 cq7
          obtain ⟨p2, hp2⟩ : ∃ q, q = w5.heap.size := ⟨_, rfl⟩
          obtain ⟨w6, hw⟩ : ∃ w, w = w5.alloc (.cells #[.int .i64 m.y, .int .i64 m.mo, .int .i64 m.d, .int .i64 m.h, .int .i64 m.mi, .string m.s, .int .i64 0, .bool false] 24) := ⟨_, rfl⟩
          have hb : Below w5.heap.size w5 w6 := by rw [hw]; exact (Below.refl _ _).alloc (Nat.le_refl _) _
          have hMp26 : Hid (MoAt w6 p2 m.y m.mo m.d m.h m.mi m.s 0 false) := Lib.hid (by rw [hw, hp2]; exact (MapKept.heap_alloc _ _).1)
          have hgep2 : Hid (W.heap.size ≤ p2) := Lib.hid (by rw [hp2]; exact hB5.out.size)
          have hnqp2 : Hid (q ≠ p2) := Lib.hid (by rw [hp2]; exact Nat.ne_of_lt (heap_lt hMq5.out))
          have hnp2q : Hid (p2 ≠ q) := Lib.hid (fun e => hnqp2.out e.symm)
          have hnp1p2 : Hid (p1 ≠ p2) := Lib.hid (by rw [hp2]; exact Nat.ne_of_lt (heap_lt hMp15.out))
          have hnp2p1 : Hid (p2 ≠ p1) := Lib.hid (fun e => hnp1p2.out e.symm)
          replace hp2 := Lib.hid hp2
          replace hw := Lib.hid hw
          have hB6 := Lib.hid (hB5.out.trans (hb.mono hB5.out.size))
          have hL6 := Lib.hid (hL.out.below hB6.out hL.out.size)
          have hMq6 : Hid (MoAt w6 q m.y m.mo m.d m.h m.mi m.s m.z false) := Lib.hid ((hb.block q (heap_lt hMq5.out)).trans hMq5.out)
          have hMp16 : Hid (MoAt w6 p1 ay amo ad ah ami sa az true) := Lib.hid ((hb.block p1 (heap_lt hMp15.out)).trans hMp15.out)
          clear hb hB5 hL5 hMq5 hMp15
          go_upto_region 8 with fail
          rw [← hw.out, ← hp2.out]
          clear hw hp2
          obtain ⟨cq0, cq1, cq2, cq3, cq4, cq5, cq6, cq7⟩ := MomAt.of_heap hMq6.out
          obtain ⟨p3, hp3⟩ : ∃ q, q = w6.heap.size := ⟨_, rfl⟩
          obtain ⟨w7, hw⟩ : ∃ w, w = w6.alloc (.cells #[.int .i64 m.y, .int .i64 m.mo, .int .i64 m.d, .int .i64 m.h, .int .i64 m.mi, .string m.s, .int .i64 m.z, .bool false] 24) := ⟨_, rfl⟩
          have hb : Below w6.heap.size w6 w7 := by rw [hw]; exact (Below.refl _ _).alloc (Nat.le_refl _) _
          have hMp37 : Hid (MoAt w7 p3 m.y m.mo m.d m.h m.mi m.s m.z false) := Lib.hid (by rw [hw, hp3]; exact (MapKept.heap_alloc _ _).1)
          have hgep3 : Hid (W.heap.size ≤ p3) := Lib.hid (by rw [hp3]; exact hB6.out.size)
          have hnqp3 : Hid (q ≠ p3) := Lib.hid (by rw [hp3]; exact Nat.ne_of_lt (heap_lt hMq6.out))
          have hnp3q : Hid (p3 ≠ q) := Lib.hid (fun e => hnqp3.out e.symm)
          have hnp1p3 : Hid (p1 ≠ p3) := Lib.hid (by rw [hp3]; exact Nat.ne_of_lt (heap_lt hMp16.out))
          have hnp3p1 : Hid (p3 ≠ p1) := Lib.hid (fun e => hnp1p3.out e.symm)
          have hnp2p3 : Hid (p2 ≠ p3) := Lib.hid (by rw [hp3]; exact Nat.ne_of_lt (heap_lt hMp26.out))
          have hnp3p2 : Hid (p3 ≠ p2) := Lib.hid (fun e => hnp2p3.out e.symm)
          replace hp3 := Lib.hid hp3
          replace hw := Lib.hid hw
          have hB7 := Lib.hid (hB6.out.trans (hb.mono hB6.out.size))
          have hL7 := Lib.hid (hL.out.below hB7.out hL.out.size)
          have hMq7 : Hid (MoAt w7 q m.y m.mo m.d m.h m.mi m.s m.z false) := Lib.hid ((hb.block q (heap_lt hMq6.out)).trans hMq6.out)
          have hMp17 : Hid (MoAt w7 p1 ay amo ad ah ami sa az true) := Lib.hid ((hb.block p1 (heap_lt hMp16.out)).trans hMp16.out)
          have hMp27 : Hid (MoAt w7 p2 m.y m.mo m.d m.h m.mi m.s 0 false) := Lib.hid ((hb.block p2 (heap_lt hMp26.out)).trans hMp26.out)
          clear hb hB6 hL6 hMq6 hMp16 hMp26
          go_upto_region 9 with fail
          rw [← hw.out, ← hp3.out]
          clear hw hp3
          clear cq0 cq1 cq2 cq3 cq4 cq5 cq6 cq7
          obtain ⟨cp30, cp31, cp32, cp33, cp34, cp35, cp36, cp37⟩ := MomAt.of_heap hMp37.out
          have ff6 := Lib.frozen_of_heap hMp37.out 6
          have ff7 := Lib.frozen_of_heap hMp37.out 7
          obtain ⟨w8, hw⟩ : ∃ w, w = ((w7.setCell ⟨p3, 6, none⟩ (.int .i64 0)).setCell ⟨p3, 7, none⟩ (.bool false)) := ⟨_, rfl⟩
          have hB8 : Hid (Below W.heap.size W w8) := Lib.hid (by rw [hw]; exact hB7.out.trans (((Below.refl _ _).setCell (p := ⟨p3, 6, none⟩) hgep3.out _).setCell (p := ⟨p3, 7, none⟩) hgep3.out _))
          have hL8 := Lib.hid (hL.out.below hB8.out hL.out.size)
          have hMp38 : Hid (MoAt w8 p3 m.y m.mo m.d m.h m.mi m.s 0 false) := Lib.hid (by rw [hw]; exact (Lib.heap_setCell_same (i := 7) (Lib.heap_setCell_same (i := 6) hMp37.out _) _))
          have hMq8 : Hid (MoAt w8 q m.y m.mo m.d m.h m.mi m.s m.z false) := Lib.hid (by rw [hw]; exact ((Below.heap_setCell _ _ _ _ hnqp3.out).trans ((Below.heap_setCell _ _ _ _ hnqp3.out).trans hMq7.out)))
          have hMp18 : Hid (MoAt w8 p1 ay amo ad ah ami sa az true) := Lib.hid (by rw [hw]; exact ((Below.heap_setCell _ _ _ _ hnp1p3.out).trans ((Below.heap_setCell _ _ _ _ hnp1p3.out).trans hMp17.out)))
          have hMp28 : Hid (MoAt w8 p2 m.y m.mo m.d m.h m.mi m.s 0 false) := Lib.hid (by rw [hw]; exact ((Below.heap_setCell _ _ _ _ hnp2p3.out).trans ((Below.heap_setCell _ _ _ _ hnp2p3.out).trans hMp27.out)))
          replace hw := Lib.hid hw
          go_upto_region 10 with fail
          rw [← hw.out]
          clear hw ff6 ff7
          clear cp30 cp31 cp32 cp33 cp34 cp35 cp36 cp37
          clear hB7 hL7 hMq7 hMp17 hMp27 hMp37
          obtain ⟨cp10, cp11, cp12, cp13, cp14, cp15, cp16, cp17⟩ := MomAt.of_heap hMp18.out
          obtain ⟨cp20, cp21, cp22, cp23, cp24, cp25, cp26, cp27⟩ := MomAt.of_heap hMp28.out
          obtain ⟨cp30, cp31, cp32, cp33, cp34, cp35, cp36, cp37⟩ := MomAt.of_heap hMp38.out
          go_upto_region 14 with fail
          clear cp10 cp11 cp12 cp13 cp14 cp15 cp16 cp17
          clear cp20 cp21 cp22 cp23 cp24 cp25 cp26 cp27
          clear cp30 cp31 cp32 cp33 cp34 cp35 cp36 cp37
          obtain ⟨cp10, cp11, cp12, cp13, cp14, cp15, cp16, cp17⟩ := MomAt.of_heap hMp18.out
          go_wp2_with fail
          refine (c4.out w8 hL8.out).mono ?_
          rintro e w9 ⟨rfl, hb⟩
          have hB9 := Lib.hid (hB8.out.trans (hb.mono hB8.out.size))
          have hL9 := Lib.hid (hL.out.below hB9.out hL.out.size)
          have hMq9 : Hid (MoAt w9 q m.y m.mo m.d m.h m.mi m.s m.z false) := Lib.hid ((hb.block q (heap_lt hMq8.out)).trans hMq8.out)
          have hMp19 : Hid (MoAt w9 p1 ay amo ad ah ami sa az true) := Lib.hid ((hb.block p1 (heap_lt hMp18.out)).trans hMp18.out)
          have hMp29 : Hid (MoAt w9 p2 m.y m.mo m.d m.h m.mi m.s 0 false) := Lib.hid ((hb.block p2 (heap_lt hMp28.out)).trans hMp28.out)
          have hMp39 : Hid (MoAt w9 p3 m.y m.mo m.d m.h m.mi m.s 0 false) := Lib.hid ((hb.block p3 (heap_lt hMp38.out)).trans hMp38.out)
          clear hb hB8 hL8 hMq8 hMp18 hMp28 hMp38
          clear cp10 cp11 cp12 cp13 cp14 cp15 cp16 cp17
          obtain ⟨cq0, cq1, cq2, cq3, cq4, cq5, cq6, cq7⟩ := MomAt.of_heap hMq9.out
          obtain ⟨cp10, cp11, cp12, cp13, cp14, cp15, cp16, cp17⟩ := MomAt.of_heap hMp19.out
          go_wp2_with fail
          refine (c5.out w9 hL9.out).mono ?_
          rintro e w10 ⟨rfl, hb⟩
          have hB10 := Lib.hid (hB9.out.trans (hb.mono hB9.out.size))
          have hL10 := Lib.hid (hL.out.below hB10.out hL.out.size)
          have hMq10 : Hid (MoAt w10 q m.y m.mo m.d m.h m.mi m.s m.z false) := Lib.hid ((hb.block q (heap_lt hMq9.out)).trans hMq9.out)
          have hMp110 : Hid (MoAt w10 p1 ay amo ad ah ami sa az true) := Lib.hid ((hb.block p1 (heap_lt hMp19.out)).trans hMp19.out)
          have hMp210 : Hid (MoAt w10 p2 m.y m.mo m.d m.h m.mi m.s 0 false) := Lib.hid ((hb.block p2 (heap_lt hMp29.out)).trans hMp29.out)
          have hMp310 : Hid (MoAt w10 p3 m.y m.mo m.d m.h m.mi m.s 0 false) := Lib.hid ((hb.block p3 (heap_lt hMp39.out)).trans hMp39.out)
          clear hb hB9 hL9 hMq9 hMp19 hMp29 hMp39
          clear cq0 cq1 cq2 cq3 cq4 cq5 cq6 cq7
          clear cp10 cp11 cp12 cp13 cp14 cp15 cp16 cp17
          obtain ⟨p4, hp4⟩ : ∃ q, q = w10.heap.size := ⟨_, rfl⟩
          obtain ⟨w11, hw⟩ : ∃ w, w = w10.alloc (.cells #[.int .i64 m.y, .int .i64 m.mo, .int .i64 m.d, .int .i64 m.h, .int .i64 m.mi, .string m.s, .int .i64 m.z, .bool false] 24) := ⟨_, rfl⟩
          have hb : Below w10.heap.size w10 w11 := by rw [hw]; exact (Below.refl _ _).alloc (Nat.le_refl _) _
          have hMp411 : Hid (MoAt w11 p4 m.y m.mo m.d m.h m.mi m.s m.z false) := Lib.hid (by rw [hw, hp4]; exact (MapKept.heap_alloc _ _).1)
          have hgep4 : Hid (W.heap.size ≤ p4) := Lib.hid (by rw [hp4]; exact hB10.out.size)
          have hnqp4 : Hid (q ≠ p4) := Lib.hid (by rw [hp4]; exact Nat.ne_of_lt (heap_lt hMq10.out))
          have hnp4q : Hid (p4 ≠ q) := Lib.hid (fun e => hnqp4.out e.symm)
          have hnp1p4 : Hid (p1 ≠ p4) := Lib.hid (by rw [hp4]; exact Nat.ne_of_lt (heap_lt hMp110.out))
          have hnp4p1 : Hid (p4 ≠ p1) := Lib.hid (fun e => hnp1p4.out e.symm)
          have hnp2p4 : Hid (p2 ≠ p4) := Lib.hid (by rw [hp4]; exact Nat.ne_of_lt (heap_lt hMp210.out))
          have hnp4p2 : Hid (p4 ≠ p2) := Lib.hid (fun e => hnp2p4.out e.symm)
          have hnp3p4 : Hid (p3 ≠ p4) := Lib.hid (by rw [hp4]; exact Nat.ne_of_lt (heap_lt hMp310.out))
          have hnp4p3 : Hid (p4 ≠ p3) := Lib.hid (fun e => hnp3p4.out e.symm)
          replace hp4 := Lib.hid hp4
          replace hw := Lib.hid hw
          have hB11 := Lib.hid (hB10.out.trans (hb.mono hB10.out.size))
          have hL11 := Lib.hid (hL.out.below hB11.out hL.out.size)
          have hMq11 : Hid (MoAt w11 q m.y m.mo m.d m.h m.mi m.s m.z false) := Lib.hid ((hb.block q (heap_lt hMq10.out)).trans hMq10.out)
          have hMp111 : Hid (MoAt w11 p1 ay amo ad ah ami sa az true) := Lib.hid ((hb.block p1 (heap_lt hMp110.out)).trans hMp110.out)
          have hMp211 : Hid (MoAt w11 p2 m.y m.mo m.d m.h m.mi m.s 0 false) := Lib.hid ((hb.block p2 (heap_lt hMp210.out)).trans hMp210.out)
          have hMp311 : Hid (MoAt w11 p3 m.y m.mo m.d m.h m.mi m.s 0 false) := Lib.hid ((hb.block p3 (heap_lt hMp310.out)).trans hMp310.out)
          clear hb hB10 hL10 hMq10 hMp110 hMp210 hMp310
          go_upto_region 16 with fail
          rw [← hw.out, ← hp4.out]
          clear hw hp4
          obtain ⟨cq0, cq1, cq2, cq3, cq4, cq5, cq6, cq7⟩ := MomAt.of_heap hMq11.out
          obtain ⟨cp10, cp11, cp12, cp13, cp14, cp15, cp16, cp17⟩ := MomAt.of_heap hMp111.out
          obtain ⟨cp40, cp41, cp42, cp43, cp44, cp45, cp46, cp47⟩ := MomAt.of_heap hMp411.out
          go_wp2_with fail
          refine (works_c w11 hL11.out).mono ?_
          rintro e w ⟨rfl, hb⟩
          go_wp2_with fail
          go_ret
          exact ⟨rfl, hB11.out.trans (hb.mono hB11.out.size)⟩
        | true =>
          have hST : S = T := by
            have := hsec hmh
            rw [eS, eT] at this
            injection this with h1 h2
            exact data_inj h1
          subst hST
          simp only [hmh] at c1 c2 c3 c5 ⊢
          replace hmh := Lib.hid hmh
          clear hsec
          clear eS eT
          obtain ⟨q, hq⟩ : ∃ q, q = W.heap.size := ⟨_, rfl⟩
          obtain ⟨w1, hw⟩ : ∃ w, w = W.alloc (.cells #[.int .i64 m.y, .int .i64 m.mo, .int .i64 m.d, .int .i64 m.h, .int .i64 m.mi, .string m.s, .int .i64 m.z, .bool true] 24) := ⟨_, rfl⟩
          have hB1 : Hid (Below W.heap.size W w1) := Lib.hid (by rw [hw]; exact (Below.refl _ _).alloc (Nat.le_refl _) _)
          have hL1 := Lib.hid (hL.below hB1.out hL.size)
          have hMq1 : Hid (MoAt w1 q m.y m.mo m.d m.h m.mi m.s m.z true) := Lib.hid (by rw [hw, hq]; exact (MapKept.heap_alloc _ _).1)
          have hgeq : Hid (W.heap.size ≤ q) := Lib.hid (by rw [hq]; exact Nat.le_refl _)
          replace hq := Lib.hid hq
          replace hw := Lib.hid hw
          replace hL := Lib.hid hL
          go_enter Tryz.func8, Tryz.ntmps8
          go_upto_region 1 with fail
          rw [← hw.out, ← hq.out]
          clear hw
          obtain ⟨cq0, cq1, cq2, cq3, cq4, cq5, cq6, cq7⟩ := MomAt.of_heap hMq1.out
          go_wp2_with fail
          refine (c1.out w1 hL1.out).mono ?_
          rintro e w2 ⟨rfl, hb⟩
          have hB2 := Lib.hid (hB1.out.trans (hb.mono hB1.out.size))
          have hL2 := Lib.hid (hL.out.below hB2.out hL.out.size)
          have hMq2 : Hid (MoAt w2 q m.y m.mo m.d m.h m.mi m.s m.z true) := Lib.hid ((hb.block q (heap_lt hMq1.out)).trans hMq1.out)
          clear hb hB1 hL1 hMq1
          clear cq0 cq1 cq2 cq3 cq4 cq5 cq6 cq7
          obtain ⟨cq0, cq1, cq2, cq3, cq4, cq5, cq6, cq7⟩ := MomAt.of_heap hMq2.out
          go_wp2_with fail
          refine (c2.out w2 hL2.out).mono ?_
          rintro e w3 ⟨rfl, hb⟩
          have hB3 := Lib.hid (hB2.out.trans (hb.mono hB2.out.size))
          have hL3 := Lib.hid (hL.out.below hB3.out hL.out.size)
          have hMq3 : Hid (MoAt w3 q m.y m.mo m.d m.h m.mi m.s m.z true) := Lib.hid ((hb.block q (heap_lt hMq2.out)).trans hMq2.out)
          clear hb hB2 hL2 hMq2
          clear cq0 cq1 cq2 cq3 cq4 cq5 cq6 cq7
          obtain ⟨p1, hp1⟩ : ∃ q, q = w3.heap.size := ⟨_, rfl⟩
          obtain ⟨w4, hw⟩ : ∃ w, w = w3.alloc (.cells #[.int .i64 ay, .int .i64 amo, .int .i64 ad, .int .i64 ah, .int .i64 ami, .string sa, .int .i64 az, .bool true] 24) := ⟨_, rfl⟩
          have hb : Below w3.heap.size w3 w4 := by rw [hw]; exact (Below.refl _ _).alloc (Nat.le_refl _) _
          have hMp14 : Hid (MoAt w4 p1 ay amo ad ah ami sa az true) := Lib.hid (by rw [hw, hp1]; exact (MapKept.heap_alloc _ _).1)
          have hgep1 : Hid (W.heap.size ≤ p1) := Lib.hid (by rw [hp1]; exact hB3.out.size)
          have hnqp1 : Hid (q ≠ p1) := Lib.hid (by rw [hp1]; exact Nat.ne_of_lt (heap_lt hMq3.out))
          have hnp1q : Hid (p1 ≠ q) := Lib.hid (fun e => hnqp1.out e.symm)
          replace hp1 := Lib.hid hp1
          replace hw := Lib.hid hw
          have hB4 := Lib.hid (hB3.out.trans (hb.mono hB3.out.size))
          have hL4 := Lib.hid (hL.out.below hB4.out hL.out.size)
          have hMq4 : Hid (MoAt w4 q m.y m.mo m.d m.h m.mi m.s m.z true) := Lib.hid ((hb.block q (heap_lt hMq3.out)).trans hMq3.out)
          clear hb hB3 hL3 hMq3
          go_upto_region 5 with fail
          rw [← hw.out, ← hp1.out]
          clear hw hp1
          obtain ⟨cq0, cq1, cq2, cq3, cq4, cq5, cq6, cq7⟩ := MomAt.of_heap hMq4.out
          go_wp2_with fail
          refine (c3.out w4 hL4.out).mono ?_
          rintro e w5 ⟨rfl, hb⟩
          have hB5 := Lib.hid (hB4.out.trans (hb.mono hB4.out.size))
          have hL5 := Lib.hid (hL.out.below hB5.out hL.out.size)
          have hMq5 : Hid (MoAt w5 q m.y m.mo m.d m.h m.mi m.s m.z true) := Lib.hid ((hb.block q (heap_lt hMq4.out)).trans hMq4.out)
          have hMp15 : Hid (MoAt w5 p1 ay amo ad ah ami sa az true) := Lib.hid ((hb.block p1 (heap_lt hMp14.out)).trans hMp14.out)
          clear hb hB4 hL4 hMq4 hMp14
          clear cq0 cq1 cq2 cq3 cq4 cq5 cq6 cq7
          obtain ⟨p2, hp2⟩ : ∃ q, q = w5.heap.size := ⟨_, rfl⟩
          obtain ⟨w6, hw⟩ : ∃ w, w = w5.alloc (.cells #[.int .i64 m.y, .int .i64 m.mo, .int .i64 m.d, .int .i64 m.h, .int .i64 m.mi, .string m.s, .int .i64 0, .bool false] 24) := ⟨_, rfl⟩
          have hb : Below w5.heap.size w5 w6 := by rw [hw]; exact (Below.refl _ _).alloc (Nat.le_refl _) _
          have hMp26 : Hid (MoAt w6 p2 m.y m.mo m.d m.h m.mi m.s 0 false) := Lib.hid (by rw [hw, hp2]; exact (MapKept.heap_alloc _ _).1)
          have hgep2 : Hid (W.heap.size ≤ p2) := Lib.hid (by rw [hp2]; exact hB5.out.size)
          have hnqp2 : Hid (q ≠ p2) := Lib.hid (by rw [hp2]; exact Nat.ne_of_lt (heap_lt hMq5.out))
          have hnp2q : Hid (p2 ≠ q) := Lib.hid (fun e => hnqp2.out e.symm)
          have hnp1p2 : Hid (p1 ≠ p2) := Lib.hid (by rw [hp2]; exact Nat.ne_of_lt (heap_lt hMp15.out))
          have hnp2p1 : Hid (p2 ≠ p1) := Lib.hid (fun e => hnp1p2.out e.symm)
          replace hp2 := Lib.hid hp2
          replace hw := Lib.hid hw
          have hB6 := Lib.hid (hB5.out.trans (hb.mono hB5.out.size))
          have hL6 := Lib.hid (hL.out.below hB6.out hL.out.size)
          have hMq6 : Hid (MoAt w6 q m.y m.mo m.d m.h m.mi m.s m.z true) := Lib.hid ((hb.block q (heap_lt hMq5.out)).trans hMq5.out)
          have hMp16 : Hid (MoAt w6 p1 ay amo ad ah ami sa az true) := Lib.hid ((hb.block p1 (heap_lt hMp15.out)).trans hMp15.out)
          clear hb hB5 hL5 hMq5 hMp15
          go_upto_region 8 with fail
          rw [← hw.out, ← hp2.out]
          clear hw hp2
          obtain ⟨cq0, cq1, cq2, cq3, cq4, cq5, cq6, cq7⟩ := MomAt.of_heap hMq6.out
          obtain ⟨p3, hp3⟩ : ∃ q, q = w6.heap.size := ⟨_, rfl⟩
          obtain ⟨w7, hw⟩ : ∃ w, w = w6.alloc (.cells #[.int .i64 m.y, .int .i64 m.mo, .int .i64 m.d, .int .i64 m.h, .int .i64 m.mi, .string m.s, .int .i64 m.z, .bool true] 24) := ⟨_, rfl⟩
          have hb : Below w6.heap.size w6 w7 := by rw [hw]; exact (Below.refl _ _).alloc (Nat.le_refl _) _
          have hMp37 : Hid (MoAt w7 p3 m.y m.mo m.d m.h m.mi m.s m.z true) := Lib.hid (by rw [hw, hp3]; exact (MapKept.heap_alloc _ _).1)
          have hgep3 : Hid (W.heap.size ≤ p3) := Lib.hid (by rw [hp3]; exact hB6.out.size)
          have hnqp3 : Hid (q ≠ p3) := Lib.hid (by rw [hp3]; exact Nat.ne_of_lt (heap_lt hMq6.out))
          have hnp3q : Hid (p3 ≠ q) := Lib.hid (fun e => hnqp3.out e.symm)
          have hnp1p3 : Hid (p1 ≠ p3) := Lib.hid (by rw [hp3]; exact Nat.ne_of_lt (heap_lt hMp16.out))
          have hnp3p1 : Hid (p3 ≠ p1) := Lib.hid (fun e => hnp1p3.out e.symm)
          have hnp2p3 : Hid (p2 ≠ p3) := Lib.hid (by rw [hp3]; exact Nat.ne_of_lt (heap_lt hMp26.out))
          have hnp3p2 : Hid (p3 ≠ p2) := Lib.hid (fun e => hnp2p3.out e.symm)
          replace hp3 := Lib.hid hp3
          replace hw := Lib.hid hw
          have hB7 := Lib.hid (hB6.out.trans (hb.mono hB6.out.size))
          have hL7 := Lib.hid (hL.out.below hB7.out hL.out.size)
          have hMq7 : Hid (MoAt w7 q m.y m.mo m.d m.h m.mi m.s m.z true) := Lib.hid ((hb.block q (heap_lt hMq6.out)).trans hMq6.out)
          have hMp17 : Hid (MoAt w7 p1 ay amo ad ah ami sa az true) := Lib.hid ((hb.block p1 (heap_lt hMp16.out)).trans hMp16.out)
          have hMp27 : Hid (MoAt w7 p2 m.y m.mo m.d m.h m.mi m.s 0 false) := Lib.hid ((hb.block p2 (heap_lt hMp26.out)).trans hMp26.out)
          clear hb hB6 hL6 hMq6 hMp16 hMp26
          go_upto_region 9 with fail
          rw [← hw.out, ← hp3.out]
          clear hw hp3
          clear cq0 cq1 cq2 cq3 cq4 cq5 cq6 cq7
          obtain ⟨cp30, cp31, cp32, cp33, cp34, cp35, cp36, cp37⟩ := MomAt.of_heap hMp37.out
          have ff6 := Lib.frozen_of_heap hMp37.out 6
          have ff7 := Lib.frozen_of_heap hMp37.out 7
          obtain ⟨w8, hw⟩ : ∃ w, w = ((w7.setCell ⟨p3, 6, none⟩ (.int .i64 0)).setCell ⟨p3, 7, none⟩ (.bool false)) := ⟨_, rfl⟩
          have hB8 : Hid (Below W.heap.size W w8) := Lib.hid (by rw [hw]; exact hB7.out.trans (((Below.refl _ _).setCell (p := ⟨p3, 6, none⟩) hgep3.out _).setCell (p := ⟨p3, 7, none⟩) hgep3.out _))
          have hL8 := Lib.hid (hL.out.below hB8.out hL.out.size)
          have hMp38 : Hid (MoAt w8 p3 m.y m.mo m.d m.h m.mi m.s 0 false) := Lib.hid (by rw [hw]; exact (Lib.heap_setCell_same (i := 7) (Lib.heap_setCell_same (i := 6) hMp37.out _) _))
          have hMq8 : Hid (MoAt w8 q m.y m.mo m.d m.h m.mi m.s m.z true) := Lib.hid (by rw [hw]; exact ((Below.heap_setCell _ _ _ _ hnqp3.out).trans ((Below.heap_setCell _ _ _ _ hnqp3.out).trans hMq7.out)))
          have hMp18 : Hid (MoAt w8 p1 ay amo ad ah ami sa az true) := Lib.hid (by rw [hw]; exact ((Below.heap_setCell _ _ _ _ hnp1p3.out).trans ((Below.heap_setCell _ _ _ _ hnp1p3.out).trans hMp17.out)))
          have hMp28 : Hid (MoAt w8 p2 m.y m.mo m.d m.h m.mi m.s 0 false) := Lib.hid (by rw [hw]; exact ((Below.heap_setCell _ _ _ _ hnp2p3.out).trans ((Below.heap_setCell _ _ _ _ hnp2p3.out).trans hMp27.out)))
          replace hw := Lib.hid hw
          go_upto_region 10 with fail
          rw [← hw.out]
          clear hw ff6 ff7
          clear cp30 cp31 cp32 cp33 cp34 cp35 cp36 cp37
          clear hB7 hL7 hMq7 hMp17 hMp27 hMp37
          obtain ⟨cp10, cp11, cp12, cp13, cp14, cp15, cp16, cp17⟩ := MomAt.of_heap hMp18.out
          obtain ⟨cp20, cp21, cp22, cp23, cp24, cp25, cp26, cp27⟩ := MomAt.of_heap hMp28.out
          obtain ⟨cp30, cp31, cp32, cp33, cp34, cp35, cp36, cp37⟩ := MomAt.of_heap hMp38.out
          go_upto_region 14 with fail
          clear cp10 cp11 cp12 cp13 cp14 cp15 cp16 cp17
          clear cp20 cp21 cp22 cp23 cp24 cp25 cp26 cp27
          clear cp30 cp31 cp32 cp33 cp34 cp35 cp36 cp37
          obtain ⟨cp10, cp11, cp12, cp13, cp14, cp15, cp16, cp17⟩ := MomAt.of_heap hMp18.out
          go_wp2_with fail
          refine (c4.out w8 hL8.out).mono ?_
          rintro e w9 ⟨rfl, hb⟩
          have hB9 := Lib.hid (hB8.out.trans (hb.mono hB8.out.size))
          have hL9 := Lib.hid (hL.out.below hB9.out hL.out.size)
          have hMq9 : Hid (MoAt w9 q m.y m.mo m.d m.h m.mi m.s m.z true) := Lib.hid ((hb.block q (heap_lt hMq8.out)).trans hMq8.out)
          have hMp19 : Hid (MoAt w9 p1 ay amo ad ah ami sa az true) := Lib.hid ((hb.block p1 (heap_lt hMp18.out)).trans hMp18.out)
          have hMp29 : Hid (MoAt w9 p2 m.y m.mo m.d m.h m.mi m.s 0 false) := Lib.hid ((hb.block p2 (heap_lt hMp28.out)).trans hMp28.out)
          have hMp39 : Hid (MoAt w9 p3 m.y m.mo m.d m.h m.mi m.s 0 false) := Lib.hid ((hb.block p3 (heap_lt hMp38.out)).trans hMp38.out)
          clear hb hB8 hL8 hMq8 hMp18 hMp28 hMp38
          clear cp10 cp11 cp12 cp13 cp14 cp15 cp16 cp17
          obtain ⟨cq0, cq1, cq2, cq3, cq4, cq5, cq6, cq7⟩ := MomAt.of_heap hMq9.out
          obtain ⟨cp10, cp11, cp12, cp13, cp14, cp15, cp16, cp17⟩ := MomAt.of_heap hMp19.out
          go_wp2_with fail
          refine (c5.out w9 hL9.out).mono ?_
          rintro e w10 ⟨rfl, hb⟩
          have hB10 := Lib.hid (hB9.out.trans (hb.mono hB9.out.size))
          have hL10 := Lib.hid (hL.out.below hB10.out hL.out.size)
          have hMq10 : Hid (MoAt w10 q m.y m.mo m.d m.h m.mi m.s m.z true) := Lib.hid ((hb.block q (heap_lt hMq9.out)).trans hMq9.out)
          have hMp110 : Hid (MoAt w10 p1 ay amo ad ah ami sa az true) := Lib.hid ((hb.block p1 (heap_lt hMp19.out)).trans hMp19.out)
          have hMp210 : Hid (MoAt w10 p2 m.y m.mo m.d m.h m.mi m.s 0 false) := Lib.hid ((hb.block p2 (heap_lt hMp29.out)).trans hMp29.out)
          have hMp310 : Hid (MoAt w10 p3 m.y m.mo m.d m.h m.mi m.s 0 false) := Lib.hid ((hb.block p3 (heap_lt hMp39.out)).trans hMp39.out)
          clear hb hB9 hL9 hMq9 hMp19 hMp29 hMp39
          clear cq0 cq1 cq2 cq3 cq4 cq5 cq6 cq7
          clear cp10 cp11 cp12 cp13 cp14 cp15 cp16 cp17
          obtain ⟨p4, hp4⟩ : ∃ q, q = w10.heap.size := ⟨_, rfl⟩
          obtain ⟨w11, hw⟩ : ∃ w, w = w10.alloc (.cells #[.int .i64 m.y, .int .i64 m.mo, .int .i64 m.d, .int .i64 m.h, .int .i64 m.mi, .string m.s, .int .i64 m.z, .bool true] 24) := ⟨_, rfl⟩
          have hb : Below w10.heap.size w10 w11 := by rw [hw]; exact (Below.refl _ _).alloc (Nat.le_refl _) _
          have hMp411 : Hid (MoAt w11 p4 m.y m.mo m.d m.h m.mi m.s m.z true) := Lib.hid (by rw [hw, hp4]; exact (MapKept.heap_alloc _ _).1)
          have hgep4 : Hid (W.heap.size ≤ p4) := Lib.hid (by rw [hp4]; exact hB10.out.size)
          have hnqp4 : Hid (q ≠ p4) := Lib.hid (by rw [hp4]; exact Nat.ne_of_lt (heap_lt hMq10.out))
          have hnp4q : Hid (p4 ≠ q) := Lib.hid (fun e => hnqp4.out e.symm)
          have hnp1p4 : Hid (p1 ≠ p4) := Lib.hid (by rw [hp4]; exact Nat.ne_of_lt (heap_lt hMp110.out))
          have hnp4p1 : Hid (p4 ≠ p1) := Lib.hid (fun e => hnp1p4.out e.symm)
          have hnp2p4 : Hid (p2 ≠ p4) := Lib.hid (by rw [hp4]; exact Nat.ne_of_lt (heap_lt hMp210.out))
          have hnp4p2 : Hid (p4 ≠ p2) := Lib.hid (fun e => hnp2p4.out e.symm)
          have hnp3p4 : Hid (p3 ≠ p4) := Lib.hid (by rw [hp4]; exact Nat.ne_of_lt (heap_lt hMp310.out))
          have hnp4p3 : Hid (p4 ≠ p3) := Lib.hid (fun e => hnp3p4.out e.symm)
          replace hp4 := Lib.hid hp4
          replace hw := Lib.hid hw
          have hB11 := Lib.hid (hB10.out.trans (hb.mono hB10.out.size))
          have hL11 := Lib.hid (hL.out.below hB11.out hL.out.size)
          have hMq11 : Hid (MoAt w11 q m.y m.mo m.d m.h m.mi m.s m.z true) := Lib.hid ((hb.block q (heap_lt hMq10.out)).trans hMq10.out)
          have hMp111 : Hid (MoAt w11 p1 ay amo ad ah ami sa az true) := Lib.hid ((hb.block p1 (heap_lt hMp110.out)).trans hMp110.out)
          have hMp211 : Hid (MoAt w11 p2 m.y m.mo m.d m.h m.mi m.s 0 false) := Lib.hid ((hb.block p2 (heap_lt hMp210.out)).trans hMp210.out)
          have hMp311 : Hid (MoAt w11 p3 m.y m.mo m.d m.h m.mi m.s 0 false) := Lib.hid ((hb.block p3 (heap_lt hMp310.out)).trans hMp310.out)
          clear hb hB10 hL10 hMq10 hMp110 hMp210 hMp310
          go_upto_region 16 with fail
          rw [← hw.out, ← hp4.out]
          clear hw hp4
          obtain ⟨cq0, cq1, cq2, cq3, cq4, cq5, cq6, cq7⟩ := MomAt.of_heap hMq11.out
          obtain ⟨cp10, cp11, cp12, cp13, cp14, cp15, cp16, cp17⟩ := MomAt.of_heap hMp111.out
          obtain ⟨cp40, cp41, cp42, cp43, cp44, cp45, cp46, cp47⟩ := MomAt.of_heap hMp411.out
          go_wp2_with fail
          refine (works_c w11 hL11.out).mono ?_
          rintro e w ⟨rfl, hb⟩
          go_wp2_with fail
          go_ret
          exact ⟨rfl, hB11.out.trans (hb.mono hB11.out.size)⟩
      · have ha : a.P = mom0 := by have := zones_err (m := m.P) zone (by rw [ea]; exact hk); rw [ea] at this; exact this
        have g1 : (k != 0) = true := by simpa using hk
        replace hk := Lib.hid hk
        replace hv := Lib.hid hv
        have c2 : Hid (∀ w, LaidT w → Calls Tryz.prog 25 #[.agg #[.int .i64 m.y, .int .i64 m.mo, .int .i64 m.d, .int .i64 m.h, .int .i64 m.mi, .string m.s, .int .i64 m.z, .bool m.has], .int .i64 zone, .bool true] w (fun e w' => e = .returned (.tuple #[.agg #[.int .i64 0, .int .i64 0, .int .i64 0, .int .i64 0, .int .i64 0, .string ⟨#[]⟩, .int .i64 0, .bool false], .int .i64 k]) ∧ Below w.heap.size w w')) := Lib.hid (fun w hw => Adjust_c m ⟨0, 0, 0, 0, 0, ⟨#[]⟩, 0, false⟩ zone true k (by rw [ea, ha]; rfl) hsm w hw)
        clear ea ha eS e3
        obtain ⟨q, hq⟩ : ∃ q, q = W.heap.size := ⟨_, rfl⟩
        obtain ⟨w1, hw⟩ : ∃ w, w = W.alloc (.cells #[.int .i64 m.y, .int .i64 m.mo, .int .i64 m.d, .int .i64 m.h, .int .i64 m.mi, .string m.s, .int .i64 m.z, .bool m.has] 24) := ⟨_, rfl⟩
        have hB1 : Hid (Below W.heap.size W w1) := Lib.hid (by rw [hw]; exact (Below.refl _ _).alloc (Nat.le_refl _) _)
        have hL1 := Lib.hid (hL.below hB1.out hL.size)
        have hMq1 : Hid (MoAt w1 q m.y m.mo m.d m.h m.mi m.s m.z m.has) := Lib.hid (by rw [hw, hq]; exact (MapKept.heap_alloc _ _).1)
        have hgeq : Hid (W.heap.size ≤ q) := Lib.hid (by rw [hq]; exact Nat.le_refl _)
        replace hq := Lib.hid hq
        replace hw := Lib.hid hw
        replace hL := Lib.hid hL
        go_enter Tryz.func8, Tryz.ntmps8
        go_upto_region 1 with fail
        rw [← hw.out, ← hq.out]
        clear hw
        obtain ⟨cq0, cq1, cq2, cq3, cq4, cq5, cq6, cq7⟩ := MomAt.of_heap hMq1.out
        go_wp2_with fail
        refine (c1.out w1 hL1.out).mono ?_
        rintro e w2 ⟨rfl, hb⟩
        have hB2 := Lib.hid (hB1.out.trans (hb.mono hB1.out.size))
        have hL2 := Lib.hid (hL.out.below hB2.out hL.out.size)
        have hMq2 : Hid (MoAt w2 q m.y m.mo m.d m.h m.mi m.s m.z m.has) := Lib.hid ((hb.block q (heap_lt hMq1.out)).trans hMq1.out)
        clear hb hB1 hL1 hMq1
        clear cq0 cq1 cq2 cq3 cq4 cq5 cq6 cq7
        obtain ⟨cq0, cq1, cq2, cq3, cq4, cq5, cq6, cq7⟩ := MomAt.of_heap hMq2.out
        go_wp2_with fail
        refine (c2.out w2 hL2.out).mono ?_
        rintro e w3 ⟨rfl, hb⟩
        have hB3 := Lib.hid (hB2.out.trans (hb.mono hB2.out.size))
        have hL3 := Lib.hid (hL.out.below hB3.out hL.out.size)
        have hMq3 : Hid (MoAt w3 q m.y m.mo m.d m.h m.mi m.s m.z m.has) := Lib.hid ((hb.block q (heap_lt hMq2.out)).trans hMq2.out)
        clear hb hB2 hL2 hMq2
        clear cq0 cq1 cq2 cq3 cq4 cq5 cq6 cq7
        obtain ⟨p1, hp1⟩ : ∃ q, q = w3.heap.size := ⟨_, rfl⟩
        obtain ⟨w4, hw⟩ : ∃ w, w = w3.alloc (.cells #[.int .i64 0, .int .i64 0, .int .i64 0, .int .i64 0, .int .i64 0, .string ⟨#[]⟩, .int .i64 0, .bool false] 24) := ⟨_, rfl⟩
        have hb : Below w3.heap.size w3 w4 := by rw [hw]; exact (Below.refl _ _).alloc (Nat.le_refl _) _
        have hMp14 : Hid (MoAt w4 p1 0 0 0 0 0 ⟨#[]⟩ 0 false) := Lib.hid (by rw [hw, hp1]; exact (MapKept.heap_alloc _ _).1)
        have hgep1 : Hid (W.heap.size ≤ p1) := Lib.hid (by rw [hp1]; exact hB3.out.size)
        have hnqp1 : Hid (q ≠ p1) := Lib.hid (by rw [hp1]; exact Nat.ne_of_lt (heap_lt hMq3.out))
        have hnp1q : Hid (p1 ≠ q) := Lib.hid (fun e => hnqp1.out e.symm)
        replace hp1 := Lib.hid hp1
        replace hw := Lib.hid hw
        have hB4 := Lib.hid (hB3.out.trans (hb.mono hB3.out.size))
        have hL4 := Lib.hid (hL.out.below hB4.out hL.out.size)
        have hMq4 : Hid (MoAt w4 q m.y m.mo m.d m.h m.mi m.s m.z m.has) := Lib.hid ((hb.block q (heap_lt hMq3.out)).trans hMq3.out)
        clear hb hB3 hL3 hMq3
        go_upto_region 5 with fail
        rw [← hw.out, ← hp1.out]
        clear hw hp1
        obtain ⟨cq0, cq1, cq2, cq3, cq4, cq5, cq6, cq7⟩ := MomAt.of_heap hMq4.out
        go_wp2_with fail
        refine (c3.out w4 hL4.out).mono ?_
        rintro e w5 ⟨rfl, hb⟩
        have hB5 := Lib.hid (hB4.out.trans (hb.mono hB4.out.size))
        have hL5 := Lib.hid (hL.out.below hB5.out hL.out.size)
        have hMq5 : Hid (MoAt w5 q m.y m.mo m.d m.h m.mi m.s m.z m.has) := Lib.hid ((hb.block q (heap_lt hMq4.out)).trans hMq4.out)
        have hMp15 : Hid (MoAt w5 p1 0 0 0 0 0 ⟨#[]⟩ 0 false) := Lib.hid ((hb.block p1 (heap_lt hMp14.out)).trans hMp14.out)
        clear hb hB4 hL4 hMq4 hMp14
        clear cq0 cq1 cq2 cq3 cq4 cq5 cq6 cq7
        obtain ⟨p2, hp2⟩ : ∃ q, q = w5.heap.size := ⟨_, rfl⟩
        obtain ⟨w6, hw⟩ : ∃ w, w = w5.alloc (.cells #[.int .i64 m.y, .int .i64 m.mo, .int .i64 m.d, .int .i64 m.h, .int .i64 m.mi, .string m.s, .int .i64 0, .bool false] 24) := ⟨_, rfl⟩
        have hb : Below w5.heap.size w5 w6 := by rw [hw]; exact (Below.refl _ _).alloc (Nat.le_refl _) _
        have hMp26 : Hid (MoAt w6 p2 m.y m.mo m.d m.h m.mi m.s 0 false) := Lib.hid (by rw [hw, hp2]; exact (MapKept.heap_alloc _ _).1)
        have hgep2 : Hid (W.heap.size ≤ p2) := Lib.hid (by rw [hp2]; exact hB5.out.size)
        have hnqp2 : Hid (q ≠ p2) := Lib.hid (by rw [hp2]; exact Nat.ne_of_lt (heap_lt hMq5.out))
        have hnp2q : Hid (p2 ≠ q) := Lib.hid (fun e => hnqp2.out e.symm)
        have hnp1p2 : Hid (p1 ≠ p2) := Lib.hid (by rw [hp2]; exact Nat.ne_of_lt (heap_lt hMp15.out))
        have hnp2p1 : Hid (p2 ≠ p1) := Lib.hid (fun e => hnp1p2.out e.symm)
        replace hp2 := Lib.hid hp2
        replace hw := Lib.hid hw
        have hB6 := Lib.hid (hB5.out.trans (hb.mono hB5.out.size))
        have hL6 := Lib.hid (hL.out.below hB6.out hL.out.size)
        have hMq6 : Hid (MoAt w6 q m.y m.mo m.d m.h m.mi m.s m.z m.has) := Lib.hid ((hb.block q (heap_lt hMq5.out)).trans hMq5.out)
        have hMp16 : Hid (MoAt w6 p1 0 0 0 0 0 ⟨#[]⟩ 0 false) := Lib.hid ((hb.block p1 (heap_lt hMp15.out)).trans hMp15.out)
        clear hb hB5 hL5 hMq5 hMp15
        go_upto_region 8 with fail
        rw [← hw.out, ← hp2.out]
        clear hw hp2
        obtain ⟨cq0, cq1, cq2, cq3, cq4, cq5, cq6, cq7⟩ := MomAt.of_heap hMq6.out
        obtain ⟨p3, hp3⟩ : ∃ q, q = w6.heap.size := ⟨_, rfl⟩
        obtain ⟨w7, hw⟩ : ∃ w, w = w6.alloc (.cells #[.int .i64 m.y, .int .i64 m.mo, .int .i64 m.d, .int .i64 m.h, .int .i64 m.mi, .string m.s, .int .i64 m.z, .bool m.has] 24) := ⟨_, rfl⟩
        have hb : Below w6.heap.size w6 w7 := by rw [hw]; exact (Below.refl _ _).alloc (Nat.le_refl _) _
        have hMp37 : Hid (MoAt w7 p3 m.y m.mo m.d m.h m.mi m.s m.z m.has) := Lib.hid (by rw [hw, hp3]; exact (MapKept.heap_alloc _ _).1)
        have hgep3 : Hid (W.heap.size ≤ p3) := Lib.hid (by rw [hp3]; exact hB6.out.size)
        have hnqp3 : Hid (q ≠ p3) := Lib.hid (by rw [hp3]; exact Nat.ne_of_lt (heap_lt hMq6.out))
        have hnp3q : Hid (p3 ≠ q) := Lib.hid (fun e => hnqp3.out e.symm)
        have hnp1p3 : Hid (p1 ≠ p3) := Lib.hid (by rw [hp3]; exact Nat.ne_of_lt (heap_lt hMp16.out))
        have hnp3p1 : Hid (p3 ≠ p1) := Lib.hid (fun e => hnp1p3.out e.symm)
        have hnp2p3 : Hid (p2 ≠ p3) := Lib.hid (by rw [hp3]; exact Nat.ne_of_lt (heap_lt hMp26.out))
        have hnp3p2 : Hid (p3 ≠ p2) := Lib.hid (fun e => hnp2p3.out e.symm)
        replace hp3 := Lib.hid hp3
        replace hw := Lib.hid hw
        have hB7 := Lib.hid (hB6.out.trans (hb.mono hB6.out.size))
        have hL7 := Lib.hid (hL.out.below hB7.out hL.out.size)
        have hMq7 : Hid (MoAt w7 q m.y m.mo m.d m.h m.mi m.s m.z m.has) := Lib.hid ((hb.block q (heap_lt hMq6.out)).trans hMq6.out)
        have hMp17 : Hid (MoAt w7 p1 0 0 0 0 0 ⟨#[]⟩ 0 false) := Lib.hid ((hb.block p1 (heap_lt hMp16.out)).trans hMp16.out)
        have hMp27 : Hid (MoAt w7 p2 m.y m.mo m.d m.h m.mi m.s 0 false) := Lib.hid ((hb.block p2 (heap_lt hMp26.out)).trans hMp26.out)
        clear hb hB6 hL6 hMq6 hMp16 hMp26
        go_upto_region 9 with fail
        rw [← hw.out, ← hp3.out]
        clear hw hp3
        clear cq0 cq1 cq2 cq3 cq4 cq5 cq6 cq7
        obtain ⟨cp30, cp31, cp32, cp33, cp34, cp35, cp36, cp37⟩ := MomAt.of_heap hMp37.out
        have ff6 := Lib.frozen_of_heap hMp37.out 6
        have ff7 := Lib.frozen_of_heap hMp37.out 7
        obtain ⟨w8, hw⟩ : ∃ w, w = ((w7.setCell ⟨p3, 6, none⟩ (.int .i64 0)).setCell ⟨p3, 7, none⟩ (.bool false)) := ⟨_, rfl⟩
        have hB8 : Hid (Below W.heap.size W w8) := Lib.hid (by rw [hw]; exact hB7.out.trans (((Below.refl _ _).setCell (p := ⟨p3, 6, none⟩) hgep3.out _).setCell (p := ⟨p3, 7, none⟩) hgep3.out _))
        have hL8 := Lib.hid (hL.out.below hB8.out hL.out.size)
        have hMp38 : Hid (MoAt w8 p3 m.y m.mo m.d m.h m.mi m.s 0 false) := Lib.hid (by rw [hw]; exact (Lib.heap_setCell_same (i := 7) (Lib.heap_setCell_same (i := 6) hMp37.out _) _))
        have hMq8 : Hid (MoAt w8 q m.y m.mo m.d m.h m.mi m.s m.z m.has) := Lib.hid (by rw [hw]; exact ((Below.heap_setCell _ _ _ _ hnqp3.out).trans ((Below.heap_setCell _ _ _ _ hnqp3.out).trans hMq7.out)))
        have hMp18 : Hid (MoAt w8 p1 0 0 0 0 0 ⟨#[]⟩ 0 false) := Lib.hid (by rw [hw]; exact ((Below.heap_setCell _ _ _ _ hnp1p3.out).trans ((Below.heap_setCell _ _ _ _ hnp1p3.out).trans hMp17.out)))
        have hMp28 : Hid (MoAt w8 p2 m.y m.mo m.d m.h m.mi m.s 0 false) := Lib.hid (by rw [hw]; exact ((Below.heap_setCell _ _ _ _ hnp2p3.out).trans ((Below.heap_setCell _ _ _ _ hnp2p3.out).trans hMp27.out)))
        replace hw := Lib.hid hw
        go_upto_region 10 with fail
        rw [← hw.out]
        clear hw ff6 ff7
        clear cp30 cp31 cp32 cp33 cp34 cp35 cp36 cp37
        clear hB7 hL7 hMq7 hMp17 hMp27 hMp37
        obtain ⟨cp10, cp11, cp12, cp13, cp14, cp15, cp16, cp17⟩ := MomAt.of_heap hMp18.out
        obtain ⟨cp20, cp21, cp22, cp23, cp24, cp25, cp26, cp27⟩ := MomAt.of_heap hMp28.out
        obtain ⟨cp30, cp31, cp32, cp33, cp34, cp35, cp36, cp37⟩ := MomAt.of_heap hMp38.out
        go_wp2_with fail
        refine (works_c w8 hL8.out).mono ?_
        rintro e w ⟨rfl, hb⟩
        go_wp2_with fail
        go_ret
        exact ⟨rfl, hB8.out.trans (hb.mono hB8.out.size)⟩
    · rw [if_neg hv] at hk3
      subst hk3
      rw [Bool.not_eq_true] at hv
      have c1 : Hid (∀ w, LaidT w → Calls Tryz.prog 20 #[.agg #[.int .i64 m.y, .int .i64 m.mo, .int .i64 m.d, .int .i64 m.h, .int .i64 m.mi, .string m.s, .int .i64 m.z, .bool m.has]] w (fun e w' => e = .returned (.tuple #[.string S, .int .i64 1]) ∧ Below w.heap.size w w')) := Lib.hid (fun w hw => Seconds_c m S 1 eS hsm w hw)
      have c2 : Hid (∀ w, LaidT w → Calls Tryz.prog 25 #[.agg #[.int .i64 m.y, .int .i64 m.mo, .int .i64 m.d, .int .i64 m.h, .int .i64 m.mi, .string m.s, .int .i64 m.z, .bool m.has], .int .i64 zone, .bool true] w (fun e w' => e = .returned (.tuple #[.agg #[.int .i64 0, .int .i64 0, .int .i64 0, .int .i64 0, .int .i64 0, .string ⟨#[]⟩, .int .i64 0, .bool false], .int .i64 1]) ∧ Below w.heap.size w w')) := Lib.hid (fun w hw => Adjust_c m ⟨0, 0, 0, 0, 0, ⟨#[]⟩, 0, false⟩ zone true 1 (zones_bad hv zone true) hsm w hw)
      have c3 : Hid (∀ w, LaidT w → Calls Tryz.prog 25 #[.agg #[.int .i64 m.y, .int .i64 m.mo, .int .i64 m.d, .int .i64 m.h, .int .i64 m.mi, .string m.s, .int .i64 m.z, .bool m.has], .int .i64 zone, .bool false] w (fun e w' => e = .returned (.tuple #[.agg #[.int .i64 0, .int .i64 0, .int .i64 0, .int .i64 0, .int .i64 0, .string ⟨#[]⟩, .int .i64 0, .bool false], .int .i64 1]) ∧ Below w.heap.size w w')) := Lib.hid (fun w hw => Adjust_c m ⟨0, 0, 0, 0, 0, ⟨#[]⟩, 0, false⟩ zone false 1 (zones_bad hv zone false) hsm w hw)
      clear eS
      replace hv := Lib.hid hv
      obtain ⟨q, hq⟩ : ∃ q, q = W.heap.size := ⟨_, rfl⟩
      obtain ⟨w1, hw⟩ : ∃ w, w = W.alloc (.cells #[.int .i64 m.y, .int .i64 m.mo, .int .i64 m.d, .int .i64 m.h, .int .i64 m.mi, .string m.s, .int .i64 m.z, .bool m.has] 24) := ⟨_, rfl⟩
      have hB1 : Hid (Below W.heap.size W w1) := Lib.hid (by rw [hw]; exact (Below.refl _ _).alloc (Nat.le_refl _) _)
      have hL1 := Lib.hid (hL.below hB1.out hL.size)
      have hMq1 : Hid (MoAt w1 q m.y m.mo m.d m.h m.mi m.s m.z m.has) := Lib.hid (by rw [hw, hq]; exact (MapKept.heap_alloc _ _).1)
      have hgeq : Hid (W.heap.size ≤ q) := Lib.hid (by rw [hq]; exact Nat.le_refl _)
      replace hq := Lib.hid hq
      replace hw := Lib.hid hw
      replace hL := Lib.hid hL
      go_enter Tryz.func8, Tryz.ntmps8
      go_upto_region 1 with fail
      rw [← hw.out, ← hq.out]
      clear hw
      obtain ⟨cq0, cq1, cq2, cq3, cq4, cq5, cq6, cq7⟩ := MomAt.of_heap hMq1.out
      go_wp2_with fail
      refine (c1.out w1 hL1.out).mono ?_
      rintro e w2 ⟨rfl, hb⟩
      have hB2 := Lib.hid (hB1.out.trans (hb.mono hB1.out.size))
      have hL2 := Lib.hid (hL.out.below hB2.out hL.out.size)
      have hMq2 : Hid (MoAt w2 q m.y m.mo m.d m.h m.mi m.s m.z m.has) := Lib.hid ((hb.block q (heap_lt hMq1.out)).trans hMq1.out)
      clear hb hB1 hL1 hMq1
      clear cq0 cq1 cq2 cq3 cq4 cq5 cq6 cq7
      obtain ⟨cq0, cq1, cq2, cq3, cq4, cq5, cq6, cq7⟩ := MomAt.of_heap hMq2.out
      go_wp2_with fail
      refine (c2.out w2 hL2.out).mono ?_
      rintro e w3 ⟨rfl, hb⟩
      have hB3 := Lib.hid (hB2.out.trans (hb.mono hB2.out.size))
      have hL3 := Lib.hid (hL.out.below hB3.out hL.out.size)
      have hMq3 : Hid (MoAt w3 q m.y m.mo m.d m.h m.mi m.s m.z m.has) := Lib.hid ((hb.block q (heap_lt hMq2.out)).trans hMq2.out)
      clear hb hB2 hL2 hMq2
      clear cq0 cq1 cq2 cq3 cq4 cq5 cq6 cq7
      obtain ⟨p1, hp1⟩ : ∃ q, q = w3.heap.size := ⟨_, rfl⟩
      obtain ⟨w4, hw⟩ : ∃ w, w = w3.alloc (.cells #[.int .i64 0, .int .i64 0, .int .i64 0, .int .i64 0, .int .i64 0, .string ⟨#[]⟩, .int .i64 0, .bool false] 24) := ⟨_, rfl⟩
      have hb : Below w3.heap.size w3 w4 := by rw [hw]; exact (Below.refl _ _).alloc (Nat.le_refl _) _
      have hMp14 : Hid (MoAt w4 p1 0 0 0 0 0 ⟨#[]⟩ 0 false) := Lib.hid (by rw [hw, hp1]; exact (MapKept.heap_alloc _ _).1)
      have hgep1 : Hid (W.heap.size ≤ p1) := Lib.hid (by rw [hp1]; exact hB3.out.size)
      have hnqp1 : Hid (q ≠ p1) := Lib.hid (by rw [hp1]; exact Nat.ne_of_lt (heap_lt hMq3.out))
      have hnp1q : Hid (p1 ≠ q) := Lib.hid (fun e => hnqp1.out e.symm)
      replace hp1 := Lib.hid hp1
      replace hw := Lib.hid hw
      have hB4 := Lib.hid (hB3.out.trans (hb.mono hB3.out.size))
      have hL4 := Lib.hid (hL.out.below hB4.out hL.out.size)
      have hMq4 : Hid (MoAt w4 q m.y m.mo m.d m.h m.mi m.s m.z m.has) := Lib.hid ((hb.block q (heap_lt hMq3.out)).trans hMq3.out)
      clear hb hB3 hL3 hMq3
      go_upto_region 5 with fail
      rw [← hw.out, ← hp1.out]
      clear hw hp1
      obtain ⟨cq0, cq1, cq2, cq3, cq4, cq5, cq6, cq7⟩ := MomAt.of_heap hMq4.out
      go_wp2_with fail
      refine (c3.out w4 hL4.out).mono ?_
      rintro e w5 ⟨rfl, hb⟩
      have hB5 := Lib.hid (hB4.out.trans (hb.mono hB4.out.size))
      have hL5 := Lib.hid (hL.out.below hB5.out hL.out.size)
      have hMq5 : Hid (MoAt w5 q m.y m.mo m.d m.h m.mi m.s m.z m.has) := Lib.hid ((hb.block q (heap_lt hMq4.out)).trans hMq4.out)
      have hMp15 : Hid (MoAt w5 p1 0 0 0 0 0 ⟨#[]⟩ 0 false) := Lib.hid ((hb.block p1 (heap_lt hMp14.out)).trans hMp14.out)
      clear hb hB4 hL4 hMq4 hMp14
      clear cq0 cq1 cq2 cq3 cq4 cq5 cq6 cq7
      obtain ⟨p2, hp2⟩ : ∃ q, q = w5.heap.size := ⟨_, rfl⟩
      obtain ⟨w6, hw⟩ : ∃ w, w = w5.alloc (.cells #[.int .i64 0, .int .i64 0, .int .i64 0, .int .i64 0, .int .i64 0, .string ⟨#[]⟩, .int .i64 0, .bool false] 24) := ⟨_, rfl⟩
      have hb : Below w5.heap.size w5 w6 := by rw [hw]; exact (Below.refl _ _).alloc (Nat.le_refl _) _
      have hMp26 : Hid (MoAt w6 p2 0 0 0 0 0 ⟨#[]⟩ 0 false) := Lib.hid (by rw [hw, hp2]; exact (MapKept.heap_alloc _ _).1)
      have hgep2 : Hid (W.heap.size ≤ p2) := Lib.hid (by rw [hp2]; exact hB5.out.size)
      have hnqp2 : Hid (q ≠ p2) := Lib.hid (by rw [hp2]; exact Nat.ne_of_lt (heap_lt hMq5.out))
      have hnp2q : Hid (p2 ≠ q) := Lib.hid (fun e => hnqp2.out e.symm)
      have hnp1p2 : Hid (p1 ≠ p2) := Lib.hid (by rw [hp2]; exact Nat.ne_of_lt (heap_lt hMp15.out))
      have hnp2p1 : Hid (p2 ≠ p1) := Lib.hid (fun e => hnp1p2.out e.symm)
      replace hp2 := Lib.hid hp2
      replace hw := Lib.hid hw
      have hB6 := Lib.hid (hB5.out.trans (hb.mono hB5.out.size))
      have hL6 := Lib.hid (hL.out.below hB6.out hL.out.size)
      have hMq6 : Hid (MoAt w6 q m.y m.mo m.d m.h m.mi m.s m.z m.has) := Lib.hid ((hb.block q (heap_lt hMq5.out)).trans hMq5.out)
      have hMp16 : Hid (MoAt w6 p1 0 0 0 0 0 ⟨#[]⟩ 0 false) := Lib.hid ((hb.block p1 (heap_lt hMp15.out)).trans hMp15.out)
      clear hb hB5 hL5 hMq5 hMp15
      go_upto_region 6 with fail
      rw [← hw.out, ← hp2.out]
      clear hw hp2
      obtain ⟨cq0, cq1, cq2, cq3, cq4, cq5, cq6, cq7⟩ := MomAt.of_heap hMq6.out
      go_wp2_with fail
      refine (works_c w6 hL6.out).mono ?_
      rintro e w ⟨rfl, hb⟩
      go_wp2_with fail
      go_ret
      exact ⟨rfl, hB6.out.trans (hb.mono hB6.out.size)⟩
end Go.Proofs.YtgobpoeccdgeiaaGreatDoor
