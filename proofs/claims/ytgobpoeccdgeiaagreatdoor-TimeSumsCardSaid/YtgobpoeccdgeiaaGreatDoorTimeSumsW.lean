/- TimeSums: seconds that are added are added to the seconds: the walk. (Printed by gensums.py.) -/
import Derived.Test.YtgobpoeccdgeiaaGreatDoorOe
namespace Go.Proofs.YtgobpoeccdgeiaaGreatDoor
open Go.RowKit NumP DurP TimeP Go.Proofs.YtgobpoeccdgeiaaGreatDoorW.PrintWords
set_option linter.unusedVariables false

theorem roundT_len (a : List UInt8) (dg : Int) (how : List UInt8) : (roundT a dg how).1.length ≤ 60 := by
  unfold roundT
  refine outN_len fun x h => ?_
  split at h
  · cases h
  · split at h
    · cases h
    · split at h
      · cases h
      · exact checkedN_lt h
set_option maxRecDepth 100000 in
set_option maxHeartbeats 4000000 in
theorem timeSums_walk (m : MB) (n : ByteArray) (W : World) (hL : LaidT W) (hn : n.size ≤ maxLen) : Calls Tryz.prog 13 #[.agg #[.int .i64 m.y, .int .i64 m.mo, .int .i64 m.d, .int .i64 m.h, .int .i64 m.mi, .string m.s, .int .i64 m.z, .bool m.has], .string n] W (fun e w' => e = .returned (.bool true) ∧ Below W.heap.size W w') := by
  by_cases hs : (m.s.size : Int) > 300
  · obtain ⟨q, hq⟩ : ∃ q, q = W.heap.size := ⟨_, rfl⟩
    obtain ⟨w1, hw⟩ : ∃ w, w = W.alloc (.cells #[.int .i64 m.y, .int .i64 m.mo, .int .i64 m.d, .int .i64 m.h, .int .i64 m.mi, .string m.s, .int .i64 m.z, .bool m.has] 24) := ⟨_, rfl⟩
    have hB1 : Hid (Below W.heap.size W w1) := Lib.hid (by rw [hw]; exact (Below.refl _ _).alloc (Nat.le_refl _) _)
    have hL1 := Lib.hid (hL.below hB1.out hL.size)
    have hMq1 : Hid (MoAt w1 q m.y m.mo m.d m.h m.mi m.s m.z m.has) := Lib.hid (by rw [hw, hq]; exact (MapKept.heap_alloc _ _).1)
    have hgeq : Hid (W.heap.size ≤ q) := Lib.hid (by rw [hq]; exact Nat.le_refl _)
    replace hq := Lib.hid hq
    replace hw := Lib.hid hw
    replace hL := Lib.hid hL
    go_enter Tryz.func13, Tryz.ntmps13
    go_upto_region 1 with fail
    rw [← hw.out, ← hq.out]
    clear hw
    obtain ⟨cq0, cq1, cq2, cq3, cq4, cq5, cq6, cq7⟩ := MomAt.of_heap hMq1.out
    go_wp2_with fail
    refine (works_c w1 hL1.out).mono ?_
    rintro e w ⟨rfl, hb⟩
    go_wp2_with fail
    go_ret
    exact ⟨rfl, hB1.out.trans (hb.mono hB1.out.size)⟩
  · by_cases hs2 : (n.size : Int) > 300
    · obtain ⟨q, hq⟩ : ∃ q, q = W.heap.size := ⟨_, rfl⟩
      obtain ⟨w1, hw⟩ : ∃ w, w = W.alloc (.cells #[.int .i64 m.y, .int .i64 m.mo, .int .i64 m.d, .int .i64 m.h, .int .i64 m.mi, .string m.s, .int .i64 m.z, .bool m.has] 24) := ⟨_, rfl⟩
      have hB1 : Hid (Below W.heap.size W w1) := Lib.hid (by rw [hw]; exact (Below.refl _ _).alloc (Nat.le_refl _) _)
      have hL1 := Lib.hid (hL.below hB1.out hL.size)
      have hMq1 : Hid (MoAt w1 q m.y m.mo m.d m.h m.mi m.s m.z m.has) := Lib.hid (by rw [hw, hq]; exact (MapKept.heap_alloc _ _).1)
      have hgeq : Hid (W.heap.size ≤ q) := Lib.hid (by rw [hq]; exact Nat.le_refl _)
      replace hq := Lib.hid hq
      replace hw := Lib.hid hw
      replace hL := Lib.hid hL
      go_enter Tryz.func13, Tryz.ntmps13
      go_upto_region 1 with fail
      rw [← hw.out, ← hq.out]
      clear hw
      obtain ⟨cq0, cq1, cq2, cq3, cq4, cq5, cq6, cq7⟩ := MomAt.of_heap hMq1.out
      go_wp2_with fail
      refine (works_c w1 hL1.out).mono ?_
      rintro e w ⟨rfl, hb⟩
      go_wp2_with fail
      go_ret
      exact ⟨rfl, hB1.out.trans (hb.mono hB1.out.size)⟩
    · have hsm : m.s.size ≤ 1000 := by omega
      obtain ⟨a, k, ea⟩ := MB.ex (addSecondsP m.P n.data.toList)
      by_cases hk : k = 0
      · subst hk
        obtain ⟨⟨c1l, c2l⟩, sl, tl, e1, e2, e3, e4, e5, ez, eh⟩ := sums_law ea
        obtain ⟨C, hC⟩ : ∃ b : ByteArray, b.data.toList = c1l := ⟨⟨c1l.toArray⟩, rfl⟩
        obtain ⟨D, hD⟩ : ∃ b : ByteArray, b.data.toList = c2l := ⟨⟨c2l.toArray⟩, rfl⟩
        obtain ⟨S, hS⟩ : ∃ b : ByteArray, b.data.toList = sl := ⟨⟨sl.toArray⟩, rfl⟩
        obtain ⟨T, hT⟩ : ∃ b : ByteArray, b.data.toList = tl := ⟨⟨tl.toArray⟩, rfl⟩
        simp only at e1 e2 e5
        rw [← hC] at e1
        rw [← hC, ← hD] at e2
        rw [← hS] at e3
        rw [← hT] at e4
        rw [← hS, ← hD, ← hT] at e5
        have hsa : a.s.size ≤ 1000 := by
          have h1 : validP a.P = true := by
            have := seconds_err (m := a.P)
            rw [e4] at this
            cases h : validP a.P with
            | true => rfl
            | false => rw [h] at this; cases this
          rw [← list_len]; have : a.s.data.toList.length ≤ 60 := valid_short h1; omega
        have lC : C.size ≤ 60 := by have := parseT_len n.data.toList; rw [e1] at this; rw [← list_len]; exact this
        have lD : D.size ≤ maxLen := by
          have : (roundT C.data.toList 6 [101, 118, 101, 110]).1.length ≤ 60 := roundT_len _ _ _
          rw [e2] at this; rw [← list_len]; exact Nat.le_trans this (by decide)
        have lS : S.size ≤ maxLen := by
          have hv : validP m.P = true := by
            have := seconds_err (m := m.P)
            rw [e3] at this
            cases h : validP m.P with
            | true => rfl
            | false => rw [h] at this; cases this
          obtain ⟨h1, h2⟩ := seconds_val hv
          rw [e3] at h1
          injection h1 with h1 h3
          rw [← list_len, h1]
          exact Nat.le_trans (textN_len (numU_good (Nat.lt_trans h2 (by decide))).1) (by decide)
        have gz : (a.z == m.z) = true := by have : a.z = m.z := ez; simpa using this
        have gh : (a.has == m.has) = true := by have : a.has = m.has := eh; simpa using this
        have c1 : Hid (∀ w, LaidT w → Calls Tryz.prog 28 #[.agg #[.int .i64 m.y, .int .i64 m.mo, .int .i64 m.d, .int .i64 m.h, .int .i64 m.mi, .string m.s, .int .i64 m.z, .bool m.has], .string n] w (fun e w' => e = .returned (.tuple #[.agg #[.int .i64 a.y, .int .i64 a.mo, .int .i64 a.d, .int .i64 a.h, .int .i64 a.mi, .string a.s, .int .i64 a.z, .bool a.has], .int .i64 0]) ∧ Below w.heap.size w w')) := Lib.hid (fun w hw => Secs_c m a n 0 ea hsm hn w hw)
        have c2 : Hid (∀ w, LaidT w → Calls Tryz.prog 33 #[.string n] w (fun e w' => e = .returned (.tuple #[.string C, .int .i64 0]) ∧ Below w.heap.size w w')) := Lib.hid (fun w hw => by have := Parse_b n w hw.base.num hn; rw [e1] at this; exact this)
        have c3 : Hid (∀ w, LaidT w → Calls Tryz.prog 34 #[.string C, .int .i64 6, .string ⟨#[101, 118, 101, 110]⟩] w (fun e w' => e = .returned (.tuple #[.string D, .int .i64 0]) ∧ Below w.heap.size w w')) := Lib.hid (fun w hw => by have := Round_even C 6 w hw.base.num (Nat.le_trans lC (by decide)) (by decide) (by decide); rw [e2] at this; exact this)
        have c4 : Hid (∀ w, LaidT w → Calls Tryz.prog 20 #[.agg #[.int .i64 m.y, .int .i64 m.mo, .int .i64 m.d, .int .i64 m.h, .int .i64 m.mi, .string m.s, .int .i64 m.z, .bool m.has]] w (fun e w' => e = .returned (.tuple #[.string S, .int .i64 0]) ∧ Below w.heap.size w w')) := Lib.hid (fun w hw => Seconds_c m S 0 e3 hsm w hw)
        have c5 : Hid (∀ w, LaidT w → Calls Tryz.prog 20 #[.agg #[.int .i64 a.y, .int .i64 a.mo, .int .i64 a.d, .int .i64 a.h, .int .i64 a.mi, .string a.s, .int .i64 a.z, .bool a.has]] w (fun e w' => e = .returned (.tuple #[.string T, .int .i64 0]) ∧ Below w.heap.size w w')) := Lib.hid (fun w hw => Seconds_c a T 0 e4 hsa w hw)
        have c6 : Hid (∀ w, LaidT w → Calls Tryz.prog 35 #[.string S, .string D] w (fun e w' => e = .returned (.tuple #[.string T, .int .i64 0]) ∧ Below w.heap.size w w')) := Lib.hid (fun w hw => by have := add_b S D w hw.base.num lS lD; rw [e5] at this; exact this)
        clear e1 e2 e3 e4 e5 ez eh ea hC hD hS hT lC lD lS
        obtain ⟨q, hq⟩ : ∃ q, q = W.heap.size := ⟨_, rfl⟩
        obtain ⟨w1, hw⟩ : ∃ w, w = W.alloc (.cells #[.int .i64 m.y, .int .i64 m.mo, .int .i64 m.d, .int .i64 m.h, .int .i64 m.mi, .string m.s, .int .i64 m.z, .bool m.has] 24) := ⟨_, rfl⟩
        have hB1 : Hid (Below W.heap.size W w1) := Lib.hid (by rw [hw]; exact (Below.refl _ _).alloc (Nat.le_refl _) _)
        have hL1 := Lib.hid (hL.below hB1.out hL.size)
        have hMq1 : Hid (MoAt w1 q m.y m.mo m.d m.h m.mi m.s m.z m.has) := Lib.hid (by rw [hw, hq]; exact (MapKept.heap_alloc _ _).1)
        have hgeq : Hid (W.heap.size ≤ q) := Lib.hid (by rw [hq]; exact Nat.le_refl _)
        replace hq := Lib.hid hq
        replace hw := Lib.hid hw
        replace hL := Lib.hid hL
        go_enter Tryz.func13, Tryz.ntmps13
        go_upto_region 1 with fail
        rw [← hw.out, ← hq.out]
        clear hw
        obtain ⟨cq0, cq1, cq2, cq3, cq4, cq5, cq6, cq7⟩ := MomAt.of_heap hMq1.out
        go_wp2_with fail
        refine (c1.out w1 hL1.out).mono ?_
        rintro e w2 ⟨rfl, hb⟩
        have hB2 := Lib.hid (hB1.out.trans (hb.mono hB1.out.size))
        have hL2 := Lib.hid (hL.out.below hB2.out hL.out.size)
        have hMq2 : Hid (MoAt w2 q m.y m.mo m.d m.h m.mi m.s m.z m.has) := Lib.hid ((hb.block q (heap_lt hMq1.out)).trans hMq1.out)
        clear hb hB1 hL1 hMq1
        clear cq0 cq1 cq2 cq3 cq4 cq5 cq6 cq7
        obtain ⟨p1, hp1⟩ : ∃ q, q = w2.heap.size := ⟨_, rfl⟩
        obtain ⟨w3, hw⟩ : ∃ w, w = w2.alloc (.cells #[.int .i64 a.y, .int .i64 a.mo, .int .i64 a.d, .int .i64 a.h, .int .i64 a.mi, .string a.s, .int .i64 a.z, .bool a.has] 24) := ⟨_, rfl⟩
        have hb : Below w2.heap.size w2 w3 := by rw [hw]; exact (Below.refl _ _).alloc (Nat.le_refl _) _
        have hMp13 : Hid (MoAt w3 p1 a.y a.mo a.d a.h a.mi a.s a.z a.has) := Lib.hid (by rw [hw, hp1]; exact (MapKept.heap_alloc _ _).1)
        have hgep1 : Hid (W.heap.size ≤ p1) := Lib.hid (by rw [hp1]; exact hB2.out.size)
        have hnqp1 : Hid (q ≠ p1) := Lib.hid (by rw [hp1]; exact Nat.ne_of_lt (heap_lt hMq2.out))
        have hnp1q : Hid (p1 ≠ q) := Lib.hid (fun e => hnqp1.out e.symm)
        replace hp1 := Lib.hid hp1
        replace hw := Lib.hid hw
        have hB3 := Lib.hid (hB2.out.trans (hb.mono hB2.out.size))
        have hL3 := Lib.hid (hL.out.below hB3.out hL.out.size)
        have hMq3 : Hid (MoAt w3 q m.y m.mo m.d m.h m.mi m.s m.z m.has) := Lib.hid ((hb.block q (heap_lt hMq2.out)).trans hMq2.out)
        clear hb hB2 hL2 hMq2
        go_upto_region 4 with fail
        rw [← hw.out, ← hp1.out]
        clear hw hp1
        go_wp2_with fail
        refine (c2.out w3 hL3.out).mono ?_
        rintro e w4 ⟨rfl, hb⟩
        have hB4 := Lib.hid (hB3.out.trans (hb.mono hB3.out.size))
        have hL4 := Lib.hid (hL.out.below hB4.out hL.out.size)
        have hMq4 : Hid (MoAt w4 q m.y m.mo m.d m.h m.mi m.s m.z m.has) := Lib.hid ((hb.block q (heap_lt hMq3.out)).trans hMq3.out)
        have hMp14 : Hid (MoAt w4 p1 a.y a.mo a.d a.h a.mi a.s a.z a.has) := Lib.hid ((hb.block p1 (heap_lt hMp13.out)).trans hMp13.out)
        clear hb hB3 hL3 hMq3 hMp13
        go_wp2_with fail
        refine (c3.out w4 hL4.out).mono ?_
        rintro e w5 ⟨rfl, hb⟩
        have hB5 := Lib.hid (hB4.out.trans (hb.mono hB4.out.size))
        have hL5 := Lib.hid (hL.out.below hB5.out hL.out.size)
        have hMq5 : Hid (MoAt w5 q m.y m.mo m.d m.h m.mi m.s m.z m.has) := Lib.hid ((hb.block q (heap_lt hMq4.out)).trans hMq4.out)
        have hMp15 : Hid (MoAt w5 p1 a.y a.mo a.d a.h a.mi a.s a.z a.has) := Lib.hid ((hb.block p1 (heap_lt hMp14.out)).trans hMp14.out)
        clear hb hB4 hL4 hMq4 hMp14
        obtain ⟨cq0, cq1, cq2, cq3, cq4, cq5, cq6, cq7⟩ := MomAt.of_heap hMq5.out
        go_wp2_with fail
        refine (c4.out w5 hL5.out).mono ?_
        rintro e w6 ⟨rfl, hb⟩
        have hB6 := Lib.hid (hB5.out.trans (hb.mono hB5.out.size))
        have hL6 := Lib.hid (hL.out.below hB6.out hL.out.size)
        have hMq6 : Hid (MoAt w6 q m.y m.mo m.d m.h m.mi m.s m.z m.has) := Lib.hid ((hb.block q (heap_lt hMq5.out)).trans hMq5.out)
        have hMp16 : Hid (MoAt w6 p1 a.y a.mo a.d a.h a.mi a.s a.z a.has) := Lib.hid ((hb.block p1 (heap_lt hMp15.out)).trans hMp15.out)
        clear hb hB5 hL5 hMq5 hMp15
        clear cq0 cq1 cq2 cq3 cq4 cq5 cq6 cq7
        obtain ⟨cp10, cp11, cp12, cp13, cp14, cp15, cp16, cp17⟩ := MomAt.of_heap hMp16.out
        go_wp2_with fail
        refine (c5.out w6 hL6.out).mono ?_
        rintro e w7 ⟨rfl, hb⟩
        have hB7 := Lib.hid (hB6.out.trans (hb.mono hB6.out.size))
        have hL7 := Lib.hid (hL.out.below hB7.out hL.out.size)
        have hMq7 : Hid (MoAt w7 q m.y m.mo m.d m.h m.mi m.s m.z m.has) := Lib.hid ((hb.block q (heap_lt hMq6.out)).trans hMq6.out)
        have hMp17 : Hid (MoAt w7 p1 a.y a.mo a.d a.h a.mi a.s a.z a.has) := Lib.hid ((hb.block p1 (heap_lt hMp16.out)).trans hMp16.out)
        clear hb hB6 hL6 hMq6 hMp16
        clear cp10 cp11 cp12 cp13 cp14 cp15 cp16 cp17
        go_wp2_with fail
        refine (c6.out w7 hL7.out).mono ?_
        rintro e w8 ⟨rfl, hb⟩
        have hB8 := Lib.hid (hB7.out.trans (hb.mono hB7.out.size))
        have hL8 := Lib.hid (hL.out.below hB8.out hL.out.size)
        have hMq8 : Hid (MoAt w8 q m.y m.mo m.d m.h m.mi m.s m.z m.has) := Lib.hid ((hb.block q (heap_lt hMq7.out)).trans hMq7.out)
        have hMp18 : Hid (MoAt w8 p1 a.y a.mo a.d a.h a.mi a.s a.z a.has) := Lib.hid ((hb.block p1 (heap_lt hMp17.out)).trans hMp17.out)
        clear hb hB7 hL7 hMq7 hMp17
        obtain ⟨cq0, cq1, cq2, cq3, cq4, cq5, cq6, cq7⟩ := MomAt.of_heap hMq8.out
        obtain ⟨cp10, cp11, cp12, cp13, cp14, cp15, cp16, cp17⟩ := MomAt.of_heap hMp18.out
        go_wp2_with fail
        refine (works_c w8 hL8.out).mono ?_
        rintro e w ⟨rfl, hb⟩
        go_wp2_with fail
        go_ret
        exact ⟨rfl, hB8.out.trans (hb.mono hB8.out.size)⟩
      · have ha : a.P = mom0 := sums_zero ea hk
        have ga : (k != 0) = true := by simpa using hk
        replace hk := Lib.hid hk
        have c1 : Hid (∀ w, LaidT w → Calls Tryz.prog 28 #[.agg #[.int .i64 m.y, .int .i64 m.mo, .int .i64 m.d, .int .i64 m.h, .int .i64 m.mi, .string m.s, .int .i64 m.z, .bool m.has], .string n] w (fun e w' => e = .returned (.tuple #[.agg #[.int .i64 0, .int .i64 0, .int .i64 0, .int .i64 0, .int .i64 0, .string ⟨#[]⟩, .int .i64 0, .bool false], .int .i64 k]) ∧ Below w.heap.size w w')) := Lib.hid (fun w hw => Secs_c m ⟨0, 0, 0, 0, 0, ⟨#[]⟩, 0, false⟩ n k (by rw [← show a = ⟨0, 0, 0, 0, 0, ⟨#[]⟩, 0, false⟩ from MB.inj ha]; exact ea) hsm hn w hw)
        clear ea ha
        obtain ⟨q, hq⟩ : ∃ q, q = W.heap.size := ⟨_, rfl⟩
        obtain ⟨w1, hw⟩ : ∃ w, w = W.alloc (.cells #[.int .i64 m.y, .int .i64 m.mo, .int .i64 m.d, .int .i64 m.h, .int .i64 m.mi, .string m.s, .int .i64 m.z, .bool m.has] 24) := ⟨_, rfl⟩
        have hB1 : Hid (Below W.heap.size W w1) := Lib.hid (by rw [hw]; exact (Below.refl _ _).alloc (Nat.le_refl _) _)
        have hL1 := Lib.hid (hL.below hB1.out hL.size)
        have hMq1 : Hid (MoAt w1 q m.y m.mo m.d m.h m.mi m.s m.z m.has) := Lib.hid (by rw [hw, hq]; exact (MapKept.heap_alloc _ _).1)
        have hgeq : Hid (W.heap.size ≤ q) := Lib.hid (by rw [hq]; exact Nat.le_refl _)
        replace hq := Lib.hid hq
        replace hw := Lib.hid hw
        replace hL := Lib.hid hL
        go_enter Tryz.func13, Tryz.ntmps13
        go_upto_region 1 with fail
        rw [← hw.out, ← hq.out]
        clear hw
        obtain ⟨cq0, cq1, cq2, cq3, cq4, cq5, cq6, cq7⟩ := MomAt.of_heap hMq1.out
        go_wp2_with fail
        refine (c1.out w1 hL1.out).mono ?_
        rintro e w2 ⟨rfl, hb⟩
        have hB2 := Lib.hid (hB1.out.trans (hb.mono hB1.out.size))
        have hL2 := Lib.hid (hL.out.below hB2.out hL.out.size)
        have hMq2 : Hid (MoAt w2 q m.y m.mo m.d m.h m.mi m.s m.z m.has) := Lib.hid ((hb.block q (heap_lt hMq1.out)).trans hMq1.out)
        clear hb hB1 hL1 hMq1
        clear cq0 cq1 cq2 cq3 cq4 cq5 cq6 cq7
        obtain ⟨p1, hp1⟩ : ∃ q, q = w2.heap.size := ⟨_, rfl⟩
        obtain ⟨w3, hw⟩ : ∃ w, w = w2.alloc (.cells #[.int .i64 0, .int .i64 0, .int .i64 0, .int .i64 0, .int .i64 0, .string ⟨#[]⟩, .int .i64 0, .bool false] 24) := ⟨_, rfl⟩
        have hb : Below w2.heap.size w2 w3 := by rw [hw]; exact (Below.refl _ _).alloc (Nat.le_refl _) _
        have hMp13 : Hid (MoAt w3 p1 0 0 0 0 0 ⟨#[]⟩ 0 false) := Lib.hid (by rw [hw, hp1]; exact (MapKept.heap_alloc _ _).1)
        have hgep1 : Hid (W.heap.size ≤ p1) := Lib.hid (by rw [hp1]; exact hB2.out.size)
        have hnqp1 : Hid (q ≠ p1) := Lib.hid (by rw [hp1]; exact Nat.ne_of_lt (heap_lt hMq2.out))
        have hnp1q : Hid (p1 ≠ q) := Lib.hid (fun e => hnqp1.out e.symm)
        replace hp1 := Lib.hid hp1
        replace hw := Lib.hid hw
        have hB3 := Lib.hid (hB2.out.trans (hb.mono hB2.out.size))
        have hL3 := Lib.hid (hL.out.below hB3.out hL.out.size)
        have hMq3 : Hid (MoAt w3 q m.y m.mo m.d m.h m.mi m.s m.z m.has) := Lib.hid ((hb.block q (heap_lt hMq2.out)).trans hMq2.out)
        clear hb hB2 hL2 hMq2
        go_upto_region 4 with fail
        rw [← hw.out, ← hp1.out]
        clear hw hp1
        obtain ⟨cp10, cp11, cp12, cp13, cp14, cp15, cp16, cp17⟩ := MomAt.of_heap hMp13.out
        go_wp2_with fail
        refine (works_c w3 hL3.out).mono ?_
        rintro e w ⟨rfl, hb⟩
        go_wp2_with fail
        go_ret
        exact ⟨rfl, hB3.out.trans (hb.mono hB3.out.size)⟩
end Go.Proofs.YtgobpoeccdgeiaaGreatDoor
