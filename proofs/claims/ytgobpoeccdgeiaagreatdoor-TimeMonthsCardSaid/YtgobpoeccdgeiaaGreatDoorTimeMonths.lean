/- TimeMonths: months that are added can be taken away again; twelve are a year: the walk. (Printed by genmonths.py.) -/
import Derived.Test.YtgobpoeccdgeiaaGreatDoorOe
import Derived.Deep.CutRange
namespace Go.Proofs.YtgobpoeccdgeiaaGreatDoor
open Go.RowKit NumP DurP TimeP Go.Proofs.YtgobpoeccdgeiaaGreatDoorW.PrintWords
set_option linter.unusedVariables false

theorem months_rng {m a : Mom} {k : Int} (h : addMonthsP m k = (a, 0)) : validP m = true ∧ -120000 ≤ k ∧ k ≤ 120000 := by
  cases hv : validP m with
  | false => unfold addMonthsP at h; rw [if_pos hv] at h; cases h
  | true =>
    unfold addMonthsP at h
    rw [if_neg (by rw [hv]; decide)] at h
    by_cases hr : k < -120000 ∨ 120000 < k
    · rw [if_pos hr] at h; cases h
    · exact ⟨rfl, by omega, by omega⟩
theorem valid_year {m : Mom} (h : validP m = true) : 1 ≤ m.y ∧ m.y ≤ 9999 := by
  obtain ⟨y, mo, d, hh, mi, n, e, hp, -⟩ := valid_of h
  have h1 := hp.date.y1
  have h2 := hp.y2
  rw [e]
  exact ⟨by show (1 : Int) ≤ (y : Int); omega, by show (y : Int) ≤ 9999; omega⟩
set_option maxRecDepth 100000 in
set_option maxHeartbeats 4000000 in
theorem timeMonths_e (m : MB) (n : Int) (W : World) (hL : LaidT W) (k : Int) (a : MB) (hk : k ≠ 0) (ea : addMonthsP m.P n = (a.P, k)) (hsm : m.s.size ≤ 1000) (hs : ¬ ((m.s.size : Int) > 300)) : Calls Tryz.prog 6 #[.agg #[.int .i64 m.y, .int .i64 m.mo, .int .i64 m.d, .int .i64 m.h, .int .i64 m.mi, .string m.s, .int .i64 m.z, .bool m.has], .int .i64 n] W (fun e w' => e = .returned (.bool true) ∧ Below W.heap.size W w') := by
  have ha : a.P = mom0 := by have := months_err (m := m.P) (k := n) (by rw [ea]; exact hk); rw [ea] at this; exact this
  have g1 : (k == 0) = false := by simpa using hk
  replace hk := Lib.hid hk
  have c1 : Hid (∀ w, LaidT w → Calls Tryz.prog 24 #[.agg #[.int .i64 m.y, .int .i64 m.mo, .int .i64 m.d, .int .i64 m.h, .int .i64 m.mi, .string m.s, .int .i64 m.z, .bool m.has], .int .i64 n] w (fun e w' => e = .returned (.tuple #[.agg #[.int .i64 0, .int .i64 0, .int .i64 0, .int .i64 0, .int .i64 0, .string ⟨#[]⟩, .int .i64 0, .bool false], .int .i64 k]) ∧ Below w.heap.size w w')) := Lib.hid (fun w hw => Months_c m ⟨0, 0, 0, 0, 0, ⟨#[]⟩, 0, false⟩ n k (by rw [ea, ha]; rfl) hsm w hw)
  clear ea ha
  obtain ⟨S, k3, eS⟩ := SB.ex (secondsT m.P)
  obtain ⟨t, k2, et⟩ := MB.ex (addMonthsP m.P 12)
  have hk3 := seconds_err (m := m.P)
  rw [eS] at hk3
  by_cases hv : validP m.P = true
  · rw [if_pos hv] at hk3
    replace hk3 : k3 = 0 := hk3
    subst hk3
    have hyb := valid_year hv
    have y1 : 1 ≤ m.y := hyb.1
    have y2 : m.y ≤ 9999 := hyb.2
    clear hyb
    by_cases hy : m.y = 9999
    · have gy : (m.y == 9999) = true := by simpa using hy
      have g2 : (k2 != 0) = true := by have := months_no (m := m.P) (Or.inr hy); rw [et] at this; simpa using this
      have c3 : Hid (∀ w, LaidT w → Calls Tryz.prog 24 #[.agg #[.int .i64 m.y, .int .i64 m.mo, .int .i64 m.d, .int .i64 m.h, .int .i64 m.mi, .string m.s, .int .i64 m.z, .bool m.has], .int .i64 12] w (fun e w' => e = .returned (.tuple #[.agg #[.int .i64 t.y, .int .i64 t.mo, .int .i64 t.d, .int .i64 t.h, .int .i64 t.mi, .string t.s, .int .i64 t.z, .bool t.has], .int .i64 k2]) ∧ Below w.heap.size w w')) := Lib.hid (fun w hw => Months_c m t 12 k2 et hsm w hw)
      have c4 : Hid (∀ w, LaidT w → Calls Tryz.prog 20 #[.agg #[.int .i64 m.y, .int .i64 m.mo, .int .i64 m.d, .int .i64 m.h, .int .i64 m.mi, .string m.s, .int .i64 m.z, .bool m.has]] w (fun e w' => e = .returned (.tuple #[.string S, .int .i64 0]) ∧ Below w.heap.size w w')) := Lib.hid (fun w hw => Seconds_c m S 0 eS hsm w hw)
      clear et eS
      replace hv := Lib.hid hv
      replace hy := Lib.hid hy
      obtain ⟨q, hq⟩ : ∃ q, q = W.heap.size := ⟨_, rfl⟩
      obtain ⟨w1, hw⟩ : ∃ w, w = W.alloc (.cells #[.int .i64 m.y, .int .i64 m.mo, .int .i64 m.d, .int .i64 m.h, .int .i64 m.mi, .string m.s, .int .i64 m.z, .bool m.has] 24) := ⟨_, rfl⟩
      have hB1 : Hid (Below W.heap.size W w1) := Lib.hid (by rw [hw]; exact (Below.refl _ _).alloc (Nat.le_refl _) _)
      have hL1 := Lib.hid (hL.below hB1.out hL.size)
      have hMq1 : Hid (MoAt w1 q m.y m.mo m.d m.h m.mi m.s m.z m.has) := Lib.hid (by rw [hw, hq]; exact (MapKept.heap_alloc _ _).1)
      have hgeq : Hid (W.heap.size ≤ q) := Lib.hid (by rw [hq]; exact Nat.le_refl _)
      replace hq := Lib.hid hq
      replace hw := Lib.hid hw
      replace hL := Lib.hid hL
      go_enter Tryz.func6, Tryz.ntmps6
      go_upto_region 1 with fail
      rw [← hw.out, ← hq.out]
      clear hw
      obtain ⟨cq0, cq1, cq2, cq3, cq4, cq5, cq6, cq7⟩ := MomAt.of_heap hMq1.out
      go_wp2_with fail
      refine (c1.out w1 hL1.out).mono ?_
      rintro e w2 ⟨rfl, hb⟩
      have hB2 := Lib.hid (hB1.out.trans (hb.mono hB1.out.size))
      have hL2 := Lib.hid (hL.out.below hB2.out hL.out.size)
      have hMq2 : Hid (MoAt w2 q m.y m.mo m.d m.h m.mi m.s m.z m.has) := Lib.hid ((hb.block q (heap_lt hMq1.out)).trans hMq1.out)
      clear hb hB1 hL1 hMq1
      clear cq0 cq1 cq2 cq3 cq4 cq5 cq6 cq7
      obtain ⟨p1, hp1⟩ : ∃ q, q = w2.heap.size := ⟨_, rfl⟩
      obtain ⟨w3, hw⟩ : ∃ w, w = w2.alloc (.cells #[.int .i64 0, .int .i64 0, .int .i64 0, .int .i64 0, .int .i64 0, .string ⟨#[]⟩, .int .i64 0, .bool false] 24) := ⟨_, rfl⟩
      have hb : Below w2.heap.size w2 w3 := by rw [hw]; exact (Below.refl _ _).alloc (Nat.le_refl _) _
      have hMp13 : Hid (MoAt w3 p1 0 0 0 0 0 ⟨#[]⟩ 0 false) := Lib.hid (by rw [hw, hp1]; exact (MapKept.heap_alloc _ _).1)
      have hgep1 : Hid (W.heap.size ≤ p1) := Lib.hid (by rw [hp1]; exact hB2.out.size)
      have hnqp1 : Hid (q ≠ p1) := Lib.hid (by rw [hp1]; exact Nat.ne_of_lt (heap_lt hMq2.out))
      have hnp1q : Hid (p1 ≠ q) := Lib.hid (fun e => hnqp1.out e.symm)
      replace hp1 := Lib.hid hp1
      replace hw := Lib.hid hw
      have hB3 := Lib.hid (hB2.out.trans (hb.mono hB2.out.size))
      have hL3 := Lib.hid (hL.out.below hB3.out hL.out.size)
      have hMq3 : Hid (MoAt w3 q m.y m.mo m.d m.h m.mi m.s m.z m.has) := Lib.hid ((hb.block q (heap_lt hMq2.out)).trans hMq2.out)
      clear hb hB2 hL2 hMq2
      go_upto_region 4 with fail
      rw [← hw.out, ← hp1.out]
      clear hw hp1
      go_upto_if 25 with fail
      go_cut [7, 8] from 26 to 68 (fun v7 v8 wx => Hid (MoAt wx q m.y m.mo m.d m.h m.mi m.s m.z m.has) ∧ Hid (Below W.heap.size W wx))
      case first =>
        obtain ⟨cq0, cq1, cq2, cq3, cq4, cq5, cq6, cq7⟩ := MomAt.of_heap hMq3.out
        obtain ⟨cp10, cp11, cp12, cp13, cp14, cp15, cp16, cp17⟩ := MomAt.of_heap hMp13.out
        go_wp2_with fail
        go_meet
        exact ⟨hMq3, hB3⟩
      obtain ⟨hMq, hB⟩ := hcut
      obtain ⟨w23, hw⟩ : ∃ w, w = wc := ⟨_, rfl⟩
      rw [← hw] at hMq hB ⊢
      clear hw hB3 hL3 hMq3 hMp13
      have hB23 := hB
      have hL23 := Lib.hid (hL.out.below hB.out hL.out.size)
      clear hB
      have hMq23 := hMq
      clear hMq
      obtain ⟨cq0, cq1, cq2, cq3, cq4, cq5, cq6, cq7⟩ := MomAt.of_heap hMq23.out
      go_wp2_with fail
      refine (c3.out w23 hL23.out).mono ?_
      rintro e w24 ⟨rfl, hb⟩
      have hB24 := Lib.hid (hB23.out.trans (hb.mono hB23.out.size))
      have hL24 := Lib.hid (hL.out.below hB24.out hL.out.size)
      have hMq24 : Hid (MoAt w24 q m.y m.mo m.d m.h m.mi m.s m.z m.has) := Lib.hid ((hb.block q (heap_lt hMq23.out)).trans hMq23.out)
      clear hb hB23 hL23 hMq23
      clear cq0 cq1 cq2 cq3 cq4 cq5 cq6 cq7
      obtain ⟨p3, hp3⟩ : ∃ q, q = w24.heap.size := ⟨_, rfl⟩
      obtain ⟨w25, hw⟩ : ∃ w, w = w24.alloc (.cells #[.int .i64 t.y, .int .i64 t.mo, .int .i64 t.d, .int .i64 t.h, .int .i64 t.mi, .string t.s, .int .i64 t.z, .bool t.has] 24) := ⟨_, rfl⟩
      have hb : Below w24.heap.size w24 w25 := by rw [hw]; exact (Below.refl _ _).alloc (Nat.le_refl _) _
      have hMp325 : Hid (MoAt w25 p3 t.y t.mo t.d t.h t.mi t.s t.z t.has) := Lib.hid (by rw [hw, hp3]; exact (MapKept.heap_alloc _ _).1)
      have hgep3 : Hid (W.heap.size ≤ p3) := Lib.hid (by rw [hp3]; exact hB24.out.size)
      have hnqp3 : Hid (q ≠ p3) := Lib.hid (by rw [hp3]; exact Nat.ne_of_lt (heap_lt hMq24.out))
      have hnp3q : Hid (p3 ≠ q) := Lib.hid (fun e => hnqp3.out e.symm)
      replace hp3 := Lib.hid hp3
      replace hw := Lib.hid hw
      have hB25 := Lib.hid (hB24.out.trans (hb.mono hB24.out.size))
      have hL25 := Lib.hid (hL.out.below hB25.out hL.out.size)
      have hMq25 : Hid (MoAt w25 q m.y m.mo m.d m.h m.mi m.s m.z m.has) := Lib.hid ((hb.block q (heap_lt hMq24.out)).trans hMq24.out)
      clear hb hB24 hL24 hMq24
      go_upto_region 11 with fail
      rw [← hw.out, ← hp3.out]
      clear hw hp3
      obtain ⟨cq0, cq1, cq2, cq3, cq4, cq5, cq6, cq7⟩ := MomAt.of_heap hMq25.out
      go_wp2_with fail
      refine (c4.out w25 hL25.out).mono ?_
      rintro e w26 ⟨rfl, hb⟩
      have hB26 := Lib.hid (hB25.out.trans (hb.mono hB25.out.size))
      have hL26 := Lib.hid (hL.out.below hB26.out hL.out.size)
      have hMq26 : Hid (MoAt w26 q m.y m.mo m.d m.h m.mi m.s m.z m.has) := Lib.hid ((hb.block q (heap_lt hMq25.out)).trans hMq25.out)
      have hMp326 : Hid (MoAt w26 p3 t.y t.mo t.d t.h t.mi t.s t.z t.has) := Lib.hid ((hb.block p3 (heap_lt hMp325.out)).trans hMp325.out)
      clear hb hB25 hL25 hMq25 hMp325
      clear cq0 cq1 cq2 cq3 cq4 cq5 cq6 cq7
      obtain ⟨cq0, cq1, cq2, cq3, cq4, cq5, cq6, cq7⟩ := MomAt.of_heap hMq26.out
      go_wp2_with fail
      refine (works_c w26 hL26.out).mono ?_
      rintro e w ⟨rfl, hb⟩
      go_wp2_with fail
      go_ret
      exact ⟨rfl, hB26.out.trans (hb.mono hB26.out.size)⟩
    · have gy : (m.y == 9999) = false := by simpa using hy
      clear et t k2
      by_cases hmo : m.mo = 2
      · have gm : (m.mo == 2) = true := by simpa using hmo
        by_cases hd : m.d = 29
        · have gd : (m.d == 29) = true := by simpa using hd
          have e3 : addMonthsP m.P 12 = (MB.P ⟨(m.y + 1), m.mo, 28, m.h, m.mi, m.s, m.z, m.has⟩, 0) := by rw [months_year hv hy]; show (({ m.P with y := m.y + 1, d := if m.mo = 2 ∧ m.d = 29 then 28 else m.d } : Mom), (0 : Int)) = _; rw [if_pos ⟨hmo, hd⟩]; rfl
          have c3 : Hid (∀ w, LaidT w → Calls Tryz.prog 24 #[.agg #[.int .i64 m.y, .int .i64 m.mo, .int .i64 m.d, .int .i64 m.h, .int .i64 m.mi, .string m.s, .int .i64 m.z, .bool m.has], .int .i64 12] w (fun e w' => e = .returned (.tuple #[.agg #[.int .i64 (m.y + 1), .int .i64 m.mo, .int .i64 28, .int .i64 m.h, .int .i64 m.mi, .string m.s, .int .i64 m.z, .bool m.has], .int .i64 0]) ∧ Below w.heap.size w w')) := Lib.hid (fun w hw => Months_c m ⟨(m.y + 1), m.mo, 28, m.h, m.mi, m.s, m.z, m.has⟩ 12 0 e3 hsm w hw)
          have c4 : Hid (∀ w, LaidT w → Calls Tryz.prog 20 #[.agg #[.int .i64 m.y, .int .i64 m.mo, .int .i64 m.d, .int .i64 m.h, .int .i64 m.mi, .string m.s, .int .i64 m.z, .bool m.has]] w (fun e w' => e = .returned (.tuple #[.string S, .int .i64 0]) ∧ Below w.heap.size w w')) := Lib.hid (fun w hw => Seconds_c m S 0 eS hsm w hw)
          clear e3 eS
          replace hv := Lib.hid hv
          replace hy := Lib.hid hy
          replace hmo := Lib.hid hmo
          replace hd := Lib.hid hd
          obtain ⟨q, hq⟩ : ∃ q, q = W.heap.size := ⟨_, rfl⟩
          obtain ⟨w1, hw⟩ : ∃ w, w = W.alloc (.cells #[.int .i64 m.y, .int .i64 m.mo, .int .i64 m.d, .int .i64 m.h, .int .i64 m.mi, .string m.s, .int .i64 m.z, .bool m.has] 24) := ⟨_, rfl⟩
          have hB1 : Hid (Below W.heap.size W w1) := Lib.hid (by rw [hw]; exact (Below.refl _ _).alloc (Nat.le_refl _) _)
          have hL1 := Lib.hid (hL.below hB1.out hL.size)
          have hMq1 : Hid (MoAt w1 q m.y m.mo m.d m.h m.mi m.s m.z m.has) := Lib.hid (by rw [hw, hq]; exact (MapKept.heap_alloc _ _).1)
          have hgeq : Hid (W.heap.size ≤ q) := Lib.hid (by rw [hq]; exact Nat.le_refl _)
          replace hq := Lib.hid hq
          replace hw := Lib.hid hw
          replace hL := Lib.hid hL
          go_enter Tryz.func6, Tryz.ntmps6
          go_upto_region 1 with fail
          rw [← hw.out, ← hq.out]
          clear hw
          obtain ⟨cq0, cq1, cq2, cq3, cq4, cq5, cq6, cq7⟩ := MomAt.of_heap hMq1.out
          go_wp2_with fail
          refine (c1.out w1 hL1.out).mono ?_
          rintro e w2 ⟨rfl, hb⟩
          have hB2 := Lib.hid (hB1.out.trans (hb.mono hB1.out.size))
          have hL2 := Lib.hid (hL.out.below hB2.out hL.out.size)
          have hMq2 : Hid (MoAt w2 q m.y m.mo m.d m.h m.mi m.s m.z m.has) := Lib.hid ((hb.block q (heap_lt hMq1.out)).trans hMq1.out)
          clear hb hB1 hL1 hMq1
          clear cq0 cq1 cq2 cq3 cq4 cq5 cq6 cq7
          obtain ⟨p1, hp1⟩ : ∃ q, q = w2.heap.size := ⟨_, rfl⟩
          obtain ⟨w3, hw⟩ : ∃ w, w = w2.alloc (.cells #[.int .i64 0, .int .i64 0, .int .i64 0, .int .i64 0, .int .i64 0, .string ⟨#[]⟩, .int .i64 0, .bool false] 24) := ⟨_, rfl⟩
          have hb : Below w2.heap.size w2 w3 := by rw [hw]; exact (Below.refl _ _).alloc (Nat.le_refl _) _
          have hMp13 : Hid (MoAt w3 p1 0 0 0 0 0 ⟨#[]⟩ 0 false) := Lib.hid (by rw [hw, hp1]; exact (MapKept.heap_alloc _ _).1)
          have hgep1 : Hid (W.heap.size ≤ p1) := Lib.hid (by rw [hp1]; exact hB2.out.size)
          have hnqp1 : Hid (q ≠ p1) := Lib.hid (by rw [hp1]; exact Nat.ne_of_lt (heap_lt hMq2.out))
          have hnp1q : Hid (p1 ≠ q) := Lib.hid (fun e => hnqp1.out e.symm)
          replace hp1 := Lib.hid hp1
          replace hw := Lib.hid hw
          have hB3 := Lib.hid (hB2.out.trans (hb.mono hB2.out.size))
          have hL3 := Lib.hid (hL.out.below hB3.out hL.out.size)
          have hMq3 : Hid (MoAt w3 q m.y m.mo m.d m.h m.mi m.s m.z m.has) := Lib.hid ((hb.block q (heap_lt hMq2.out)).trans hMq2.out)
          clear hb hB2 hL2 hMq2
          go_upto_region 4 with fail
          rw [← hw.out, ← hp1.out]
          clear hw hp1
          go_upto_if 25 with fail
          go_cut [7, 8] from 26 to 68 (fun v7 v8 wx => Hid (MoAt wx q m.y m.mo m.d m.h m.mi m.s m.z m.has) ∧ Hid (Below W.heap.size W wx))
          case first =>
            obtain ⟨cq0, cq1, cq2, cq3, cq4, cq5, cq6, cq7⟩ := MomAt.of_heap hMq3.out
            obtain ⟨cp10, cp11, cp12, cp13, cp14, cp15, cp16, cp17⟩ := MomAt.of_heap hMp13.out
            go_wp2_with fail
            go_meet
            exact ⟨hMq3, hB3⟩
          obtain ⟨hMq, hB⟩ := hcut
          obtain ⟨w23, hw⟩ : ∃ w, w = wc := ⟨_, rfl⟩
          rw [← hw] at hMq hB ⊢
          clear hw hB3 hL3 hMq3 hMp13
          have hB23 := hB
          have hL23 := Lib.hid (hL.out.below hB.out hL.out.size)
          clear hB
          have hMq23 := hMq
          clear hMq
          obtain ⟨cq0, cq1, cq2, cq3, cq4, cq5, cq6, cq7⟩ := MomAt.of_heap hMq23.out
          go_wp2_with fail
          refine (c3.out w23 hL23.out).mono ?_
          rintro e w24 ⟨rfl, hb⟩
          have hB24 := Lib.hid (hB23.out.trans (hb.mono hB23.out.size))
          have hL24 := Lib.hid (hL.out.below hB24.out hL.out.size)
          have hMq24 : Hid (MoAt w24 q m.y m.mo m.d m.h m.mi m.s m.z m.has) := Lib.hid ((hb.block q (heap_lt hMq23.out)).trans hMq23.out)
          clear hb hB23 hL23 hMq23
          clear cq0 cq1 cq2 cq3 cq4 cq5 cq6 cq7
          obtain ⟨p3, hp3⟩ : ∃ q, q = w24.heap.size := ⟨_, rfl⟩
          obtain ⟨w25, hw⟩ : ∃ w, w = w24.alloc (.cells #[.int .i64 (m.y + 1), .int .i64 m.mo, .int .i64 28, .int .i64 m.h, .int .i64 m.mi, .string m.s, .int .i64 m.z, .bool m.has] 24) := ⟨_, rfl⟩
          have hb : Below w24.heap.size w24 w25 := by rw [hw]; exact (Below.refl _ _).alloc (Nat.le_refl _) _
          have hMp325 : Hid (MoAt w25 p3 (m.y + 1) m.mo 28 m.h m.mi m.s m.z m.has) := Lib.hid (by rw [hw, hp3]; exact (MapKept.heap_alloc _ _).1)
          have hgep3 : Hid (W.heap.size ≤ p3) := Lib.hid (by rw [hp3]; exact hB24.out.size)
          have hnqp3 : Hid (q ≠ p3) := Lib.hid (by rw [hp3]; exact Nat.ne_of_lt (heap_lt hMq24.out))
          have hnp3q : Hid (p3 ≠ q) := Lib.hid (fun e => hnqp3.out e.symm)
          replace hp3 := Lib.hid hp3
          replace hw := Lib.hid hw
          have hB25 := Lib.hid (hB24.out.trans (hb.mono hB24.out.size))
          have hL25 := Lib.hid (hL.out.below hB25.out hL.out.size)
          have hMq25 : Hid (MoAt w25 q m.y m.mo m.d m.h m.mi m.s m.z m.has) := Lib.hid ((hb.block q (heap_lt hMq24.out)).trans hMq24.out)
          clear hb hB24 hL24 hMq24
          go_upto_region 11 with fail
          rw [← hw.out, ← hp3.out]
          clear hw hp3
          obtain ⟨cq0, cq1, cq2, cq3, cq4, cq5, cq6, cq7⟩ := MomAt.of_heap hMq25.out
          go_wp2_with fail
          refine (c4.out w25 hL25.out).mono ?_
          rintro e w26 ⟨rfl, hb⟩
          have hB26 := Lib.hid (hB25.out.trans (hb.mono hB25.out.size))
          have hL26 := Lib.hid (hL.out.below hB26.out hL.out.size)
          have hMq26 : Hid (MoAt w26 q m.y m.mo m.d m.h m.mi m.s m.z m.has) := Lib.hid ((hb.block q (heap_lt hMq25.out)).trans hMq25.out)
          have hMp326 : Hid (MoAt w26 p3 (m.y + 1) m.mo 28 m.h m.mi m.s m.z m.has) := Lib.hid ((hb.block p3 (heap_lt hMp325.out)).trans hMp325.out)
          clear hb hB25 hL25 hMq25 hMp325
          clear cq0 cq1 cq2 cq3 cq4 cq5 cq6 cq7
          obtain ⟨cq0, cq1, cq2, cq3, cq4, cq5, cq6, cq7⟩ := MomAt.of_heap hMq26.out
          go_upto_region 14 with fail
          clear cq0 cq1 cq2 cq3 cq4 cq5 cq6 cq7
          obtain ⟨cq0, cq1, cq2, cq3, cq4, cq5, cq6, cq7⟩ := MomAt.of_heap hMq26.out
          have ff0 := Lib.frozen_of_heap hMq26.out 0
          obtain ⟨w27, hw⟩ : ∃ w, w = (w26.setCell ⟨q, 0, none⟩ (.int .i64 (m.y + 1))) := ⟨_, rfl⟩
          have hB27 : Hid (Below W.heap.size W w27) := Lib.hid (by rw [hw]; exact hB26.out.trans ((Below.refl _ _).setCell (p := ⟨q, 0, none⟩) hgeq.out _))
          have hL27 := Lib.hid (hL.out.below hB27.out hL.out.size)
          have hMq27 : Hid (MoAt w27 q (m.y + 1) m.mo m.d m.h m.mi m.s m.z m.has) := Lib.hid (by rw [hw]; exact (Lib.heap_setCell_same (i := 0) hMq26.out _))
          have hMp327 : Hid (MoAt w27 p3 (m.y + 1) m.mo 28 m.h m.mi m.s m.z m.has) := Lib.hid (by rw [hw]; exact ((Below.heap_setCell _ _ _ _ hnp3q.out).trans hMp326.out))
          replace hw := Lib.hid hw
          go_upto_region 15 with fail
          rw [← hw.out]
          clear hw ff0
          clear cq0 cq1 cq2 cq3 cq4 cq5 cq6 cq7
          clear hB26 hL26 hMq26 hMp326
          obtain ⟨cq0, cq1, cq2, cq3, cq4, cq5, cq6, cq7⟩ := MomAt.of_heap hMq27.out
          go_upto_region 16 with fail
          clear cq0 cq1 cq2 cq3 cq4 cq5 cq6 cq7
          obtain ⟨cq0, cq1, cq2, cq3, cq4, cq5, cq6, cq7⟩ := MomAt.of_heap hMq27.out
          have ff2 := Lib.frozen_of_heap hMq27.out 2
          obtain ⟨w28, hw⟩ : ∃ w, w = (w27.setCell ⟨q, 2, none⟩ (.int .i64 28)) := ⟨_, rfl⟩
          have hB28 : Hid (Below W.heap.size W w28) := Lib.hid (by rw [hw]; exact hB27.out.trans ((Below.refl _ _).setCell (p := ⟨q, 2, none⟩) hgeq.out _))
          have hL28 := Lib.hid (hL.out.below hB28.out hL.out.size)
          have hMq28 : Hid (MoAt w28 q (m.y + 1) m.mo 28 m.h m.mi m.s m.z m.has) := Lib.hid (by rw [hw]; exact (Lib.heap_setCell_same (i := 2) hMq27.out _))
          have hMp328 : Hid (MoAt w28 p3 (m.y + 1) m.mo 28 m.h m.mi m.s m.z m.has) := Lib.hid (by rw [hw]; exact ((Below.heap_setCell _ _ _ _ hnp3q.out).trans hMp327.out))
          replace hw := Lib.hid hw
          go_upto_region 17 with fail
          rw [← hw.out]
          clear hw ff2
          clear cq0 cq1 cq2 cq3 cq4 cq5 cq6 cq7
          clear hB27 hL27 hMq27 hMp327
          obtain ⟨cq0, cq1, cq2, cq3, cq4, cq5, cq6, cq7⟩ := MomAt.of_heap hMq28.out
          obtain ⟨cp30, cp31, cp32, cp33, cp34, cp35, cp36, cp37⟩ := MomAt.of_heap hMp328.out
          go_wp2_with fail
          refine (works_c w28 hL28.out).mono ?_
          rintro e w ⟨rfl, hb⟩
          go_wp2_with fail
          go_ret
          exact ⟨rfl, hB28.out.trans (hb.mono hB28.out.size)⟩
        · have gd : (m.d == 29) = false := by simpa using hd
          have e3 : addMonthsP m.P 12 = (MB.P ⟨(m.y + 1), m.mo, m.d, m.h, m.mi, m.s, m.z, m.has⟩, 0) := by rw [months_year hv hy]; show (({ m.P with y := m.y + 1, d := if m.mo = 2 ∧ m.d = 29 then 28 else m.d } : Mom), (0 : Int)) = _; rw [if_neg (fun h => hd h.2)]; rfl
          have c3 : Hid (∀ w, LaidT w → Calls Tryz.prog 24 #[.agg #[.int .i64 m.y, .int .i64 m.mo, .int .i64 m.d, .int .i64 m.h, .int .i64 m.mi, .string m.s, .int .i64 m.z, .bool m.has], .int .i64 12] w (fun e w' => e = .returned (.tuple #[.agg #[.int .i64 (m.y + 1), .int .i64 m.mo, .int .i64 m.d, .int .i64 m.h, .int .i64 m.mi, .string m.s, .int .i64 m.z, .bool m.has], .int .i64 0]) ∧ Below w.heap.size w w')) := Lib.hid (fun w hw => Months_c m ⟨(m.y + 1), m.mo, m.d, m.h, m.mi, m.s, m.z, m.has⟩ 12 0 e3 hsm w hw)
          have c4 : Hid (∀ w, LaidT w → Calls Tryz.prog 20 #[.agg #[.int .i64 m.y, .int .i64 m.mo, .int .i64 m.d, .int .i64 m.h, .int .i64 m.mi, .string m.s, .int .i64 m.z, .bool m.has]] w (fun e w' => e = .returned (.tuple #[.string S, .int .i64 0]) ∧ Below w.heap.size w w')) := Lib.hid (fun w hw => Seconds_c m S 0 eS hsm w hw)
          clear e3 eS
          replace hv := Lib.hid hv
          replace hy := Lib.hid hy
          replace hmo := Lib.hid hmo
          replace hd := Lib.hid hd
          obtain ⟨q, hq⟩ : ∃ q, q = W.heap.size := ⟨_, rfl⟩
          obtain ⟨w1, hw⟩ : ∃ w, w = W.alloc (.cells #[.int .i64 m.y, .int .i64 m.mo, .int .i64 m.d, .int .i64 m.h, .int .i64 m.mi, .string m.s, .int .i64 m.z, .bool m.has] 24) := ⟨_, rfl⟩
          have hB1 : Hid (Below W.heap.size W w1) := Lib.hid (by rw [hw]; exact (Below.refl _ _).alloc (Nat.le_refl _) _)
          have hL1 := Lib.hid (hL.below hB1.out hL.size)
          have hMq1 : Hid (MoAt w1 q m.y m.mo m.d m.h m.mi m.s m.z m.has) := Lib.hid (by rw [hw, hq]; exact (MapKept.heap_alloc _ _).1)
          have hgeq : Hid (W.heap.size ≤ q) := Lib.hid (by rw [hq]; exact Nat.le_refl _)
          replace hq := Lib.hid hq
          replace hw := Lib.hid hw
          replace hL := Lib.hid hL
          go_enter Tryz.func6, Tryz.ntmps6
          go_upto_region 1 with fail
          rw [← hw.out, ← hq.out]
          clear hw
          obtain ⟨cq0, cq1, cq2, cq3, cq4, cq5, cq6, cq7⟩ := MomAt.of_heap hMq1.out
          go_wp2_with fail
          refine (c1.out w1 hL1.out).mono ?_
          rintro e w2 ⟨rfl, hb⟩
          have hB2 := Lib.hid (hB1.out.trans (hb.mono hB1.out.size))
          have hL2 := Lib.hid (hL.out.below hB2.out hL.out.size)
          have hMq2 : Hid (MoAt w2 q m.y m.mo m.d m.h m.mi m.s m.z m.has) := Lib.hid ((hb.block q (heap_lt hMq1.out)).trans hMq1.out)
          clear hb hB1 hL1 hMq1
          clear cq0 cq1 cq2 cq3 cq4 cq5 cq6 cq7
          obtain ⟨p1, hp1⟩ : ∃ q, q = w2.heap.size := ⟨_, rfl⟩
          obtain ⟨w3, hw⟩ : ∃ w, w = w2.alloc (.cells #[.int .i64 0, .int .i64 0, .int .i64 0, .int .i64 0, .int .i64 0, .string ⟨#[]⟩, .int .i64 0, .bool false] 24) := ⟨_, rfl⟩
          have hb : Below w2.heap.size w2 w3 := by rw [hw]; exact (Below.refl _ _).alloc (Nat.le_refl _) _
          have hMp13 : Hid (MoAt w3 p1 0 0 0 0 0 ⟨#[]⟩ 0 false) := Lib.hid (by rw [hw, hp1]; exact (MapKept.heap_alloc _ _).1)
          have hgep1 : Hid (W.heap.size ≤ p1) := Lib.hid (by rw [hp1]; exact hB2.out.size)
          have hnqp1 : Hid (q ≠ p1) := Lib.hid (by rw [hp1]; exact Nat.ne_of_lt (heap_lt hMq2.out))
          have hnp1q : Hid (p1 ≠ q) := Lib.hid (fun e => hnqp1.out e.symm)
          replace hp1 := Lib.hid hp1
          replace hw := Lib.hid hw
          have hB3 := Lib.hid (hB2.out.trans (hb.mono hB2.out.size))
          have hL3 := Lib.hid (hL.out.below hB3.out hL.out.size)
          have hMq3 : Hid (MoAt w3 q m.y m.mo m.d m.h m.mi m.s m.z m.has) := Lib.hid ((hb.block q (heap_lt hMq2.out)).trans hMq2.out)
          clear hb hB2 hL2 hMq2
          go_upto_region 4 with fail
          rw [← hw.out, ← hp1.out]
          clear hw hp1
          go_upto_if 25 with fail
          go_cut [7, 8] from 26 to 68 (fun v7 v8 wx => Hid (MoAt wx q m.y m.mo m.d m.h m.mi m.s m.z m.has) ∧ Hid (Below W.heap.size W wx))
          case first =>
            obtain ⟨cq0, cq1, cq2, cq3, cq4, cq5, cq6, cq7⟩ := MomAt.of_heap hMq3.out
            obtain ⟨cp10, cp11, cp12, cp13, cp14, cp15, cp16, cp17⟩ := MomAt.of_heap hMp13.out
            go_wp2_with fail
            go_meet
            exact ⟨hMq3, hB3⟩
          obtain ⟨hMq, hB⟩ := hcut
          obtain ⟨w23, hw⟩ : ∃ w, w = wc := ⟨_, rfl⟩
          rw [← hw] at hMq hB ⊢
          clear hw hB3 hL3 hMq3 hMp13
          have hB23 := hB
          have hL23 := Lib.hid (hL.out.below hB.out hL.out.size)
          clear hB
          have hMq23 := hMq
          clear hMq
          obtain ⟨cq0, cq1, cq2, cq3, cq4, cq5, cq6, cq7⟩ := MomAt.of_heap hMq23.out
          go_wp2_with fail
          refine (c3.out w23 hL23.out).mono ?_
          rintro e w24 ⟨rfl, hb⟩
          have hB24 := Lib.hid (hB23.out.trans (hb.mono hB23.out.size))
          have hL24 := Lib.hid (hL.out.below hB24.out hL.out.size)
          have hMq24 : Hid (MoAt w24 q m.y m.mo m.d m.h m.mi m.s m.z m.has) := Lib.hid ((hb.block q (heap_lt hMq23.out)).trans hMq23.out)
          clear hb hB23 hL23 hMq23
          clear cq0 cq1 cq2 cq3 cq4 cq5 cq6 cq7
          obtain ⟨p3, hp3⟩ : ∃ q, q = w24.heap.size := ⟨_, rfl⟩
          obtain ⟨w25, hw⟩ : ∃ w, w = w24.alloc (.cells #[.int .i64 (m.y + 1), .int .i64 m.mo, .int .i64 m.d, .int .i64 m.h, .int .i64 m.mi, .string m.s, .int .i64 m.z, .bool m.has] 24) := ⟨_, rfl⟩
          have hb : Below w24.heap.size w24 w25 := by rw [hw]; exact (Below.refl _ _).alloc (Nat.le_refl _) _
          have hMp325 : Hid (MoAt w25 p3 (m.y + 1) m.mo m.d m.h m.mi m.s m.z m.has) := Lib.hid (by rw [hw, hp3]; exact (MapKept.heap_alloc _ _).1)
          have hgep3 : Hid (W.heap.size ≤ p3) := Lib.hid (by rw [hp3]; exact hB24.out.size)
          have hnqp3 : Hid (q ≠ p3) := Lib.hid (by rw [hp3]; exact Nat.ne_of_lt (heap_lt hMq24.out))
          have hnp3q : Hid (p3 ≠ q) := Lib.hid (fun e => hnqp3.out e.symm)
          replace hp3 := Lib.hid hp3
          replace hw := Lib.hid hw
          have hB25 := Lib.hid (hB24.out.trans (hb.mono hB24.out.size))
          have hL25 := Lib.hid (hL.out.below hB25.out hL.out.size)
          have hMq25 : Hid (MoAt w25 q m.y m.mo m.d m.h m.mi m.s m.z m.has) := Lib.hid ((hb.block q (heap_lt hMq24.out)).trans hMq24.out)
          clear hb hB24 hL24 hMq24
          go_upto_region 11 with fail
          rw [← hw.out, ← hp3.out]
          clear hw hp3
          obtain ⟨cq0, cq1, cq2, cq3, cq4, cq5, cq6, cq7⟩ := MomAt.of_heap hMq25.out
          go_wp2_with fail
          refine (c4.out w25 hL25.out).mono ?_
          rintro e w26 ⟨rfl, hb⟩
          have hB26 := Lib.hid (hB25.out.trans (hb.mono hB25.out.size))
          have hL26 := Lib.hid (hL.out.below hB26.out hL.out.size)
          have hMq26 : Hid (MoAt w26 q m.y m.mo m.d m.h m.mi m.s m.z m.has) := Lib.hid ((hb.block q (heap_lt hMq25.out)).trans hMq25.out)
          have hMp326 : Hid (MoAt w26 p3 (m.y + 1) m.mo m.d m.h m.mi m.s m.z m.has) := Lib.hid ((hb.block p3 (heap_lt hMp325.out)).trans hMp325.out)
          clear hb hB25 hL25 hMq25 hMp325
          clear cq0 cq1 cq2 cq3 cq4 cq5 cq6 cq7
          obtain ⟨cq0, cq1, cq2, cq3, cq4, cq5, cq6, cq7⟩ := MomAt.of_heap hMq26.out
          go_upto_region 14 with fail
          clear cq0 cq1 cq2 cq3 cq4 cq5 cq6 cq7
          obtain ⟨cq0, cq1, cq2, cq3, cq4, cq5, cq6, cq7⟩ := MomAt.of_heap hMq26.out
          have ff0 := Lib.frozen_of_heap hMq26.out 0
          obtain ⟨w27, hw⟩ : ∃ w, w = (w26.setCell ⟨q, 0, none⟩ (.int .i64 (m.y + 1))) := ⟨_, rfl⟩
          have hB27 : Hid (Below W.heap.size W w27) := Lib.hid (by rw [hw]; exact hB26.out.trans ((Below.refl _ _).setCell (p := ⟨q, 0, none⟩) hgeq.out _))
          have hL27 := Lib.hid (hL.out.below hB27.out hL.out.size)
          have hMq27 : Hid (MoAt w27 q (m.y + 1) m.mo m.d m.h m.mi m.s m.z m.has) := Lib.hid (by rw [hw]; exact (Lib.heap_setCell_same (i := 0) hMq26.out _))
          have hMp327 : Hid (MoAt w27 p3 (m.y + 1) m.mo m.d m.h m.mi m.s m.z m.has) := Lib.hid (by rw [hw]; exact ((Below.heap_setCell _ _ _ _ hnp3q.out).trans hMp326.out))
          replace hw := Lib.hid hw
          go_upto_region 15 with fail
          rw [← hw.out]
          clear hw ff0
          clear cq0 cq1 cq2 cq3 cq4 cq5 cq6 cq7
          clear hB26 hL26 hMq26 hMp326
          obtain ⟨cq0, cq1, cq2, cq3, cq4, cq5, cq6, cq7⟩ := MomAt.of_heap hMq27.out
          obtain ⟨cp30, cp31, cp32, cp33, cp34, cp35, cp36, cp37⟩ := MomAt.of_heap hMp327.out
          go_wp2_with fail
          refine (works_c w27 hL27.out).mono ?_
          rintro e w ⟨rfl, hb⟩
          go_wp2_with fail
          go_ret
          exact ⟨rfl, hB27.out.trans (hb.mono hB27.out.size)⟩
      · have gm : (m.mo == 2) = false := by simpa using hmo
        have e3 : addMonthsP m.P 12 = (MB.P ⟨(m.y + 1), m.mo, m.d, m.h, m.mi, m.s, m.z, m.has⟩, 0) := by rw [months_year hv hy]; show (({ m.P with y := m.y + 1, d := if m.mo = 2 ∧ m.d = 29 then 28 else m.d } : Mom), (0 : Int)) = _; rw [if_neg (fun h => hmo h.1)]; rfl
        have c3 : Hid (∀ w, LaidT w → Calls Tryz.prog 24 #[.agg #[.int .i64 m.y, .int .i64 m.mo, .int .i64 m.d, .int .i64 m.h, .int .i64 m.mi, .string m.s, .int .i64 m.z, .bool m.has], .int .i64 12] w (fun e w' => e = .returned (.tuple #[.agg #[.int .i64 (m.y + 1), .int .i64 m.mo, .int .i64 m.d, .int .i64 m.h, .int .i64 m.mi, .string m.s, .int .i64 m.z, .bool m.has], .int .i64 0]) ∧ Below w.heap.size w w')) := Lib.hid (fun w hw => Months_c m ⟨(m.y + 1), m.mo, m.d, m.h, m.mi, m.s, m.z, m.has⟩ 12 0 e3 hsm w hw)
        have c4 : Hid (∀ w, LaidT w → Calls Tryz.prog 20 #[.agg #[.int .i64 m.y, .int .i64 m.mo, .int .i64 m.d, .int .i64 m.h, .int .i64 m.mi, .string m.s, .int .i64 m.z, .bool m.has]] w (fun e w' => e = .returned (.tuple #[.string S, .int .i64 0]) ∧ Below w.heap.size w w')) := Lib.hid (fun w hw => Seconds_c m S 0 eS hsm w hw)
        clear e3 eS
        replace hv := Lib.hid hv
        replace hy := Lib.hid hy
        replace hmo := Lib.hid hmo
        obtain ⟨q, hq⟩ : ∃ q, q = W.heap.size := ⟨_, rfl⟩
        obtain ⟨w1, hw⟩ : ∃ w, w = W.alloc (.cells #[.int .i64 m.y, .int .i64 m.mo, .int .i64 m.d, .int .i64 m.h, .int .i64 m.mi, .string m.s, .int .i64 m.z, .bool m.has] 24) := ⟨_, rfl⟩
        have hB1 : Hid (Below W.heap.size W w1) := Lib.hid (by rw [hw]; exact (Below.refl _ _).alloc (Nat.le_refl _) _)
        have hL1 := Lib.hid (hL.below hB1.out hL.size)
        have hMq1 : Hid (MoAt w1 q m.y m.mo m.d m.h m.mi m.s m.z m.has) := Lib.hid (by rw [hw, hq]; exact (MapKept.heap_alloc _ _).1)
        have hgeq : Hid (W.heap.size ≤ q) := Lib.hid (by rw [hq]; exact Nat.le_refl _)
        replace hq := Lib.hid hq
        replace hw := Lib.hid hw
        replace hL := Lib.hid hL
        go_enter Tryz.func6, Tryz.ntmps6
        go_upto_region 1 with fail
        rw [← hw.out, ← hq.out]
        clear hw
        obtain ⟨cq0, cq1, cq2, cq3, cq4, cq5, cq6, cq7⟩ := MomAt.of_heap hMq1.out
        go_wp2_with fail
        refine (c1.out w1 hL1.out).mono ?_
        rintro e w2 ⟨rfl, hb⟩
        have hB2 := Lib.hid (hB1.out.trans (hb.mono hB1.out.size))
        have hL2 := Lib.hid (hL.out.below hB2.out hL.out.size)
        have hMq2 : Hid (MoAt w2 q m.y m.mo m.d m.h m.mi m.s m.z m.has) := Lib.hid ((hb.block q (heap_lt hMq1.out)).trans hMq1.out)
        clear hb hB1 hL1 hMq1
        clear cq0 cq1 cq2 cq3 cq4 cq5 cq6 cq7
        obtain ⟨p1, hp1⟩ : ∃ q, q = w2.heap.size := ⟨_, rfl⟩
        obtain ⟨w3, hw⟩ : ∃ w, w = w2.alloc (.cells #[.int .i64 0, .int .i64 0, .int .i64 0, .int .i64 0, .int .i64 0, .string ⟨#[]⟩, .int .i64 0, .bool false] 24) := ⟨_, rfl⟩
        have hb : Below w2.heap.size w2 w3 := by rw [hw]; exact (Below.refl _ _).alloc (Nat.le_refl _) _
        have hMp13 : Hid (MoAt w3 p1 0 0 0 0 0 ⟨#[]⟩ 0 false) := Lib.hid (by rw [hw, hp1]; exact (MapKept.heap_alloc _ _).1)
        have hgep1 : Hid (W.heap.size ≤ p1) := Lib.hid (by rw [hp1]; exact hB2.out.size)
        have hnqp1 : Hid (q ≠ p1) := Lib.hid (by rw [hp1]; exact Nat.ne_of_lt (heap_lt hMq2.out))
        have hnp1q : Hid (p1 ≠ q) := Lib.hid (fun e => hnqp1.out e.symm)
        replace hp1 := Lib.hid hp1
        replace hw := Lib.hid hw
        have hB3 := Lib.hid (hB2.out.trans (hb.mono hB2.out.size))
        have hL3 := Lib.hid (hL.out.below hB3.out hL.out.size)
        have hMq3 : Hid (MoAt w3 q m.y m.mo m.d m.h m.mi m.s m.z m.has) := Lib.hid ((hb.block q (heap_lt hMq2.out)).trans hMq2.out)
        clear hb hB2 hL2 hMq2
        go_upto_region 4 with fail
        rw [← hw.out, ← hp1.out]
        clear hw hp1
        go_upto_if 25 with fail
        go_cut [7, 8] from 26 to 68 (fun v7 v8 wx => Hid (MoAt wx q m.y m.mo m.d m.h m.mi m.s m.z m.has) ∧ Hid (Below W.heap.size W wx))
        case first =>
          obtain ⟨cq0, cq1, cq2, cq3, cq4, cq5, cq6, cq7⟩ := MomAt.of_heap hMq3.out
          obtain ⟨cp10, cp11, cp12, cp13, cp14, cp15, cp16, cp17⟩ := MomAt.of_heap hMp13.out
          go_wp2_with fail
          go_meet
          exact ⟨hMq3, hB3⟩
        obtain ⟨hMq, hB⟩ := hcut
        obtain ⟨w23, hw⟩ : ∃ w, w = wc := ⟨_, rfl⟩
        rw [← hw] at hMq hB ⊢
        clear hw hB3 hL3 hMq3 hMp13
        have hB23 := hB
        have hL23 := Lib.hid (hL.out.below hB.out hL.out.size)
        clear hB
        have hMq23 := hMq
        clear hMq
        obtain ⟨cq0, cq1, cq2, cq3, cq4, cq5, cq6, cq7⟩ := MomAt.of_heap hMq23.out
        go_wp2_with fail
        refine (c3.out w23 hL23.out).mono ?_
        rintro e w24 ⟨rfl, hb⟩
        have hB24 := Lib.hid (hB23.out.trans (hb.mono hB23.out.size))
        have hL24 := Lib.hid (hL.out.below hB24.out hL.out.size)
        have hMq24 : Hid (MoAt w24 q m.y m.mo m.d m.h m.mi m.s m.z m.has) := Lib.hid ((hb.block q (heap_lt hMq23.out)).trans hMq23.out)
        clear hb hB23 hL23 hMq23
        clear cq0 cq1 cq2 cq3 cq4 cq5 cq6 cq7
        obtain ⟨p3, hp3⟩ : ∃ q, q = w24.heap.size := ⟨_, rfl⟩
        obtain ⟨w25, hw⟩ : ∃ w, w = w24.alloc (.cells #[.int .i64 (m.y + 1), .int .i64 m.mo, .int .i64 m.d, .int .i64 m.h, .int .i64 m.mi, .string m.s, .int .i64 m.z, .bool m.has] 24) := ⟨_, rfl⟩
        have hb : Below w24.heap.size w24 w25 := by rw [hw]; exact (Below.refl _ _).alloc (Nat.le_refl _) _
        have hMp325 : Hid (MoAt w25 p3 (m.y + 1) m.mo m.d m.h m.mi m.s m.z m.has) := Lib.hid (by rw [hw, hp3]; exact (MapKept.heap_alloc _ _).1)
        have hgep3 : Hid (W.heap.size ≤ p3) := Lib.hid (by rw [hp3]; exact hB24.out.size)
        have hnqp3 : Hid (q ≠ p3) := Lib.hid (by rw [hp3]; exact Nat.ne_of_lt (heap_lt hMq24.out))
        have hnp3q : Hid (p3 ≠ q) := Lib.hid (fun e => hnqp3.out e.symm)
        replace hp3 := Lib.hid hp3
        replace hw := Lib.hid hw
        have hB25 := Lib.hid (hB24.out.trans (hb.mono hB24.out.size))
        have hL25 := Lib.hid (hL.out.below hB25.out hL.out.size)
        have hMq25 : Hid (MoAt w25 q m.y m.mo m.d m.h m.mi m.s m.z m.has) := Lib.hid ((hb.block q (heap_lt hMq24.out)).trans hMq24.out)
        clear hb hB24 hL24 hMq24
        go_upto_region 11 with fail
        rw [← hw.out, ← hp3.out]
        clear hw hp3
        obtain ⟨cq0, cq1, cq2, cq3, cq4, cq5, cq6, cq7⟩ := MomAt.of_heap hMq25.out
        go_wp2_with fail
        refine (c4.out w25 hL25.out).mono ?_
        rintro e w26 ⟨rfl, hb⟩
        have hB26 := Lib.hid (hB25.out.trans (hb.mono hB25.out.size))
        have hL26 := Lib.hid (hL.out.below hB26.out hL.out.size)
        have hMq26 : Hid (MoAt w26 q m.y m.mo m.d m.h m.mi m.s m.z m.has) := Lib.hid ((hb.block q (heap_lt hMq25.out)).trans hMq25.out)
        have hMp326 : Hid (MoAt w26 p3 (m.y + 1) m.mo m.d m.h m.mi m.s m.z m.has) := Lib.hid ((hb.block p3 (heap_lt hMp325.out)).trans hMp325.out)
        clear hb hB25 hL25 hMq25 hMp325
        clear cq0 cq1 cq2 cq3 cq4 cq5 cq6 cq7
        obtain ⟨cq0, cq1, cq2, cq3, cq4, cq5, cq6, cq7⟩ := MomAt.of_heap hMq26.out
        go_upto_region 14 with fail
        clear cq0 cq1 cq2 cq3 cq4 cq5 cq6 cq7
        obtain ⟨cq0, cq1, cq2, cq3, cq4, cq5, cq6, cq7⟩ := MomAt.of_heap hMq26.out
        have ff0 := Lib.frozen_of_heap hMq26.out 0
        obtain ⟨w27, hw⟩ : ∃ w, w = (w26.setCell ⟨q, 0, none⟩ (.int .i64 (m.y + 1))) := ⟨_, rfl⟩
        have hB27 : Hid (Below W.heap.size W w27) := Lib.hid (by rw [hw]; exact hB26.out.trans ((Below.refl _ _).setCell (p := ⟨q, 0, none⟩) hgeq.out _))
        have hL27 := Lib.hid (hL.out.below hB27.out hL.out.size)
        have hMq27 : Hid (MoAt w27 q (m.y + 1) m.mo m.d m.h m.mi m.s m.z m.has) := Lib.hid (by rw [hw]; exact (Lib.heap_setCell_same (i := 0) hMq26.out _))
        have hMp327 : Hid (MoAt w27 p3 (m.y + 1) m.mo m.d m.h m.mi m.s m.z m.has) := Lib.hid (by rw [hw]; exact ((Below.heap_setCell _ _ _ _ hnp3q.out).trans hMp326.out))
        replace hw := Lib.hid hw
        go_upto_region 15 with fail
        rw [← hw.out]
        clear hw ff0
        clear cq0 cq1 cq2 cq3 cq4 cq5 cq6 cq7
        clear hB26 hL26 hMq26 hMp326
        obtain ⟨cq0, cq1, cq2, cq3, cq4, cq5, cq6, cq7⟩ := MomAt.of_heap hMq27.out
        obtain ⟨cp30, cp31, cp32, cp33, cp34, cp35, cp36, cp37⟩ := MomAt.of_heap hMp327.out
        go_wp2_with fail
        refine (works_c w27 hL27.out).mono ?_
        rintro e w ⟨rfl, hb⟩
        go_wp2_with fail
        go_ret
        exact ⟨rfl, hB27.out.trans (hb.mono hB27.out.size)⟩
  · rw [Bool.not_eq_true] at hv
    rw [hv] at hk3
    replace hk3 : k3 = 1 := hk3
    subst hk3
    have g2 : (k2 != 0) = true := by have := months_no (m := m.P) (Or.inl hv); rw [et] at this; simpa using this
    have c3 : Hid (∀ w, LaidT w → Calls Tryz.prog 24 #[.agg #[.int .i64 m.y, .int .i64 m.mo, .int .i64 m.d, .int .i64 m.h, .int .i64 m.mi, .string m.s, .int .i64 m.z, .bool m.has], .int .i64 12] w (fun e w' => e = .returned (.tuple #[.agg #[.int .i64 t.y, .int .i64 t.mo, .int .i64 t.d, .int .i64 t.h, .int .i64 t.mi, .string t.s, .int .i64 t.z, .bool t.has], .int .i64 k2]) ∧ Below w.heap.size w w')) := Lib.hid (fun w hw => Months_c m t 12 k2 et hsm w hw)
    have c4 : Hid (∀ w, LaidT w → Calls Tryz.prog 20 #[.agg #[.int .i64 m.y, .int .i64 m.mo, .int .i64 m.d, .int .i64 m.h, .int .i64 m.mi, .string m.s, .int .i64 m.z, .bool m.has]] w (fun e w' => e = .returned (.tuple #[.string S, .int .i64 1]) ∧ Below w.heap.size w w')) := Lib.hid (fun w hw => Seconds_c m S 1 eS hsm w hw)
    clear et eS
    replace hv := Lib.hid hv
    obtain ⟨q, hq⟩ : ∃ q, q = W.heap.size := ⟨_, rfl⟩
    obtain ⟨w1, hw⟩ : ∃ w, w = W.alloc (.cells #[.int .i64 m.y, .int .i64 m.mo, .int .i64 m.d, .int .i64 m.h, .int .i64 m.mi, .string m.s, .int .i64 m.z, .bool m.has] 24) := ⟨_, rfl⟩
    have hB1 : Hid (Below W.heap.size W w1) := Lib.hid (by rw [hw]; exact (Below.refl _ _).alloc (Nat.le_refl _) _)
    have hL1 := Lib.hid (hL.below hB1.out hL.size)
    have hMq1 : Hid (MoAt w1 q m.y m.mo m.d m.h m.mi m.s m.z m.has) := Lib.hid (by rw [hw, hq]; exact (MapKept.heap_alloc _ _).1)
    have hgeq : Hid (W.heap.size ≤ q) := Lib.hid (by rw [hq]; exact Nat.le_refl _)
    replace hq := Lib.hid hq
    replace hw := Lib.hid hw
    replace hL := Lib.hid hL
    go_enter Tryz.func6, Tryz.ntmps6
    go_upto_region 1 with fail
    rw [← hw.out, ← hq.out]
    clear hw
    obtain ⟨cq0, cq1, cq2, cq3, cq4, cq5, cq6, cq7⟩ := MomAt.of_heap hMq1.out
    go_wp2_with fail
    refine (c1.out w1 hL1.out).mono ?_
    rintro e w2 ⟨rfl, hb⟩
    have hB2 := Lib.hid (hB1.out.trans (hb.mono hB1.out.size))
    have hL2 := Lib.hid (hL.out.below hB2.out hL.out.size)
    have hMq2 : Hid (MoAt w2 q m.y m.mo m.d m.h m.mi m.s m.z m.has) := Lib.hid ((hb.block q (heap_lt hMq1.out)).trans hMq1.out)
    clear hb hB1 hL1 hMq1
    clear cq0 cq1 cq2 cq3 cq4 cq5 cq6 cq7
    obtain ⟨p1, hp1⟩ : ∃ q, q = w2.heap.size := ⟨_, rfl⟩
    obtain ⟨w3, hw⟩ : ∃ w, w = w2.alloc (.cells #[.int .i64 0, .int .i64 0, .int .i64 0, .int .i64 0, .int .i64 0, .string ⟨#[]⟩, .int .i64 0, .bool false] 24) := ⟨_, rfl⟩
    have hb : Below w2.heap.size w2 w3 := by rw [hw]; exact (Below.refl _ _).alloc (Nat.le_refl _) _
    have hMp13 : Hid (MoAt w3 p1 0 0 0 0 0 ⟨#[]⟩ 0 false) := Lib.hid (by rw [hw, hp1]; exact (MapKept.heap_alloc _ _).1)
    have hgep1 : Hid (W.heap.size ≤ p1) := Lib.hid (by rw [hp1]; exact hB2.out.size)
    have hnqp1 : Hid (q ≠ p1) := Lib.hid (by rw [hp1]; exact Nat.ne_of_lt (heap_lt hMq2.out))
    have hnp1q : Hid (p1 ≠ q) := Lib.hid (fun e => hnqp1.out e.symm)
    replace hp1 := Lib.hid hp1
    replace hw := Lib.hid hw
    have hB3 := Lib.hid (hB2.out.trans (hb.mono hB2.out.size))
    have hL3 := Lib.hid (hL.out.below hB3.out hL.out.size)
    have hMq3 : Hid (MoAt w3 q m.y m.mo m.d m.h m.mi m.s m.z m.has) := Lib.hid ((hb.block q (heap_lt hMq2.out)).trans hMq2.out)
    clear hb hB2 hL2 hMq2
    go_upto_region 4 with fail
    rw [← hw.out, ← hp1.out]
    clear hw hp1
    go_upto_if 25 with fail
    go_cut [7, 8] from 26 to 68 (fun v7 v8 wx => Hid (MoAt wx q m.y m.mo m.d m.h m.mi m.s m.z m.has) ∧ Hid (Below W.heap.size W wx))
    case first =>
      obtain ⟨cq0, cq1, cq2, cq3, cq4, cq5, cq6, cq7⟩ := MomAt.of_heap hMq3.out
      obtain ⟨cp10, cp11, cp12, cp13, cp14, cp15, cp16, cp17⟩ := MomAt.of_heap hMp13.out
      go_wp2_with fail
      go_meet
      exact ⟨hMq3, hB3⟩
    obtain ⟨hMq, hB⟩ := hcut
    obtain ⟨w23, hw⟩ : ∃ w, w = wc := ⟨_, rfl⟩
    rw [← hw] at hMq hB ⊢
    clear hw hB3 hL3 hMq3 hMp13
    have hB23 := hB
    have hL23 := Lib.hid (hL.out.below hB.out hL.out.size)
    clear hB
    have hMq23 := hMq
    clear hMq
    obtain ⟨cq0, cq1, cq2, cq3, cq4, cq5, cq6, cq7⟩ := MomAt.of_heap hMq23.out
    go_wp2_with fail
    refine (c3.out w23 hL23.out).mono ?_
    rintro e w24 ⟨rfl, hb⟩
    have hB24 := Lib.hid (hB23.out.trans (hb.mono hB23.out.size))
    have hL24 := Lib.hid (hL.out.below hB24.out hL.out.size)
    have hMq24 : Hid (MoAt w24 q m.y m.mo m.d m.h m.mi m.s m.z m.has) := Lib.hid ((hb.block q (heap_lt hMq23.out)).trans hMq23.out)
    clear hb hB23 hL23 hMq23
    clear cq0 cq1 cq2 cq3 cq4 cq5 cq6 cq7
    obtain ⟨p3, hp3⟩ : ∃ q, q = w24.heap.size := ⟨_, rfl⟩
    obtain ⟨w25, hw⟩ : ∃ w, w = w24.alloc (.cells #[.int .i64 t.y, .int .i64 t.mo, .int .i64 t.d, .int .i64 t.h, .int .i64 t.mi, .string t.s, .int .i64 t.z, .bool t.has] 24) := ⟨_, rfl⟩
    have hb : Below w24.heap.size w24 w25 := by rw [hw]; exact (Below.refl _ _).alloc (Nat.le_refl _) _
    have hMp325 : Hid (MoAt w25 p3 t.y t.mo t.d t.h t.mi t.s t.z t.has) := Lib.hid (by rw [hw, hp3]; exact (MapKept.heap_alloc _ _).1)
    have hgep3 : Hid (W.heap.size ≤ p3) := Lib.hid (by rw [hp3]; exact hB24.out.size)
    have hnqp3 : Hid (q ≠ p3) := Lib.hid (by rw [hp3]; exact Nat.ne_of_lt (heap_lt hMq24.out))
    have hnp3q : Hid (p3 ≠ q) := Lib.hid (fun e => hnqp3.out e.symm)
    replace hp3 := Lib.hid hp3
    replace hw := Lib.hid hw
    have hB25 := Lib.hid (hB24.out.trans (hb.mono hB24.out.size))
    have hL25 := Lib.hid (hL.out.below hB25.out hL.out.size)
    have hMq25 : Hid (MoAt w25 q m.y m.mo m.d m.h m.mi m.s m.z m.has) := Lib.hid ((hb.block q (heap_lt hMq24.out)).trans hMq24.out)
    clear hb hB24 hL24 hMq24
    go_upto_region 11 with fail
    rw [← hw.out, ← hp3.out]
    clear hw hp3
    obtain ⟨cq0, cq1, cq2, cq3, cq4, cq5, cq6, cq7⟩ := MomAt.of_heap hMq25.out
    go_wp2_with fail
    refine (c4.out w25 hL25.out).mono ?_
    rintro e w26 ⟨rfl, hb⟩
    have hB26 := Lib.hid (hB25.out.trans (hb.mono hB25.out.size))
    have hL26 := Lib.hid (hL.out.below hB26.out hL.out.size)
    have hMq26 : Hid (MoAt w26 q m.y m.mo m.d m.h m.mi m.s m.z m.has) := Lib.hid ((hb.block q (heap_lt hMq25.out)).trans hMq25.out)
    have hMp326 : Hid (MoAt w26 p3 t.y t.mo t.d t.h t.mi t.s t.z t.has) := Lib.hid ((hb.block p3 (heap_lt hMp325.out)).trans hMp325.out)
    clear hb hB25 hL25 hMq25 hMp325
    clear cq0 cq1 cq2 cq3 cq4 cq5 cq6 cq7
    obtain ⟨cq0, cq1, cq2, cq3, cq4, cq5, cq6, cq7⟩ := MomAt.of_heap hMq26.out
    go_wp2_with fail
    refine (works_c w26 hL26.out).mono ?_
    rintro e w ⟨rfl, hb⟩
    go_wp2_with fail
    go_ret
    exact ⟨rfl, hB26.out.trans (hb.mono hB26.out.size)⟩
set_option maxRecDepth 100000 in
set_option maxHeartbeats 4000000 in
theorem timeMonths_l (m : MB) (n : Int) (W : World) (hL : LaidT W) (a : MB) (h28d : m.d ≤ 28) (ea : addMonthsP m.P n = (a.P, 0)) (hsm : m.s.size ≤ 1000) (hs : ¬ ((m.s.size : Int) > 300)) : Calls Tryz.prog 6 #[.agg #[.int .i64 m.y, .int .i64 m.mo, .int .i64 m.d, .int .i64 m.h, .int .i64 m.mi, .string m.s, .int .i64 m.z, .bool m.has], .int .i64 n] W (fun e w' => e = .returned (.bool true) ∧ Below W.heap.size W w') := by
  obtain ⟨hv, n1, n2⟩ := months_rng ea
  obtain ⟨b', hb', h28, hdl, hah, has⟩ := months_there ea
  obtain ⟨b, hbe⟩ : ∃ b : MB, b.P = b' := ⟨MB.of b', rfl⟩
  rw [← hbe] at hb' h28 hdl
  have gh : (a.h != m.h) = false := by have : a.h = m.h := hah; simpa using this
  have gs0 : a.s.data.toList = m.s.data.toList := has
  have gs : (a.s.toList != m.s.toList) = false := by rw [ByteArray.toList_eq, ByteArray.toList_eq, gs0]; simp
  have gs2 : (a.s.toList == m.s.toList) = true := by rw [ByteArray.toList_eq, ByteArray.toList_eq, gs0]; simp
  have gh2 : (a.h == m.h) = true := by have : a.h = m.h := hah; simpa using this
  have hsa : a.s.size ≤ 1000 := by rw [← list_len, gs0, list_len]; exact hsm
  replace hdl : b.d ≤ m.d := hdl
  obtain rfl : m = b := (MB.inj (h28 h28d)).symm
  have c1 : Hid (∀ w, LaidT w → Calls Tryz.prog 24 #[.agg #[.int .i64 m.y, .int .i64 m.mo, .int .i64 m.d, .int .i64 m.h, .int .i64 m.mi, .string m.s, .int .i64 m.z, .bool m.has], .int .i64 n] w (fun e w' => e = .returned (.tuple #[.agg #[.int .i64 a.y, .int .i64 a.mo, .int .i64 a.d, .int .i64 a.h, .int .i64 a.mi, .string a.s, .int .i64 a.z, .bool a.has], .int .i64 0]) ∧ Below w.heap.size w w')) := Lib.hid (fun w hw => Months_c m a n 0 ea hsm w hw)
  have c2 : Hid (∀ w, LaidT w → Calls Tryz.prog 24 #[.agg #[.int .i64 a.y, .int .i64 a.mo, .int .i64 a.d, .int .i64 a.h, .int .i64 a.mi, .string a.s, .int .i64 a.z, .bool a.has], .int .i64 (-n)] w (fun e w' => e = .returned (.tuple #[.agg #[.int .i64 m.y, .int .i64 m.mo, .int .i64 m.d, .int .i64 m.h, .int .i64 m.mi, .string m.s, .int .i64 m.z, .bool m.has], .int .i64 0]) ∧ Below w.heap.size w w')) := Lib.hid (fun w hw => Months_c a m (-n) 0 hb' hsa w hw)
  clear hdl
  clear hb' h28 hah has hbe gs0 ea
  obtain ⟨S, k3, eS⟩ := SB.ex (secondsT m.P)
  obtain ⟨t, k2, et⟩ := MB.ex (addMonthsP m.P 12)
  have hk3 := seconds_err (m := m.P)
  rw [eS] at hk3
  rw [if_pos hv] at hk3
  replace hk3 : k3 = 0 := hk3
  subst hk3
  have hyb := valid_year hv
  have y1 : 1 ≤ m.y := hyb.1
  have y2 : m.y ≤ 9999 := hyb.2
  clear hyb
  by_cases hy : m.y = 9999
  · have gy : (m.y == 9999) = true := by simpa using hy
    have g2 : (k2 != 0) = true := by have := months_no (m := m.P) (Or.inr hy); rw [et] at this; simpa using this
    have c3 : Hid (∀ w, LaidT w → Calls Tryz.prog 24 #[.agg #[.int .i64 m.y, .int .i64 m.mo, .int .i64 m.d, .int .i64 m.h, .int .i64 m.mi, .string m.s, .int .i64 m.z, .bool m.has], .int .i64 12] w (fun e w' => e = .returned (.tuple #[.agg #[.int .i64 t.y, .int .i64 t.mo, .int .i64 t.d, .int .i64 t.h, .int .i64 t.mi, .string t.s, .int .i64 t.z, .bool t.has], .int .i64 k2]) ∧ Below w.heap.size w w')) := Lib.hid (fun w hw => Months_c m t 12 k2 et hsm w hw)
    have c4 : Hid (∀ w, LaidT w → Calls Tryz.prog 20 #[.agg #[.int .i64 m.y, .int .i64 m.mo, .int .i64 m.d, .int .i64 m.h, .int .i64 m.mi, .string m.s, .int .i64 m.z, .bool m.has]] w (fun e w' => e = .returned (.tuple #[.string S, .int .i64 0]) ∧ Below w.heap.size w w')) := Lib.hid (fun w hw => Seconds_c m S 0 eS hsm w hw)
    clear et eS
    replace hv := Lib.hid hv
    replace hy := Lib.hid hy
    obtain ⟨q, hq⟩ : ∃ q, q = W.heap.size := ⟨_, rfl⟩
    obtain ⟨w1, hw⟩ : ∃ w, w = W.alloc (.cells #[.int .i64 m.y, .int .i64 m.mo, .int .i64 m.d, .int .i64 m.h, .int .i64 m.mi, .string m.s, .int .i64 m.z, .bool m.has] 24) := ⟨_, rfl⟩
    have hB1 : Hid (Below W.heap.size W w1) := Lib.hid (by rw [hw]; exact (Below.refl _ _).alloc (Nat.le_refl _) _)
    have hL1 := Lib.hid (hL.below hB1.out hL.size)
    have hMq1 : Hid (MoAt w1 q m.y m.mo m.d m.h m.mi m.s m.z m.has) := Lib.hid (by rw [hw, hq]; exact (MapKept.heap_alloc _ _).1)
    have hgeq : Hid (W.heap.size ≤ q) := Lib.hid (by rw [hq]; exact Nat.le_refl _)
    replace hq := Lib.hid hq
    replace hw := Lib.hid hw
    replace hL := Lib.hid hL
    go_enter Tryz.func6, Tryz.ntmps6
    go_upto_region 1 with fail
    rw [← hw.out, ← hq.out]
    clear hw
    obtain ⟨cq0, cq1, cq2, cq3, cq4, cq5, cq6, cq7⟩ := MomAt.of_heap hMq1.out
    go_wp2_with fail
    refine (c1.out w1 hL1.out).mono ?_
    rintro e w2 ⟨rfl, hb⟩
    have hB2 := Lib.hid (hB1.out.trans (hb.mono hB1.out.size))
    have hL2 := Lib.hid (hL.out.below hB2.out hL.out.size)
    have hMq2 : Hid (MoAt w2 q m.y m.mo m.d m.h m.mi m.s m.z m.has) := Lib.hid ((hb.block q (heap_lt hMq1.out)).trans hMq1.out)
    clear hb hB1 hL1 hMq1
    clear cq0 cq1 cq2 cq3 cq4 cq5 cq6 cq7
    obtain ⟨p1, hp1⟩ : ∃ q, q = w2.heap.size := ⟨_, rfl⟩
    obtain ⟨w3, hw⟩ : ∃ w, w = w2.alloc (.cells #[.int .i64 a.y, .int .i64 a.mo, .int .i64 a.d, .int .i64 a.h, .int .i64 a.mi, .string a.s, .int .i64 a.z, .bool a.has] 24) := ⟨_, rfl⟩
    have hb : Below w2.heap.size w2 w3 := by rw [hw]; exact (Below.refl _ _).alloc (Nat.le_refl _) _
    have hMp13 : Hid (MoAt w3 p1 a.y a.mo a.d a.h a.mi a.s a.z a.has) := Lib.hid (by rw [hw, hp1]; exact (MapKept.heap_alloc _ _).1)
    have hgep1 : Hid (W.heap.size ≤ p1) := Lib.hid (by rw [hp1]; exact hB2.out.size)
    have hnqp1 : Hid (q ≠ p1) := Lib.hid (by rw [hp1]; exact Nat.ne_of_lt (heap_lt hMq2.out))
    have hnp1q : Hid (p1 ≠ q) := Lib.hid (fun e => hnqp1.out e.symm)
    replace hp1 := Lib.hid hp1
    replace hw := Lib.hid hw
    have hB3 := Lib.hid (hB2.out.trans (hb.mono hB2.out.size))
    have hL3 := Lib.hid (hL.out.below hB3.out hL.out.size)
    have hMq3 : Hid (MoAt w3 q m.y m.mo m.d m.h m.mi m.s m.z m.has) := Lib.hid ((hb.block q (heap_lt hMq2.out)).trans hMq2.out)
    clear hb hB2 hL2 hMq2
    go_upto_region 4 with fail
    rw [← hw.out, ← hp1.out]
    clear hw hp1
    go_upto_if 25 with fail
    go_cut [7, 8] from 26 to 68 (fun v7 v8 wx => Hid (MoAt wx q m.y m.mo m.d m.h m.mi m.s m.z m.has) ∧ Hid (Below W.heap.size W wx))
    case first =>
      obtain ⟨cq0, cq1, cq2, cq3, cq4, cq5, cq6, cq7⟩ := MomAt.of_heap hMq3.out
      obtain ⟨cp10, cp11, cp12, cp13, cp14, cp15, cp16, cp17⟩ := MomAt.of_heap hMp13.out
      go_wp2_with fail
      refine (c2.out w3 hL3.out).mono ?_
      rintro e w4 ⟨rfl, hb⟩
      have hB4 := Lib.hid (hB3.out.trans (hb.mono hB3.out.size))
      have hL4 := Lib.hid (hL.out.below hB4.out hL.out.size)
      have hMq4 : Hid (MoAt w4 q m.y m.mo m.d m.h m.mi m.s m.z m.has) := Lib.hid ((hb.block q (heap_lt hMq3.out)).trans hMq3.out)
      have hMp14 : Hid (MoAt w4 p1 a.y a.mo a.d a.h a.mi a.s a.z a.has) := Lib.hid ((hb.block p1 (heap_lt hMp13.out)).trans hMp13.out)
      clear hb hB3 hL3 hMq3 hMp13
      clear cq0 cq1 cq2 cq3 cq4 cq5 cq6 cq7
      clear cp10 cp11 cp12 cp13 cp14 cp15 cp16 cp17
      obtain ⟨p2, hp2⟩ : ∃ q, q = w4.heap.size := ⟨_, rfl⟩
      obtain ⟨w5, hw⟩ : ∃ w, w = w4.alloc (.cells #[.int .i64 m.y, .int .i64 m.mo, .int .i64 m.d, .int .i64 m.h, .int .i64 m.mi, .string m.s, .int .i64 m.z, .bool m.has] 24) := ⟨_, rfl⟩
      have hb : Below w4.heap.size w4 w5 := by rw [hw]; exact (Below.refl _ _).alloc (Nat.le_refl _) _
      have hMp25 : Hid (MoAt w5 p2 m.y m.mo m.d m.h m.mi m.s m.z m.has) := Lib.hid (by rw [hw, hp2]; exact (MapKept.heap_alloc _ _).1)
      have hgep2 : Hid (W.heap.size ≤ p2) := Lib.hid (by rw [hp2]; exact hB4.out.size)
      have hnqp2 : Hid (q ≠ p2) := Lib.hid (by rw [hp2]; exact Nat.ne_of_lt (heap_lt hMq4.out))
      have hnp2q : Hid (p2 ≠ q) := Lib.hid (fun e => hnqp2.out e.symm)
      have hnp1p2 : Hid (p1 ≠ p2) := Lib.hid (by rw [hp2]; exact Nat.ne_of_lt (heap_lt hMp14.out))
      have hnp2p1 : Hid (p2 ≠ p1) := Lib.hid (fun e => hnp1p2.out e.symm)
      replace hp2 := Lib.hid hp2
      replace hw := Lib.hid hw
      have hB5 := Lib.hid (hB4.out.trans (hb.mono hB4.out.size))
      have hL5 := Lib.hid (hL.out.below hB5.out hL.out.size)
      have hMq5 : Hid (MoAt w5 q m.y m.mo m.d m.h m.mi m.s m.z m.has) := Lib.hid ((hb.block q (heap_lt hMq4.out)).trans hMq4.out)
      have hMp15 : Hid (MoAt w5 p1 a.y a.mo a.d a.h a.mi a.s a.z a.has) := Lib.hid ((hb.block p1 (heap_lt hMp14.out)).trans hMp14.out)
      clear hb hB4 hL4 hMq4 hMp14
      go_upto_region 6 with fail
      rw [← hw.out, ← hp2.out]
      clear hw hp2
      obtain ⟨cq0, cq1, cq2, cq3, cq4, cq5, cq6, cq7⟩ := MomAt.of_heap hMq5.out
      obtain ⟨cp10, cp11, cp12, cp13, cp14, cp15, cp16, cp17⟩ := MomAt.of_heap hMp15.out
      obtain ⟨cp20, cp21, cp22, cp23, cp24, cp25, cp26, cp27⟩ := MomAt.of_heap hMp25.out
      go_wp2_with fail
      go_meet
      exact ⟨hMq5, hB5⟩
    obtain ⟨hMq, hB⟩ := hcut
    obtain ⟨w23, hw⟩ : ∃ w, w = wc := ⟨_, rfl⟩
    rw [← hw] at hMq hB ⊢
    clear hw hB3 hL3 hMq3 hMp13
    have hB23 := hB
    have hL23 := Lib.hid (hL.out.below hB.out hL.out.size)
    clear hB
    have hMq23 := hMq
    clear hMq
    obtain ⟨cq0, cq1, cq2, cq3, cq4, cq5, cq6, cq7⟩ := MomAt.of_heap hMq23.out
    go_wp2_with fail
    refine (c3.out w23 hL23.out).mono ?_
    rintro e w24 ⟨rfl, hb⟩
    have hB24 := Lib.hid (hB23.out.trans (hb.mono hB23.out.size))
    have hL24 := Lib.hid (hL.out.below hB24.out hL.out.size)
    have hMq24 : Hid (MoAt w24 q m.y m.mo m.d m.h m.mi m.s m.z m.has) := Lib.hid ((hb.block q (heap_lt hMq23.out)).trans hMq23.out)
    clear hb hB23 hL23 hMq23
    clear cq0 cq1 cq2 cq3 cq4 cq5 cq6 cq7
    obtain ⟨p3, hp3⟩ : ∃ q, q = w24.heap.size := ⟨_, rfl⟩
    obtain ⟨w25, hw⟩ : ∃ w, w = w24.alloc (.cells #[.int .i64 t.y, .int .i64 t.mo, .int .i64 t.d, .int .i64 t.h, .int .i64 t.mi, .string t.s, .int .i64 t.z, .bool t.has] 24) := ⟨_, rfl⟩
    have hb : Below w24.heap.size w24 w25 := by rw [hw]; exact (Below.refl _ _).alloc (Nat.le_refl _) _
    have hMp325 : Hid (MoAt w25 p3 t.y t.mo t.d t.h t.mi t.s t.z t.has) := Lib.hid (by rw [hw, hp3]; exact (MapKept.heap_alloc _ _).1)
    have hgep3 : Hid (W.heap.size ≤ p3) := Lib.hid (by rw [hp3]; exact hB24.out.size)
    have hnqp3 : Hid (q ≠ p3) := Lib.hid (by rw [hp3]; exact Nat.ne_of_lt (heap_lt hMq24.out))
    have hnp3q : Hid (p3 ≠ q) := Lib.hid (fun e => hnqp3.out e.symm)
    replace hp3 := Lib.hid hp3
    replace hw := Lib.hid hw
    have hB25 := Lib.hid (hB24.out.trans (hb.mono hB24.out.size))
    have hL25 := Lib.hid (hL.out.below hB25.out hL.out.size)
    have hMq25 : Hid (MoAt w25 q m.y m.mo m.d m.h m.mi m.s m.z m.has) := Lib.hid ((hb.block q (heap_lt hMq24.out)).trans hMq24.out)
    clear hb hB24 hL24 hMq24
    go_upto_region 11 with fail
    rw [← hw.out, ← hp3.out]
    clear hw hp3
    obtain ⟨cq0, cq1, cq2, cq3, cq4, cq5, cq6, cq7⟩ := MomAt.of_heap hMq25.out
    go_wp2_with fail
    refine (c4.out w25 hL25.out).mono ?_
    rintro e w26 ⟨rfl, hb⟩
    have hB26 := Lib.hid (hB25.out.trans (hb.mono hB25.out.size))
    have hL26 := Lib.hid (hL.out.below hB26.out hL.out.size)
    have hMq26 : Hid (MoAt w26 q m.y m.mo m.d m.h m.mi m.s m.z m.has) := Lib.hid ((hb.block q (heap_lt hMq25.out)).trans hMq25.out)
    have hMp326 : Hid (MoAt w26 p3 t.y t.mo t.d t.h t.mi t.s t.z t.has) := Lib.hid ((hb.block p3 (heap_lt hMp325.out)).trans hMp325.out)
    clear hb hB25 hL25 hMq25 hMp325
    clear cq0 cq1 cq2 cq3 cq4 cq5 cq6 cq7
    obtain ⟨cq0, cq1, cq2, cq3, cq4, cq5, cq6, cq7⟩ := MomAt.of_heap hMq26.out
    go_wp2_with fail
    refine (works_c w26 hL26.out).mono ?_
    rintro e w ⟨rfl, hb⟩
    go_wp2_with fail
    go_ret
    exact ⟨rfl, hB26.out.trans (hb.mono hB26.out.size)⟩
  · have gy : (m.y == 9999) = false := by simpa using hy
    clear et t k2
    by_cases hmo : m.mo = 2
    · have gm : (m.mo == 2) = true := by simpa using hmo
      by_cases hd : m.d = 29
      · have gd : (m.d == 29) = true := by simpa using hd
        have e3 : addMonthsP m.P 12 = (MB.P ⟨(m.y + 1), m.mo, 28, m.h, m.mi, m.s, m.z, m.has⟩, 0) := by rw [months_year hv hy]; show (({ m.P with y := m.y + 1, d := if m.mo = 2 ∧ m.d = 29 then 28 else m.d } : Mom), (0 : Int)) = _; rw [if_pos ⟨hmo, hd⟩]; rfl
        have c3 : Hid (∀ w, LaidT w → Calls Tryz.prog 24 #[.agg #[.int .i64 m.y, .int .i64 m.mo, .int .i64 m.d, .int .i64 m.h, .int .i64 m.mi, .string m.s, .int .i64 m.z, .bool m.has], .int .i64 12] w (fun e w' => e = .returned (.tuple #[.agg #[.int .i64 (m.y + 1), .int .i64 m.mo, .int .i64 28, .int .i64 m.h, .int .i64 m.mi, .string m.s, .int .i64 m.z, .bool m.has], .int .i64 0]) ∧ Below w.heap.size w w')) := Lib.hid (fun w hw => Months_c m ⟨(m.y + 1), m.mo, 28, m.h, m.mi, m.s, m.z, m.has⟩ 12 0 e3 hsm w hw)
        have c4 : Hid (∀ w, LaidT w → Calls Tryz.prog 20 #[.agg #[.int .i64 m.y, .int .i64 m.mo, .int .i64 m.d, .int .i64 m.h, .int .i64 m.mi, .string m.s, .int .i64 m.z, .bool m.has]] w (fun e w' => e = .returned (.tuple #[.string S, .int .i64 0]) ∧ Below w.heap.size w w')) := Lib.hid (fun w hw => Seconds_c m S 0 eS hsm w hw)
        clear e3 eS
        replace hv := Lib.hid hv
        replace hy := Lib.hid hy
        replace hmo := Lib.hid hmo
        replace hd := Lib.hid hd
        obtain ⟨q, hq⟩ : ∃ q, q = W.heap.size := ⟨_, rfl⟩
        obtain ⟨w1, hw⟩ : ∃ w, w = W.alloc (.cells #[.int .i64 m.y, .int .i64 m.mo, .int .i64 m.d, .int .i64 m.h, .int .i64 m.mi, .string m.s, .int .i64 m.z, .bool m.has] 24) := ⟨_, rfl⟩
        have hB1 : Hid (Below W.heap.size W w1) := Lib.hid (by rw [hw]; exact (Below.refl _ _).alloc (Nat.le_refl _) _)
        have hL1 := Lib.hid (hL.below hB1.out hL.size)
        have hMq1 : Hid (MoAt w1 q m.y m.mo m.d m.h m.mi m.s m.z m.has) := Lib.hid (by rw [hw, hq]; exact (MapKept.heap_alloc _ _).1)
        have hgeq : Hid (W.heap.size ≤ q) := Lib.hid (by rw [hq]; exact Nat.le_refl _)
        replace hq := Lib.hid hq
        replace hw := Lib.hid hw
        replace hL := Lib.hid hL
        go_enter Tryz.func6, Tryz.ntmps6
        go_upto_region 1 with fail
        rw [← hw.out, ← hq.out]
        clear hw
        obtain ⟨cq0, cq1, cq2, cq3, cq4, cq5, cq6, cq7⟩ := MomAt.of_heap hMq1.out
        go_wp2_with fail
        refine (c1.out w1 hL1.out).mono ?_
        rintro e w2 ⟨rfl, hb⟩
        have hB2 := Lib.hid (hB1.out.trans (hb.mono hB1.out.size))
        have hL2 := Lib.hid (hL.out.below hB2.out hL.out.size)
        have hMq2 : Hid (MoAt w2 q m.y m.mo m.d m.h m.mi m.s m.z m.has) := Lib.hid ((hb.block q (heap_lt hMq1.out)).trans hMq1.out)
        clear hb hB1 hL1 hMq1
        clear cq0 cq1 cq2 cq3 cq4 cq5 cq6 cq7
        obtain ⟨p1, hp1⟩ : ∃ q, q = w2.heap.size := ⟨_, rfl⟩
        obtain ⟨w3, hw⟩ : ∃ w, w = w2.alloc (.cells #[.int .i64 a.y, .int .i64 a.mo, .int .i64 a.d, .int .i64 a.h, .int .i64 a.mi, .string a.s, .int .i64 a.z, .bool a.has] 24) := ⟨_, rfl⟩
        have hb : Below w2.heap.size w2 w3 := by rw [hw]; exact (Below.refl _ _).alloc (Nat.le_refl _) _
        have hMp13 : Hid (MoAt w3 p1 a.y a.mo a.d a.h a.mi a.s a.z a.has) := Lib.hid (by rw [hw, hp1]; exact (MapKept.heap_alloc _ _).1)
        have hgep1 : Hid (W.heap.size ≤ p1) := Lib.hid (by rw [hp1]; exact hB2.out.size)
        have hnqp1 : Hid (q ≠ p1) := Lib.hid (by rw [hp1]; exact Nat.ne_of_lt (heap_lt hMq2.out))
        have hnp1q : Hid (p1 ≠ q) := Lib.hid (fun e => hnqp1.out e.symm)
        replace hp1 := Lib.hid hp1
        replace hw := Lib.hid hw
        have hB3 := Lib.hid (hB2.out.trans (hb.mono hB2.out.size))
        have hL3 := Lib.hid (hL.out.below hB3.out hL.out.size)
        have hMq3 : Hid (MoAt w3 q m.y m.mo m.d m.h m.mi m.s m.z m.has) := Lib.hid ((hb.block q (heap_lt hMq2.out)).trans hMq2.out)
        clear hb hB2 hL2 hMq2
        go_upto_region 4 with fail
        rw [← hw.out, ← hp1.out]
        clear hw hp1
        go_upto_if 25 with fail
        go_cut [7, 8] from 26 to 68 (fun v7 v8 wx => Hid (MoAt wx q m.y m.mo m.d m.h m.mi m.s m.z m.has) ∧ Hid (Below W.heap.size W wx))
        case first =>
          obtain ⟨cq0, cq1, cq2, cq3, cq4, cq5, cq6, cq7⟩ := MomAt.of_heap hMq3.out
          obtain ⟨cp10, cp11, cp12, cp13, cp14, cp15, cp16, cp17⟩ := MomAt.of_heap hMp13.out
          go_wp2_with fail
          refine (c2.out w3 hL3.out).mono ?_
          rintro e w4 ⟨rfl, hb⟩
          have hB4 := Lib.hid (hB3.out.trans (hb.mono hB3.out.size))
          have hL4 := Lib.hid (hL.out.below hB4.out hL.out.size)
          have hMq4 : Hid (MoAt w4 q m.y m.mo m.d m.h m.mi m.s m.z m.has) := Lib.hid ((hb.block q (heap_lt hMq3.out)).trans hMq3.out)
          have hMp14 : Hid (MoAt w4 p1 a.y a.mo a.d a.h a.mi a.s a.z a.has) := Lib.hid ((hb.block p1 (heap_lt hMp13.out)).trans hMp13.out)
          clear hb hB3 hL3 hMq3 hMp13
          clear cq0 cq1 cq2 cq3 cq4 cq5 cq6 cq7
          clear cp10 cp11 cp12 cp13 cp14 cp15 cp16 cp17
          obtain ⟨p2, hp2⟩ : ∃ q, q = w4.heap.size := ⟨_, rfl⟩
          obtain ⟨w5, hw⟩ : ∃ w, w = w4.alloc (.cells #[.int .i64 m.y, .int .i64 m.mo, .int .i64 m.d, .int .i64 m.h, .int .i64 m.mi, .string m.s, .int .i64 m.z, .bool m.has] 24) := ⟨_, rfl⟩
          have hb : Below w4.heap.size w4 w5 := by rw [hw]; exact (Below.refl _ _).alloc (Nat.le_refl _) _
          have hMp25 : Hid (MoAt w5 p2 m.y m.mo m.d m.h m.mi m.s m.z m.has) := Lib.hid (by rw [hw, hp2]; exact (MapKept.heap_alloc _ _).1)
          have hgep2 : Hid (W.heap.size ≤ p2) := Lib.hid (by rw [hp2]; exact hB4.out.size)
          have hnqp2 : Hid (q ≠ p2) := Lib.hid (by rw [hp2]; exact Nat.ne_of_lt (heap_lt hMq4.out))
          have hnp2q : Hid (p2 ≠ q) := Lib.hid (fun e => hnqp2.out e.symm)
          have hnp1p2 : Hid (p1 ≠ p2) := Lib.hid (by rw [hp2]; exact Nat.ne_of_lt (heap_lt hMp14.out))
          have hnp2p1 : Hid (p2 ≠ p1) := Lib.hid (fun e => hnp1p2.out e.symm)
          replace hp2 := Lib.hid hp2
          replace hw := Lib.hid hw
          have hB5 := Lib.hid (hB4.out.trans (hb.mono hB4.out.size))
          have hL5 := Lib.hid (hL.out.below hB5.out hL.out.size)
          have hMq5 : Hid (MoAt w5 q m.y m.mo m.d m.h m.mi m.s m.z m.has) := Lib.hid ((hb.block q (heap_lt hMq4.out)).trans hMq4.out)
          have hMp15 : Hid (MoAt w5 p1 a.y a.mo a.d a.h a.mi a.s a.z a.has) := Lib.hid ((hb.block p1 (heap_lt hMp14.out)).trans hMp14.out)
          clear hb hB4 hL4 hMq4 hMp14
          go_upto_region 6 with fail
          rw [← hw.out, ← hp2.out]
          clear hw hp2
          obtain ⟨cq0, cq1, cq2, cq3, cq4, cq5, cq6, cq7⟩ := MomAt.of_heap hMq5.out
          obtain ⟨cp10, cp11, cp12, cp13, cp14, cp15, cp16, cp17⟩ := MomAt.of_heap hMp15.out
          obtain ⟨cp20, cp21, cp22, cp23, cp24, cp25, cp26, cp27⟩ := MomAt.of_heap hMp25.out
          go_wp2_with fail
          go_meet
          exact ⟨hMq5, hB5⟩
        obtain ⟨hMq, hB⟩ := hcut
        obtain ⟨w23, hw⟩ : ∃ w, w = wc := ⟨_, rfl⟩
        rw [← hw] at hMq hB ⊢
        clear hw hB3 hL3 hMq3 hMp13
        have hB23 := hB
        have hL23 := Lib.hid (hL.out.below hB.out hL.out.size)
        clear hB
        have hMq23 := hMq
        clear hMq
        obtain ⟨cq0, cq1, cq2, cq3, cq4, cq5, cq6, cq7⟩ := MomAt.of_heap hMq23.out
        go_wp2_with fail
        refine (c3.out w23 hL23.out).mono ?_
        rintro e w24 ⟨rfl, hb⟩
        have hB24 := Lib.hid (hB23.out.trans (hb.mono hB23.out.size))
        have hL24 := Lib.hid (hL.out.below hB24.out hL.out.size)
        have hMq24 : Hid (MoAt w24 q m.y m.mo m.d m.h m.mi m.s m.z m.has) := Lib.hid ((hb.block q (heap_lt hMq23.out)).trans hMq23.out)
        clear hb hB23 hL23 hMq23
        clear cq0 cq1 cq2 cq3 cq4 cq5 cq6 cq7
        obtain ⟨p3, hp3⟩ : ∃ q, q = w24.heap.size := ⟨_, rfl⟩
        obtain ⟨w25, hw⟩ : ∃ w, w = w24.alloc (.cells #[.int .i64 (m.y + 1), .int .i64 m.mo, .int .i64 28, .int .i64 m.h, .int .i64 m.mi, .string m.s, .int .i64 m.z, .bool m.has] 24) := ⟨_, rfl⟩
        have hb : Below w24.heap.size w24 w25 := by rw [hw]; exact (Below.refl _ _).alloc (Nat.le_refl _) _
        have hMp325 : Hid (MoAt w25 p3 (m.y + 1) m.mo 28 m.h m.mi m.s m.z m.has) := Lib.hid (by rw [hw, hp3]; exact (MapKept.heap_alloc _ _).1)
        have hgep3 : Hid (W.heap.size ≤ p3) := Lib.hid (by rw [hp3]; exact hB24.out.size)
        have hnqp3 : Hid (q ≠ p3) := Lib.hid (by rw [hp3]; exact Nat.ne_of_lt (heap_lt hMq24.out))
        have hnp3q : Hid (p3 ≠ q) := Lib.hid (fun e => hnqp3.out e.symm)
        replace hp3 := Lib.hid hp3
        replace hw := Lib.hid hw
        have hB25 := Lib.hid (hB24.out.trans (hb.mono hB24.out.size))
        have hL25 := Lib.hid (hL.out.below hB25.out hL.out.size)
        have hMq25 : Hid (MoAt w25 q m.y m.mo m.d m.h m.mi m.s m.z m.has) := Lib.hid ((hb.block q (heap_lt hMq24.out)).trans hMq24.out)
        clear hb hB24 hL24 hMq24
        go_upto_region 11 with fail
        rw [← hw.out, ← hp3.out]
        clear hw hp3
        obtain ⟨cq0, cq1, cq2, cq3, cq4, cq5, cq6, cq7⟩ := MomAt.of_heap hMq25.out
        go_wp2_with fail
        refine (c4.out w25 hL25.out).mono ?_
        rintro e w26 ⟨rfl, hb⟩
        have hB26 := Lib.hid (hB25.out.trans (hb.mono hB25.out.size))
        have hL26 := Lib.hid (hL.out.below hB26.out hL.out.size)
        have hMq26 : Hid (MoAt w26 q m.y m.mo m.d m.h m.mi m.s m.z m.has) := Lib.hid ((hb.block q (heap_lt hMq25.out)).trans hMq25.out)
        have hMp326 : Hid (MoAt w26 p3 (m.y + 1) m.mo 28 m.h m.mi m.s m.z m.has) := Lib.hid ((hb.block p3 (heap_lt hMp325.out)).trans hMp325.out)
        clear hb hB25 hL25 hMq25 hMp325
        clear cq0 cq1 cq2 cq3 cq4 cq5 cq6 cq7
        obtain ⟨cq0, cq1, cq2, cq3, cq4, cq5, cq6, cq7⟩ := MomAt.of_heap hMq26.out
        go_upto_region 14 with fail
        clear cq0 cq1 cq2 cq3 cq4 cq5 cq6 cq7
        obtain ⟨cq0, cq1, cq2, cq3, cq4, cq5, cq6, cq7⟩ := MomAt.of_heap hMq26.out
        have ff0 := Lib.frozen_of_heap hMq26.out 0
        obtain ⟨w27, hw⟩ : ∃ w, w = (w26.setCell ⟨q, 0, none⟩ (.int .i64 (m.y + 1))) := ⟨_, rfl⟩
        have hB27 : Hid (Below W.heap.size W w27) := Lib.hid (by rw [hw]; exact hB26.out.trans ((Below.refl _ _).setCell (p := ⟨q, 0, none⟩) hgeq.out _))
        have hL27 := Lib.hid (hL.out.below hB27.out hL.out.size)
        have hMq27 : Hid (MoAt w27 q (m.y + 1) m.mo m.d m.h m.mi m.s m.z m.has) := Lib.hid (by rw [hw]; exact (Lib.heap_setCell_same (i := 0) hMq26.out _))
        have hMp327 : Hid (MoAt w27 p3 (m.y + 1) m.mo 28 m.h m.mi m.s m.z m.has) := Lib.hid (by rw [hw]; exact ((Below.heap_setCell _ _ _ _ hnp3q.out).trans hMp326.out))
        replace hw := Lib.hid hw
        go_upto_region 15 with fail
        rw [← hw.out]
        clear hw ff0
        clear cq0 cq1 cq2 cq3 cq4 cq5 cq6 cq7
        clear hB26 hL26 hMq26 hMp326
        obtain ⟨cq0, cq1, cq2, cq3, cq4, cq5, cq6, cq7⟩ := MomAt.of_heap hMq27.out
        go_upto_region 16 with fail
        clear cq0 cq1 cq2 cq3 cq4 cq5 cq6 cq7
        obtain ⟨cq0, cq1, cq2, cq3, cq4, cq5, cq6, cq7⟩ := MomAt.of_heap hMq27.out
        have ff2 := Lib.frozen_of_heap hMq27.out 2
        obtain ⟨w28, hw⟩ : ∃ w, w = (w27.setCell ⟨q, 2, none⟩ (.int .i64 28)) := ⟨_, rfl⟩
        have hB28 : Hid (Below W.heap.size W w28) := Lib.hid (by rw [hw]; exact hB27.out.trans ((Below.refl _ _).setCell (p := ⟨q, 2, none⟩) hgeq.out _))
        have hL28 := Lib.hid (hL.out.below hB28.out hL.out.size)
        have hMq28 : Hid (MoAt w28 q (m.y + 1) m.mo 28 m.h m.mi m.s m.z m.has) := Lib.hid (by rw [hw]; exact (Lib.heap_setCell_same (i := 2) hMq27.out _))
        have hMp328 : Hid (MoAt w28 p3 (m.y + 1) m.mo 28 m.h m.mi m.s m.z m.has) := Lib.hid (by rw [hw]; exact ((Below.heap_setCell _ _ _ _ hnp3q.out).trans hMp327.out))
        replace hw := Lib.hid hw
        go_upto_region 17 with fail
        rw [← hw.out]
        clear hw ff2
        clear cq0 cq1 cq2 cq3 cq4 cq5 cq6 cq7
        clear hB27 hL27 hMq27 hMp327
        obtain ⟨cq0, cq1, cq2, cq3, cq4, cq5, cq6, cq7⟩ := MomAt.of_heap hMq28.out
        obtain ⟨cp30, cp31, cp32, cp33, cp34, cp35, cp36, cp37⟩ := MomAt.of_heap hMp328.out
        go_wp2_with fail
        refine (works_c w28 hL28.out).mono ?_
        rintro e w ⟨rfl, hb⟩
        go_wp2_with fail
        go_ret
        exact ⟨rfl, hB28.out.trans (hb.mono hB28.out.size)⟩
      · have gd : (m.d == 29) = false := by simpa using hd
        have e3 : addMonthsP m.P 12 = (MB.P ⟨(m.y + 1), m.mo, m.d, m.h, m.mi, m.s, m.z, m.has⟩, 0) := by rw [months_year hv hy]; show (({ m.P with y := m.y + 1, d := if m.mo = 2 ∧ m.d = 29 then 28 else m.d } : Mom), (0 : Int)) = _; rw [if_neg (fun h => hd h.2)]; rfl
        have c3 : Hid (∀ w, LaidT w → Calls Tryz.prog 24 #[.agg #[.int .i64 m.y, .int .i64 m.mo, .int .i64 m.d, .int .i64 m.h, .int .i64 m.mi, .string m.s, .int .i64 m.z, .bool m.has], .int .i64 12] w (fun e w' => e = .returned (.tuple #[.agg #[.int .i64 (m.y + 1), .int .i64 m.mo, .int .i64 m.d, .int .i64 m.h, .int .i64 m.mi, .string m.s, .int .i64 m.z, .bool m.has], .int .i64 0]) ∧ Below w.heap.size w w')) := Lib.hid (fun w hw => Months_c m ⟨(m.y + 1), m.mo, m.d, m.h, m.mi, m.s, m.z, m.has⟩ 12 0 e3 hsm w hw)
        have c4 : Hid (∀ w, LaidT w → Calls Tryz.prog 20 #[.agg #[.int .i64 m.y, .int .i64 m.mo, .int .i64 m.d, .int .i64 m.h, .int .i64 m.mi, .string m.s, .int .i64 m.z, .bool m.has]] w (fun e w' => e = .returned (.tuple #[.string S, .int .i64 0]) ∧ Below w.heap.size w w')) := Lib.hid (fun w hw => Seconds_c m S 0 eS hsm w hw)
        clear e3 eS
        replace hv := Lib.hid hv
        replace hy := Lib.hid hy
        replace hmo := Lib.hid hmo
        replace hd := Lib.hid hd
        obtain ⟨q, hq⟩ : ∃ q, q = W.heap.size := ⟨_, rfl⟩
        obtain ⟨w1, hw⟩ : ∃ w, w = W.alloc (.cells #[.int .i64 m.y, .int .i64 m.mo, .int .i64 m.d, .int .i64 m.h, .int .i64 m.mi, .string m.s, .int .i64 m.z, .bool m.has] 24) := ⟨_, rfl⟩
        have hB1 : Hid (Below W.heap.size W w1) := Lib.hid (by rw [hw]; exact (Below.refl _ _).alloc (Nat.le_refl _) _)
        have hL1 := Lib.hid (hL.below hB1.out hL.size)
        have hMq1 : Hid (MoAt w1 q m.y m.mo m.d m.h m.mi m.s m.z m.has) := Lib.hid (by rw [hw, hq]; exact (MapKept.heap_alloc _ _).1)
        have hgeq : Hid (W.heap.size ≤ q) := Lib.hid (by rw [hq]; exact Nat.le_refl _)
        replace hq := Lib.hid hq
        replace hw := Lib.hid hw
        replace hL := Lib.hid hL
        go_enter Tryz.func6, Tryz.ntmps6
        go_upto_region 1 with fail
        rw [← hw.out, ← hq.out]
        clear hw
        obtain ⟨cq0, cq1, cq2, cq3, cq4, cq5, cq6, cq7⟩ := MomAt.of_heap hMq1.out
        go_wp2_with fail
        refine (c1.out w1 hL1.out).mono ?_
        rintro e w2 ⟨rfl, hb⟩
        have hB2 := Lib.hid (hB1.out.trans (hb.mono hB1.out.size))
        have hL2 := Lib.hid (hL.out.below hB2.out hL.out.size)
        have hMq2 : Hid (MoAt w2 q m.y m.mo m.d m.h m.mi m.s m.z m.has) := Lib.hid ((hb.block q (heap_lt hMq1.out)).trans hMq1.out)
        clear hb hB1 hL1 hMq1
        clear cq0 cq1 cq2 cq3 cq4 cq5 cq6 cq7
        obtain ⟨p1, hp1⟩ : ∃ q, q = w2.heap.size := ⟨_, rfl⟩
        obtain ⟨w3, hw⟩ : ∃ w, w = w2.alloc (.cells #[.int .i64 a.y, .int .i64 a.mo, .int .i64 a.d, .int .i64 a.h, .int .i64 a.mi, .string a.s, .int .i64 a.z, .bool a.has] 24) := ⟨_, rfl⟩
        have hb : Below w2.heap.size w2 w3 := by rw [hw]; exact (Below.refl _ _).alloc (Nat.le_refl _) _
        have hMp13 : Hid (MoAt w3 p1 a.y a.mo a.d a.h a.mi a.s a.z a.has) := Lib.hid (by rw [hw, hp1]; exact (MapKept.heap_alloc _ _).1)
        have hgep1 : Hid (W.heap.size ≤ p1) := Lib.hid (by rw [hp1]; exact hB2.out.size)
        have hnqp1 : Hid (q ≠ p1) := Lib.hid (by rw [hp1]; exact Nat.ne_of_lt (heap_lt hMq2.out))
        have hnp1q : Hid (p1 ≠ q) := Lib.hid (fun e => hnqp1.out e.symm)
        replace hp1 := Lib.hid hp1
        replace hw := Lib.hid hw
        have hB3 := Lib.hid (hB2.out.trans (hb.mono hB2.out.size))
        have hL3 := Lib.hid (hL.out.below hB3.out hL.out.size)
        have hMq3 : Hid (MoAt w3 q m.y m.mo m.d m.h m.mi m.s m.z m.has) := Lib.hid ((hb.block q (heap_lt hMq2.out)).trans hMq2.out)
        clear hb hB2 hL2 hMq2
        go_upto_region 4 with fail
        rw [← hw.out, ← hp1.out]
        clear hw hp1
        go_upto_if 25 with fail
        go_cut [7, 8] from 26 to 68 (fun v7 v8 wx => Hid (MoAt wx q m.y m.mo m.d m.h m.mi m.s m.z m.has) ∧ Hid (Below W.heap.size W wx))
        case first =>
          obtain ⟨cq0, cq1, cq2, cq3, cq4, cq5, cq6, cq7⟩ := MomAt.of_heap hMq3.out
          obtain ⟨cp10, cp11, cp12, cp13, cp14, cp15, cp16, cp17⟩ := MomAt.of_heap hMp13.out
          go_wp2_with fail
          refine (c2.out w3 hL3.out).mono ?_
          rintro e w4 ⟨rfl, hb⟩
          have hB4 := Lib.hid (hB3.out.trans (hb.mono hB3.out.size))
          have hL4 := Lib.hid (hL.out.below hB4.out hL.out.size)
          have hMq4 : Hid (MoAt w4 q m.y m.mo m.d m.h m.mi m.s m.z m.has) := Lib.hid ((hb.block q (heap_lt hMq3.out)).trans hMq3.out)
          have hMp14 : Hid (MoAt w4 p1 a.y a.mo a.d a.h a.mi a.s a.z a.has) := Lib.hid ((hb.block p1 (heap_lt hMp13.out)).trans hMp13.out)
          clear hb hB3 hL3 hMq3 hMp13
          clear cq0 cq1 cq2 cq3 cq4 cq5 cq6 cq7
          clear cp10 cp11 cp12 cp13 cp14 cp15 cp16 cp17
          obtain ⟨p2, hp2⟩ : ∃ q, q = w4.heap.size := ⟨_, rfl⟩
          obtain ⟨w5, hw⟩ : ∃ w, w = w4.alloc (.cells #[.int .i64 m.y, .int .i64 m.mo, .int .i64 m.d, .int .i64 m.h, .int .i64 m.mi, .string m.s, .int .i64 m.z, .bool m.has] 24) := ⟨_, rfl⟩
          have hb : Below w4.heap.size w4 w5 := by rw [hw]; exact (Below.refl _ _).alloc (Nat.le_refl _) _
          have hMp25 : Hid (MoAt w5 p2 m.y m.mo m.d m.h m.mi m.s m.z m.has) := Lib.hid (by rw [hw, hp2]; exact (MapKept.heap_alloc _ _).1)
          have hgep2 : Hid (W.heap.size ≤ p2) := Lib.hid (by rw [hp2]; exact hB4.out.size)
          have hnqp2 : Hid (q ≠ p2) := Lib.hid (by rw [hp2]; exact Nat.ne_of_lt (heap_lt hMq4.out))
          have hnp2q : Hid (p2 ≠ q) := Lib.hid (fun e => hnqp2.out e.symm)
          have hnp1p2 : Hid (p1 ≠ p2) := Lib.hid (by rw [hp2]; exact Nat.ne_of_lt (heap_lt hMp14.out))
          have hnp2p1 : Hid (p2 ≠ p1) := Lib.hid (fun e => hnp1p2.out e.symm)
          replace hp2 := Lib.hid hp2
          replace hw := Lib.hid hw
          have hB5 := Lib.hid (hB4.out.trans (hb.mono hB4.out.size))
          have hL5 := Lib.hid (hL.out.below hB5.out hL.out.size)
          have hMq5 : Hid (MoAt w5 q m.y m.mo m.d m.h m.mi m.s m.z m.has) := Lib.hid ((hb.block q (heap_lt hMq4.out)).trans hMq4.out)
          have hMp15 : Hid (MoAt w5 p1 a.y a.mo a.d a.h a.mi a.s a.z a.has) := Lib.hid ((hb.block p1 (heap_lt hMp14.out)).trans hMp14.out)
          clear hb hB4 hL4 hMq4 hMp14
          go_upto_region 6 with fail
          rw [← hw.out, ← hp2.out]
          clear hw hp2
          obtain ⟨cq0, cq1, cq2, cq3, cq4, cq5, cq6, cq7⟩ := MomAt.of_heap hMq5.out
          obtain ⟨cp10, cp11, cp12, cp13, cp14, cp15, cp16, cp17⟩ := MomAt.of_heap hMp15.out
          obtain ⟨cp20, cp21, cp22, cp23, cp24, cp25, cp26, cp27⟩ := MomAt.of_heap hMp25.out
          go_wp2_with fail
          go_meet
          exact ⟨hMq5, hB5⟩
        obtain ⟨hMq, hB⟩ := hcut
        obtain ⟨w23, hw⟩ : ∃ w, w = wc := ⟨_, rfl⟩
        rw [← hw] at hMq hB ⊢
        clear hw hB3 hL3 hMq3 hMp13
        have hB23 := hB
        have hL23 := Lib.hid (hL.out.below hB.out hL.out.size)
        clear hB
        have hMq23 := hMq
        clear hMq
        obtain ⟨cq0, cq1, cq2, cq3, cq4, cq5, cq6, cq7⟩ := MomAt.of_heap hMq23.out
        go_wp2_with fail
        refine (c3.out w23 hL23.out).mono ?_
        rintro e w24 ⟨rfl, hb⟩
        have hB24 := Lib.hid (hB23.out.trans (hb.mono hB23.out.size))
        have hL24 := Lib.hid (hL.out.below hB24.out hL.out.size)
        have hMq24 : Hid (MoAt w24 q m.y m.mo m.d m.h m.mi m.s m.z m.has) := Lib.hid ((hb.block q (heap_lt hMq23.out)).trans hMq23.out)
        clear hb hB23 hL23 hMq23
        clear cq0 cq1 cq2 cq3 cq4 cq5 cq6 cq7
        obtain ⟨p3, hp3⟩ : ∃ q, q = w24.heap.size := ⟨_, rfl⟩
        obtain ⟨w25, hw⟩ : ∃ w, w = w24.alloc (.cells #[.int .i64 (m.y + 1), .int .i64 m.mo, .int .i64 m.d, .int .i64 m.h, .int .i64 m.mi, .string m.s, .int .i64 m.z, .bool m.has] 24) := ⟨_, rfl⟩
        have hb : Below w24.heap.size w24 w25 := by rw [hw]; exact (Below.refl _ _).alloc (Nat.le_refl _) _
        have hMp325 : Hid (MoAt w25 p3 (m.y + 1) m.mo m.d m.h m.mi m.s m.z m.has) := Lib.hid (by rw [hw, hp3]; exact (MapKept.heap_alloc _ _).1)
        have hgep3 : Hid (W.heap.size ≤ p3) := Lib.hid (by rw [hp3]; exact hB24.out.size)
        have hnqp3 : Hid (q ≠ p3) := Lib.hid (by rw [hp3]; exact Nat.ne_of_lt (heap_lt hMq24.out))
        have hnp3q : Hid (p3 ≠ q) := Lib.hid (fun e => hnqp3.out e.symm)
        replace hp3 := Lib.hid hp3
        replace hw := Lib.hid hw
        have hB25 := Lib.hid (hB24.out.trans (hb.mono hB24.out.size))
        have hL25 := Lib.hid (hL.out.below hB25.out hL.out.size)
        have hMq25 : Hid (MoAt w25 q m.y m.mo m.d m.h m.mi m.s m.z m.has) := Lib.hid ((hb.block q (heap_lt hMq24.out)).trans hMq24.out)
        clear hb hB24 hL24 hMq24
        go_upto_region 11 with fail
        rw [← hw.out, ← hp3.out]
        clear hw hp3
        obtain ⟨cq0, cq1, cq2, cq3, cq4, cq5, cq6, cq7⟩ := MomAt.of_heap hMq25.out
        go_wp2_with fail
        refine (c4.out w25 hL25.out).mono ?_
        rintro e w26 ⟨rfl, hb⟩
        have hB26 := Lib.hid (hB25.out.trans (hb.mono hB25.out.size))
        have hL26 := Lib.hid (hL.out.below hB26.out hL.out.size)
        have hMq26 : Hid (MoAt w26 q m.y m.mo m.d m.h m.mi m.s m.z m.has) := Lib.hid ((hb.block q (heap_lt hMq25.out)).trans hMq25.out)
        have hMp326 : Hid (MoAt w26 p3 (m.y + 1) m.mo m.d m.h m.mi m.s m.z m.has) := Lib.hid ((hb.block p3 (heap_lt hMp325.out)).trans hMp325.out)
        clear hb hB25 hL25 hMq25 hMp325
        clear cq0 cq1 cq2 cq3 cq4 cq5 cq6 cq7
        obtain ⟨cq0, cq1, cq2, cq3, cq4, cq5, cq6, cq7⟩ := MomAt.of_heap hMq26.out
        go_upto_region 14 with fail
        clear cq0 cq1 cq2 cq3 cq4 cq5 cq6 cq7
        obtain ⟨cq0, cq1, cq2, cq3, cq4, cq5, cq6, cq7⟩ := MomAt.of_heap hMq26.out
        have ff0 := Lib.frozen_of_heap hMq26.out 0
        obtain ⟨w27, hw⟩ : ∃ w, w = (w26.setCell ⟨q, 0, none⟩ (.int .i64 (m.y + 1))) := ⟨_, rfl⟩
        have hB27 : Hid (Below W.heap.size W w27) := Lib.hid (by rw [hw]; exact hB26.out.trans ((Below.refl _ _).setCell (p := ⟨q, 0, none⟩) hgeq.out _))
        have hL27 := Lib.hid (hL.out.below hB27.out hL.out.size)
        have hMq27 : Hid (MoAt w27 q (m.y + 1) m.mo m.d m.h m.mi m.s m.z m.has) := Lib.hid (by rw [hw]; exact (Lib.heap_setCell_same (i := 0) hMq26.out _))
        have hMp327 : Hid (MoAt w27 p3 (m.y + 1) m.mo m.d m.h m.mi m.s m.z m.has) := Lib.hid (by rw [hw]; exact ((Below.heap_setCell _ _ _ _ hnp3q.out).trans hMp326.out))
        replace hw := Lib.hid hw
        go_upto_region 15 with fail
        rw [← hw.out]
        clear hw ff0
        clear cq0 cq1 cq2 cq3 cq4 cq5 cq6 cq7
        clear hB26 hL26 hMq26 hMp326
        obtain ⟨cq0, cq1, cq2, cq3, cq4, cq5, cq6, cq7⟩ := MomAt.of_heap hMq27.out
        obtain ⟨cp30, cp31, cp32, cp33, cp34, cp35, cp36, cp37⟩ := MomAt.of_heap hMp327.out
        go_wp2_with fail
        refine (works_c w27 hL27.out).mono ?_
        rintro e w ⟨rfl, hb⟩
        go_wp2_with fail
        go_ret
        exact ⟨rfl, hB27.out.trans (hb.mono hB27.out.size)⟩
    · have gm : (m.mo == 2) = false := by simpa using hmo
      have e3 : addMonthsP m.P 12 = (MB.P ⟨(m.y + 1), m.mo, m.d, m.h, m.mi, m.s, m.z, m.has⟩, 0) := by rw [months_year hv hy]; show (({ m.P with y := m.y + 1, d := if m.mo = 2 ∧ m.d = 29 then 28 else m.d } : Mom), (0 : Int)) = _; rw [if_neg (fun h => hmo h.1)]; rfl
      have c3 : Hid (∀ w, LaidT w → Calls Tryz.prog 24 #[.agg #[.int .i64 m.y, .int .i64 m.mo, .int .i64 m.d, .int .i64 m.h, .int .i64 m.mi, .string m.s, .int .i64 m.z, .bool m.has], .int .i64 12] w (fun e w' => e = .returned (.tuple #[.agg #[.int .i64 (m.y + 1), .int .i64 m.mo, .int .i64 m.d, .int .i64 m.h, .int .i64 m.mi, .string m.s, .int .i64 m.z, .bool m.has], .int .i64 0]) ∧ Below w.heap.size w w')) := Lib.hid (fun w hw => Months_c m ⟨(m.y + 1), m.mo, m.d, m.h, m.mi, m.s, m.z, m.has⟩ 12 0 e3 hsm w hw)
      have c4 : Hid (∀ w, LaidT w → Calls Tryz.prog 20 #[.agg #[.int .i64 m.y, .int .i64 m.mo, .int .i64 m.d, .int .i64 m.h, .int .i64 m.mi, .string m.s, .int .i64 m.z, .bool m.has]] w (fun e w' => e = .returned (.tuple #[.string S, .int .i64 0]) ∧ Below w.heap.size w w')) := Lib.hid (fun w hw => Seconds_c m S 0 eS hsm w hw)
      clear e3 eS
      replace hv := Lib.hid hv
      replace hy := Lib.hid hy
      replace hmo := Lib.hid hmo
      obtain ⟨q, hq⟩ : ∃ q, q = W.heap.size := ⟨_, rfl⟩
      obtain ⟨w1, hw⟩ : ∃ w, w = W.alloc (.cells #[.int .i64 m.y, .int .i64 m.mo, .int .i64 m.d, .int .i64 m.h, .int .i64 m.mi, .string m.s, .int .i64 m.z, .bool m.has] 24) := ⟨_, rfl⟩
      have hB1 : Hid (Below W.heap.size W w1) := Lib.hid (by rw [hw]; exact (Below.refl _ _).alloc (Nat.le_refl _) _)
      have hL1 := Lib.hid (hL.below hB1.out hL.size)
      have hMq1 : Hid (MoAt w1 q m.y m.mo m.d m.h m.mi m.s m.z m.has) := Lib.hid (by rw [hw, hq]; exact (MapKept.heap_alloc _ _).1)
      have hgeq : Hid (W.heap.size ≤ q) := Lib.hid (by rw [hq]; exact Nat.le_refl _)
      replace hq := Lib.hid hq
      replace hw := Lib.hid hw
      replace hL := Lib.hid hL
      go_enter Tryz.func6, Tryz.ntmps6
      go_upto_region 1 with fail
      rw [← hw.out, ← hq.out]
      clear hw
      obtain ⟨cq0, cq1, cq2, cq3, cq4, cq5, cq6, cq7⟩ := MomAt.of_heap hMq1.out
      go_wp2_with fail
      refine (c1.out w1 hL1.out).mono ?_
      rintro e w2 ⟨rfl, hb⟩
      have hB2 := Lib.hid (hB1.out.trans (hb.mono hB1.out.size))
      have hL2 := Lib.hid (hL.out.below hB2.out hL.out.size)
      have hMq2 : Hid (MoAt w2 q m.y m.mo m.d m.h m.mi m.s m.z m.has) := Lib.hid ((hb.block q (heap_lt hMq1.out)).trans hMq1.out)
      clear hb hB1 hL1 hMq1
      clear cq0 cq1 cq2 cq3 cq4 cq5 cq6 cq7
      obtain ⟨p1, hp1⟩ : ∃ q, q = w2.heap.size := ⟨_, rfl⟩
      obtain ⟨w3, hw⟩ : ∃ w, w = w2.alloc (.cells #[.int .i64 a.y, .int .i64 a.mo, .int .i64 a.d, .int .i64 a.h, .int .i64 a.mi, .string a.s, .int .i64 a.z, .bool a.has] 24) := ⟨_, rfl⟩
      have hb : Below w2.heap.size w2 w3 := by rw [hw]; exact (Below.refl _ _).alloc (Nat.le_refl _) _
      have hMp13 : Hid (MoAt w3 p1 a.y a.mo a.d a.h a.mi a.s a.z a.has) := Lib.hid (by rw [hw, hp1]; exact (MapKept.heap_alloc _ _).1)
      have hgep1 : Hid (W.heap.size ≤ p1) := Lib.hid (by rw [hp1]; exact hB2.out.size)
      have hnqp1 : Hid (q ≠ p1) := Lib.hid (by rw [hp1]; exact Nat.ne_of_lt (heap_lt hMq2.out))
      have hnp1q : Hid (p1 ≠ q) := Lib.hid (fun e => hnqp1.out e.symm)
      replace hp1 := Lib.hid hp1
      replace hw := Lib.hid hw
      have hB3 := Lib.hid (hB2.out.trans (hb.mono hB2.out.size))
      have hL3 := Lib.hid (hL.out.below hB3.out hL.out.size)
      have hMq3 : Hid (MoAt w3 q m.y m.mo m.d m.h m.mi m.s m.z m.has) := Lib.hid ((hb.block q (heap_lt hMq2.out)).trans hMq2.out)
      clear hb hB2 hL2 hMq2
      go_upto_region 4 with fail
      rw [← hw.out, ← hp1.out]
      clear hw hp1
      go_upto_if 25 with fail
      go_cut [7, 8] from 26 to 68 (fun v7 v8 wx => Hid (MoAt wx q m.y m.mo m.d m.h m.mi m.s m.z m.has) ∧ Hid (Below W.heap.size W wx))
      case first =>
        obtain ⟨cq0, cq1, cq2, cq3, cq4, cq5, cq6, cq7⟩ := MomAt.of_heap hMq3.out
        obtain ⟨cp10, cp11, cp12, cp13, cp14, cp15, cp16, cp17⟩ := MomAt.of_heap hMp13.out
        go_wp2_with fail
        refine (c2.out w3 hL3.out).mono ?_
        rintro e w4 ⟨rfl, hb⟩
        have hB4 := Lib.hid (hB3.out.trans (hb.mono hB3.out.size))
        have hL4 := Lib.hid (hL.out.below hB4.out hL.out.size)
        have hMq4 : Hid (MoAt w4 q m.y m.mo m.d m.h m.mi m.s m.z m.has) := Lib.hid ((hb.block q (heap_lt hMq3.out)).trans hMq3.out)
        have hMp14 : Hid (MoAt w4 p1 a.y a.mo a.d a.h a.mi a.s a.z a.has) := Lib.hid ((hb.block p1 (heap_lt hMp13.out)).trans hMp13.out)
        clear hb hB3 hL3 hMq3 hMp13
        clear cq0 cq1 cq2 cq3 cq4 cq5 cq6 cq7
        clear cp10 cp11 cp12 cp13 cp14 cp15 cp16 cp17
        obtain ⟨p2, hp2⟩ : ∃ q, q = w4.heap.size := ⟨_, rfl⟩
        obtain ⟨w5, hw⟩ : ∃ w, w = w4.alloc (.cells #[.int .i64 m.y, .int .i64 m.mo, .int .i64 m.d, .int .i64 m.h, .int .i64 m.mi, .string m.s, .int .i64 m.z, .bool m.has] 24) := ⟨_, rfl⟩
        have hb : Below w4.heap.size w4 w5 := by rw [hw]; exact (Below.refl _ _).alloc (Nat.le_refl _) _
        have hMp25 : Hid (MoAt w5 p2 m.y m.mo m.d m.h m.mi m.s m.z m.has) := Lib.hid (by rw [hw, hp2]; exact (MapKept.heap_alloc _ _).1)
        have hgep2 : Hid (W.heap.size ≤ p2) := Lib.hid (by rw [hp2]; exact hB4.out.size)
        have hnqp2 : Hid (q ≠ p2) := Lib.hid (by rw [hp2]; exact Nat.ne_of_lt (heap_lt hMq4.out))
        have hnp2q : Hid (p2 ≠ q) := Lib.hid (fun e => hnqp2.out e.symm)
        have hnp1p2 : Hid (p1 ≠ p2) := Lib.hid (by rw [hp2]; exact Nat.ne_of_lt (heap_lt hMp14.out))
        have hnp2p1 : Hid (p2 ≠ p1) := Lib.hid (fun e => hnp1p2.out e.symm)
        replace hp2 := Lib.hid hp2
        replace hw := Lib.hid hw
        have hB5 := Lib.hid (hB4.out.trans (hb.mono hB4.out.size))
        have hL5 := Lib.hid (hL.out.below hB5.out hL.out.size)
        have hMq5 : Hid (MoAt w5 q m.y m.mo m.d m.h m.mi m.s m.z m.has) := Lib.hid ((hb.block q (heap_lt hMq4.out)).trans hMq4.out)
        have hMp15 : Hid (MoAt w5 p1 a.y a.mo a.d a.h a.mi a.s a.z a.has) := Lib.hid ((hb.block p1 (heap_lt hMp14.out)).trans hMp14.out)
        clear hb hB4 hL4 hMq4 hMp14
        go_upto_region 6 with fail
        rw [← hw.out, ← hp2.out]
        clear hw hp2
        obtain ⟨cq0, cq1, cq2, cq3, cq4, cq5, cq6, cq7⟩ := MomAt.of_heap hMq5.out
        obtain ⟨cp10, cp11, cp12, cp13, cp14, cp15, cp16, cp17⟩ := MomAt.of_heap hMp15.out
        obtain ⟨cp20, cp21, cp22, cp23, cp24, cp25, cp26, cp27⟩ := MomAt.of_heap hMp25.out
        go_wp2_with fail
        go_meet
        exact ⟨hMq5, hB5⟩
      obtain ⟨hMq, hB⟩ := hcut
      obtain ⟨w23, hw⟩ : ∃ w, w = wc := ⟨_, rfl⟩
      rw [← hw] at hMq hB ⊢
      clear hw hB3 hL3 hMq3 hMp13
      have hB23 := hB
      have hL23 := Lib.hid (hL.out.below hB.out hL.out.size)
      clear hB
      have hMq23 := hMq
      clear hMq
      obtain ⟨cq0, cq1, cq2, cq3, cq4, cq5, cq6, cq7⟩ := MomAt.of_heap hMq23.out
      go_wp2_with fail
      refine (c3.out w23 hL23.out).mono ?_
      rintro e w24 ⟨rfl, hb⟩
      have hB24 := Lib.hid (hB23.out.trans (hb.mono hB23.out.size))
      have hL24 := Lib.hid (hL.out.below hB24.out hL.out.size)
      have hMq24 : Hid (MoAt w24 q m.y m.mo m.d m.h m.mi m.s m.z m.has) := Lib.hid ((hb.block q (heap_lt hMq23.out)).trans hMq23.out)
      clear hb hB23 hL23 hMq23
      clear cq0 cq1 cq2 cq3 cq4 cq5 cq6 cq7
      obtain ⟨p3, hp3⟩ : ∃ q, q = w24.heap.size := ⟨_, rfl⟩
      obtain ⟨w25, hw⟩ : ∃ w, w = w24.alloc (.cells #[.int .i64 (m.y + 1), .int .i64 m.mo, .int .i64 m.d, .int .i64 m.h, .int .i64 m.mi, .string m.s, .int .i64 m.z, .bool m.has] 24) := ⟨_, rfl⟩
      have hb : Below w24.heap.size w24 w25 := by rw [hw]; exact (Below.refl _ _).alloc (Nat.le_refl _) _
      have hMp325 : Hid (MoAt w25 p3 (m.y + 1) m.mo m.d m.h m.mi m.s m.z m.has) := Lib.hid (by rw [hw, hp3]; exact (MapKept.heap_alloc _ _).1)
      have hgep3 : Hid (W.heap.size ≤ p3) := Lib.hid (by rw [hp3]; exact hB24.out.size)
      have hnqp3 : Hid (q ≠ p3) := Lib.hid (by rw [hp3]; exact Nat.ne_of_lt (heap_lt hMq24.out))
      have hnp3q : Hid (p3 ≠ q) := Lib.hid (fun e => hnqp3.out e.symm)
      replace hp3 := Lib.hid hp3
      replace hw := Lib.hid hw
      have hB25 := Lib.hid (hB24.out.trans (hb.mono hB24.out.size))
      have hL25 := Lib.hid (hL.out.below hB25.out hL.out.size)
      have hMq25 : Hid (MoAt w25 q m.y m.mo m.d m.h m.mi m.s m.z m.has) := Lib.hid ((hb.block q (heap_lt hMq24.out)).trans hMq24.out)
      clear hb hB24 hL24 hMq24
      go_upto_region 11 with fail
      rw [← hw.out, ← hp3.out]
      clear hw hp3
      obtain ⟨cq0, cq1, cq2, cq3, cq4, cq5, cq6, cq7⟩ := MomAt.of_heap hMq25.out
      go_wp2_with fail
      refine (c4.out w25 hL25.out).mono ?_
      rintro e w26 ⟨rfl, hb⟩
      have hB26 := Lib.hid (hB25.out.trans (hb.mono hB25.out.size))
      have hL26 := Lib.hid (hL.out.below hB26.out hL.out.size)
      have hMq26 : Hid (MoAt w26 q m.y m.mo m.d m.h m.mi m.s m.z m.has) := Lib.hid ((hb.block q (heap_lt hMq25.out)).trans hMq25.out)
      have hMp326 : Hid (MoAt w26 p3 (m.y + 1) m.mo m.d m.h m.mi m.s m.z m.has) := Lib.hid ((hb.block p3 (heap_lt hMp325.out)).trans hMp325.out)
      clear hb hB25 hL25 hMq25 hMp325
      clear cq0 cq1 cq2 cq3 cq4 cq5 cq6 cq7
      obtain ⟨cq0, cq1, cq2, cq3, cq4, cq5, cq6, cq7⟩ := MomAt.of_heap hMq26.out
      go_upto_region 14 with fail
      clear cq0 cq1 cq2 cq3 cq4 cq5 cq6 cq7
      obtain ⟨cq0, cq1, cq2, cq3, cq4, cq5, cq6, cq7⟩ := MomAt.of_heap hMq26.out
      have ff0 := Lib.frozen_of_heap hMq26.out 0
      obtain ⟨w27, hw⟩ : ∃ w, w = (w26.setCell ⟨q, 0, none⟩ (.int .i64 (m.y + 1))) := ⟨_, rfl⟩
      have hB27 : Hid (Below W.heap.size W w27) := Lib.hid (by rw [hw]; exact hB26.out.trans ((Below.refl _ _).setCell (p := ⟨q, 0, none⟩) hgeq.out _))
      have hL27 := Lib.hid (hL.out.below hB27.out hL.out.size)
      have hMq27 : Hid (MoAt w27 q (m.y + 1) m.mo m.d m.h m.mi m.s m.z m.has) := Lib.hid (by rw [hw]; exact (Lib.heap_setCell_same (i := 0) hMq26.out _))
      have hMp327 : Hid (MoAt w27 p3 (m.y + 1) m.mo m.d m.h m.mi m.s m.z m.has) := Lib.hid (by rw [hw]; exact ((Below.heap_setCell _ _ _ _ hnp3q.out).trans hMp326.out))
      replace hw := Lib.hid hw
      go_upto_region 15 with fail
      rw [← hw.out]
      clear hw ff0
      clear cq0 cq1 cq2 cq3 cq4 cq5 cq6 cq7
      clear hB26 hL26 hMq26 hMp326
      obtain ⟨cq0, cq1, cq2, cq3, cq4, cq5, cq6, cq7⟩ := MomAt.of_heap hMq27.out
      obtain ⟨cp30, cp31, cp32, cp33, cp34, cp35, cp36, cp37⟩ := MomAt.of_heap hMp327.out
      go_wp2_with fail
      refine (works_c w27 hL27.out).mono ?_
      rintro e w ⟨rfl, hb⟩
      go_wp2_with fail
      go_ret
      exact ⟨rfl, hB27.out.trans (hb.mono hB27.out.size)⟩
set_option maxRecDepth 100000 in
set_option maxHeartbeats 4000000 in
theorem timeMonths_g (m : MB) (n : Int) (W : World) (hL : LaidT W) (a : MB) (h28d : ¬ (m.d ≤ 28)) (ea : addMonthsP m.P n = (a.P, 0)) (hsm : m.s.size ≤ 1000) (hs : ¬ ((m.s.size : Int) > 300)) : Calls Tryz.prog 6 #[.agg #[.int .i64 m.y, .int .i64 m.mo, .int .i64 m.d, .int .i64 m.h, .int .i64 m.mi, .string m.s, .int .i64 m.z, .bool m.has], .int .i64 n] W (fun e w' => e = .returned (.bool true) ∧ Below W.heap.size W w') := by
  obtain ⟨hv, n1, n2⟩ := months_rng ea
  obtain ⟨b', hb', h28, hdl, hah, has⟩ := months_there ea
  obtain ⟨b, hbe⟩ : ∃ b : MB, b.P = b' := ⟨MB.of b', rfl⟩
  rw [← hbe] at hb' h28 hdl
  have gh : (a.h != m.h) = false := by have : a.h = m.h := hah; simpa using this
  have gs0 : a.s.data.toList = m.s.data.toList := has
  have gs : (a.s.toList != m.s.toList) = false := by rw [ByteArray.toList_eq, ByteArray.toList_eq, gs0]; simp
  have gs2 : (a.s.toList == m.s.toList) = true := by rw [ByteArray.toList_eq, ByteArray.toList_eq, gs0]; simp
  have gh2 : (a.h == m.h) = true := by have : a.h = m.h := hah; simpa using this
  have hsa : a.s.size ≤ 1000 := by rw [← list_len, gs0, list_len]; exact hsm
  replace hdl : b.d ≤ m.d := hdl
  have c1 : Hid (∀ w, LaidT w → Calls Tryz.prog 24 #[.agg #[.int .i64 m.y, .int .i64 m.mo, .int .i64 m.d, .int .i64 m.h, .int .i64 m.mi, .string m.s, .int .i64 m.z, .bool m.has], .int .i64 n] w (fun e w' => e = .returned (.tuple #[.agg #[.int .i64 a.y, .int .i64 a.mo, .int .i64 a.d, .int .i64 a.h, .int .i64 a.mi, .string a.s, .int .i64 a.z, .bool a.has], .int .i64 0]) ∧ Below w.heap.size w w')) := Lib.hid (fun w hw => Months_c m a n 0 ea hsm w hw)
  have c2 : Hid (∀ w, LaidT w → Calls Tryz.prog 24 #[.agg #[.int .i64 a.y, .int .i64 a.mo, .int .i64 a.d, .int .i64 a.h, .int .i64 a.mi, .string a.s, .int .i64 a.z, .bool a.has], .int .i64 (-n)] w (fun e w' => e = .returned (.tuple #[.agg #[.int .i64 b.y, .int .i64 b.mo, .int .i64 b.d, .int .i64 b.h, .int .i64 b.mi, .string b.s, .int .i64 b.z, .bool b.has], .int .i64 0]) ∧ Below w.heap.size w w')) := Lib.hid (fun w hw => Months_c a b (-n) 0 hb' hsa w hw)
  have gd2 : ¬ (b.d > m.d) := by omega
  clear hdl
  clear hb' h28 hah has hbe gs0 ea
  obtain ⟨S, k3, eS⟩ := SB.ex (secondsT m.P)
  obtain ⟨t, k2, et⟩ := MB.ex (addMonthsP m.P 12)
  have hk3 := seconds_err (m := m.P)
  rw [eS] at hk3
  rw [if_pos hv] at hk3
  replace hk3 : k3 = 0 := hk3
  subst hk3
  have hyb := valid_year hv
  have y1 : 1 ≤ m.y := hyb.1
  have y2 : m.y ≤ 9999 := hyb.2
  clear hyb
  by_cases hy : m.y = 9999
  · have gy : (m.y == 9999) = true := by simpa using hy
    have g2 : (k2 != 0) = true := by have := months_no (m := m.P) (Or.inr hy); rw [et] at this; simpa using this
    have c3 : Hid (∀ w, LaidT w → Calls Tryz.prog 24 #[.agg #[.int .i64 m.y, .int .i64 m.mo, .int .i64 m.d, .int .i64 m.h, .int .i64 m.mi, .string m.s, .int .i64 m.z, .bool m.has], .int .i64 12] w (fun e w' => e = .returned (.tuple #[.agg #[.int .i64 t.y, .int .i64 t.mo, .int .i64 t.d, .int .i64 t.h, .int .i64 t.mi, .string t.s, .int .i64 t.z, .bool t.has], .int .i64 k2]) ∧ Below w.heap.size w w')) := Lib.hid (fun w hw => Months_c m t 12 k2 et hsm w hw)
    have c4 : Hid (∀ w, LaidT w → Calls Tryz.prog 20 #[.agg #[.int .i64 m.y, .int .i64 m.mo, .int .i64 m.d, .int .i64 m.h, .int .i64 m.mi, .string m.s, .int .i64 m.z, .bool m.has]] w (fun e w' => e = .returned (.tuple #[.string S, .int .i64 0]) ∧ Below w.heap.size w w')) := Lib.hid (fun w hw => Seconds_c m S 0 eS hsm w hw)
    clear et eS
    replace hv := Lib.hid hv
    replace hy := Lib.hid hy
    obtain ⟨q, hq⟩ : ∃ q, q = W.heap.size := ⟨_, rfl⟩
    obtain ⟨w1, hw⟩ : ∃ w, w = W.alloc (.cells #[.int .i64 m.y, .int .i64 m.mo, .int .i64 m.d, .int .i64 m.h, .int .i64 m.mi, .string m.s, .int .i64 m.z, .bool m.has] 24) := ⟨_, rfl⟩
    have hB1 : Hid (Below W.heap.size W w1) := Lib.hid (by rw [hw]; exact (Below.refl _ _).alloc (Nat.le_refl _) _)
    have hL1 := Lib.hid (hL.below hB1.out hL.size)
    have hMq1 : Hid (MoAt w1 q m.y m.mo m.d m.h m.mi m.s m.z m.has) := Lib.hid (by rw [hw, hq]; exact (MapKept.heap_alloc _ _).1)
    have hgeq : Hid (W.heap.size ≤ q) := Lib.hid (by rw [hq]; exact Nat.le_refl _)
    replace hq := Lib.hid hq
    replace hw := Lib.hid hw
    replace hL := Lib.hid hL
    go_enter Tryz.func6, Tryz.ntmps6
    go_upto_region 1 with fail
    rw [← hw.out, ← hq.out]
    clear hw
    obtain ⟨cq0, cq1, cq2, cq3, cq4, cq5, cq6, cq7⟩ := MomAt.of_heap hMq1.out
    go_wp2_with fail
    refine (c1.out w1 hL1.out).mono ?_
    rintro e w2 ⟨rfl, hb⟩
    have hB2 := Lib.hid (hB1.out.trans (hb.mono hB1.out.size))
    have hL2 := Lib.hid (hL.out.below hB2.out hL.out.size)
    have hMq2 : Hid (MoAt w2 q m.y m.mo m.d m.h m.mi m.s m.z m.has) := Lib.hid ((hb.block q (heap_lt hMq1.out)).trans hMq1.out)
    clear hb hB1 hL1 hMq1
    clear cq0 cq1 cq2 cq3 cq4 cq5 cq6 cq7
    obtain ⟨p1, hp1⟩ : ∃ q, q = w2.heap.size := ⟨_, rfl⟩
    obtain ⟨w3, hw⟩ : ∃ w, w = w2.alloc (.cells #[.int .i64 a.y, .int .i64 a.mo, .int .i64 a.d, .int .i64 a.h, .int .i64 a.mi, .string a.s, .int .i64 a.z, .bool a.has] 24) := ⟨_, rfl⟩
    have hb : Below w2.heap.size w2 w3 := by rw [hw]; exact (Below.refl _ _).alloc (Nat.le_refl _) _
    have hMp13 : Hid (MoAt w3 p1 a.y a.mo a.d a.h a.mi a.s a.z a.has) := Lib.hid (by rw [hw, hp1]; exact (MapKept.heap_alloc _ _).1)
    have hgep1 : Hid (W.heap.size ≤ p1) := Lib.hid (by rw [hp1]; exact hB2.out.size)
    have hnqp1 : Hid (q ≠ p1) := Lib.hid (by rw [hp1]; exact Nat.ne_of_lt (heap_lt hMq2.out))
    have hnp1q : Hid (p1 ≠ q) := Lib.hid (fun e => hnqp1.out e.symm)
    replace hp1 := Lib.hid hp1
    replace hw := Lib.hid hw
    have hB3 := Lib.hid (hB2.out.trans (hb.mono hB2.out.size))
    have hL3 := Lib.hid (hL.out.below hB3.out hL.out.size)
    have hMq3 : Hid (MoAt w3 q m.y m.mo m.d m.h m.mi m.s m.z m.has) := Lib.hid ((hb.block q (heap_lt hMq2.out)).trans hMq2.out)
    clear hb hB2 hL2 hMq2
    go_upto_region 4 with fail
    rw [← hw.out, ← hp1.out]
    clear hw hp1
    go_upto_if 25 with fail
    go_cut [7, 8] from 26 to 68 (fun v7 v8 wx => Hid (MoAt wx q m.y m.mo m.d m.h m.mi m.s m.z m.has) ∧ Hid (Below W.heap.size W wx))
    case first =>
      obtain ⟨cq0, cq1, cq2, cq3, cq4, cq5, cq6, cq7⟩ := MomAt.of_heap hMq3.out
      obtain ⟨cp10, cp11, cp12, cp13, cp14, cp15, cp16, cp17⟩ := MomAt.of_heap hMp13.out
      go_wp2_with fail
      refine (c2.out w3 hL3.out).mono ?_
      rintro e w4 ⟨rfl, hb⟩
      have hB4 := Lib.hid (hB3.out.trans (hb.mono hB3.out.size))
      have hL4 := Lib.hid (hL.out.below hB4.out hL.out.size)
      have hMq4 : Hid (MoAt w4 q m.y m.mo m.d m.h m.mi m.s m.z m.has) := Lib.hid ((hb.block q (heap_lt hMq3.out)).trans hMq3.out)
      have hMp14 : Hid (MoAt w4 p1 a.y a.mo a.d a.h a.mi a.s a.z a.has) := Lib.hid ((hb.block p1 (heap_lt hMp13.out)).trans hMp13.out)
      clear hb hB3 hL3 hMq3 hMp13
      clear cq0 cq1 cq2 cq3 cq4 cq5 cq6 cq7
      clear cp10 cp11 cp12 cp13 cp14 cp15 cp16 cp17
      obtain ⟨p2, hp2⟩ : ∃ q, q = w4.heap.size := ⟨_, rfl⟩
      obtain ⟨w5, hw⟩ : ∃ w, w = w4.alloc (.cells #[.int .i64 b.y, .int .i64 b.mo, .int .i64 b.d, .int .i64 b.h, .int .i64 b.mi, .string b.s, .int .i64 b.z, .bool b.has] 24) := ⟨_, rfl⟩
      have hb : Below w4.heap.size w4 w5 := by rw [hw]; exact (Below.refl _ _).alloc (Nat.le_refl _) _
      have hMp25 : Hid (MoAt w5 p2 b.y b.mo b.d b.h b.mi b.s b.z b.has) := Lib.hid (by rw [hw, hp2]; exact (MapKept.heap_alloc _ _).1)
      have hgep2 : Hid (W.heap.size ≤ p2) := Lib.hid (by rw [hp2]; exact hB4.out.size)
      have hnqp2 : Hid (q ≠ p2) := Lib.hid (by rw [hp2]; exact Nat.ne_of_lt (heap_lt hMq4.out))
      have hnp2q : Hid (p2 ≠ q) := Lib.hid (fun e => hnqp2.out e.symm)
      have hnp1p2 : Hid (p1 ≠ p2) := Lib.hid (by rw [hp2]; exact Nat.ne_of_lt (heap_lt hMp14.out))
      have hnp2p1 : Hid (p2 ≠ p1) := Lib.hid (fun e => hnp1p2.out e.symm)
      replace hp2 := Lib.hid hp2
      replace hw := Lib.hid hw
      have hB5 := Lib.hid (hB4.out.trans (hb.mono hB4.out.size))
      have hL5 := Lib.hid (hL.out.below hB5.out hL.out.size)
      have hMq5 : Hid (MoAt w5 q m.y m.mo m.d m.h m.mi m.s m.z m.has) := Lib.hid ((hb.block q (heap_lt hMq4.out)).trans hMq4.out)
      have hMp15 : Hid (MoAt w5 p1 a.y a.mo a.d a.h a.mi a.s a.z a.has) := Lib.hid ((hb.block p1 (heap_lt hMp14.out)).trans hMp14.out)
      clear hb hB4 hL4 hMq4 hMp14
      go_upto_region 6 with fail
      rw [← hw.out, ← hp2.out]
      clear hw hp2
      obtain ⟨cq0, cq1, cq2, cq3, cq4, cq5, cq6, cq7⟩ := MomAt.of_heap hMq5.out
      obtain ⟨cp10, cp11, cp12, cp13, cp14, cp15, cp16, cp17⟩ := MomAt.of_heap hMp15.out
      obtain ⟨cp20, cp21, cp22, cp23, cp24, cp25, cp26, cp27⟩ := MomAt.of_heap hMp25.out
      go_wp2_with fail
      go_meet
      exact ⟨hMq5, hB5⟩
    obtain ⟨hMq, hB⟩ := hcut
    obtain ⟨w23, hw⟩ : ∃ w, w = wc := ⟨_, rfl⟩
    rw [← hw] at hMq hB ⊢
    clear hw hB3 hL3 hMq3 hMp13
    have hB23 := hB
    have hL23 := Lib.hid (hL.out.below hB.out hL.out.size)
    clear hB
    have hMq23 := hMq
    clear hMq
    obtain ⟨cq0, cq1, cq2, cq3, cq4, cq5, cq6, cq7⟩ := MomAt.of_heap hMq23.out
    go_wp2_with fail
    refine (c3.out w23 hL23.out).mono ?_
    rintro e w24 ⟨rfl, hb⟩
    have hB24 := Lib.hid (hB23.out.trans (hb.mono hB23.out.size))
    have hL24 := Lib.hid (hL.out.below hB24.out hL.out.size)
    have hMq24 : Hid (MoAt w24 q m.y m.mo m.d m.h m.mi m.s m.z m.has) := Lib.hid ((hb.block q (heap_lt hMq23.out)).trans hMq23.out)
    clear hb hB23 hL23 hMq23
    clear cq0 cq1 cq2 cq3 cq4 cq5 cq6 cq7
    obtain ⟨p3, hp3⟩ : ∃ q, q = w24.heap.size := ⟨_, rfl⟩
    obtain ⟨w25, hw⟩ : ∃ w, w = w24.alloc (.cells #[.int .i64 t.y, .int .i64 t.mo, .int .i64 t.d, .int .i64 t.h, .int .i64 t.mi, .string t.s, .int .i64 t.z, .bool t.has] 24) := ⟨_, rfl⟩
    have hb : Below w24.heap.size w24 w25 := by rw [hw]; exact (Below.refl _ _).alloc (Nat.le_refl _) _
    have hMp325 : Hid (MoAt w25 p3 t.y t.mo t.d t.h t.mi t.s t.z t.has) := Lib.hid (by rw [hw, hp3]; exact (MapKept.heap_alloc _ _).1)
    have hgep3 : Hid (W.heap.size ≤ p3) := Lib.hid (by rw [hp3]; exact hB24.out.size)
    have hnqp3 : Hid (q ≠ p3) := Lib.hid (by rw [hp3]; exact Nat.ne_of_lt (heap_lt hMq24.out))
    have hnp3q : Hid (p3 ≠ q) := Lib.hid (fun e => hnqp3.out e.symm)
    replace hp3 := Lib.hid hp3
    replace hw := Lib.hid hw
    have hB25 := Lib.hid (hB24.out.trans (hb.mono hB24.out.size))
    have hL25 := Lib.hid (hL.out.below hB25.out hL.out.size)
    have hMq25 : Hid (MoAt w25 q m.y m.mo m.d m.h m.mi m.s m.z m.has) := Lib.hid ((hb.block q (heap_lt hMq24.out)).trans hMq24.out)
    clear hb hB24 hL24 hMq24
    go_upto_region 11 with fail
    rw [← hw.out, ← hp3.out]
    clear hw hp3
    obtain ⟨cq0, cq1, cq2, cq3, cq4, cq5, cq6, cq7⟩ := MomAt.of_heap hMq25.out
    go_wp2_with fail
    refine (c4.out w25 hL25.out).mono ?_
    rintro e w26 ⟨rfl, hb⟩
    have hB26 := Lib.hid (hB25.out.trans (hb.mono hB25.out.size))
    have hL26 := Lib.hid (hL.out.below hB26.out hL.out.size)
    have hMq26 : Hid (MoAt w26 q m.y m.mo m.d m.h m.mi m.s m.z m.has) := Lib.hid ((hb.block q (heap_lt hMq25.out)).trans hMq25.out)
    have hMp326 : Hid (MoAt w26 p3 t.y t.mo t.d t.h t.mi t.s t.z t.has) := Lib.hid ((hb.block p3 (heap_lt hMp325.out)).trans hMp325.out)
    clear hb hB25 hL25 hMq25 hMp325
    clear cq0 cq1 cq2 cq3 cq4 cq5 cq6 cq7
    obtain ⟨cq0, cq1, cq2, cq3, cq4, cq5, cq6, cq7⟩ := MomAt.of_heap hMq26.out
    go_wp2_with fail
    refine (works_c w26 hL26.out).mono ?_
    rintro e w ⟨rfl, hb⟩
    go_wp2_with fail
    go_ret
    exact ⟨rfl, hB26.out.trans (hb.mono hB26.out.size)⟩
  · have gy : (m.y == 9999) = false := by simpa using hy
    clear et t k2
    by_cases hmo : m.mo = 2
    · have gm : (m.mo == 2) = true := by simpa using hmo
      by_cases hd : m.d = 29
      · have gd : (m.d == 29) = true := by simpa using hd
        have e3 : addMonthsP m.P 12 = (MB.P ⟨(m.y + 1), m.mo, 28, m.h, m.mi, m.s, m.z, m.has⟩, 0) := by rw [months_year hv hy]; show (({ m.P with y := m.y + 1, d := if m.mo = 2 ∧ m.d = 29 then 28 else m.d } : Mom), (0 : Int)) = _; rw [if_pos ⟨hmo, hd⟩]; rfl
        have c3 : Hid (∀ w, LaidT w → Calls Tryz.prog 24 #[.agg #[.int .i64 m.y, .int .i64 m.mo, .int .i64 m.d, .int .i64 m.h, .int .i64 m.mi, .string m.s, .int .i64 m.z, .bool m.has], .int .i64 12] w (fun e w' => e = .returned (.tuple #[.agg #[.int .i64 (m.y + 1), .int .i64 m.mo, .int .i64 28, .int .i64 m.h, .int .i64 m.mi, .string m.s, .int .i64 m.z, .bool m.has], .int .i64 0]) ∧ Below w.heap.size w w')) := Lib.hid (fun w hw => Months_c m ⟨(m.y + 1), m.mo, 28, m.h, m.mi, m.s, m.z, m.has⟩ 12 0 e3 hsm w hw)
        have c4 : Hid (∀ w, LaidT w → Calls Tryz.prog 20 #[.agg #[.int .i64 m.y, .int .i64 m.mo, .int .i64 m.d, .int .i64 m.h, .int .i64 m.mi, .string m.s, .int .i64 m.z, .bool m.has]] w (fun e w' => e = .returned (.tuple #[.string S, .int .i64 0]) ∧ Below w.heap.size w w')) := Lib.hid (fun w hw => Seconds_c m S 0 eS hsm w hw)
        clear e3 eS
        replace hv := Lib.hid hv
        replace hy := Lib.hid hy
        replace hmo := Lib.hid hmo
        replace hd := Lib.hid hd
        obtain ⟨q, hq⟩ : ∃ q, q = W.heap.size := ⟨_, rfl⟩
        obtain ⟨w1, hw⟩ : ∃ w, w = W.alloc (.cells #[.int .i64 m.y, .int .i64 m.mo, .int .i64 m.d, .int .i64 m.h, .int .i64 m.mi, .string m.s, .int .i64 m.z, .bool m.has] 24) := ⟨_, rfl⟩
        have hB1 : Hid (Below W.heap.size W w1) := Lib.hid (by rw [hw]; exact (Below.refl _ _).alloc (Nat.le_refl _) _)
        have hL1 := Lib.hid (hL.below hB1.out hL.size)
        have hMq1 : Hid (MoAt w1 q m.y m.mo m.d m.h m.mi m.s m.z m.has) := Lib.hid (by rw [hw, hq]; exact (MapKept.heap_alloc _ _).1)
        have hgeq : Hid (W.heap.size ≤ q) := Lib.hid (by rw [hq]; exact Nat.le_refl _)
        replace hq := Lib.hid hq
        replace hw := Lib.hid hw
        replace hL := Lib.hid hL
        go_enter Tryz.func6, Tryz.ntmps6
        go_upto_region 1 with fail
        rw [← hw.out, ← hq.out]
        clear hw
        obtain ⟨cq0, cq1, cq2, cq3, cq4, cq5, cq6, cq7⟩ := MomAt.of_heap hMq1.out
        go_wp2_with fail
        refine (c1.out w1 hL1.out).mono ?_
        rintro e w2 ⟨rfl, hb⟩
        have hB2 := Lib.hid (hB1.out.trans (hb.mono hB1.out.size))
        have hL2 := Lib.hid (hL.out.below hB2.out hL.out.size)
        have hMq2 : Hid (MoAt w2 q m.y m.mo m.d m.h m.mi m.s m.z m.has) := Lib.hid ((hb.block q (heap_lt hMq1.out)).trans hMq1.out)
        clear hb hB1 hL1 hMq1
        clear cq0 cq1 cq2 cq3 cq4 cq5 cq6 cq7
        obtain ⟨p1, hp1⟩ : ∃ q, q = w2.heap.size := ⟨_, rfl⟩
        obtain ⟨w3, hw⟩ : ∃ w, w = w2.alloc (.cells #[.int .i64 a.y, .int .i64 a.mo, .int .i64 a.d, .int .i64 a.h, .int .i64 a.mi, .string a.s, .int .i64 a.z, .bool a.has] 24) := ⟨_, rfl⟩
        have hb : Below w2.heap.size w2 w3 := by rw [hw]; exact (Below.refl _ _).alloc (Nat.le_refl _) _
        have hMp13 : Hid (MoAt w3 p1 a.y a.mo a.d a.h a.mi a.s a.z a.has) := Lib.hid (by rw [hw, hp1]; exact (MapKept.heap_alloc _ _).1)
        have hgep1 : Hid (W.heap.size ≤ p1) := Lib.hid (by rw [hp1]; exact hB2.out.size)
        have hnqp1 : Hid (q ≠ p1) := Lib.hid (by rw [hp1]; exact Nat.ne_of_lt (heap_lt hMq2.out))
        have hnp1q : Hid (p1 ≠ q) := Lib.hid (fun e => hnqp1.out e.symm)
        replace hp1 := Lib.hid hp1
        replace hw := Lib.hid hw
        have hB3 := Lib.hid (hB2.out.trans (hb.mono hB2.out.size))
        have hL3 := Lib.hid (hL.out.below hB3.out hL.out.size)
        have hMq3 : Hid (MoAt w3 q m.y m.mo m.d m.h m.mi m.s m.z m.has) := Lib.hid ((hb.block q (heap_lt hMq2.out)).trans hMq2.out)
        clear hb hB2 hL2 hMq2
        go_upto_region 4 with fail
        rw [← hw.out, ← hp1.out]
        clear hw hp1
        go_upto_if 25 with fail
        go_cut [7, 8] from 26 to 68 (fun v7 v8 wx => Hid (MoAt wx q m.y m.mo m.d m.h m.mi m.s m.z m.has) ∧ Hid (Below W.heap.size W wx))
        case first =>
          obtain ⟨cq0, cq1, cq2, cq3, cq4, cq5, cq6, cq7⟩ := MomAt.of_heap hMq3.out
          obtain ⟨cp10, cp11, cp12, cp13, cp14, cp15, cp16, cp17⟩ := MomAt.of_heap hMp13.out
          go_wp2_with fail
          refine (c2.out w3 hL3.out).mono ?_
          rintro e w4 ⟨rfl, hb⟩
          have hB4 := Lib.hid (hB3.out.trans (hb.mono hB3.out.size))
          have hL4 := Lib.hid (hL.out.below hB4.out hL.out.size)
          have hMq4 : Hid (MoAt w4 q m.y m.mo m.d m.h m.mi m.s m.z m.has) := Lib.hid ((hb.block q (heap_lt hMq3.out)).trans hMq3.out)
          have hMp14 : Hid (MoAt w4 p1 a.y a.mo a.d a.h a.mi a.s a.z a.has) := Lib.hid ((hb.block p1 (heap_lt hMp13.out)).trans hMp13.out)
          clear hb hB3 hL3 hMq3 hMp13
          clear cq0 cq1 cq2 cq3 cq4 cq5 cq6 cq7
          clear cp10 cp11 cp12 cp13 cp14 cp15 cp16 cp17
          obtain ⟨p2, hp2⟩ : ∃ q, q = w4.heap.size := ⟨_, rfl⟩
          obtain ⟨w5, hw⟩ : ∃ w, w = w4.alloc (.cells #[.int .i64 b.y, .int .i64 b.mo, .int .i64 b.d, .int .i64 b.h, .int .i64 b.mi, .string b.s, .int .i64 b.z, .bool b.has] 24) := ⟨_, rfl⟩
          have hb : Below w4.heap.size w4 w5 := by rw [hw]; exact (Below.refl _ _).alloc (Nat.le_refl _) _
          have hMp25 : Hid (MoAt w5 p2 b.y b.mo b.d b.h b.mi b.s b.z b.has) := Lib.hid (by rw [hw, hp2]; exact (MapKept.heap_alloc _ _).1)
          have hgep2 : Hid (W.heap.size ≤ p2) := Lib.hid (by rw [hp2]; exact hB4.out.size)
          have hnqp2 : Hid (q ≠ p2) := Lib.hid (by rw [hp2]; exact Nat.ne_of_lt (heap_lt hMq4.out))
          have hnp2q : Hid (p2 ≠ q) := Lib.hid (fun e => hnqp2.out e.symm)
          have hnp1p2 : Hid (p1 ≠ p2) := Lib.hid (by rw [hp2]; exact Nat.ne_of_lt (heap_lt hMp14.out))
          have hnp2p1 : Hid (p2 ≠ p1) := Lib.hid (fun e => hnp1p2.out e.symm)
          replace hp2 := Lib.hid hp2
          replace hw := Lib.hid hw
          have hB5 := Lib.hid (hB4.out.trans (hb.mono hB4.out.size))
          have hL5 := Lib.hid (hL.out.below hB5.out hL.out.size)
          have hMq5 : Hid (MoAt w5 q m.y m.mo m.d m.h m.mi m.s m.z m.has) := Lib.hid ((hb.block q (heap_lt hMq4.out)).trans hMq4.out)
          have hMp15 : Hid (MoAt w5 p1 a.y a.mo a.d a.h a.mi a.s a.z a.has) := Lib.hid ((hb.block p1 (heap_lt hMp14.out)).trans hMp14.out)
          clear hb hB4 hL4 hMq4 hMp14
          go_upto_region 6 with fail
          rw [← hw.out, ← hp2.out]
          clear hw hp2
          obtain ⟨cq0, cq1, cq2, cq3, cq4, cq5, cq6, cq7⟩ := MomAt.of_heap hMq5.out
          obtain ⟨cp10, cp11, cp12, cp13, cp14, cp15, cp16, cp17⟩ := MomAt.of_heap hMp15.out
          obtain ⟨cp20, cp21, cp22, cp23, cp24, cp25, cp26, cp27⟩ := MomAt.of_heap hMp25.out
          go_wp2_with fail
          go_meet
          exact ⟨hMq5, hB5⟩
        obtain ⟨hMq, hB⟩ := hcut
        obtain ⟨w23, hw⟩ : ∃ w, w = wc := ⟨_, rfl⟩
        rw [← hw] at hMq hB ⊢
        clear hw hB3 hL3 hMq3 hMp13
        have hB23 := hB
        have hL23 := Lib.hid (hL.out.below hB.out hL.out.size)
        clear hB
        have hMq23 := hMq
        clear hMq
        obtain ⟨cq0, cq1, cq2, cq3, cq4, cq5, cq6, cq7⟩ := MomAt.of_heap hMq23.out
        go_wp2_with fail
        refine (c3.out w23 hL23.out).mono ?_
        rintro e w24 ⟨rfl, hb⟩
        have hB24 := Lib.hid (hB23.out.trans (hb.mono hB23.out.size))
        have hL24 := Lib.hid (hL.out.below hB24.out hL.out.size)
        have hMq24 : Hid (MoAt w24 q m.y m.mo m.d m.h m.mi m.s m.z m.has) := Lib.hid ((hb.block q (heap_lt hMq23.out)).trans hMq23.out)
        clear hb hB23 hL23 hMq23
        clear cq0 cq1 cq2 cq3 cq4 cq5 cq6 cq7
        obtain ⟨p3, hp3⟩ : ∃ q, q = w24.heap.size := ⟨_, rfl⟩
        obtain ⟨w25, hw⟩ : ∃ w, w = w24.alloc (.cells #[.int .i64 (m.y + 1), .int .i64 m.mo, .int .i64 28, .int .i64 m.h, .int .i64 m.mi, .string m.s, .int .i64 m.z, .bool m.has] 24) := ⟨_, rfl⟩
        have hb : Below w24.heap.size w24 w25 := by rw [hw]; exact (Below.refl _ _).alloc (Nat.le_refl _) _
        have hMp325 : Hid (MoAt w25 p3 (m.y + 1) m.mo 28 m.h m.mi m.s m.z m.has) := Lib.hid (by rw [hw, hp3]; exact (MapKept.heap_alloc _ _).1)
        have hgep3 : Hid (W.heap.size ≤ p3) := Lib.hid (by rw [hp3]; exact hB24.out.size)
        have hnqp3 : Hid (q ≠ p3) := Lib.hid (by rw [hp3]; exact Nat.ne_of_lt (heap_lt hMq24.out))
        have hnp3q : Hid (p3 ≠ q) := Lib.hid (fun e => hnqp3.out e.symm)
        replace hp3 := Lib.hid hp3
        replace hw := Lib.hid hw
        have hB25 := Lib.hid (hB24.out.trans (hb.mono hB24.out.size))
        have hL25 := Lib.hid (hL.out.below hB25.out hL.out.size)
        have hMq25 : Hid (MoAt w25 q m.y m.mo m.d m.h m.mi m.s m.z m.has) := Lib.hid ((hb.block q (heap_lt hMq24.out)).trans hMq24.out)
        clear hb hB24 hL24 hMq24
        go_upto_region 11 with fail
        rw [← hw.out, ← hp3.out]
        clear hw hp3
        obtain ⟨cq0, cq1, cq2, cq3, cq4, cq5, cq6, cq7⟩ := MomAt.of_heap hMq25.out
        go_wp2_with fail
        refine (c4.out w25 hL25.out).mono ?_
        rintro e w26 ⟨rfl, hb⟩
        have hB26 := Lib.hid (hB25.out.trans (hb.mono hB25.out.size))
        have hL26 := Lib.hid (hL.out.below hB26.out hL.out.size)
        have hMq26 : Hid (MoAt w26 q m.y m.mo m.d m.h m.mi m.s m.z m.has) := Lib.hid ((hb.block q (heap_lt hMq25.out)).trans hMq25.out)
        have hMp326 : Hid (MoAt w26 p3 (m.y + 1) m.mo 28 m.h m.mi m.s m.z m.has) := Lib.hid ((hb.block p3 (heap_lt hMp325.out)).trans hMp325.out)
        clear hb hB25 hL25 hMq25 hMp325
        clear cq0 cq1 cq2 cq3 cq4 cq5 cq6 cq7
        obtain ⟨cq0, cq1, cq2, cq3, cq4, cq5, cq6, cq7⟩ := MomAt.of_heap hMq26.out
        go_upto_region 14 with fail
        clear cq0 cq1 cq2 cq3 cq4 cq5 cq6 cq7
        obtain ⟨cq0, cq1, cq2, cq3, cq4, cq5, cq6, cq7⟩ := MomAt.of_heap hMq26.out
        have ff0 := Lib.frozen_of_heap hMq26.out 0
        obtain ⟨w27, hw⟩ : ∃ w, w = (w26.setCell ⟨q, 0, none⟩ (.int .i64 (m.y + 1))) := ⟨_, rfl⟩
        have hB27 : Hid (Below W.heap.size W w27) := Lib.hid (by rw [hw]; exact hB26.out.trans ((Below.refl _ _).setCell (p := ⟨q, 0, none⟩) hgeq.out _))
        have hL27 := Lib.hid (hL.out.below hB27.out hL.out.size)
        have hMq27 : Hid (MoAt w27 q (m.y + 1) m.mo m.d m.h m.mi m.s m.z m.has) := Lib.hid (by rw [hw]; exact (Lib.heap_setCell_same (i := 0) hMq26.out _))
        have hMp327 : Hid (MoAt w27 p3 (m.y + 1) m.mo 28 m.h m.mi m.s m.z m.has) := Lib.hid (by rw [hw]; exact ((Below.heap_setCell _ _ _ _ hnp3q.out).trans hMp326.out))
        replace hw := Lib.hid hw
        go_upto_region 15 with fail
        rw [← hw.out]
        clear hw ff0
        clear cq0 cq1 cq2 cq3 cq4 cq5 cq6 cq7
        clear hB26 hL26 hMq26 hMp326
        obtain ⟨cq0, cq1, cq2, cq3, cq4, cq5, cq6, cq7⟩ := MomAt.of_heap hMq27.out
        go_upto_region 16 with fail
        clear cq0 cq1 cq2 cq3 cq4 cq5 cq6 cq7
        obtain ⟨cq0, cq1, cq2, cq3, cq4, cq5, cq6, cq7⟩ := MomAt.of_heap hMq27.out
        have ff2 := Lib.frozen_of_heap hMq27.out 2
        obtain ⟨w28, hw⟩ : ∃ w, w = (w27.setCell ⟨q, 2, none⟩ (.int .i64 28)) := ⟨_, rfl⟩
        have hB28 : Hid (Below W.heap.size W w28) := Lib.hid (by rw [hw]; exact hB27.out.trans ((Below.refl _ _).setCell (p := ⟨q, 2, none⟩) hgeq.out _))
        have hL28 := Lib.hid (hL.out.below hB28.out hL.out.size)
        have hMq28 : Hid (MoAt w28 q (m.y + 1) m.mo 28 m.h m.mi m.s m.z m.has) := Lib.hid (by rw [hw]; exact (Lib.heap_setCell_same (i := 2) hMq27.out _))
        have hMp328 : Hid (MoAt w28 p3 (m.y + 1) m.mo 28 m.h m.mi m.s m.z m.has) := Lib.hid (by rw [hw]; exact ((Below.heap_setCell _ _ _ _ hnp3q.out).trans hMp327.out))
        replace hw := Lib.hid hw
        go_upto_region 17 with fail
        rw [← hw.out]
        clear hw ff2
        clear cq0 cq1 cq2 cq3 cq4 cq5 cq6 cq7
        clear hB27 hL27 hMq27 hMp327
        obtain ⟨cq0, cq1, cq2, cq3, cq4, cq5, cq6, cq7⟩ := MomAt.of_heap hMq28.out
        obtain ⟨cp30, cp31, cp32, cp33, cp34, cp35, cp36, cp37⟩ := MomAt.of_heap hMp328.out
        go_wp2_with fail
        refine (works_c w28 hL28.out).mono ?_
        rintro e w ⟨rfl, hb⟩
        go_wp2_with fail
        go_ret
        exact ⟨rfl, hB28.out.trans (hb.mono hB28.out.size)⟩
      · have gd : (m.d == 29) = false := by simpa using hd
        have e3 : addMonthsP m.P 12 = (MB.P ⟨(m.y + 1), m.mo, m.d, m.h, m.mi, m.s, m.z, m.has⟩, 0) := by rw [months_year hv hy]; show (({ m.P with y := m.y + 1, d := if m.mo = 2 ∧ m.d = 29 then 28 else m.d } : Mom), (0 : Int)) = _; rw [if_neg (fun h => hd h.2)]; rfl
        have c3 : Hid (∀ w, LaidT w → Calls Tryz.prog 24 #[.agg #[.int .i64 m.y, .int .i64 m.mo, .int .i64 m.d, .int .i64 m.h, .int .i64 m.mi, .string m.s, .int .i64 m.z, .bool m.has], .int .i64 12] w (fun e w' => e = .returned (.tuple #[.agg #[.int .i64 (m.y + 1), .int .i64 m.mo, .int .i64 m.d, .int .i64 m.h, .int .i64 m.mi, .string m.s, .int .i64 m.z, .bool m.has], .int .i64 0]) ∧ Below w.heap.size w w')) := Lib.hid (fun w hw => Months_c m ⟨(m.y + 1), m.mo, m.d, m.h, m.mi, m.s, m.z, m.has⟩ 12 0 e3 hsm w hw)
        have c4 : Hid (∀ w, LaidT w → Calls Tryz.prog 20 #[.agg #[.int .i64 m.y, .int .i64 m.mo, .int .i64 m.d, .int .i64 m.h, .int .i64 m.mi, .string m.s, .int .i64 m.z, .bool m.has]] w (fun e w' => e = .returned (.tuple #[.string S, .int .i64 0]) ∧ Below w.heap.size w w')) := Lib.hid (fun w hw => Seconds_c m S 0 eS hsm w hw)
        clear e3 eS
        replace hv := Lib.hid hv
        replace hy := Lib.hid hy
        replace hmo := Lib.hid hmo
        replace hd := Lib.hid hd
        obtain ⟨q, hq⟩ : ∃ q, q = W.heap.size := ⟨_, rfl⟩
        obtain ⟨w1, hw⟩ : ∃ w, w = W.alloc (.cells #[.int .i64 m.y, .int .i64 m.mo, .int .i64 m.d, .int .i64 m.h, .int .i64 m.mi, .string m.s, .int .i64 m.z, .bool m.has] 24) := ⟨_, rfl⟩
        have hB1 : Hid (Below W.heap.size W w1) := Lib.hid (by rw [hw]; exact (Below.refl _ _).alloc (Nat.le_refl _) _)
        have hL1 := Lib.hid (hL.below hB1.out hL.size)
        have hMq1 : Hid (MoAt w1 q m.y m.mo m.d m.h m.mi m.s m.z m.has) := Lib.hid (by rw [hw, hq]; exact (MapKept.heap_alloc _ _).1)
        have hgeq : Hid (W.heap.size ≤ q) := Lib.hid (by rw [hq]; exact Nat.le_refl _)
        replace hq := Lib.hid hq
        replace hw := Lib.hid hw
        replace hL := Lib.hid hL
        go_enter Tryz.func6, Tryz.ntmps6
        go_upto_region 1 with fail
        rw [← hw.out, ← hq.out]
        clear hw
        obtain ⟨cq0, cq1, cq2, cq3, cq4, cq5, cq6, cq7⟩ := MomAt.of_heap hMq1.out
        go_wp2_with fail
        refine (c1.out w1 hL1.out).mono ?_
        rintro e w2 ⟨rfl, hb⟩
        have hB2 := Lib.hid (hB1.out.trans (hb.mono hB1.out.size))
        have hL2 := Lib.hid (hL.out.below hB2.out hL.out.size)
        have hMq2 : Hid (MoAt w2 q m.y m.mo m.d m.h m.mi m.s m.z m.has) := Lib.hid ((hb.block q (heap_lt hMq1.out)).trans hMq1.out)
        clear hb hB1 hL1 hMq1
        clear cq0 cq1 cq2 cq3 cq4 cq5 cq6 cq7
        obtain ⟨p1, hp1⟩ : ∃ q, q = w2.heap.size := ⟨_, rfl⟩
        obtain ⟨w3, hw⟩ : ∃ w, w = w2.alloc (.cells #[.int .i64 a.y, .int .i64 a.mo, .int .i64 a.d, .int .i64 a.h, .int .i64 a.mi, .string a.s, .int .i64 a.z, .bool a.has] 24) := ⟨_, rfl⟩
        have hb : Below w2.heap.size w2 w3 := by rw [hw]; exact (Below.refl _ _).alloc (Nat.le_refl _) _
        have hMp13 : Hid (MoAt w3 p1 a.y a.mo a.d a.h a.mi a.s a.z a.has) := Lib.hid (by rw [hw, hp1]; exact (MapKept.heap_alloc _ _).1)
        have hgep1 : Hid (W.heap.size ≤ p1) := Lib.hid (by rw [hp1]; exact hB2.out.size)
        have hnqp1 : Hid (q ≠ p1) := Lib.hid (by rw [hp1]; exact Nat.ne_of_lt (heap_lt hMq2.out))
        have hnp1q : Hid (p1 ≠ q) := Lib.hid (fun e => hnqp1.out e.symm)
        replace hp1 := Lib.hid hp1
        replace hw := Lib.hid hw
        have hB3 := Lib.hid (hB2.out.trans (hb.mono hB2.out.size))
        have hL3 := Lib.hid (hL.out.below hB3.out hL.out.size)
        have hMq3 : Hid (MoAt w3 q m.y m.mo m.d m.h m.mi m.s m.z m.has) := Lib.hid ((hb.block q (heap_lt hMq2.out)).trans hMq2.out)
        clear hb hB2 hL2 hMq2
        go_upto_region 4 with fail
        rw [← hw.out, ← hp1.out]
        clear hw hp1
        go_upto_if 25 with fail
        go_cut [7, 8] from 26 to 68 (fun v7 v8 wx => Hid (MoAt wx q m.y m.mo m.d m.h m.mi m.s m.z m.has) ∧ Hid (Below W.heap.size W wx))
        case first =>
          obtain ⟨cq0, cq1, cq2, cq3, cq4, cq5, cq6, cq7⟩ := MomAt.of_heap hMq3.out
          obtain ⟨cp10, cp11, cp12, cp13, cp14, cp15, cp16, cp17⟩ := MomAt.of_heap hMp13.out
          go_wp2_with fail
          refine (c2.out w3 hL3.out).mono ?_
          rintro e w4 ⟨rfl, hb⟩
          have hB4 := Lib.hid (hB3.out.trans (hb.mono hB3.out.size))
          have hL4 := Lib.hid (hL.out.below hB4.out hL.out.size)
          have hMq4 : Hid (MoAt w4 q m.y m.mo m.d m.h m.mi m.s m.z m.has) := Lib.hid ((hb.block q (heap_lt hMq3.out)).trans hMq3.out)
          have hMp14 : Hid (MoAt w4 p1 a.y a.mo a.d a.h a.mi a.s a.z a.has) := Lib.hid ((hb.block p1 (heap_lt hMp13.out)).trans hMp13.out)
          clear hb hB3 hL3 hMq3 hMp13
          clear cq0 cq1 cq2 cq3 cq4 cq5 cq6 cq7
          clear cp10 cp11 cp12 cp13 cp14 cp15 cp16 cp17
          obtain ⟨p2, hp2⟩ : ∃ q, q = w4.heap.size := ⟨_, rfl⟩
          obtain ⟨w5, hw⟩ : ∃ w, w = w4.alloc (.cells #[.int .i64 b.y, .int .i64 b.mo, .int .i64 b.d, .int .i64 b.h, .int .i64 b.mi, .string b.s, .int .i64 b.z, .bool b.has] 24) := ⟨_, rfl⟩
          have hb : Below w4.heap.size w4 w5 := by rw [hw]; exact (Below.refl _ _).alloc (Nat.le_refl _) _
          have hMp25 : Hid (MoAt w5 p2 b.y b.mo b.d b.h b.mi b.s b.z b.has) := Lib.hid (by rw [hw, hp2]; exact (MapKept.heap_alloc _ _).1)
          have hgep2 : Hid (W.heap.size ≤ p2) := Lib.hid (by rw [hp2]; exact hB4.out.size)
          have hnqp2 : Hid (q ≠ p2) := Lib.hid (by rw [hp2]; exact Nat.ne_of_lt (heap_lt hMq4.out))
          have hnp2q : Hid (p2 ≠ q) := Lib.hid (fun e => hnqp2.out e.symm)
          have hnp1p2 : Hid (p1 ≠ p2) := Lib.hid (by rw [hp2]; exact Nat.ne_of_lt (heap_lt hMp14.out))
          have hnp2p1 : Hid (p2 ≠ p1) := Lib.hid (fun e => hnp1p2.out e.symm)
          replace hp2 := Lib.hid hp2
          replace hw := Lib.hid hw
          have hB5 := Lib.hid (hB4.out.trans (hb.mono hB4.out.size))
          have hL5 := Lib.hid (hL.out.below hB5.out hL.out.size)
          have hMq5 : Hid (MoAt w5 q m.y m.mo m.d m.h m.mi m.s m.z m.has) := Lib.hid ((hb.block q (heap_lt hMq4.out)).trans hMq4.out)
          have hMp15 : Hid (MoAt w5 p1 a.y a.mo a.d a.h a.mi a.s a.z a.has) := Lib.hid ((hb.block p1 (heap_lt hMp14.out)).trans hMp14.out)
          clear hb hB4 hL4 hMq4 hMp14
          go_upto_region 6 with fail
          rw [← hw.out, ← hp2.out]
          clear hw hp2
          obtain ⟨cq0, cq1, cq2, cq3, cq4, cq5, cq6, cq7⟩ := MomAt.of_heap hMq5.out
          obtain ⟨cp10, cp11, cp12, cp13, cp14, cp15, cp16, cp17⟩ := MomAt.of_heap hMp15.out
          obtain ⟨cp20, cp21, cp22, cp23, cp24, cp25, cp26, cp27⟩ := MomAt.of_heap hMp25.out
          go_wp2_with fail
          go_meet
          exact ⟨hMq5, hB5⟩
        obtain ⟨hMq, hB⟩ := hcut
        obtain ⟨w23, hw⟩ : ∃ w, w = wc := ⟨_, rfl⟩
        rw [← hw] at hMq hB ⊢
        clear hw hB3 hL3 hMq3 hMp13
        have hB23 := hB
        have hL23 := Lib.hid (hL.out.below hB.out hL.out.size)
        clear hB
        have hMq23 := hMq
        clear hMq
        obtain ⟨cq0, cq1, cq2, cq3, cq4, cq5, cq6, cq7⟩ := MomAt.of_heap hMq23.out
        go_wp2_with fail
        refine (c3.out w23 hL23.out).mono ?_
        rintro e w24 ⟨rfl, hb⟩
        have hB24 := Lib.hid (hB23.out.trans (hb.mono hB23.out.size))
        have hL24 := Lib.hid (hL.out.below hB24.out hL.out.size)
        have hMq24 : Hid (MoAt w24 q m.y m.mo m.d m.h m.mi m.s m.z m.has) := Lib.hid ((hb.block q (heap_lt hMq23.out)).trans hMq23.out)
        clear hb hB23 hL23 hMq23
        clear cq0 cq1 cq2 cq3 cq4 cq5 cq6 cq7
        obtain ⟨p3, hp3⟩ : ∃ q, q = w24.heap.size := ⟨_, rfl⟩
        obtain ⟨w25, hw⟩ : ∃ w, w = w24.alloc (.cells #[.int .i64 (m.y + 1), .int .i64 m.mo, .int .i64 m.d, .int .i64 m.h, .int .i64 m.mi, .string m.s, .int .i64 m.z, .bool m.has] 24) := ⟨_, rfl⟩
        have hb : Below w24.heap.size w24 w25 := by rw [hw]; exact (Below.refl _ _).alloc (Nat.le_refl _) _
        have hMp325 : Hid (MoAt w25 p3 (m.y + 1) m.mo m.d m.h m.mi m.s m.z m.has) := Lib.hid (by rw [hw, hp3]; exact (MapKept.heap_alloc _ _).1)
        have hgep3 : Hid (W.heap.size ≤ p3) := Lib.hid (by rw [hp3]; exact hB24.out.size)
        have hnqp3 : Hid (q ≠ p3) := Lib.hid (by rw [hp3]; exact Nat.ne_of_lt (heap_lt hMq24.out))
        have hnp3q : Hid (p3 ≠ q) := Lib.hid (fun e => hnqp3.out e.symm)
        replace hp3 := Lib.hid hp3
        replace hw := Lib.hid hw
        have hB25 := Lib.hid (hB24.out.trans (hb.mono hB24.out.size))
        have hL25 := Lib.hid (hL.out.below hB25.out hL.out.size)
        have hMq25 : Hid (MoAt w25 q m.y m.mo m.d m.h m.mi m.s m.z m.has) := Lib.hid ((hb.block q (heap_lt hMq24.out)).trans hMq24.out)
        clear hb hB24 hL24 hMq24
        go_upto_region 11 with fail
        rw [← hw.out, ← hp3.out]
        clear hw hp3
        obtain ⟨cq0, cq1, cq2, cq3, cq4, cq5, cq6, cq7⟩ := MomAt.of_heap hMq25.out
        go_wp2_with fail
        refine (c4.out w25 hL25.out).mono ?_
        rintro e w26 ⟨rfl, hb⟩
        have hB26 := Lib.hid (hB25.out.trans (hb.mono hB25.out.size))
        have hL26 := Lib.hid (hL.out.below hB26.out hL.out.size)
        have hMq26 : Hid (MoAt w26 q m.y m.mo m.d m.h m.mi m.s m.z m.has) := Lib.hid ((hb.block q (heap_lt hMq25.out)).trans hMq25.out)
        have hMp326 : Hid (MoAt w26 p3 (m.y + 1) m.mo m.d m.h m.mi m.s m.z m.has) := Lib.hid ((hb.block p3 (heap_lt hMp325.out)).trans hMp325.out)
        clear hb hB25 hL25 hMq25 hMp325
        clear cq0 cq1 cq2 cq3 cq4 cq5 cq6 cq7
        obtain ⟨cq0, cq1, cq2, cq3, cq4, cq5, cq6, cq7⟩ := MomAt.of_heap hMq26.out
        go_upto_region 14 with fail
        clear cq0 cq1 cq2 cq3 cq4 cq5 cq6 cq7
        obtain ⟨cq0, cq1, cq2, cq3, cq4, cq5, cq6, cq7⟩ := MomAt.of_heap hMq26.out
        have ff0 := Lib.frozen_of_heap hMq26.out 0
        obtain ⟨w27, hw⟩ : ∃ w, w = (w26.setCell ⟨q, 0, none⟩ (.int .i64 (m.y + 1))) := ⟨_, rfl⟩
        have hB27 : Hid (Below W.heap.size W w27) := Lib.hid (by rw [hw]; exact hB26.out.trans ((Below.refl _ _).setCell (p := ⟨q, 0, none⟩) hgeq.out _))
        have hL27 := Lib.hid (hL.out.below hB27.out hL.out.size)
        have hMq27 : Hid (MoAt w27 q (m.y + 1) m.mo m.d m.h m.mi m.s m.z m.has) := Lib.hid (by rw [hw]; exact (Lib.heap_setCell_same (i := 0) hMq26.out _))
        have hMp327 : Hid (MoAt w27 p3 (m.y + 1) m.mo m.d m.h m.mi m.s m.z m.has) := Lib.hid (by rw [hw]; exact ((Below.heap_setCell _ _ _ _ hnp3q.out).trans hMp326.out))
        replace hw := Lib.hid hw
        go_upto_region 15 with fail
        rw [← hw.out]
        clear hw ff0
        clear cq0 cq1 cq2 cq3 cq4 cq5 cq6 cq7
        clear hB26 hL26 hMq26 hMp326
        obtain ⟨cq0, cq1, cq2, cq3, cq4, cq5, cq6, cq7⟩ := MomAt.of_heap hMq27.out
        obtain ⟨cp30, cp31, cp32, cp33, cp34, cp35, cp36, cp37⟩ := MomAt.of_heap hMp327.out
        go_wp2_with fail
        refine (works_c w27 hL27.out).mono ?_
        rintro e w ⟨rfl, hb⟩
        go_wp2_with fail
        go_ret
        exact ⟨rfl, hB27.out.trans (hb.mono hB27.out.size)⟩
    · have gm : (m.mo == 2) = false := by simpa using hmo
      have e3 : addMonthsP m.P 12 = (MB.P ⟨(m.y + 1), m.mo, m.d, m.h, m.mi, m.s, m.z, m.has⟩, 0) := by rw [months_year hv hy]; show (({ m.P with y := m.y + 1, d := if m.mo = 2 ∧ m.d = 29 then 28 else m.d } : Mom), (0 : Int)) = _; rw [if_neg (fun h => hmo h.1)]; rfl
      have c3 : Hid (∀ w, LaidT w → Calls Tryz.prog 24 #[.agg #[.int .i64 m.y, .int .i64 m.mo, .int .i64 m.d, .int .i64 m.h, .int .i64 m.mi, .string m.s, .int .i64 m.z, .bool m.has], .int .i64 12] w (fun e w' => e = .returned (.tuple #[.agg #[.int .i64 (m.y + 1), .int .i64 m.mo, .int .i64 m.d, .int .i64 m.h, .int .i64 m.mi, .string m.s, .int .i64 m.z, .bool m.has], .int .i64 0]) ∧ Below w.heap.size w w')) := Lib.hid (fun w hw => Months_c m ⟨(m.y + 1), m.mo, m.d, m.h, m.mi, m.s, m.z, m.has⟩ 12 0 e3 hsm w hw)
      have c4 : Hid (∀ w, LaidT w → Calls Tryz.prog 20 #[.agg #[.int .i64 m.y, .int .i64 m.mo, .int .i64 m.d, .int .i64 m.h, .int .i64 m.mi, .string m.s, .int .i64 m.z, .bool m.has]] w (fun e w' => e = .returned (.tuple #[.string S, .int .i64 0]) ∧ Below w.heap.size w w')) := Lib.hid (fun w hw => Seconds_c m S 0 eS hsm w hw)
      clear e3 eS
      replace hv := Lib.hid hv
      replace hy := Lib.hid hy
      replace hmo := Lib.hid hmo
      obtain ⟨q, hq⟩ : ∃ q, q = W.heap.size := ⟨_, rfl⟩
      obtain ⟨w1, hw⟩ : ∃ w, w = W.alloc (.cells #[.int .i64 m.y, .int .i64 m.mo, .int .i64 m.d, .int .i64 m.h, .int .i64 m.mi, .string m.s, .int .i64 m.z, .bool m.has] 24) := ⟨_, rfl⟩
      have hB1 : Hid (Below W.heap.size W w1) := Lib.hid (by rw [hw]; exact (Below.refl _ _).alloc (Nat.le_refl _) _)
      have hL1 := Lib.hid (hL.below hB1.out hL.size)
      have hMq1 : Hid (MoAt w1 q m.y m.mo m.d m.h m.mi m.s m.z m.has) := Lib.hid (by rw [hw, hq]; exact (MapKept.heap_alloc _ _).1)
      have hgeq : Hid (W.heap.size ≤ q) := Lib.hid (by rw [hq]; exact Nat.le_refl _)
      replace hq := Lib.hid hq
      replace hw := Lib.hid hw
      replace hL := Lib.hid hL
      go_enter Tryz.func6, Tryz.ntmps6
      go_upto_region 1 with fail
      rw [← hw.out, ← hq.out]
      clear hw
      obtain ⟨cq0, cq1, cq2, cq3, cq4, cq5, cq6, cq7⟩ := MomAt.of_heap hMq1.out
      go_wp2_with fail
      refine (c1.out w1 hL1.out).mono ?_
      rintro e w2 ⟨rfl, hb⟩
      have hB2 := Lib.hid (hB1.out.trans (hb.mono hB1.out.size))
      have hL2 := Lib.hid (hL.out.below hB2.out hL.out.size)
      have hMq2 : Hid (MoAt w2 q m.y m.mo m.d m.h m.mi m.s m.z m.has) := Lib.hid ((hb.block q (heap_lt hMq1.out)).trans hMq1.out)
      clear hb hB1 hL1 hMq1
      clear cq0 cq1 cq2 cq3 cq4 cq5 cq6 cq7
      obtain ⟨p1, hp1⟩ : ∃ q, q = w2.heap.size := ⟨_, rfl⟩
      obtain ⟨w3, hw⟩ : ∃ w, w = w2.alloc (.cells #[.int .i64 a.y, .int .i64 a.mo, .int .i64 a.d, .int .i64 a.h, .int .i64 a.mi, .string a.s, .int .i64 a.z, .bool a.has] 24) := ⟨_, rfl⟩
      have hb : Below w2.heap.size w2 w3 := by rw [hw]; exact (Below.refl _ _).alloc (Nat.le_refl _) _
      have hMp13 : Hid (MoAt w3 p1 a.y a.mo a.d a.h a.mi a.s a.z a.has) := Lib.hid (by rw [hw, hp1]; exact (MapKept.heap_alloc _ _).1)
      have hgep1 : Hid (W.heap.size ≤ p1) := Lib.hid (by rw [hp1]; exact hB2.out.size)
      have hnqp1 : Hid (q ≠ p1) := Lib.hid (by rw [hp1]; exact Nat.ne_of_lt (heap_lt hMq2.out))
      have hnp1q : Hid (p1 ≠ q) := Lib.hid (fun e => hnqp1.out e.symm)
      replace hp1 := Lib.hid hp1
      replace hw := Lib.hid hw
      have hB3 := Lib.hid (hB2.out.trans (hb.mono hB2.out.size))
      have hL3 := Lib.hid (hL.out.below hB3.out hL.out.size)
      have hMq3 : Hid (MoAt w3 q m.y m.mo m.d m.h m.mi m.s m.z m.has) := Lib.hid ((hb.block q (heap_lt hMq2.out)).trans hMq2.out)
      clear hb hB2 hL2 hMq2
      go_upto_region 4 with fail
      rw [← hw.out, ← hp1.out]
      clear hw hp1
      go_upto_if 25 with fail
      go_cut [7, 8] from 26 to 68 (fun v7 v8 wx => Hid (MoAt wx q m.y m.mo m.d m.h m.mi m.s m.z m.has) ∧ Hid (Below W.heap.size W wx))
      case first =>
        obtain ⟨cq0, cq1, cq2, cq3, cq4, cq5, cq6, cq7⟩ := MomAt.of_heap hMq3.out
        obtain ⟨cp10, cp11, cp12, cp13, cp14, cp15, cp16, cp17⟩ := MomAt.of_heap hMp13.out
        go_wp2_with fail
        refine (c2.out w3 hL3.out).mono ?_
        rintro e w4 ⟨rfl, hb⟩
        have hB4 := Lib.hid (hB3.out.trans (hb.mono hB3.out.size))
        have hL4 := Lib.hid (hL.out.below hB4.out hL.out.size)
        have hMq4 : Hid (MoAt w4 q m.y m.mo m.d m.h m.mi m.s m.z m.has) := Lib.hid ((hb.block q (heap_lt hMq3.out)).trans hMq3.out)
        have hMp14 : Hid (MoAt w4 p1 a.y a.mo a.d a.h a.mi a.s a.z a.has) := Lib.hid ((hb.block p1 (heap_lt hMp13.out)).trans hMp13.out)
        clear hb hB3 hL3 hMq3 hMp13
        clear cq0 cq1 cq2 cq3 cq4 cq5 cq6 cq7
        clear cp10 cp11 cp12 cp13 cp14 cp15 cp16 cp17
        obtain ⟨p2, hp2⟩ : ∃ q, q = w4.heap.size := ⟨_, rfl⟩
        obtain ⟨w5, hw⟩ : ∃ w, w = w4.alloc (.cells #[.int .i64 b.y, .int .i64 b.mo, .int .i64 b.d, .int .i64 b.h, .int .i64 b.mi, .string b.s, .int .i64 b.z, .bool b.has] 24) := ⟨_, rfl⟩
        have hb : Below w4.heap.size w4 w5 := by rw [hw]; exact (Below.refl _ _).alloc (Nat.le_refl _) _
        have hMp25 : Hid (MoAt w5 p2 b.y b.mo b.d b.h b.mi b.s b.z b.has) := Lib.hid (by rw [hw, hp2]; exact (MapKept.heap_alloc _ _).1)
        have hgep2 : Hid (W.heap.size ≤ p2) := Lib.hid (by rw [hp2]; exact hB4.out.size)
        have hnqp2 : Hid (q ≠ p2) := Lib.hid (by rw [hp2]; exact Nat.ne_of_lt (heap_lt hMq4.out))
        have hnp2q : Hid (p2 ≠ q) := Lib.hid (fun e => hnqp2.out e.symm)
        have hnp1p2 : Hid (p1 ≠ p2) := Lib.hid (by rw [hp2]; exact Nat.ne_of_lt (heap_lt hMp14.out))
        have hnp2p1 : Hid (p2 ≠ p1) := Lib.hid (fun e => hnp1p2.out e.symm)
        replace hp2 := Lib.hid hp2
        replace hw := Lib.hid hw
        have hB5 := Lib.hid (hB4.out.trans (hb.mono hB4.out.size))
        have hL5 := Lib.hid (hL.out.below hB5.out hL.out.size)
        have hMq5 : Hid (MoAt w5 q m.y m.mo m.d m.h m.mi m.s m.z m.has) := Lib.hid ((hb.block q (heap_lt hMq4.out)).trans hMq4.out)
        have hMp15 : Hid (MoAt w5 p1 a.y a.mo a.d a.h a.mi a.s a.z a.has) := Lib.hid ((hb.block p1 (heap_lt hMp14.out)).trans hMp14.out)
        clear hb hB4 hL4 hMq4 hMp14
        go_upto_region 6 with fail
        rw [← hw.out, ← hp2.out]
        clear hw hp2
        obtain ⟨cq0, cq1, cq2, cq3, cq4, cq5, cq6, cq7⟩ := MomAt.of_heap hMq5.out
        obtain ⟨cp10, cp11, cp12, cp13, cp14, cp15, cp16, cp17⟩ := MomAt.of_heap hMp15.out
        obtain ⟨cp20, cp21, cp22, cp23, cp24, cp25, cp26, cp27⟩ := MomAt.of_heap hMp25.out
        go_wp2_with fail
        go_meet
        exact ⟨hMq5, hB5⟩
      obtain ⟨hMq, hB⟩ := hcut
      obtain ⟨w23, hw⟩ : ∃ w, w = wc := ⟨_, rfl⟩
      rw [← hw] at hMq hB ⊢
      clear hw hB3 hL3 hMq3 hMp13
      have hB23 := hB
      have hL23 := Lib.hid (hL.out.below hB.out hL.out.size)
      clear hB
      have hMq23 := hMq
      clear hMq
      obtain ⟨cq0, cq1, cq2, cq3, cq4, cq5, cq6, cq7⟩ := MomAt.of_heap hMq23.out
      go_wp2_with fail
      refine (c3.out w23 hL23.out).mono ?_
      rintro e w24 ⟨rfl, hb⟩
      have hB24 := Lib.hid (hB23.out.trans (hb.mono hB23.out.size))
      have hL24 := Lib.hid (hL.out.below hB24.out hL.out.size)
      have hMq24 : Hid (MoAt w24 q m.y m.mo m.d m.h m.mi m.s m.z m.has) := Lib.hid ((hb.block q (heap_lt hMq23.out)).trans hMq23.out)
      clear hb hB23 hL23 hMq23
      clear cq0 cq1 cq2 cq3 cq4 cq5 cq6 cq7
      obtain ⟨p3, hp3⟩ : ∃ q, q = w24.heap.size := ⟨_, rfl⟩
      obtain ⟨w25, hw⟩ : ∃ w, w = w24.alloc (.cells #[.int .i64 (m.y + 1), .int .i64 m.mo, .int .i64 m.d, .int .i64 m.h, .int .i64 m.mi, .string m.s, .int .i64 m.z, .bool m.has] 24) := ⟨_, rfl⟩
      have hb : Below w24.heap.size w24 w25 := by rw [hw]; exact (Below.refl _ _).alloc (Nat.le_refl _) _
      have hMp325 : Hid (MoAt w25 p3 (m.y + 1) m.mo m.d m.h m.mi m.s m.z m.has) := Lib.hid (by rw [hw, hp3]; exact (MapKept.heap_alloc _ _).1)
      have hgep3 : Hid (W.heap.size ≤ p3) := Lib.hid (by rw [hp3]; exact hB24.out.size)
      have hnqp3 : Hid (q ≠ p3) := Lib.hid (by rw [hp3]; exact Nat.ne_of_lt (heap_lt hMq24.out))
      have hnp3q : Hid (p3 ≠ q) := Lib.hid (fun e => hnqp3.out e.symm)
      replace hp3 := Lib.hid hp3
      replace hw := Lib.hid hw
      have hB25 := Lib.hid (hB24.out.trans (hb.mono hB24.out.size))
      have hL25 := Lib.hid (hL.out.below hB25.out hL.out.size)
      have hMq25 : Hid (MoAt w25 q m.y m.mo m.d m.h m.mi m.s m.z m.has) := Lib.hid ((hb.block q (heap_lt hMq24.out)).trans hMq24.out)
      clear hb hB24 hL24 hMq24
      go_upto_region 11 with fail
      rw [← hw.out, ← hp3.out]
      clear hw hp3
      obtain ⟨cq0, cq1, cq2, cq3, cq4, cq5, cq6, cq7⟩ := MomAt.of_heap hMq25.out
      go_wp2_with fail
      refine (c4.out w25 hL25.out).mono ?_
      rintro e w26 ⟨rfl, hb⟩
      have hB26 := Lib.hid (hB25.out.trans (hb.mono hB25.out.size))
      have hL26 := Lib.hid (hL.out.below hB26.out hL.out.size)
      have hMq26 : Hid (MoAt w26 q m.y m.mo m.d m.h m.mi m.s m.z m.has) := Lib.hid ((hb.block q (heap_lt hMq25.out)).trans hMq25.out)
      have hMp326 : Hid (MoAt w26 p3 (m.y + 1) m.mo m.d m.h m.mi m.s m.z m.has) := Lib.hid ((hb.block p3 (heap_lt hMp325.out)).trans hMp325.out)
      clear hb hB25 hL25 hMq25 hMp325
      clear cq0 cq1 cq2 cq3 cq4 cq5 cq6 cq7
      obtain ⟨cq0, cq1, cq2, cq3, cq4, cq5, cq6, cq7⟩ := MomAt.of_heap hMq26.out
      go_upto_region 14 with fail
      clear cq0 cq1 cq2 cq3 cq4 cq5 cq6 cq7
      obtain ⟨cq0, cq1, cq2, cq3, cq4, cq5, cq6, cq7⟩ := MomAt.of_heap hMq26.out
      have ff0 := Lib.frozen_of_heap hMq26.out 0
      obtain ⟨w27, hw⟩ : ∃ w, w = (w26.setCell ⟨q, 0, none⟩ (.int .i64 (m.y + 1))) := ⟨_, rfl⟩
      have hB27 : Hid (Below W.heap.size W w27) := Lib.hid (by rw [hw]; exact hB26.out.trans ((Below.refl _ _).setCell (p := ⟨q, 0, none⟩) hgeq.out _))
      have hL27 := Lib.hid (hL.out.below hB27.out hL.out.size)
      have hMq27 : Hid (MoAt w27 q (m.y + 1) m.mo m.d m.h m.mi m.s m.z m.has) := Lib.hid (by rw [hw]; exact (Lib.heap_setCell_same (i := 0) hMq26.out _))
      have hMp327 : Hid (MoAt w27 p3 (m.y + 1) m.mo m.d m.h m.mi m.s m.z m.has) := Lib.hid (by rw [hw]; exact ((Below.heap_setCell _ _ _ _ hnp3q.out).trans hMp326.out))
      replace hw := Lib.hid hw
      go_upto_region 15 with fail
      rw [← hw.out]
      clear hw ff0
      clear cq0 cq1 cq2 cq3 cq4 cq5 cq6 cq7
      clear hB26 hL26 hMq26 hMp326
      obtain ⟨cq0, cq1, cq2, cq3, cq4, cq5, cq6, cq7⟩ := MomAt.of_heap hMq27.out
      obtain ⟨cp30, cp31, cp32, cp33, cp34, cp35, cp36, cp37⟩ := MomAt.of_heap hMp327.out
      go_wp2_with fail
      refine (works_c w27 hL27.out).mono ?_
      rintro e w ⟨rfl, hb⟩
      go_wp2_with fail
      go_ret
      exact ⟨rfl, hB27.out.trans (hb.mono hB27.out.size)⟩
set_option maxRecDepth 100000 in
set_option maxHeartbeats 4000000 in
theorem timeMonths_walk (m : MB) (n : Int) (W : World) (hL : LaidT W) : Calls Tryz.prog 6 #[.agg #[.int .i64 m.y, .int .i64 m.mo, .int .i64 m.d, .int .i64 m.h, .int .i64 m.mi, .string m.s, .int .i64 m.z, .bool m.has], .int .i64 n] W (fun e w' => e = .returned (.bool true) ∧ Below W.heap.size W w') := by
  by_cases hs : (m.s.size : Int) > 300
  · obtain ⟨q, hq⟩ : ∃ q, q = W.heap.size := ⟨_, rfl⟩
    obtain ⟨w1, hw⟩ : ∃ w, w = W.alloc (.cells #[.int .i64 m.y, .int .i64 m.mo, .int .i64 m.d, .int .i64 m.h, .int .i64 m.mi, .string m.s, .int .i64 m.z, .bool m.has] 24) := ⟨_, rfl⟩
    have hB1 : Hid (Below W.heap.size W w1) := Lib.hid (by rw [hw]; exact (Below.refl _ _).alloc (Nat.le_refl _) _)
    have hL1 := Lib.hid (hL.below hB1.out hL.size)
    have hMq1 : Hid (MoAt w1 q m.y m.mo m.d m.h m.mi m.s m.z m.has) := Lib.hid (by rw [hw, hq]; exact (MapKept.heap_alloc _ _).1)
    have hgeq : Hid (W.heap.size ≤ q) := Lib.hid (by rw [hq]; exact Nat.le_refl _)
    replace hq := Lib.hid hq
    replace hw := Lib.hid hw
    replace hL := Lib.hid hL
    go_enter Tryz.func6, Tryz.ntmps6
    go_upto_region 1 with fail
    rw [← hw.out, ← hq.out]
    clear hw
    obtain ⟨cq0, cq1, cq2, cq3, cq4, cq5, cq6, cq7⟩ := MomAt.of_heap hMq1.out
    go_wp2_with fail
    refine (works_c w1 hL1.out).mono ?_
    rintro e w ⟨rfl, hb⟩
    go_wp2_with fail
    go_ret
    exact ⟨rfl, hB1.out.trans (hb.mono hB1.out.size)⟩
  · obtain ⟨a, k, ea⟩ := MB.ex (addMonthsP m.P n)
    have hsm : m.s.size ≤ 1000 := by omega
    by_cases hk : k = 0
    · subst hk
      by_cases h28 : m.d ≤ 28
      · exact timeMonths_l m n W hL a h28 ea hsm hs
      · exact timeMonths_g m n W hL a h28 ea hsm hs
    · exact timeMonths_e m n W hL k a hk ea hsm hs
end Go.Proofs.YtgobpoeccdgeiaaGreatDoor
