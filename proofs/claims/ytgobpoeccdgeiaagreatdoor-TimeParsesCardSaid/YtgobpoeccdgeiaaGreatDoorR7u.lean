/- Package chiselref07: parts, Parse. (Printed by genparse7.py u.) -/
import Derived.Test.YtgobpoeccdgeiaaGreatDoorR7t
namespace Go.Proofs.YtgobpoeccdgeiaaGreatDoor
open Go.RowKit NumP DigP DurP TimeP Go.Proofs.YtgobpoeccdgeiaaGreatDoorW.PrintWords
set_option linter.unusedVariables false

set_option maxRecDepth 100000 in
set_option maxHeartbeats 4000000 in
theorem parts7_r (k : Int) (s : ByteArray) (W : World) (hs : s.size ≤ 1000) : Calls Tryz.prog 40 #[.int .i64 k, .string s] W fun e w' => e = .returned (.tuple #[momV (parts7 k s.data.toList).1, .bool (parts7 k s.data.toList).2]) ∧ Below W.heap.size W w' := by
  obtain ⟨W1, hW1⟩ : ∃ w, w = (W.alloc (.cells #[.int .i64 0, .int .i64 0, .int .i64 0, .int .i64 0, .int .i64 0, .string ⟨#[]⟩, .int .i64 0, .bool false] 28)).alloc (.cells #[.int .i64 1972, .int .i64 12, .int .i64 31, .int .i64 0, .int .i64 0, .string ⟨#[48]⟩, .int .i64 0, .bool false] 28) := ⟨_, rfl⟩
  obtain ⟨q, hq⟩ : ∃ q, q = W.heap.size := ⟨_, rfl⟩
  have t0 : Hid (TwoD W q (q + 1) W1 1972 12 31 0 0 ⟨#[48]⟩ 0 false) := Lib.hid (by
    refine ⟨?_, ?_, ?_, by omega, by omega, by omega⟩
    · rw [hW1, hq, (MapKept.heap_alloc _ _).2 _ (by simp)]
      exact (MapKept.heap_alloc _ _).1
    · rw [hW1, hq, show W.heap.size + 1 = (W.alloc (.cells #[.int .i64 0, .int .i64 0, .int .i64 0, .int .i64 0, .int .i64 0, .string ⟨#[]⟩, .int .i64 0, .bool false] 28)).heap.size by simp]
      exact (MapKept.heap_alloc _ _).1
    · rw [hW1]
      exact ((Below.refl _ _).alloc (Nat.le_refl _) _).alloc (by simp) _)
  obtain ⟨R, hR0⟩ : ∃ R, R = parts7 k s.data.toList := ⟨_, rfl⟩
  rw [← hR0]
  by_cases h6 : k = 6
  · have e0 : R = cal7 s.data.toList momS := by rw [hR0]; unfold parts7; rw [if_pos h6]
    obtain ⟨r, ok⟩ := R
    have kC : Hid (∀ w, Calls Tryz.prog 84 #[.string s, .agg #[.int .i64 1972, .int .i64 12, .int .i64 31, .int .i64 0, .int .i64 0, .string ⟨#[48]⟩, .int .i64 0, .bool false]] w fun e w' => e = .returned (.tuple #[.agg #[.int .i64 r.y, .int .i64 r.mo, .int .i64 r.d, .int .i64 r.h, .int .i64 r.mi, .string ⟨r.s.toArray⟩, .int .i64 r.z, .bool r.has], .bool ok]) ∧ Below w.heap.size w w') := Lib.hid (fun w => by
      have := cal7_r s 1972 12 31 0 0 ⟨#[48]⟩ 0 false w hs
      rw [show (⟨1972, 12, 31, 0, 0, (⟨#[48]⟩ : ByteArray).data.toList, 0, false⟩ : Mom) = momS from rfl, ← e0] at this
      exact this
    )
    have hR : Hid (True) := Lib.hid trivial
    clear hR0 e0
    subst h6
    go_enter Tryz.func40, Tryz.ntmps40
    go_upto_region 2 with fail
    rw [← hW1, ← hq]
    clear hW1 hq
    obtain ⟨c0, c1, c2, c3, c4, c5, c6, c7⟩ := t0.out.mom
    go_wp2_with fail
    refine (kC.out _).mono ?_
    rintro e w1 ⟨rfl, hb⟩
    clear c0 c1 c2 c3 c4 c5 c6 c7
    have t1 := Lib.hid (t0.out.later hb)
    clear hb t0
    obtain ⟨c0, c1, c2, c3, c4, c5, c6, c7⟩ := t1.out.mom
    obtain ⟨d0, d1, d2, d3, d4, d5, d6, d7⟩ := t1.out.res
    obtain ⟨f0, f1, f2, f3, f4, f5, f6, f7⟩ := froz8 t1.out.hr
    obtain ⟨W5, hW5, hp5, hb5⟩ := t1.out.put (.int .i64 r.y) (.int .i64 r.mo) (.int .i64 r.d) (.int .i64 r.h) (.int .i64 r.mi) (.string ⟨r.s.toArray⟩) (.int .i64 r.z) (.bool r.has)
    replace hW5 := Lib.hid hW5
    replace hp5 := Lib.hid hp5
    go_wp2_with fail
    rw [← hW5.out]
    clear hW5 d0 d1 d2 d3 d4 d5 d6 d7 f0 f1 f2 f3 f4 f5 f6 f7 c0 c1 c2 c3 c4 c5 c6 c7
    obtain ⟨c0, c1, c2, c3, c4, c5, c6, c7⟩ := MomAt.of_heap hp5.out
    refine bodyPost_ret (v := .tuple #[.agg #[.int .i64 r.y, .int .i64 r.mo, .int .i64 r.d, .int .i64 r.h, .int .i64 r.mi, .string ⟨r.s.toArray⟩, .int .i64 r.z, .bool r.has], .bool ok]) ?ret rfl ?post
    case ret => rw [res_two rfl]; go_simp
    case post => exact ⟨rfl, hb5⟩
  · by_cases h7 : k = 7
    · have e0 : R = clock7 s.data.toList momS := by rw [hR0]; unfold parts7; rw [if_neg h6, if_pos h7]
      obtain ⟨r, ok⟩ := R
      have kC : Hid (∀ w, Calls Tryz.prog 85 #[.string s, .agg #[.int .i64 1972, .int .i64 12, .int .i64 31, .int .i64 0, .int .i64 0, .string ⟨#[48]⟩, .int .i64 0, .bool false]] w fun e w' => e = .returned (.tuple #[.agg #[.int .i64 r.y, .int .i64 r.mo, .int .i64 r.d, .int .i64 r.h, .int .i64 r.mi, .string ⟨r.s.toArray⟩, .int .i64 r.z, .bool r.has], .bool ok]) ∧ Below w.heap.size w w') := Lib.hid (fun w => by
        have := clock7_r s 1972 12 31 0 0 ⟨#[48]⟩ 0 false w hs
        rw [show (⟨1972, 12, 31, 0, 0, (⟨#[48]⟩ : ByteArray).data.toList, 0, false⟩ : Mom) = momS from rfl, ← e0] at this
        exact this
      )
      clear hR0 e0
      subst h7
      clear h6
      go_enter Tryz.func40, Tryz.ntmps40
      go_upto_region 2 with fail
      rw [← hW1, ← hq]
      clear hW1 hq
      obtain ⟨c0, c1, c2, c3, c4, c5, c6, c7⟩ := t0.out.mom
      go_wp2_with fail
      refine (kC.out _).mono ?_
      rintro e w1 ⟨rfl, hb⟩
      clear c0 c1 c2 c3 c4 c5 c6 c7
      have t1 := Lib.hid (t0.out.later hb)
      clear hb t0
      obtain ⟨c0, c1, c2, c3, c4, c5, c6, c7⟩ := t1.out.mom
      obtain ⟨d0, d1, d2, d3, d4, d5, d6, d7⟩ := t1.out.res
      obtain ⟨f0, f1, f2, f3, f4, f5, f6, f7⟩ := froz8 t1.out.hr
      obtain ⟨W5, hW5, hp5, hb5⟩ := t1.out.put (.int .i64 r.y) (.int .i64 r.mo) (.int .i64 r.d) (.int .i64 r.h) (.int .i64 r.mi) (.string ⟨r.s.toArray⟩) (.int .i64 r.z) (.bool r.has)
      replace hW5 := Lib.hid hW5
      replace hp5 := Lib.hid hp5
      go_wp2_with fail
      rw [← hW5.out]
      clear hW5 d0 d1 d2 d3 d4 d5 d6 d7 f0 f1 f2 f3 f4 f5 f6 f7 c0 c1 c2 c3 c4 c5 c6 c7
      obtain ⟨c0, c1, c2, c3, c4, c5, c6, c7⟩ := MomAt.of_heap hp5.out
      refine bodyPost_ret (v := .tuple #[.agg #[.int .i64 r.y, .int .i64 r.mo, .int .i64 r.d, .int .i64 r.h, .int .i64 r.mi, .string ⟨r.s.toArray⟩, .int .i64 r.z, .bool r.has], .bool ok]) ?ret rfl ?post
      case ret => rw [res_two rfl]; go_simp
      case post => exact ⟨rfl, hb5⟩
    · have gk6 : (k == 6) = false := beq_eq_false_iff_ne.2 h6
      have gk7 : (k == 7) = false := beq_eq_false_iff_ne.2 h7
      have e0 : R = if 11 ≤ s.data.toList.length ∧ s.data.toList[10]? = some 84 then (if (cal7 (s.data.toList.take 10) momS).2 = true then clock7 (s.data.toList.drop 11) (cal7 (s.data.toList.take 10) momS).1 else ((cal7 (s.data.toList.take 10) momS).1, false)) else (momS, false) := by
        rw [hR0]; unfold parts7; rw [if_neg h6, if_neg h7]
      rw [list_len] at e0
      clear hR0 h6 h7
      by_cases h11 : s.size < 11
      · have hR : Hid (R = (momS, false)) := Lib.hid (by rw [e0, if_neg (fun h => by omega)])
        have g1 : (s.size : Int) < 11 := by omega
        clear e0
        go_enter Tryz.func40, Tryz.ntmps40
        go_upto_region 2 with fail
        rw [← hW1, ← hq]
        clear hW1 hq
        go_upto_region 7 with fail
        obtain ⟨c0, c1, c2, c3, c4, c5, c6, c7⟩ := t0.out.mom
        obtain ⟨d0, d1, d2, d3, d4, d5, d6, d7⟩ := t0.out.res
        obtain ⟨f0, f1, f2, f3, f4, f5, f6, f7⟩ := froz8 t0.out.hr
        obtain ⟨W5, hW5, hp5, hb5⟩ := t0.out.put (.int .i64 1972) (.int .i64 12) (.int .i64 31) (.int .i64 0) (.int .i64 0) (.string ⟨#[48]⟩) (.int .i64 0) (.bool false)
        replace hW5 := Lib.hid hW5
        replace hp5 := Lib.hid hp5
        go_wp2_with fail
        rw [← hW5.out]
        clear hW5 d0 d1 d2 d3 d4 d5 d6 d7 f0 f1 f2 f3 f4 f5 f6 f7 c0 c1 c2 c3 c4 c5 c6 c7
        obtain ⟨c0, c1, c2, c3, c4, c5, c6, c7⟩ := MomAt.of_heap hp5.out
        refine bodyPost_ret (v := .tuple #[.agg #[.int .i64 1972, .int .i64 12, .int .i64 31, .int .i64 0, .int .i64 0, .string ⟨#[48]⟩, .int .i64 0, .bool false], .bool false]) ?ret rfl ?post
        case ret => rw [res_two rfl]; go_simp
        case post => exact ⟨by rw [hR.out]; rfl, hb5⟩
      have g1 : ¬ (s.size : Int) < 11 := by omega
      have h10 : 10 < s.size := by omega
      have g2 : (10 : Int) < (s.size : Int) := by omega
      have b84 : ((((s[10]'h10).toNat : Int)) == 84) = ((s[10]'h10) == 84) := byte_ne (s[10]'h10) 84 (by decide)
      have n84 : ((((s[10]'h10).toNat : Int)) != 84) = !((s[10]'h10) == 84) := congrArg Bool.not b84
      rw [data_at s 10 h10] at e0
      by_cases h84 : (s[10]'h10) = 84
      · rw [if_pos ⟨by omega, by rw [h84]⟩] at e0
        rw [beq_iff_eq.2 h84] at n84 b84
        replace h84 := Lib.hid h84
        obtain ⟨R1, hR1⟩ : ∃ R1, R1 = cal7 (s.data.toList.take 10) momS := ⟨_, rfl⟩
        rw [← hR1] at e0
        obtain ⟨r1, ok1⟩ := R1
        have gz1 : (10 : Int) ≤ (s.size : Int) := by omega
        have gz2 : (11 : Int) ≤ (s.size : Int) := by omega
        have gz1' : 10 ≤ s.size := by omega
        have gz2' : 11 ≤ s.size := by omega
        have kC : Hid (∀ w, Calls Tryz.prog 84 #[.string (s.extract 0 10), .agg #[.int .i64 1972, .int .i64 12, .int .i64 31, .int .i64 0, .int .i64 0, .string ⟨#[48]⟩, .int .i64 0, .bool false]] w fun e w' => e = .returned (.tuple #[.agg #[.int .i64 r1.y, .int .i64 r1.mo, .int .i64 r1.d, .int .i64 r1.h, .int .i64 r1.mi, .string ⟨r1.s.toArray⟩, .int .i64 r1.z, .bool r1.has], .bool ok1]) ∧ Below w.heap.size w w') := Lib.hid (fun w => by
          have := cal7_r (s.extract 0 10) 1972 12 31 0 0 ⟨#[48]⟩ 0 false w (by rw [← list_len, ext_take, List.length_take, list_len]; omega)
          rw [ext_take, show (⟨1972, 12, 31, 0, 0, (⟨#[48]⟩ : ByteArray).data.toList, 0, false⟩ : Mom) = momS from rfl, ← hR1] at this
          exact this
        )
        clear hR1
        have hS : Hid (∃ w2, True) := Lib.hid ⟨W, trivial⟩
        clear hS
        cases ok1 with
        | false =>
          have hR : Hid (R = (r1, false)) := Lib.hid (by rw [e0]; rfl)
          clear e0
          go_enter Tryz.func40, Tryz.ntmps40
          go_upto_region 2 with fail
          rw [← hW1, ← hq]
          clear hW1 hq
          obtain ⟨c0, c1, c2, c3, c4, c5, c6, c7⟩ := t0.out.mom
          go_upto_region 8 with fail
          go_cut [7] from 32 to 38 (fun v wx => v = .bool false ∧ Hid (TwoD W q (q + 1) wx r1.y r1.mo r1.d r1.h r1.mi ⟨r1.s.toArray⟩ r1.z r1.has))
          case first =>
            go_region_with (first
              | (go_at_call 84; refine (kC.out _).mono ?_; rintro e w2 ⟨rfl, hbb⟩; have hT2 := (t0.out.later (Below.refl _ _).drew).later hbb; clear hbb; obtain ⟨d0, d1, d2, d3, d4, d5, d6, d7⟩ := hT2.mom; obtain ⟨f0, f1, f2, f3, f4, f5, f6, f7⟩ := froz8 hT2.hm
                 obtain ⟨W5, hW5, t5⟩ := hT2.putm r1.y r1.mo r1.d r1.h r1.mi ⟨r1.s.toArray⟩ r1.z r1.has
                 replace hW5 := Lib.hid hW5; replace t5 := Lib.hid t5))
            all_goals (go_wp2_with fail; rw [← hW5.out]; go_meet; exact ⟨rfl, t5⟩)
          obtain ⟨rfl, t1⟩ := hcut
          clear c0 c1 c2 c3 c4 c5 c6 c7 t0
          obtain ⟨w1, hw1⟩ : ∃ w, w = wc := ⟨_, rfl⟩
          rw [← hw1] at t1 ⊢
          clear hw1
          go_upto_region 10 with fail
          obtain ⟨c0, c1, c2, c3, c4, c5, c6, c7⟩ := t1.out.mom
          obtain ⟨d0, d1, d2, d3, d4, d5, d6, d7⟩ := t1.out.res
          obtain ⟨f0, f1, f2, f3, f4, f5, f6, f7⟩ := froz8 t1.out.hr
          obtain ⟨W5, hW5, hp5, hb5⟩ := t1.out.put (.int .i64 r1.y) (.int .i64 r1.mo) (.int .i64 r1.d) (.int .i64 r1.h) (.int .i64 r1.mi) (.string ⟨r1.s.toArray⟩) (.int .i64 r1.z) (.bool r1.has)
          replace hW5 := Lib.hid hW5
          replace hp5 := Lib.hid hp5
          go_wp2_with fail
          rw [← hW5.out]
          clear hW5 d0 d1 d2 d3 d4 d5 d6 d7 f0 f1 f2 f3 f4 f5 f6 f7 c0 c1 c2 c3 c4 c5 c6 c7
          obtain ⟨c0, c1, c2, c3, c4, c5, c6, c7⟩ := MomAt.of_heap hp5.out
          refine bodyPost_ret (v := .tuple #[.agg #[.int .i64 r1.y, .int .i64 r1.mo, .int .i64 r1.d, .int .i64 r1.h, .int .i64 r1.mi, .string ⟨r1.s.toArray⟩, .int .i64 r1.z, .bool r1.has], .bool false]) ?ret rfl ?post
          case ret => rw [res_two rfl]; go_simp
          case post => exact ⟨by rw [hR.out]; rfl, hb5⟩
        | true =>
          have e1 : R = clock7 (s.data.toList.drop 11) r1 := by rw [e0]; rfl
          clear e0
          obtain ⟨r, ok⟩ := R
          have kK : Hid (∀ w, Calls Tryz.prog 85 #[.string (s.extract 11 s.size), .agg #[.int .i64 r1.y, .int .i64 r1.mo, .int .i64 r1.d, .int .i64 r1.h, .int .i64 r1.mi, .string ⟨r1.s.toArray⟩, .int .i64 r1.z, .bool r1.has]] w fun e w' => e = .returned (.tuple #[.agg #[.int .i64 r.y, .int .i64 r.mo, .int .i64 r.d, .int .i64 r.h, .int .i64 r.mi, .string ⟨r.s.toArray⟩, .int .i64 r.z, .bool r.has], .bool ok]) ∧ Below w.heap.size w w') := Lib.hid (fun w => by
            have := clock7_r (s.extract 11 s.size) r1.y r1.mo r1.d r1.h r1.mi ⟨r1.s.toArray⟩ r1.z r1.has w (by rw [← list_len, ext_drop, List.length_drop, list_len]; omega)
            rw [ext_drop, show (⟨r1.y, r1.mo, r1.d, r1.h, r1.mi, (⟨r1.s.toArray⟩ : ByteArray).data.toList, r1.z, r1.has⟩ : Mom) = r1 from rfl, ← e1] at this
            exact this
          )
          clear e1
          go_enter Tryz.func40, Tryz.ntmps40
          go_upto_region 2 with fail
          rw [← hW1, ← hq]
          clear hW1 hq
          obtain ⟨c0, c1, c2, c3, c4, c5, c6, c7⟩ := t0.out.mom
          go_upto_region 8 with fail
          go_cut [7] from 32 to 38 (fun v wx => v = .bool true ∧ Hid (TwoD W q (q + 1) wx r1.y r1.mo r1.d r1.h r1.mi ⟨r1.s.toArray⟩ r1.z r1.has))
          case first =>
            go_region_with (first
              | (go_at_call 84; refine (kC.out _).mono ?_; rintro e w2 ⟨rfl, hbb⟩; have hT2 := (t0.out.later (Below.refl _ _).drew).later hbb; clear hbb; obtain ⟨d0, d1, d2, d3, d4, d5, d6, d7⟩ := hT2.mom; obtain ⟨f0, f1, f2, f3, f4, f5, f6, f7⟩ := froz8 hT2.hm
                 obtain ⟨W5, hW5, t5⟩ := hT2.putm r1.y r1.mo r1.d r1.h r1.mi ⟨r1.s.toArray⟩ r1.z r1.has
                 replace hW5 := Lib.hid hW5; replace t5 := Lib.hid t5))
            all_goals (go_wp2_with fail; rw [← hW5.out]; go_meet; exact ⟨rfl, t5⟩)
          obtain ⟨rfl, t1⟩ := hcut
          clear c0 c1 c2 c3 c4 c5 c6 c7 t0
          obtain ⟨w1, hw1⟩ : ∃ w, w = wc := ⟨_, rfl⟩
          rw [← hw1] at t1 ⊢
          clear hw1
          obtain ⟨c0, c1, c2, c3, c4, c5, c6, c7⟩ := t1.out.mom
          go_upto_region 11 with fail
          go_cut [5] from 42 to 47 (fun v wx => v = .bool ok ∧ Hid (wx.heap[q]? = some (.cells #[.int .i64 r.y, .int .i64 r.mo, .int .i64 r.d, .int .i64 r.h, .int .i64 r.mi, .string ⟨r.s.toArray⟩, .int .i64 r.z, .bool r.has] 28 (0, 0)) ∧ Below W.heap.size W wx))
          case first =>
            go_region_with (first
              | (go_at_call 85; refine (kK.out _).mono ?_; rintro e w2 ⟨rfl, hbb⟩; have hT2 := (t1.out.later (Below.refl _ _).drew).later hbb; clear hbb; obtain ⟨d0, d1, d2, d3, d4, d5, d6, d7⟩ := hT2.res; obtain ⟨f0, f1, f2, f3, f4, f5, f6, f7⟩ := froz8 hT2.hr
                 obtain ⟨W5, hW5, hp5, hb5⟩ := hT2.put (.int .i64 r.y) (.int .i64 r.mo) (.int .i64 r.d) (.int .i64 r.h) (.int .i64 r.mi) (.string ⟨r.s.toArray⟩) (.int .i64 r.z) (.bool r.has)
                 replace hW5 := Lib.hid hW5; replace hp5 := Lib.hid hp5))
            all_goals (go_wp2_with fail; rw [← hW5.out]; go_meet; exact ⟨rfl, Lib.hid ⟨hp5.out, hb5⟩⟩)
          obtain ⟨rfl, hres⟩ := hcut
          clear c0 c1 c2 c3 c4 c5 c6 c7
          obtain ⟨c0, c1, c2, c3, c4, c5, c6, c7⟩ := MomAt.of_heap hres.out.1
          go_wp2_with fail
          refine bodyPost_ret (v := .tuple #[.agg #[.int .i64 r.y, .int .i64 r.mo, .int .i64 r.d, .int .i64 r.h, .int .i64 r.mi, .string ⟨r.s.toArray⟩, .int .i64 r.z, .bool r.has], .bool ok]) ?ret rfl ?post
          case ret => rw [res_two rfl]; go_simp
          case post => exact ⟨rfl, hres.out.2⟩
      · have hR : Hid (R = (momS, false)) := Lib.hid (by rw [e0, if_neg (fun h => h84 (Option.some.inj h.2))])
        rw [beq_eq_false_iff_ne.2 h84] at n84 b84
        replace h84 := Lib.hid h84
        clear e0
        go_enter Tryz.func40, Tryz.ntmps40
        go_upto_region 2 with fail
        rw [← hW1, ← hq]
        clear hW1 hq
        go_upto_region 7 with fail
        obtain ⟨c0, c1, c2, c3, c4, c5, c6, c7⟩ := t0.out.mom
        obtain ⟨d0, d1, d2, d3, d4, d5, d6, d7⟩ := t0.out.res
        obtain ⟨f0, f1, f2, f3, f4, f5, f6, f7⟩ := froz8 t0.out.hr
        obtain ⟨W5, hW5, hp5, hb5⟩ := t0.out.put (.int .i64 1972) (.int .i64 12) (.int .i64 31) (.int .i64 0) (.int .i64 0) (.string ⟨#[48]⟩) (.int .i64 0) (.bool false)
        replace hW5 := Lib.hid hW5
        replace hp5 := Lib.hid hp5
        go_wp2_with fail
        rw [← hW5.out]
        clear hW5 d0 d1 d2 d3 d4 d5 d6 d7 f0 f1 f2 f3 f4 f5 f6 f7 c0 c1 c2 c3 c4 c5 c6 c7
        obtain ⟨c0, c1, c2, c3, c4, c5, c6, c7⟩ := MomAt.of_heap hp5.out
        refine bodyPost_ret (v := .tuple #[.agg #[.int .i64 1972, .int .i64 12, .int .i64 31, .int .i64 0, .int .i64 0, .string ⟨#[48]⟩, .int .i64 0, .bool false], .bool false]) ?ret rfl ?post
        case ret => rw [res_two rfl]; go_simp
        case post => exact ⟨by rw [hR.out]; rfl, hb5⟩
theorem parts_short (k : Int) (l : List UInt8) : (parts7 k l).1.s.length ≤ 60 := by
  have h1 : ∀ (s : List UInt8) (m : Mom), m.s.length ≤ 60 → (cal7 s m).1.s.length ≤ 60 := fun s m h => by
    unfold cal7
    split
    · exact h
    · exact h
  have h2 : ∀ (s : List UInt8) (m : Mom), m.s.length ≤ 60 → (clock7 s m).1.s.length ≤ 60 := fun s m h => by
    unfold clock7
    split
    · exact parseT_len _
    · exact h
  have h0 : momS.s.length ≤ 60 := by decide
  unfold parts7
  split
  · exact h1 _ _ h0
  · split
    · exact h2 _ _ h0
    · split
      · split
        · exact h2 _ _ (h1 _ _ h0)
        · exact h1 _ _ h0
      · exact h0
set_option maxRecDepth 100000 in
set_option maxHeartbeats 8000000 in
theorem Parse7_r (k : Int) (s : ByteArray) (W : World) (hs : s.size ≤ 1000) : Calls Tryz.prog 16 #[.int .i64 k, .string s] W fun e w' => e = .returned (momE (parse7 k s.data.toList)) ∧ Below W.heap.size W w' := by
  obtain ⟨W1, hW1⟩ : ∃ w, w = W.alloc (.cells #[.int .i64 0, .int .i64 0, .int .i64 0, .int .i64 0, .int .i64 0, .string ⟨#[]⟩, .int .i64 0, .bool false] 28) := ⟨_, rfl⟩
  obtain ⟨q, hq⟩ : ∃ q, q = W.heap.size := ⟨_, rfl⟩
  have hx1 : Hid (W1.heap[q]? = some (.cells #[.int .i64 0, .int .i64 0, .int .i64 0, .int .i64 0, .int .i64 0, .string ⟨#[]⟩, .int .i64 0, .bool false] 28 (0, 0))) := Lib.hid (by rw [hW1, hq]; exact (MapKept.heap_alloc _ _).1)
  have hb1 : Hid (Below W.heap.size W W1) := Lib.hid (by rw [hW1]; exact (Below.refl _ _).alloc (Nat.le_refl _) _)
  have hq' := Lib.hid hq
  obtain ⟨Q, hQ0⟩ : ∃ Q, Q = parse7 k s.data.toList := ⟨_, rfl⟩
  rw [← hQ0]
  have kK := Lib.hid (fun w => kinds_r k w)
  cases hk : TimeP.kindOk k with
  | false =>
    rw [hk] at kK
    have hR : Hid (Q = (mom0, 1)) := Lib.hid (by rw [hQ0]; unfold parse7; rw [if_pos hk])
    obtain ⟨d0, d1, d2, d3, d4, d5, d6, d7⟩ := MomAt.of_heap hx1.out
    obtain ⟨f0, f1, f2, f3, f4, f5, f6, f7⟩ := froz8 hx1.out
    obtain ⟨W5, hW5, hp5, hb5⟩ := put8 hx1.out (.int .i64 0) (.int .i64 0) (.int .i64 0) (.int .i64 0) (.int .i64 0) (.string ⟨#[]⟩) (.int .i64 0) (.bool false) (B := W.heap.size) (by omega)
    replace hW5 := Lib.hid hW5
    replace hp5 := Lib.hid hp5
    clear hQ0 hk
    go_enter Tryz.func16, Tryz.ntmps16
    go_upto_region 1 with fail
    rw [← hW1, ← hq]
    clear hW1 hq
    go_wp2_with fail
    refine (kK.out _).mono ?_
    rintro e wp ⟨rfl, rfl⟩
    go_wp2_with fail
    rw [← hW5.out]
    clear hW5 d0 d1 d2 d3 d4 d5 d6 d7 f0 f1 f2 f3 f4 f5 f6 f7
    obtain ⟨c0, c1, c2, c3, c4, c5, c6, c7⟩ := MomAt.of_heap hp5.out
    refine bodyPost_ret (v := .tuple #[.agg #[.int .i64 0, .int .i64 0, .int .i64 0, .int .i64 0, .int .i64 0, .string ⟨#[]⟩, .int .i64 0, .bool false], .int .i64 1]) ?ret rfl ?post
    case ret => rw [res_two rfl]; go_simp
    case post => exact ⟨by rw [hR.out]; rfl, hb1.out.trans hb5⟩
  | true =>
    rw [hk] at kK
    have hQ1 : Q = if (parts7 k (zone7 s.data.toList).1).2 = false then (mom0, 5) else tail7 k { (parts7 k (zone7 s.data.toList).1).1 with z := (zone7 s.data.toList).2.1, has := (zone7 s.data.toList).2.2.1 } (zone7 s.data.toList).2.2.2 := by
      rw [hQ0]; unfold parse7; rw [if_neg (by rw [hk]; decide)]
    have hzl : (zone7 s.data.toList).1.length ≤ 1000 := by
      obtain ⟨r, i, e, -⟩ := zone7_some s.data.toList
      have := congrArg List.length e
      rw [List.length_append, list_len] at this
      omega
    have hz := fun w => zone7_r s w hs
    obtain ⟨Zt, hZt⟩ : ∃ Z, Z = zone7 s.data.toList := ⟨_, rfl⟩
    rw [← hZt] at hQ1 hz hzl
    obtain ⟨l, z, has, inr⟩ := Zt
    obtain ⟨LB, hLB⟩ : ∃ X : ByteArray, X = ⟨l.toArray⟩ := ⟨_, rfl⟩
    have hl : LB.data.toList = l := by rw [hLB]
    have kZ : Hid (∀ w, Calls Tryz.prog 39 #[.string s] w fun e w' => e = .returned (.tuple #[.string LB, .int .i64 z, .bool has, .bool inr]) ∧ ∃ m, w' = w.drewN m) := Lib.hid (fun w => by rw [hLB]; exact hz w)
    have hpr := fun w => parts7_r k LB w (by rw [← list_len, hl]; exact hzl)
    have hps := parts_short k l
    rw [hl] at hpr
    have hQ2 : Q = if (parts7 k l).2 = false then (mom0, 5) else tail7 k { (parts7 k l).1 with z := z, has := has } inr := hQ1
    obtain ⟨P, hP⟩ : ∃ P, P = parts7 k l := ⟨_, rfl⟩
    rw [← hP] at hpr hps hQ2
    obtain ⟨⟨ry, rmo, rd, rh, rmi, rs, rz, rhas⟩, ok⟩ := P
    obtain ⟨SB, hSB⟩ : ∃ X : ByteArray, rs = X.data.toList := ⟨⟨rs.toArray⟩, rfl⟩
    subst hSB
    have kP : Hid (∀ w, Calls Tryz.prog 40 #[.int .i64 k, .string LB] w fun e w' => e = .returned (.tuple #[.agg #[.int .i64 ry, .int .i64 rmo, .int .i64 rd, .int .i64 rh, .int .i64 rmi, .string SB, .int .i64 rz, .bool rhas], .bool ok]) ∧ Below w.heap.size w w') := Lib.hid hpr
    have hsb : SB.size ≤ 60 := by
      have h : SB.data.toList.length ≤ 60 := hps
      rw [list_len] at h
      exact h
    clear hQ0 hQ1 hZt hz hzl hLB hl hpr hps hP
    cases ok with
    | false =>
      have hR : Hid (Q = (mom0, 5)) := Lib.hid hQ2
      clear hQ2 hk
      go_enter Tryz.func16, Tryz.ntmps16
      go_upto_region 1 with fail
      rw [← hW1, ← hq]
      clear hW1 hq
      go_wp2_with fail
      refine (kK.out _).mono ?_
      rintro e wp ⟨rfl, rfl⟩
      go_wp2_with fail
      refine (kZ.out _).mono ?_
      rintro e w2 ⟨rfl, hd⟩
      have hb2 := Lib.hid ((hb1.out).trans ((drew_below hd).mono hb1.out.size))
      have hx2 : Hid (w2.heap[q]? = some (.cells #[.int .i64 0, .int .i64 0, .int .i64 0, .int .i64 0, .int .i64 0, .string ⟨#[]⟩, .int .i64 0, .bool false] 28 (0, 0))) := Lib.hid (((drew_below hd).block q (heap_lt hx1.out)).trans hx1.out)
      clear hd hb1 hx1
      go_wp2_with fail
      refine (kP.out _).mono ?_
      rintro e w3 ⟨rfl, hb⟩
      have hb3 := Lib.hid (hb2.out.trans (hb.mono hb2.out.size))
      have hx3 : Hid (w3.heap[q]? = some (.cells #[.int .i64 0, .int .i64 0, .int .i64 0, .int .i64 0, .int .i64 0, .string ⟨#[]⟩, .int .i64 0, .bool false] 28 (0, 0))) := Lib.hid ((hb.block q (heap_lt hx2.out)).trans hx2.out)
      clear hb hb2 hx2
      obtain ⟨w4, hw⟩ : ∃ w, w = w3.alloc (.cells #[.int .i64 ry, .int .i64 rmo, .int .i64 rd, .int .i64 rh, .int .i64 rmi, .string SB, .int .i64 rz, .bool rhas] 28) := ⟨_, rfl⟩
      obtain ⟨p, hp⟩ : ∃ p, p = w3.heap.size := ⟨_, rfl⟩
      have t4 : Hid (TwoD W q p w4 ry rmo rd rh rmi SB rz rhas) := Lib.hid (by
        have hlt := heap_lt hx3.out
        refine ⟨?_, ?_, ?_, by rw [hq'.out]; exact Nat.le_refl _, ?_, ?_⟩
        · rw [hw, (MapKept.heap_alloc _ _).2 _ hlt]; exact hx3.out
        · rw [hw, hp]; exact (MapKept.heap_alloc _ _).1
        · rw [hw]; exact hb3.out.alloc hb3.out.size _
        · rw [hp]; exact hb3.out.size
        · rw [hp]; exact Nat.ne_of_lt hlt)
      go_upto_region 6 with fail
      rw [← hw, ← hp]
      clear hw hb3 hx3
      replace hp := Lib.hid hp
      obtain ⟨c0, c1, c2, c3, c4, c5, c6, c7⟩ := t4.out.mom
      obtain ⟨d0, d1, d2, d3, d4, d5, d6, d7⟩ := t4.out.res
      obtain ⟨f0, f1, f2, f3, f4, f5, f6, f7⟩ := froz8 t4.out.hr
      obtain ⟨W5, hW5, hp5, hb5⟩ := t4.out.put (.int .i64 0) (.int .i64 0) (.int .i64 0) (.int .i64 0) (.int .i64 0) (.string ⟨#[]⟩) (.int .i64 0) (.bool false)
      replace hW5 := Lib.hid hW5
      replace hp5 := Lib.hid hp5
      go_wp2_with fail
      rw [← hW5.out]
      clear hW5 d0 d1 d2 d3 d4 d5 d6 d7 f0 f1 f2 f3 f4 f5 f6 f7 c0 c1 c2 c3 c4 c5 c6 c7
      obtain ⟨c0, c1, c2, c3, c4, c5, c6, c7⟩ := MomAt.of_heap hp5.out
      refine bodyPost_ret (v := .tuple #[.agg #[.int .i64 0, .int .i64 0, .int .i64 0, .int .i64 0, .int .i64 0, .string ⟨#[]⟩, .int .i64 0, .bool false], .int .i64 5]) ?ret rfl ?post
      case ret => rw [res_two rfl]; go_simp
      case post => exact ⟨by rw [hR.out]; rfl, hb5⟩
    | true =>
      have hQ3 : Q = tail7 k ⟨ry, rmo, rd, rh, rmi, SB.data.toList, z, has⟩ inr := hQ2
      clear hQ2 hk
      unfold tail7 at hQ3
      simp only at hQ3
      by_cases hE : rh = 24 ∧ rmi = 0 ∧ SB.data.toList = [48]
      · rw [if_pos hE] at hQ3
        have hQ4 : Q = if inr = false ∨ validP ⟨ry, rmo, rd, 0, rmi, SB.data.toList, z, has⟩ = false then (mom0, 6) else (if validP (if k = 8 then tomorrow7 ⟨ry, rmo, rd, 0, rmi, SB.data.toList, z, has⟩ else ⟨ry, rmo, rd, 0, rmi, SB.data.toList, z, has⟩) = false then (mom0, 6) else (if k = 8 then tomorrow7 ⟨ry, rmo, rd, 0, rmi, SB.data.toList, z, has⟩ else ⟨ry, rmo, rd, 0, rmi, SB.data.toList, z, has⟩, 0)) := by
          rw [hQ3]
          by_cases k8 : k = 8
          · simp only [k8, hE, and_self, if_true]
          · simp only [k8, hE, and_false, if_false]
        clear hQ3
        have g24 : (rh == 24) = true := beq_iff_eq.2 hE.1
        have g0 : (rmi == 0) = true := beq_iff_eq.2 hE.2.1
        have g48 : (SB.toList == [48]) = true := by rw [ByteArray.toList_eq, hE.2.2]; rfl
        replace hE := Lib.hid hE
        cases inr with
        | false =>
          have hR : Hid (Q = (mom0, 6)) := Lib.hid (by rw [hQ4, if_pos (Or.inl rfl)])
          clear hQ4
          go_enter Tryz.func16, Tryz.ntmps16
          go_upto_region 1 with fail
          rw [← hW1, ← hq]
          clear hW1 hq
          go_wp2_with fail
          refine (kK.out _).mono ?_
          rintro e wp ⟨rfl, rfl⟩
          go_wp2_with fail
          refine (kZ.out _).mono ?_
          rintro e w2 ⟨rfl, hd⟩
          have hb2 := Lib.hid ((hb1.out).trans ((drew_below hd).mono hb1.out.size))
          have hx2 : Hid (w2.heap[q]? = some (.cells #[.int .i64 0, .int .i64 0, .int .i64 0, .int .i64 0, .int .i64 0, .string ⟨#[]⟩, .int .i64 0, .bool false] 28 (0, 0))) := Lib.hid (((drew_below hd).block q (heap_lt hx1.out)).trans hx1.out)
          clear hd hb1 hx1
          go_wp2_with fail
          refine (kP.out _).mono ?_
          rintro e w3 ⟨rfl, hb⟩
          have hb3 := Lib.hid (hb2.out.trans (hb.mono hb2.out.size))
          have hx3 : Hid (w3.heap[q]? = some (.cells #[.int .i64 0, .int .i64 0, .int .i64 0, .int .i64 0, .int .i64 0, .string ⟨#[]⟩, .int .i64 0, .bool false] 28 (0, 0))) := Lib.hid ((hb.block q (heap_lt hx2.out)).trans hx2.out)
          clear hb hb2 hx2
          obtain ⟨w4, hw⟩ : ∃ w, w = w3.alloc (.cells #[.int .i64 ry, .int .i64 rmo, .int .i64 rd, .int .i64 rh, .int .i64 rmi, .string SB, .int .i64 rz, .bool rhas] 28) := ⟨_, rfl⟩
          obtain ⟨p, hp⟩ : ∃ p, p = w3.heap.size := ⟨_, rfl⟩
          have t4 : Hid (TwoD W q p w4 ry rmo rd rh rmi SB rz rhas) := Lib.hid (by
            have hlt := heap_lt hx3.out
            refine ⟨?_, ?_, ?_, by rw [hq'.out]; exact Nat.le_refl _, ?_, ?_⟩
            · rw [hw, (MapKept.heap_alloc _ _).2 _ hlt]; exact hx3.out
            · rw [hw, hp]; exact (MapKept.heap_alloc _ _).1
            · rw [hw]; exact hb3.out.alloc hb3.out.size _
            · rw [hp]; exact hb3.out.size
            · rw [hp]; exact Nat.ne_of_lt hlt)
          go_upto_region 7 with fail
          rw [← hw, ← hp]
          clear hw hb3 hx3
          replace hp := Lib.hid hp
          obtain ⟨c0, c1, c2, c3, c4, c5, c6, c7⟩ := t4.out.mom
          have ff6 := Lib.frozen_of_heap t4.out.hm 6
          have ff7 := Lib.frozen_of_heap t4.out.hm 7
          obtain ⟨w5, hw⟩ : ∃ w, w = ((w4.setCell ⟨p, 6, none⟩ (.int .i64 z)).setCell ⟨p, 7, none⟩ (.bool has)) := ⟨_, rfl⟩
          have t5 : Hid (TwoD W q p w5 ry rmo rd rh rmi SB z has) := Lib.hid (by rw [hw]; exact (TwoD.set (W := W) (r := q) (m := p) (y2 := ry) (mo2 := rmo) (d2 := rd) (h2 := rh) (mi2 := rmi) (s2 := SB) (z2 := z) (has2 := has) (TwoD.set (W := W) (r := q) (m := p) (y2 := ry) (mo2 := rmo) (d2 := rd) (h2 := rh) (mi2 := rmi) (s2 := SB) (z2 := z) (has2 := rhas) t4.out 6 (.int .i64 z) rfl) 7 (.bool has) rfl))
          go_upto_region 9 with fail
          rw [← hw]
          clear hw c0 c1 c2 c3 c4 c5 c6 c7 t4 ff6 ff7
          obtain ⟨c0, c1, c2, c3, c4, c5, c6, c7⟩ := t5.out.mom
          go_cut [12] from 37 to 49 (fun v wx => v = .bool true ∧ wx = w5)
          case first =>
            go_wp2_with fail
            go_meet
            exact ⟨rfl, rfl⟩
          case rest =>
          obtain ⟨rfl, hcw⟩ := hcut
          replace hcw := hcw.symm
          subst hcw
          clear c0 c1 c2 c3 c4 c5 c6 c7
          obtain ⟨c0, c1, c2, c3, c4, c5, c6, c7⟩ := t5.out.mom
          have ff3 := Lib.frozen_of_heap t5.out.hm 3
          obtain ⟨w6, hw⟩ : ∃ w, w = (w5.setCell ⟨p, 3, none⟩ (.int .i64 0)) := ⟨_, rfl⟩
          have t6 : Hid (TwoD W q p w6 ry rmo rd 0 rmi SB z has) := Lib.hid (by rw [hw]; exact (TwoD.set (W := W) (r := q) (m := p) (y2 := ry) (mo2 := rmo) (d2 := rd) (h2 := 0) (mi2 := rmi) (s2 := SB) (z2 := z) (has2 := has) t5.out 3 (.int .i64 0) rfl))
          go_upto_region 12 with fail
          rw [← hw]
          clear hw c0 c1 c2 c3 c4 c5 c6 c7 t5 ff3
          go_upto_region 13 with fail
          obtain ⟨c0, c1, c2, c3, c4, c5, c6, c7⟩ := t6.out.mom
          obtain ⟨d0, d1, d2, d3, d4, d5, d6, d7⟩ := t6.out.res
          obtain ⟨f0, f1, f2, f3, f4, f5, f6, f7⟩ := froz8 t6.out.hr
          obtain ⟨W5, hW5, hp5, hb5⟩ := t6.out.put (.int .i64 0) (.int .i64 0) (.int .i64 0) (.int .i64 0) (.int .i64 0) (.string ⟨#[]⟩) (.int .i64 0) (.bool false)
          replace hW5 := Lib.hid hW5
          replace hp5 := Lib.hid hp5
          go_wp2_with fail
          rw [← hW5.out]
          clear hW5 d0 d1 d2 d3 d4 d5 d6 d7 f0 f1 f2 f3 f4 f5 f6 f7 c0 c1 c2 c3 c4 c5 c6 c7
          obtain ⟨c0, c1, c2, c3, c4, c5, c6, c7⟩ := MomAt.of_heap hp5.out
          refine bodyPost_ret (v := .tuple #[.agg #[.int .i64 0, .int .i64 0, .int .i64 0, .int .i64 0, .int .i64 0, .string ⟨#[]⟩, .int .i64 0, .bool false], .int .i64 6]) ?ret rfl ?post
          case ret => rw [res_two rfl]; go_simp
          case post => exact ⟨by rw [hR.out]; rfl, hb5⟩
        | true =>
          have kV := Lib.hid (fun w => Valid7_r ry rmo rd 0 rmi SB z has w (Nat.le_trans hsb (by decide)))
          obtain ⟨v, hv⟩ : ∃ v, v = validP ⟨ry, rmo, rd, 0, rmi, SB.data.toList, z, has⟩ := ⟨_, rfl⟩
          rw [← hv] at kV hQ4
          cases v with
          | false =>
            have hR : Hid (Q = (mom0, 6)) := Lib.hid (by rw [hQ4, if_pos (Or.inr rfl)])
            clear hQ4 hv
            go_enter Tryz.func16, Tryz.ntmps16
            go_upto_region 1 with fail
            rw [← hW1, ← hq]
            clear hW1 hq
            go_wp2_with fail
            refine (kK.out _).mono ?_
            rintro e wp ⟨rfl, rfl⟩
            go_wp2_with fail
            refine (kZ.out _).mono ?_
            rintro e w2 ⟨rfl, hd⟩
            have hb2 := Lib.hid ((hb1.out).trans ((drew_below hd).mono hb1.out.size))
            have hx2 : Hid (w2.heap[q]? = some (.cells #[.int .i64 0, .int .i64 0, .int .i64 0, .int .i64 0, .int .i64 0, .string ⟨#[]⟩, .int .i64 0, .bool false] 28 (0, 0))) := Lib.hid (((drew_below hd).block q (heap_lt hx1.out)).trans hx1.out)
            clear hd hb1 hx1
            go_wp2_with fail
            refine (kP.out _).mono ?_
            rintro e w3 ⟨rfl, hb⟩
            have hb3 := Lib.hid (hb2.out.trans (hb.mono hb2.out.size))
            have hx3 : Hid (w3.heap[q]? = some (.cells #[.int .i64 0, .int .i64 0, .int .i64 0, .int .i64 0, .int .i64 0, .string ⟨#[]⟩, .int .i64 0, .bool false] 28 (0, 0))) := Lib.hid ((hb.block q (heap_lt hx2.out)).trans hx2.out)
            clear hb hb2 hx2
            obtain ⟨w4, hw⟩ : ∃ w, w = w3.alloc (.cells #[.int .i64 ry, .int .i64 rmo, .int .i64 rd, .int .i64 rh, .int .i64 rmi, .string SB, .int .i64 rz, .bool rhas] 28) := ⟨_, rfl⟩
            obtain ⟨p, hp⟩ : ∃ p, p = w3.heap.size := ⟨_, rfl⟩
            have t4 : Hid (TwoD W q p w4 ry rmo rd rh rmi SB rz rhas) := Lib.hid (by
              have hlt := heap_lt hx3.out
              refine ⟨?_, ?_, ?_, by rw [hq'.out]; exact Nat.le_refl _, ?_, ?_⟩
              · rw [hw, (MapKept.heap_alloc _ _).2 _ hlt]; exact hx3.out
              · rw [hw, hp]; exact (MapKept.heap_alloc _ _).1
              · rw [hw]; exact hb3.out.alloc hb3.out.size _
              · rw [hp]; exact hb3.out.size
              · rw [hp]; exact Nat.ne_of_lt hlt)
            go_upto_region 7 with fail
            rw [← hw, ← hp]
            clear hw hb3 hx3
            replace hp := Lib.hid hp
            obtain ⟨c0, c1, c2, c3, c4, c5, c6, c7⟩ := t4.out.mom
            have ff6 := Lib.frozen_of_heap t4.out.hm 6
            have ff7 := Lib.frozen_of_heap t4.out.hm 7
            obtain ⟨w5, hw⟩ : ∃ w, w = ((w4.setCell ⟨p, 6, none⟩ (.int .i64 z)).setCell ⟨p, 7, none⟩ (.bool has)) := ⟨_, rfl⟩
            have t5 : Hid (TwoD W q p w5 ry rmo rd rh rmi SB z has) := Lib.hid (by rw [hw]; exact (TwoD.set (W := W) (r := q) (m := p) (y2 := ry) (mo2 := rmo) (d2 := rd) (h2 := rh) (mi2 := rmi) (s2 := SB) (z2 := z) (has2 := has) (TwoD.set (W := W) (r := q) (m := p) (y2 := ry) (mo2 := rmo) (d2 := rd) (h2 := rh) (mi2 := rmi) (s2 := SB) (z2 := z) (has2 := rhas) t4.out 6 (.int .i64 z) rfl) 7 (.bool has) rfl))
            go_upto_region 9 with fail
            rw [← hw]
            clear hw c0 c1 c2 c3 c4 c5 c6 c7 t4 ff6 ff7
            obtain ⟨c0, c1, c2, c3, c4, c5, c6, c7⟩ := t5.out.mom
            go_cut [12] from 37 to 49 (fun v wx => v = .bool true ∧ wx = w5)
            case first =>
              go_wp2_with fail
              go_meet
              exact ⟨rfl, rfl⟩
            case rest =>
            obtain ⟨rfl, hcw⟩ := hcut
            replace hcw := hcw.symm
            subst hcw
            clear c0 c1 c2 c3 c4 c5 c6 c7
            obtain ⟨c0, c1, c2, c3, c4, c5, c6, c7⟩ := t5.out.mom
            have ff3 := Lib.frozen_of_heap t5.out.hm 3
            obtain ⟨w6, hw⟩ : ∃ w, w = (w5.setCell ⟨p, 3, none⟩ (.int .i64 0)) := ⟨_, rfl⟩
            have t6 : Hid (TwoD W q p w6 ry rmo rd 0 rmi SB z has) := Lib.hid (by rw [hw]; exact (TwoD.set (W := W) (r := q) (m := p) (y2 := ry) (mo2 := rmo) (d2 := rd) (h2 := 0) (mi2 := rmi) (s2 := SB) (z2 := z) (has2 := has) t5.out 3 (.int .i64 0) rfl))
            go_upto_region 12 with fail
            rw [← hw]
            clear hw c0 c1 c2 c3 c4 c5 c6 c7 t5 ff3
            obtain ⟨c0, c1, c2, c3, c4, c5, c6, c7⟩ := t6.out.mom
            go_wp2_with fail
            refine (kV.out _).mono ?_
            rintro e w7 ⟨rfl, hb⟩
            clear c0 c1 c2 c3 c4 c5 c6 c7
            have t7 := Lib.hid (t6.out.later hb)
            clear hb t6
            go_upto_region 13 with fail
            obtain ⟨c0, c1, c2, c3, c4, c5, c6, c7⟩ := t7.out.mom
            obtain ⟨d0, d1, d2, d3, d4, d5, d6, d7⟩ := t7.out.res
            obtain ⟨f0, f1, f2, f3, f4, f5, f6, f7⟩ := froz8 t7.out.hr
            obtain ⟨W5, hW5, hp5, hb5⟩ := t7.out.put (.int .i64 0) (.int .i64 0) (.int .i64 0) (.int .i64 0) (.int .i64 0) (.string ⟨#[]⟩) (.int .i64 0) (.bool false)
            replace hW5 := Lib.hid hW5
            replace hp5 := Lib.hid hp5
            go_wp2_with fail
            rw [← hW5.out]
            clear hW5 d0 d1 d2 d3 d4 d5 d6 d7 f0 f1 f2 f3 f4 f5 f6 f7 c0 c1 c2 c3 c4 c5 c6 c7
            obtain ⟨c0, c1, c2, c3, c4, c5, c6, c7⟩ := MomAt.of_heap hp5.out
            refine bodyPost_ret (v := .tuple #[.agg #[.int .i64 0, .int .i64 0, .int .i64 0, .int .i64 0, .int .i64 0, .string ⟨#[]⟩, .int .i64 0, .bool false], .int .i64 6]) ?ret rfl ?post
            case ret => rw [res_two rfl]; go_simp
            case post => exact ⟨by rw [hR.out]; rfl, hb5⟩
          | true =>
            rw [if_neg (by decide)] at hQ4
            by_cases k8 : k = 8
            · rw [if_pos k8] at hQ4
              have gk8 : (k == 8) = true := beq_iff_eq.2 k8
              obtain ⟨Y, Mo, Da, Hh, Mm, nn, ey, emo, ed, eh, emi, hsd, hpp, hzz, em⟩ := mom_nat hv.symm
              have bY := hpp.y2
              have bM1 := hpp.date.m1
              have bM2 := hpp.date.m2
              have bD := hpp.date.d2
              have bL := lenM_le31 Y Mo
              obtain ⟨T, hT⟩ : ∃ T, T = tomorrow7 ⟨ry, rmo, rd, 0, rmi, SB.data.toList, z, has⟩ := ⟨_, rfl⟩
              have htm := fun w => tomorrow7_r Y Mo rd 0 rmi SB z has w bM1 bM2 bY (by omega)
              rw [← ey, ← emo, ← hT] at htm
              rw [← hT] at hQ4
              have hTs : T.s = SB.data.toList := by
                rw [hT]; unfold tomorrow7; split
                · rfl
                · split <;> rfl
              obtain ⟨ty, tmo, td, th, tmi, ts, tz, thas⟩ := T
              have hTs : ts = SB.data.toList := hTs
              subst hTs
              have kT : Hid (∀ w, Calls Tryz.prog 42 #[.agg #[.int .i64 ry, .int .i64 rmo, .int .i64 rd, .int .i64 0, .int .i64 rmi, .string SB, .int .i64 z, .bool has]] w fun e w' => e = .returned (.agg #[.int .i64 ty, .int .i64 tmo, .int .i64 td, .int .i64 th, .int .i64 tmi, .string SB, .int .i64 tz, .bool thas]) ∧ Below w.heap.size w w') := Lib.hid htm
              have kV2 := Lib.hid (fun w => Valid7_r ty tmo td th tmi SB tz thas w (Nat.le_trans hsb (by decide)))
              obtain ⟨v2, hv2⟩ : ∃ v, v = validP ⟨ty, tmo, td, th, tmi, SB.data.toList, tz, thas⟩ := ⟨_, rfl⟩
              rw [← hv2] at kV2 hQ4
              clear hv hv2 ey emo ed eh emi hsd hpp hzz em bY bM1 bM2 bD bL hT htm k8
              cases v2 with
              | false =>
                have hR : Hid (Q = (mom0, 6)) := Lib.hid hQ4
                clear hQ4
                go_enter Tryz.func16, Tryz.ntmps16
                go_upto_region 1 with fail
                rw [← hW1, ← hq]
                clear hW1 hq
                go_wp2_with fail
                refine (kK.out _).mono ?_
                rintro e wp ⟨rfl, rfl⟩
                go_wp2_with fail
                refine (kZ.out _).mono ?_
                rintro e w2 ⟨rfl, hd⟩
                have hb2 := Lib.hid ((hb1.out).trans ((drew_below hd).mono hb1.out.size))
                have hx2 : Hid (w2.heap[q]? = some (.cells #[.int .i64 0, .int .i64 0, .int .i64 0, .int .i64 0, .int .i64 0, .string ⟨#[]⟩, .int .i64 0, .bool false] 28 (0, 0))) := Lib.hid (((drew_below hd).block q (heap_lt hx1.out)).trans hx1.out)
                clear hd hb1 hx1
                go_wp2_with fail
                refine (kP.out _).mono ?_
                rintro e w3 ⟨rfl, hb⟩
                have hb3 := Lib.hid (hb2.out.trans (hb.mono hb2.out.size))
                have hx3 : Hid (w3.heap[q]? = some (.cells #[.int .i64 0, .int .i64 0, .int .i64 0, .int .i64 0, .int .i64 0, .string ⟨#[]⟩, .int .i64 0, .bool false] 28 (0, 0))) := Lib.hid ((hb.block q (heap_lt hx2.out)).trans hx2.out)
                clear hb hb2 hx2
                obtain ⟨w4, hw⟩ : ∃ w, w = w3.alloc (.cells #[.int .i64 ry, .int .i64 rmo, .int .i64 rd, .int .i64 rh, .int .i64 rmi, .string SB, .int .i64 rz, .bool rhas] 28) := ⟨_, rfl⟩
                obtain ⟨p, hp⟩ : ∃ p, p = w3.heap.size := ⟨_, rfl⟩
                have t4 : Hid (TwoD W q p w4 ry rmo rd rh rmi SB rz rhas) := Lib.hid (by
                  have hlt := heap_lt hx3.out
                  refine ⟨?_, ?_, ?_, by rw [hq'.out]; exact Nat.le_refl _, ?_, ?_⟩
                  · rw [hw, (MapKept.heap_alloc _ _).2 _ hlt]; exact hx3.out
                  · rw [hw, hp]; exact (MapKept.heap_alloc _ _).1
                  · rw [hw]; exact hb3.out.alloc hb3.out.size _
                  · rw [hp]; exact hb3.out.size
                  · rw [hp]; exact Nat.ne_of_lt hlt)
                go_upto_region 7 with fail
                rw [← hw, ← hp]
                clear hw hb3 hx3
                replace hp := Lib.hid hp
                obtain ⟨c0, c1, c2, c3, c4, c5, c6, c7⟩ := t4.out.mom
                have ff6 := Lib.frozen_of_heap t4.out.hm 6
                have ff7 := Lib.frozen_of_heap t4.out.hm 7
                obtain ⟨w5, hw⟩ : ∃ w, w = ((w4.setCell ⟨p, 6, none⟩ (.int .i64 z)).setCell ⟨p, 7, none⟩ (.bool has)) := ⟨_, rfl⟩
                have t5 : Hid (TwoD W q p w5 ry rmo rd rh rmi SB z has) := Lib.hid (by rw [hw]; exact (TwoD.set (W := W) (r := q) (m := p) (y2 := ry) (mo2 := rmo) (d2 := rd) (h2 := rh) (mi2 := rmi) (s2 := SB) (z2 := z) (has2 := has) (TwoD.set (W := W) (r := q) (m := p) (y2 := ry) (mo2 := rmo) (d2 := rd) (h2 := rh) (mi2 := rmi) (s2 := SB) (z2 := z) (has2 := rhas) t4.out 6 (.int .i64 z) rfl) 7 (.bool has) rfl))
                go_upto_region 9 with fail
                rw [← hw]
                clear hw c0 c1 c2 c3 c4 c5 c6 c7 t4 ff6 ff7
                obtain ⟨c0, c1, c2, c3, c4, c5, c6, c7⟩ := t5.out.mom
                go_cut [12] from 37 to 49 (fun v wx => v = .bool true ∧ wx = w5)
                case first =>
                  go_wp2_with fail
                  go_meet
                  exact ⟨rfl, rfl⟩
                case rest =>
                obtain ⟨rfl, hcw⟩ := hcut
                replace hcw := hcw.symm
                subst hcw
                clear c0 c1 c2 c3 c4 c5 c6 c7
                obtain ⟨c0, c1, c2, c3, c4, c5, c6, c7⟩ := t5.out.mom
                have ff3 := Lib.frozen_of_heap t5.out.hm 3
                obtain ⟨w6, hw⟩ : ∃ w, w = (w5.setCell ⟨p, 3, none⟩ (.int .i64 0)) := ⟨_, rfl⟩
                have t6 : Hid (TwoD W q p w6 ry rmo rd 0 rmi SB z has) := Lib.hid (by rw [hw]; exact (TwoD.set (W := W) (r := q) (m := p) (y2 := ry) (mo2 := rmo) (d2 := rd) (h2 := 0) (mi2 := rmi) (s2 := SB) (z2 := z) (has2 := has) t5.out 3 (.int .i64 0) rfl))
                go_upto_region 12 with fail
                rw [← hw]
                clear hw c0 c1 c2 c3 c4 c5 c6 c7 t5 ff3
                obtain ⟨c0, c1, c2, c3, c4, c5, c6, c7⟩ := t6.out.mom
                go_wp2_with fail
                refine (kV.out _).mono ?_
                rintro e w7 ⟨rfl, hb⟩
                clear c0 c1 c2 c3 c4 c5 c6 c7
                have t7 := Lib.hid (t6.out.later hb)
                clear hb t6
                go_upto_region 15 with fail
                obtain ⟨c0, c1, c2, c3, c4, c5, c6, c7⟩ := t7.out.mom
                go_wp2_with fail
                refine (kT.out _).mono ?_
                rintro e w8 ⟨rfl, hb⟩
                clear c0 c1 c2 c3 c4 c5 c6 c7
                have t8 := Lib.hid (t7.out.later hb)
                clear hb t7
                obtain ⟨c0, c1, c2, c3, c4, c5, c6, c7⟩ := t8.out.mom
                obtain ⟨f0, f1, f2, f3, f4, f5, f6, f7⟩ := froz8 t8.out.hm
                obtain ⟨w9, hw, t9⟩ := t8.out.putm ty tmo td th tmi SB tz thas
                replace t9 := Lib.hid t9
                go_upto_region 16 with fail
                rw [← hw]
                clear hw c0 c1 c2 c3 c4 c5 c6 c7 f0 f1 f2 f3 f4 f5 f6 f7 t8
                obtain ⟨c0, c1, c2, c3, c4, c5, c6, c7⟩ := t9.out.mom
                go_wp2_with fail
                refine (kV2.out _).mono ?_
                rintro e w10 ⟨rfl, hb⟩
                clear c0 c1 c2 c3 c4 c5 c6 c7
                have t10 := Lib.hid (t9.out.later hb)
                clear hb t9
                go_upto_region 17 with fail
                obtain ⟨c0, c1, c2, c3, c4, c5, c6, c7⟩ := t10.out.mom
                obtain ⟨d0, d1, d2, d3, d4, d5, d6, d7⟩ := t10.out.res
                obtain ⟨f0, f1, f2, f3, f4, f5, f6, f7⟩ := froz8 t10.out.hr
                obtain ⟨W5, hW5, hp5, hb5⟩ := t10.out.put (.int .i64 0) (.int .i64 0) (.int .i64 0) (.int .i64 0) (.int .i64 0) (.string ⟨#[]⟩) (.int .i64 0) (.bool false)
                replace hW5 := Lib.hid hW5
                replace hp5 := Lib.hid hp5
                go_wp2_with fail
                rw [← hW5.out]
                clear hW5 d0 d1 d2 d3 d4 d5 d6 d7 f0 f1 f2 f3 f4 f5 f6 f7 c0 c1 c2 c3 c4 c5 c6 c7
                obtain ⟨c0, c1, c2, c3, c4, c5, c6, c7⟩ := MomAt.of_heap hp5.out
                refine bodyPost_ret (v := .tuple #[.agg #[.int .i64 0, .int .i64 0, .int .i64 0, .int .i64 0, .int .i64 0, .string ⟨#[]⟩, .int .i64 0, .bool false], .int .i64 6]) ?ret rfl ?post
                case ret => rw [res_two rfl]; go_simp
                case post => exact ⟨by rw [hR.out]; rfl, hb5⟩
              | true =>
                have hR : Hid (Q = (⟨ty, tmo, td, th, tmi, SB.data.toList, tz, thas⟩, 0)) := Lib.hid hQ4
                clear hQ4
                go_enter Tryz.func16, Tryz.ntmps16
                go_upto_region 1 with fail
                rw [← hW1, ← hq]
                clear hW1 hq
                go_wp2_with fail
                refine (kK.out _).mono ?_
                rintro e wp ⟨rfl, rfl⟩
                go_wp2_with fail
                refine (kZ.out _).mono ?_
                rintro e w2 ⟨rfl, hd⟩
                have hb2 := Lib.hid ((hb1.out).trans ((drew_below hd).mono hb1.out.size))
                have hx2 : Hid (w2.heap[q]? = some (.cells #[.int .i64 0, .int .i64 0, .int .i64 0, .int .i64 0, .int .i64 0, .string ⟨#[]⟩, .int .i64 0, .bool false] 28 (0, 0))) := Lib.hid (((drew_below hd).block q (heap_lt hx1.out)).trans hx1.out)
                clear hd hb1 hx1
                go_wp2_with fail
                refine (kP.out _).mono ?_
                rintro e w3 ⟨rfl, hb⟩
                have hb3 := Lib.hid (hb2.out.trans (hb.mono hb2.out.size))
                have hx3 : Hid (w3.heap[q]? = some (.cells #[.int .i64 0, .int .i64 0, .int .i64 0, .int .i64 0, .int .i64 0, .string ⟨#[]⟩, .int .i64 0, .bool false] 28 (0, 0))) := Lib.hid ((hb.block q (heap_lt hx2.out)).trans hx2.out)
                clear hb hb2 hx2
                obtain ⟨w4, hw⟩ : ∃ w, w = w3.alloc (.cells #[.int .i64 ry, .int .i64 rmo, .int .i64 rd, .int .i64 rh, .int .i64 rmi, .string SB, .int .i64 rz, .bool rhas] 28) := ⟨_, rfl⟩
                obtain ⟨p, hp⟩ : ∃ p, p = w3.heap.size := ⟨_, rfl⟩
                have t4 : Hid (TwoD W q p w4 ry rmo rd rh rmi SB rz rhas) := Lib.hid (by
                  have hlt := heap_lt hx3.out
                  refine ⟨?_, ?_, ?_, by rw [hq'.out]; exact Nat.le_refl _, ?_, ?_⟩
                  · rw [hw, (MapKept.heap_alloc _ _).2 _ hlt]; exact hx3.out
                  · rw [hw, hp]; exact (MapKept.heap_alloc _ _).1
                  · rw [hw]; exact hb3.out.alloc hb3.out.size _
                  · rw [hp]; exact hb3.out.size
                  · rw [hp]; exact Nat.ne_of_lt hlt)
                go_upto_region 7 with fail
                rw [← hw, ← hp]
                clear hw hb3 hx3
                replace hp := Lib.hid hp
                obtain ⟨c0, c1, c2, c3, c4, c5, c6, c7⟩ := t4.out.mom
                have ff6 := Lib.frozen_of_heap t4.out.hm 6
                have ff7 := Lib.frozen_of_heap t4.out.hm 7
                obtain ⟨w5, hw⟩ : ∃ w, w = ((w4.setCell ⟨p, 6, none⟩ (.int .i64 z)).setCell ⟨p, 7, none⟩ (.bool has)) := ⟨_, rfl⟩
                have t5 : Hid (TwoD W q p w5 ry rmo rd rh rmi SB z has) := Lib.hid (by rw [hw]; exact (TwoD.set (W := W) (r := q) (m := p) (y2 := ry) (mo2 := rmo) (d2 := rd) (h2 := rh) (mi2 := rmi) (s2 := SB) (z2 := z) (has2 := has) (TwoD.set (W := W) (r := q) (m := p) (y2 := ry) (mo2 := rmo) (d2 := rd) (h2 := rh) (mi2 := rmi) (s2 := SB) (z2 := z) (has2 := rhas) t4.out 6 (.int .i64 z) rfl) 7 (.bool has) rfl))
                go_upto_region 9 with fail
                rw [← hw]
                clear hw c0 c1 c2 c3 c4 c5 c6 c7 t4 ff6 ff7
                obtain ⟨c0, c1, c2, c3, c4, c5, c6, c7⟩ := t5.out.mom
                go_cut [12] from 37 to 49 (fun v wx => v = .bool true ∧ wx = w5)
                case first =>
                  go_wp2_with fail
                  go_meet
                  exact ⟨rfl, rfl⟩
                case rest =>
                obtain ⟨rfl, hcw⟩ := hcut
                replace hcw := hcw.symm
                subst hcw
                clear c0 c1 c2 c3 c4 c5 c6 c7
                obtain ⟨c0, c1, c2, c3, c4, c5, c6, c7⟩ := t5.out.mom
                have ff3 := Lib.frozen_of_heap t5.out.hm 3
                obtain ⟨w6, hw⟩ : ∃ w, w = (w5.setCell ⟨p, 3, none⟩ (.int .i64 0)) := ⟨_, rfl⟩
                have t6 : Hid (TwoD W q p w6 ry rmo rd 0 rmi SB z has) := Lib.hid (by rw [hw]; exact (TwoD.set (W := W) (r := q) (m := p) (y2 := ry) (mo2 := rmo) (d2 := rd) (h2 := 0) (mi2 := rmi) (s2 := SB) (z2 := z) (has2 := has) t5.out 3 (.int .i64 0) rfl))
                go_upto_region 12 with fail
                rw [← hw]
                clear hw c0 c1 c2 c3 c4 c5 c6 c7 t5 ff3
                obtain ⟨c0, c1, c2, c3, c4, c5, c6, c7⟩ := t6.out.mom
                go_wp2_with fail
                refine (kV.out _).mono ?_
                rintro e w7 ⟨rfl, hb⟩
                clear c0 c1 c2 c3 c4 c5 c6 c7
                have t7 := Lib.hid (t6.out.later hb)
                clear hb t6
                go_upto_region 15 with fail
                obtain ⟨c0, c1, c2, c3, c4, c5, c6, c7⟩ := t7.out.mom
                go_wp2_with fail
                refine (kT.out _).mono ?_
                rintro e w8 ⟨rfl, hb⟩
                clear c0 c1 c2 c3 c4 c5 c6 c7
                have t8 := Lib.hid (t7.out.later hb)
                clear hb t7
                obtain ⟨c0, c1, c2, c3, c4, c5, c6, c7⟩ := t8.out.mom
                obtain ⟨f0, f1, f2, f3, f4, f5, f6, f7⟩ := froz8 t8.out.hm
                obtain ⟨w9, hw, t9⟩ := t8.out.putm ty tmo td th tmi SB tz thas
                replace t9 := Lib.hid t9
                go_upto_region 16 with fail
                rw [← hw]
                clear hw c0 c1 c2 c3 c4 c5 c6 c7 f0 f1 f2 f3 f4 f5 f6 f7 t8
                obtain ⟨c0, c1, c2, c3, c4, c5, c6, c7⟩ := t9.out.mom
                go_wp2_with fail
                refine (kV2.out _).mono ?_
                rintro e w10 ⟨rfl, hb⟩
                clear c0 c1 c2 c3 c4 c5 c6 c7
                have t10 := Lib.hid (t9.out.later hb)
                clear hb t9
                go_upto_region 18 with fail
                obtain ⟨c0, c1, c2, c3, c4, c5, c6, c7⟩ := t10.out.mom
                obtain ⟨d0, d1, d2, d3, d4, d5, d6, d7⟩ := t10.out.res
                obtain ⟨f0, f1, f2, f3, f4, f5, f6, f7⟩ := froz8 t10.out.hr
                obtain ⟨W5, hW5, hp5, hb5⟩ := t10.out.put (.int .i64 ty) (.int .i64 tmo) (.int .i64 td) (.int .i64 th) (.int .i64 tmi) (.string SB) (.int .i64 tz) (.bool thas)
                replace hW5 := Lib.hid hW5
                replace hp5 := Lib.hid hp5
                go_wp2_with fail
                rw [← hW5.out]
                clear hW5 d0 d1 d2 d3 d4 d5 d6 d7 f0 f1 f2 f3 f4 f5 f6 f7 c0 c1 c2 c3 c4 c5 c6 c7
                obtain ⟨c0, c1, c2, c3, c4, c5, c6, c7⟩ := MomAt.of_heap hp5.out
                refine bodyPost_ret (v := .tuple #[.agg #[.int .i64 ty, .int .i64 tmo, .int .i64 td, .int .i64 th, .int .i64 tmi, .string SB, .int .i64 tz, .bool thas], .int .i64 0]) ?ret rfl ?post
                case ret => rw [res_two rfl]; go_simp
                case post => exact ⟨by rw [hR.out]; rfl, hb5⟩
            · rw [if_neg k8, ← hv, if_neg (by decide)] at hQ4
              have gk8 : (k == 8) = false := beq_eq_false_iff_ne.2 k8
              have hR : Hid (Q = (⟨ry, rmo, rd, 0, rmi, SB.data.toList, z, has⟩, 0)) := Lib.hid hQ4
              clear hQ4 hv k8
              go_enter Tryz.func16, Tryz.ntmps16
              go_upto_region 1 with fail
              rw [← hW1, ← hq]
              clear hW1 hq
              go_wp2_with fail
              refine (kK.out _).mono ?_
              rintro e wp ⟨rfl, rfl⟩
              go_wp2_with fail
              refine (kZ.out _).mono ?_
              rintro e w2 ⟨rfl, hd⟩
              have hb2 := Lib.hid ((hb1.out).trans ((drew_below hd).mono hb1.out.size))
              have hx2 : Hid (w2.heap[q]? = some (.cells #[.int .i64 0, .int .i64 0, .int .i64 0, .int .i64 0, .int .i64 0, .string ⟨#[]⟩, .int .i64 0, .bool false] 28 (0, 0))) := Lib.hid (((drew_below hd).block q (heap_lt hx1.out)).trans hx1.out)
              clear hd hb1 hx1
              go_wp2_with fail
              refine (kP.out _).mono ?_
              rintro e w3 ⟨rfl, hb⟩
              have hb3 := Lib.hid (hb2.out.trans (hb.mono hb2.out.size))
              have hx3 : Hid (w3.heap[q]? = some (.cells #[.int .i64 0, .int .i64 0, .int .i64 0, .int .i64 0, .int .i64 0, .string ⟨#[]⟩, .int .i64 0, .bool false] 28 (0, 0))) := Lib.hid ((hb.block q (heap_lt hx2.out)).trans hx2.out)
              clear hb hb2 hx2
              obtain ⟨w4, hw⟩ : ∃ w, w = w3.alloc (.cells #[.int .i64 ry, .int .i64 rmo, .int .i64 rd, .int .i64 rh, .int .i64 rmi, .string SB, .int .i64 rz, .bool rhas] 28) := ⟨_, rfl⟩
              obtain ⟨p, hp⟩ : ∃ p, p = w3.heap.size := ⟨_, rfl⟩
              have t4 : Hid (TwoD W q p w4 ry rmo rd rh rmi SB rz rhas) := Lib.hid (by
                have hlt := heap_lt hx3.out
                refine ⟨?_, ?_, ?_, by rw [hq'.out]; exact Nat.le_refl _, ?_, ?_⟩
                · rw [hw, (MapKept.heap_alloc _ _).2 _ hlt]; exact hx3.out
                · rw [hw, hp]; exact (MapKept.heap_alloc _ _).1
                · rw [hw]; exact hb3.out.alloc hb3.out.size _
                · rw [hp]; exact hb3.out.size
                · rw [hp]; exact Nat.ne_of_lt hlt)
              go_upto_region 7 with fail
              rw [← hw, ← hp]
              clear hw hb3 hx3
              replace hp := Lib.hid hp
              obtain ⟨c0, c1, c2, c3, c4, c5, c6, c7⟩ := t4.out.mom
              have ff6 := Lib.frozen_of_heap t4.out.hm 6
              have ff7 := Lib.frozen_of_heap t4.out.hm 7
              obtain ⟨w5, hw⟩ : ∃ w, w = ((w4.setCell ⟨p, 6, none⟩ (.int .i64 z)).setCell ⟨p, 7, none⟩ (.bool has)) := ⟨_, rfl⟩
              have t5 : Hid (TwoD W q p w5 ry rmo rd rh rmi SB z has) := Lib.hid (by rw [hw]; exact (TwoD.set (W := W) (r := q) (m := p) (y2 := ry) (mo2 := rmo) (d2 := rd) (h2 := rh) (mi2 := rmi) (s2 := SB) (z2 := z) (has2 := has) (TwoD.set (W := W) (r := q) (m := p) (y2 := ry) (mo2 := rmo) (d2 := rd) (h2 := rh) (mi2 := rmi) (s2 := SB) (z2 := z) (has2 := rhas) t4.out 6 (.int .i64 z) rfl) 7 (.bool has) rfl))
              go_upto_region 9 with fail
              rw [← hw]
              clear hw c0 c1 c2 c3 c4 c5 c6 c7 t4 ff6 ff7
              obtain ⟨c0, c1, c2, c3, c4, c5, c6, c7⟩ := t5.out.mom
              go_cut [12] from 37 to 49 (fun v wx => v = .bool true ∧ wx = w5)
              case first =>
                go_wp2_with fail
                go_meet
                exact ⟨rfl, rfl⟩
              case rest =>
              obtain ⟨rfl, hcw⟩ := hcut
              replace hcw := hcw.symm
              subst hcw
              clear c0 c1 c2 c3 c4 c5 c6 c7
              obtain ⟨c0, c1, c2, c3, c4, c5, c6, c7⟩ := t5.out.mom
              have ff3 := Lib.frozen_of_heap t5.out.hm 3
              obtain ⟨w6, hw⟩ : ∃ w, w = (w5.setCell ⟨p, 3, none⟩ (.int .i64 0)) := ⟨_, rfl⟩
              have t6 : Hid (TwoD W q p w6 ry rmo rd 0 rmi SB z has) := Lib.hid (by rw [hw]; exact (TwoD.set (W := W) (r := q) (m := p) (y2 := ry) (mo2 := rmo) (d2 := rd) (h2 := 0) (mi2 := rmi) (s2 := SB) (z2 := z) (has2 := has) t5.out 3 (.int .i64 0) rfl))
              go_upto_region 12 with fail
              rw [← hw]
              clear hw c0 c1 c2 c3 c4 c5 c6 c7 t5 ff3
              obtain ⟨c0, c1, c2, c3, c4, c5, c6, c7⟩ := t6.out.mom
              go_wp2_with fail
              refine (kV.out _).mono ?_
              rintro e w7 ⟨rfl, hb⟩
              clear c0 c1 c2 c3 c4 c5 c6 c7
              have t7 := Lib.hid (t6.out.later hb)
              clear hb t6
              go_upto_region 16 with fail
              obtain ⟨c0, c1, c2, c3, c4, c5, c6, c7⟩ := t7.out.mom
              go_wp2_with fail
              refine (kV.out _).mono ?_
              rintro e w8 ⟨rfl, hb⟩
              clear c0 c1 c2 c3 c4 c5 c6 c7
              have t8 := Lib.hid (t7.out.later hb)
              clear hb t7
              go_upto_region 18 with fail
              obtain ⟨c0, c1, c2, c3, c4, c5, c6, c7⟩ := t8.out.mom
              obtain ⟨d0, d1, d2, d3, d4, d5, d6, d7⟩ := t8.out.res
              obtain ⟨f0, f1, f2, f3, f4, f5, f6, f7⟩ := froz8 t8.out.hr
              obtain ⟨W5, hW5, hp5, hb5⟩ := t8.out.put (.int .i64 ry) (.int .i64 rmo) (.int .i64 rd) (.int .i64 0) (.int .i64 rmi) (.string SB) (.int .i64 z) (.bool has)
              replace hW5 := Lib.hid hW5
              replace hp5 := Lib.hid hp5
              go_wp2_with fail
              rw [← hW5.out]
              clear hW5 d0 d1 d2 d3 d4 d5 d6 d7 f0 f1 f2 f3 f4 f5 f6 f7 c0 c1 c2 c3 c4 c5 c6 c7
              obtain ⟨c0, c1, c2, c3, c4, c5, c6, c7⟩ := MomAt.of_heap hp5.out
              refine bodyPost_ret (v := .tuple #[.agg #[.int .i64 ry, .int .i64 rmo, .int .i64 rd, .int .i64 0, .int .i64 rmi, .string SB, .int .i64 z, .bool has], .int .i64 0]) ?ret rfl ?post
              case ret => rw [res_two rfl]; go_simp
              case post => exact ⟨by rw [hR.out]; rfl, hb5⟩
      · rw [if_neg hE] at hQ3
        have hQ4 : Q = if inr = false ∨ validP ⟨ry, rmo, rd, rh, rmi, SB.data.toList, z, has⟩ = false then (mom0, 6) else (⟨ry, rmo, rd, rh, rmi, SB.data.toList, z, has⟩, 0) := by
          rw [hQ3]
          simp only [hE, false_and, if_false]
          cases hv : validP ⟨ry, rmo, rd, rh, rmi, SB.data.toList, z, has⟩ with
          | false => rw [if_pos (Or.inr rfl), if_pos (Or.inr rfl)]
          | true => rw [if_neg (show ¬ (true = false) by decide)]
        clear hQ3
        obtain ⟨b24, h24⟩ : ∃ b, b = (rh == 24) := ⟨_, rfl⟩
        obtain ⟨b0, h0⟩ : ∃ b, b = (rmi == 0) := ⟨_, rfl⟩
        obtain ⟨b48, h48⟩ : ∃ b, b = (SB.toList == [48]) := ⟨_, rfl⟩
        have hEb : Hid (b24 = true → b0 = true → b48 = true → False) := Lib.hid (fun e1 e2 e3 => hE ⟨beq_iff_eq.1 (by rw [← h24]; exact e1), beq_iff_eq.1 (by rw [← h0]; exact e2), by
          have := h48.symm.trans e3
          rw [beq_iff_eq, ByteArray.toList_eq] at this
          exact this⟩)
        replace h24 := h24.symm
        replace h0 := h0.symm
        replace h48 := h48.symm
        clear hE
        cases inr with
        | false =>
          have hR : Hid (Q = (mom0, 6)) := Lib.hid (by rw [hQ4, if_pos (Or.inl rfl)])
          clear hQ4
          go_enter Tryz.func16, Tryz.ntmps16
          go_upto_region 1 with fail
          rw [← hW1, ← hq]
          clear hW1 hq
          go_wp2_with fail
          refine (kK.out _).mono ?_
          rintro e wp ⟨rfl, rfl⟩
          go_wp2_with fail
          refine (kZ.out _).mono ?_
          rintro e w2 ⟨rfl, hd⟩
          have hb2 := Lib.hid ((hb1.out).trans ((drew_below hd).mono hb1.out.size))
          have hx2 : Hid (w2.heap[q]? = some (.cells #[.int .i64 0, .int .i64 0, .int .i64 0, .int .i64 0, .int .i64 0, .string ⟨#[]⟩, .int .i64 0, .bool false] 28 (0, 0))) := Lib.hid (((drew_below hd).block q (heap_lt hx1.out)).trans hx1.out)
          clear hd hb1 hx1
          go_wp2_with fail
          refine (kP.out _).mono ?_
          rintro e w3 ⟨rfl, hb⟩
          have hb3 := Lib.hid (hb2.out.trans (hb.mono hb2.out.size))
          have hx3 : Hid (w3.heap[q]? = some (.cells #[.int .i64 0, .int .i64 0, .int .i64 0, .int .i64 0, .int .i64 0, .string ⟨#[]⟩, .int .i64 0, .bool false] 28 (0, 0))) := Lib.hid ((hb.block q (heap_lt hx2.out)).trans hx2.out)
          clear hb hb2 hx2
          obtain ⟨w4, hw⟩ : ∃ w, w = w3.alloc (.cells #[.int .i64 ry, .int .i64 rmo, .int .i64 rd, .int .i64 rh, .int .i64 rmi, .string SB, .int .i64 rz, .bool rhas] 28) := ⟨_, rfl⟩
          obtain ⟨p, hp⟩ : ∃ p, p = w3.heap.size := ⟨_, rfl⟩
          have t4 : Hid (TwoD W q p w4 ry rmo rd rh rmi SB rz rhas) := Lib.hid (by
            have hlt := heap_lt hx3.out
            refine ⟨?_, ?_, ?_, by rw [hq'.out]; exact Nat.le_refl _, ?_, ?_⟩
            · rw [hw, (MapKept.heap_alloc _ _).2 _ hlt]; exact hx3.out
            · rw [hw, hp]; exact (MapKept.heap_alloc _ _).1
            · rw [hw]; exact hb3.out.alloc hb3.out.size _
            · rw [hp]; exact hb3.out.size
            · rw [hp]; exact Nat.ne_of_lt hlt)
          go_upto_region 7 with fail
          rw [← hw, ← hp]
          clear hw hb3 hx3
          replace hp := Lib.hid hp
          obtain ⟨c0, c1, c2, c3, c4, c5, c6, c7⟩ := t4.out.mom
          have ff6 := Lib.frozen_of_heap t4.out.hm 6
          have ff7 := Lib.frozen_of_heap t4.out.hm 7
          obtain ⟨w5, hw⟩ : ∃ w, w = ((w4.setCell ⟨p, 6, none⟩ (.int .i64 z)).setCell ⟨p, 7, none⟩ (.bool has)) := ⟨_, rfl⟩
          have t5 : Hid (TwoD W q p w5 ry rmo rd rh rmi SB z has) := Lib.hid (by rw [hw]; exact (TwoD.set (W := W) (r := q) (m := p) (y2 := ry) (mo2 := rmo) (d2 := rd) (h2 := rh) (mi2 := rmi) (s2 := SB) (z2 := z) (has2 := has) (TwoD.set (W := W) (r := q) (m := p) (y2 := ry) (mo2 := rmo) (d2 := rd) (h2 := rh) (mi2 := rmi) (s2 := SB) (z2 := z) (has2 := rhas) t4.out 6 (.int .i64 z) rfl) 7 (.bool has) rfl))
          go_upto_region 9 with fail
          rw [← hw]
          clear hw c0 c1 c2 c3 c4 c5 c6 c7 t4 ff6 ff7
          obtain ⟨c0, c1, c2, c3, c4, c5, c6, c7⟩ := t5.out.mom
          go_cut [12] from 37 to 49 (fun v wx => v = .bool false ∧ wx = w5)
          case first =>
              cases b24 with
            | false =>
              go_wp2_with fail
              go_meet
              exact ⟨rfl, rfl⟩
            | true =>
              cases b0 with
              | false =>
                go_wp2_with fail
                go_meet
                exact ⟨rfl, rfl⟩
              | true =>
                cases b48 with
                | false =>
                  go_wp2_with fail
                  go_meet
                  exact ⟨rfl, rfl⟩
                | true => exact absurd trivial (fun _ => hEb.out rfl rfl rfl)
          case rest =>
          obtain ⟨rfl, hcw⟩ := hcut
          replace hcw := hcw.symm
          subst hcw
          clear c0 c1 c2 c3 c4 c5 c6 c7
          clear h24 h0 h48 hEb
          go_upto_region 12 with fail
          go_upto_region 13 with fail
          obtain ⟨c0, c1, c2, c3, c4, c5, c6, c7⟩ := t5.out.mom
          obtain ⟨d0, d1, d2, d3, d4, d5, d6, d7⟩ := t5.out.res
          obtain ⟨f0, f1, f2, f3, f4, f5, f6, f7⟩ := froz8 t5.out.hr
          obtain ⟨W5, hW5, hp5, hb5⟩ := t5.out.put (.int .i64 0) (.int .i64 0) (.int .i64 0) (.int .i64 0) (.int .i64 0) (.string ⟨#[]⟩) (.int .i64 0) (.bool false)
          replace hW5 := Lib.hid hW5
          replace hp5 := Lib.hid hp5
          go_wp2_with fail
          rw [← hW5.out]
          clear hW5 d0 d1 d2 d3 d4 d5 d6 d7 f0 f1 f2 f3 f4 f5 f6 f7 c0 c1 c2 c3 c4 c5 c6 c7
          obtain ⟨c0, c1, c2, c3, c4, c5, c6, c7⟩ := MomAt.of_heap hp5.out
          refine bodyPost_ret (v := .tuple #[.agg #[.int .i64 0, .int .i64 0, .int .i64 0, .int .i64 0, .int .i64 0, .string ⟨#[]⟩, .int .i64 0, .bool false], .int .i64 6]) ?ret rfl ?post
          case ret => rw [res_two rfl]; go_simp
          case post => exact ⟨by rw [hR.out]; rfl, hb5⟩
        | true =>
          have kV := Lib.hid (fun w => Valid7_r ry rmo rd rh rmi SB z has w (Nat.le_trans hsb (by decide)))
          obtain ⟨v, hv⟩ : ∃ v, v = validP ⟨ry, rmo, rd, rh, rmi, SB.data.toList, z, has⟩ := ⟨_, rfl⟩
          rw [← hv] at kV hQ4
          cases v with
          | false =>
            have hR : Hid (Q = (mom0, 6)) := Lib.hid (by rw [hQ4, if_pos (Or.inr rfl)])
            clear hQ4 hv
            go_enter Tryz.func16, Tryz.ntmps16
            go_upto_region 1 with fail
            rw [← hW1, ← hq]
            clear hW1 hq
            go_wp2_with fail
            refine (kK.out _).mono ?_
            rintro e wp ⟨rfl, rfl⟩
            go_wp2_with fail
            refine (kZ.out _).mono ?_
            rintro e w2 ⟨rfl, hd⟩
            have hb2 := Lib.hid ((hb1.out).trans ((drew_below hd).mono hb1.out.size))
            have hx2 : Hid (w2.heap[q]? = some (.cells #[.int .i64 0, .int .i64 0, .int .i64 0, .int .i64 0, .int .i64 0, .string ⟨#[]⟩, .int .i64 0, .bool false] 28 (0, 0))) := Lib.hid (((drew_below hd).block q (heap_lt hx1.out)).trans hx1.out)
            clear hd hb1 hx1
            go_wp2_with fail
            refine (kP.out _).mono ?_
            rintro e w3 ⟨rfl, hb⟩
            have hb3 := Lib.hid (hb2.out.trans (hb.mono hb2.out.size))
            have hx3 : Hid (w3.heap[q]? = some (.cells #[.int .i64 0, .int .i64 0, .int .i64 0, .int .i64 0, .int .i64 0, .string ⟨#[]⟩, .int .i64 0, .bool false] 28 (0, 0))) := Lib.hid ((hb.block q (heap_lt hx2.out)).trans hx2.out)
            clear hb hb2 hx2
            obtain ⟨w4, hw⟩ : ∃ w, w = w3.alloc (.cells #[.int .i64 ry, .int .i64 rmo, .int .i64 rd, .int .i64 rh, .int .i64 rmi, .string SB, .int .i64 rz, .bool rhas] 28) := ⟨_, rfl⟩
            obtain ⟨p, hp⟩ : ∃ p, p = w3.heap.size := ⟨_, rfl⟩
            have t4 : Hid (TwoD W q p w4 ry rmo rd rh rmi SB rz rhas) := Lib.hid (by
              have hlt := heap_lt hx3.out
              refine ⟨?_, ?_, ?_, by rw [hq'.out]; exact Nat.le_refl _, ?_, ?_⟩
              · rw [hw, (MapKept.heap_alloc _ _).2 _ hlt]; exact hx3.out
              · rw [hw, hp]; exact (MapKept.heap_alloc _ _).1
              · rw [hw]; exact hb3.out.alloc hb3.out.size _
              · rw [hp]; exact hb3.out.size
              · rw [hp]; exact Nat.ne_of_lt hlt)
            go_upto_region 7 with fail
            rw [← hw, ← hp]
            clear hw hb3 hx3
            replace hp := Lib.hid hp
            obtain ⟨c0, c1, c2, c3, c4, c5, c6, c7⟩ := t4.out.mom
            have ff6 := Lib.frozen_of_heap t4.out.hm 6
            have ff7 := Lib.frozen_of_heap t4.out.hm 7
            obtain ⟨w5, hw⟩ : ∃ w, w = ((w4.setCell ⟨p, 6, none⟩ (.int .i64 z)).setCell ⟨p, 7, none⟩ (.bool has)) := ⟨_, rfl⟩
            have t5 : Hid (TwoD W q p w5 ry rmo rd rh rmi SB z has) := Lib.hid (by rw [hw]; exact (TwoD.set (W := W) (r := q) (m := p) (y2 := ry) (mo2 := rmo) (d2 := rd) (h2 := rh) (mi2 := rmi) (s2 := SB) (z2 := z) (has2 := has) (TwoD.set (W := W) (r := q) (m := p) (y2 := ry) (mo2 := rmo) (d2 := rd) (h2 := rh) (mi2 := rmi) (s2 := SB) (z2 := z) (has2 := rhas) t4.out 6 (.int .i64 z) rfl) 7 (.bool has) rfl))
            go_upto_region 9 with fail
            rw [← hw]
            clear hw c0 c1 c2 c3 c4 c5 c6 c7 t4 ff6 ff7
            obtain ⟨c0, c1, c2, c3, c4, c5, c6, c7⟩ := t5.out.mom
            go_cut [12] from 37 to 49 (fun v wx => v = .bool false ∧ wx = w5)
            case first =>
                cases b24 with
              | false =>
                go_wp2_with fail
                go_meet
                exact ⟨rfl, rfl⟩
              | true =>
                cases b0 with
                | false =>
                  go_wp2_with fail
                  go_meet
                  exact ⟨rfl, rfl⟩
                | true =>
                  cases b48 with
                  | false =>
                    go_wp2_with fail
                    go_meet
                    exact ⟨rfl, rfl⟩
                  | true => exact absurd trivial (fun _ => hEb.out rfl rfl rfl)
            case rest =>
            obtain ⟨rfl, hcw⟩ := hcut
            replace hcw := hcw.symm
            subst hcw
            clear c0 c1 c2 c3 c4 c5 c6 c7
            clear h24 h0 h48 hEb
            go_upto_region 12 with fail
            obtain ⟨c0, c1, c2, c3, c4, c5, c6, c7⟩ := t5.out.mom
            go_wp2_with fail
            refine (kV.out _).mono ?_
            rintro e w6 ⟨rfl, hb⟩
            clear c0 c1 c2 c3 c4 c5 c6 c7
            have t6 := Lib.hid (t5.out.later hb)
            clear hb t5
            go_upto_region 13 with fail
            obtain ⟨c0, c1, c2, c3, c4, c5, c6, c7⟩ := t6.out.mom
            obtain ⟨d0, d1, d2, d3, d4, d5, d6, d7⟩ := t6.out.res
            obtain ⟨f0, f1, f2, f3, f4, f5, f6, f7⟩ := froz8 t6.out.hr
            obtain ⟨W5, hW5, hp5, hb5⟩ := t6.out.put (.int .i64 0) (.int .i64 0) (.int .i64 0) (.int .i64 0) (.int .i64 0) (.string ⟨#[]⟩) (.int .i64 0) (.bool false)
            replace hW5 := Lib.hid hW5
            replace hp5 := Lib.hid hp5
            go_wp2_with fail
            rw [← hW5.out]
            clear hW5 d0 d1 d2 d3 d4 d5 d6 d7 f0 f1 f2 f3 f4 f5 f6 f7 c0 c1 c2 c3 c4 c5 c6 c7
            obtain ⟨c0, c1, c2, c3, c4, c5, c6, c7⟩ := MomAt.of_heap hp5.out
            refine bodyPost_ret (v := .tuple #[.agg #[.int .i64 0, .int .i64 0, .int .i64 0, .int .i64 0, .int .i64 0, .string ⟨#[]⟩, .int .i64 0, .bool false], .int .i64 6]) ?ret rfl ?post
            case ret => rw [res_two rfl]; go_simp
            case post => exact ⟨by rw [hR.out]; rfl, hb5⟩
          | true =>
            rw [if_neg (by decide)] at hQ4
            have hR : Hid (Q = (⟨ry, rmo, rd, rh, rmi, SB.data.toList, z, has⟩, 0)) := Lib.hid hQ4
            clear hQ4 hv
            go_enter Tryz.func16, Tryz.ntmps16
            go_upto_region 1 with fail
            rw [← hW1, ← hq]
            clear hW1 hq
            go_wp2_with fail
            refine (kK.out _).mono ?_
            rintro e wp ⟨rfl, rfl⟩
            go_wp2_with fail
            refine (kZ.out _).mono ?_
            rintro e w2 ⟨rfl, hd⟩
            have hb2 := Lib.hid ((hb1.out).trans ((drew_below hd).mono hb1.out.size))
            have hx2 : Hid (w2.heap[q]? = some (.cells #[.int .i64 0, .int .i64 0, .int .i64 0, .int .i64 0, .int .i64 0, .string ⟨#[]⟩, .int .i64 0, .bool false] 28 (0, 0))) := Lib.hid (((drew_below hd).block q (heap_lt hx1.out)).trans hx1.out)
            clear hd hb1 hx1
            go_wp2_with fail
            refine (kP.out _).mono ?_
            rintro e w3 ⟨rfl, hb⟩
            have hb3 := Lib.hid (hb2.out.trans (hb.mono hb2.out.size))
            have hx3 : Hid (w3.heap[q]? = some (.cells #[.int .i64 0, .int .i64 0, .int .i64 0, .int .i64 0, .int .i64 0, .string ⟨#[]⟩, .int .i64 0, .bool false] 28 (0, 0))) := Lib.hid ((hb.block q (heap_lt hx2.out)).trans hx2.out)
            clear hb hb2 hx2
            obtain ⟨w4, hw⟩ : ∃ w, w = w3.alloc (.cells #[.int .i64 ry, .int .i64 rmo, .int .i64 rd, .int .i64 rh, .int .i64 rmi, .string SB, .int .i64 rz, .bool rhas] 28) := ⟨_, rfl⟩
            obtain ⟨p, hp⟩ : ∃ p, p = w3.heap.size := ⟨_, rfl⟩
            have t4 : Hid (TwoD W q p w4 ry rmo rd rh rmi SB rz rhas) := Lib.hid (by
              have hlt := heap_lt hx3.out
              refine ⟨?_, ?_, ?_, by rw [hq'.out]; exact Nat.le_refl _, ?_, ?_⟩
              · rw [hw, (MapKept.heap_alloc _ _).2 _ hlt]; exact hx3.out
              · rw [hw, hp]; exact (MapKept.heap_alloc _ _).1
              · rw [hw]; exact hb3.out.alloc hb3.out.size _
              · rw [hp]; exact hb3.out.size
              · rw [hp]; exact Nat.ne_of_lt hlt)
            go_upto_region 7 with fail
            rw [← hw, ← hp]
            clear hw hb3 hx3
            replace hp := Lib.hid hp
            obtain ⟨c0, c1, c2, c3, c4, c5, c6, c7⟩ := t4.out.mom
            have ff6 := Lib.frozen_of_heap t4.out.hm 6
            have ff7 := Lib.frozen_of_heap t4.out.hm 7
            obtain ⟨w5, hw⟩ : ∃ w, w = ((w4.setCell ⟨p, 6, none⟩ (.int .i64 z)).setCell ⟨p, 7, none⟩ (.bool has)) := ⟨_, rfl⟩
            have t5 : Hid (TwoD W q p w5 ry rmo rd rh rmi SB z has) := Lib.hid (by rw [hw]; exact (TwoD.set (W := W) (r := q) (m := p) (y2 := ry) (mo2 := rmo) (d2 := rd) (h2 := rh) (mi2 := rmi) (s2 := SB) (z2 := z) (has2 := has) (TwoD.set (W := W) (r := q) (m := p) (y2 := ry) (mo2 := rmo) (d2 := rd) (h2 := rh) (mi2 := rmi) (s2 := SB) (z2 := z) (has2 := rhas) t4.out 6 (.int .i64 z) rfl) 7 (.bool has) rfl))
            go_upto_region 9 with fail
            rw [← hw]
            clear hw c0 c1 c2 c3 c4 c5 c6 c7 t4 ff6 ff7
            obtain ⟨c0, c1, c2, c3, c4, c5, c6, c7⟩ := t5.out.mom
            go_cut [12] from 37 to 49 (fun v wx => v = .bool false ∧ wx = w5)
            case first =>
                cases b24 with
              | false =>
                go_wp2_with fail
                go_meet
                exact ⟨rfl, rfl⟩
              | true =>
                cases b0 with
                | false =>
                  go_wp2_with fail
                  go_meet
                  exact ⟨rfl, rfl⟩
                | true =>
                  cases b48 with
                  | false =>
                    go_wp2_with fail
                    go_meet
                    exact ⟨rfl, rfl⟩
                  | true => exact absurd trivial (fun _ => hEb.out rfl rfl rfl)
            case rest =>
            obtain ⟨rfl, hcw⟩ := hcut
            replace hcw := hcw.symm
            subst hcw
            clear c0 c1 c2 c3 c4 c5 c6 c7
            clear h24 h0 h48 hEb
            go_upto_region 12 with fail
            obtain ⟨c0, c1, c2, c3, c4, c5, c6, c7⟩ := t5.out.mom
            go_wp2_with fail
            refine (kV.out _).mono ?_
            rintro e w6 ⟨rfl, hb⟩
            clear c0 c1 c2 c3 c4 c5 c6 c7
            have t6 := Lib.hid (t5.out.later hb)
            clear hb t5
            go_upto_region 16 with fail
            obtain ⟨c0, c1, c2, c3, c4, c5, c6, c7⟩ := t6.out.mom
            go_wp2_with fail
            refine (kV.out _).mono ?_
            rintro e w7 ⟨rfl, hb⟩
            clear c0 c1 c2 c3 c4 c5 c6 c7
            have t7 := Lib.hid (t6.out.later hb)
            clear hb t6
            go_upto_region 18 with fail
            obtain ⟨c0, c1, c2, c3, c4, c5, c6, c7⟩ := t7.out.mom
            obtain ⟨d0, d1, d2, d3, d4, d5, d6, d7⟩ := t7.out.res
            obtain ⟨f0, f1, f2, f3, f4, f5, f6, f7⟩ := froz8 t7.out.hr
            obtain ⟨W5, hW5, hp5, hb5⟩ := t7.out.put (.int .i64 ry) (.int .i64 rmo) (.int .i64 rd) (.int .i64 rh) (.int .i64 rmi) (.string SB) (.int .i64 z) (.bool has)
            replace hW5 := Lib.hid hW5
            replace hp5 := Lib.hid hp5
            go_wp2_with fail
            rw [← hW5.out]
            clear hW5 d0 d1 d2 d3 d4 d5 d6 d7 f0 f1 f2 f3 f4 f5 f6 f7 c0 c1 c2 c3 c4 c5 c6 c7
            obtain ⟨c0, c1, c2, c3, c4, c5, c6, c7⟩ := MomAt.of_heap hp5.out
            refine bodyPost_ret (v := .tuple #[.agg #[.int .i64 ry, .int .i64 rmo, .int .i64 rd, .int .i64 rh, .int .i64 rmi, .string SB, .int .i64 z, .bool has], .int .i64 0]) ?ret rfl ?post
            case ret => rw [res_two rfl]; go_simp
            case post => exact ⟨by rw [hR.out]; rfl, hb5⟩
end Go.Proofs.YtgobpoeccdgeiaaGreatDoor
