/- Package chiselref07: AddSeconds, Adjust. (Printed by genadd7.py.) -/
import Derived.Test.YtgobpoeccdgeiaaGreatDoorR7o
import Derived.Deep.RegionHeld3
import Derived.Deep.Cut
namespace Go.Proofs.YtgobpoeccdgeiaaGreatDoor
open Go.RowKit NumP DurP TimeP Go.Proofs.YtgobpoeccdgeiaaGreatDoorW.PrintWords
set_option linter.unusedVariables false

theorem sgn_mul (k : Int) : sgnI (k * (P14 : Nat)) = sgnI k := by
  have hp : (0 : Int) < (P14 : Nat) := by decide
  unfold sgnI
  by_cases h : k < 0
  · rw [if_pos h, if_pos (Int.mul_neg_of_neg_of_pos h hp)]
  · rw [if_neg h, if_neg (Int.not_lt.2 (Int.mul_nonneg (Int.not_lt.1 h) (Int.le_of_lt hp)))]
    by_cases h0 : k = 0
    · rw [if_pos h0, h0, Int.zero_mul, if_pos rfl]
    · rw [if_neg h0, if_neg (fun e => by rcases Int.mul_eq_zero.1 e with h1 | h1; exact h0 h1; omega)]
theorem cmp_V7 {a b : Int} (ha : NumP.Good (numU a)) (hb : NumP.Good (numU b)) : (cmpR (canonN (textN (numU a))) (canonN (textN (numU b)))).1 = sgnI (a - b) := by
  rw [canon_text ha, canon_text hb]
  show sgnI (toI (numU a) - toI (numU b)) = _
  rw [toI_numU, toI_numU, ← Int.sub_mul, sgn_mul]
theorem good36 {a : Int} (h : a.natAbs < 10 ^ 36) : NumP.Good (numU a) := by
  have hp : 0 < P14 := by decide
  refine ⟨?_, fun h2 => ?_⟩
  · show a.natAbs * P14 < P50
    rw [show P50 = 10 ^ 36 * P14 by decide]
    exact Nat.mul_lt_mul_of_pos_right h hp
  · have : a < 0 := of_decide_eq_true h2
    exact Nat.mul_pos (by omega) hp
/-- Seconds later, as chiselref07 has them. -/
theorem addS_7 {m : Mom} {l : List UInt8} (hm : validP m = true) {x : NumP.Num} (h : parseN l = .ok x) :
    addSecondsP m l = if (rndU x).natAbs ≤ 10 ^ 18 then atP m (totalP m + rndU x) else (mom0, 6) := by
  rw [addSeconds_val hm h]
  by_cases h1 : (rndU x).natAbs < 10 ^ 18
  · rw [if_pos h1, if_pos (by omega)]
  · rw [if_neg h1]
    by_cases h2 : (rndU x).natAbs ≤ 10 ^ 18
    · rw [if_pos h2]
      have hb := total_bounds hm
      refine (at_err (fun h3 => ?_)).symm
      unfold epoch at hb h3
      omega
    · rw [if_neg h2]
/-- A number rounded to millionths. -/
theorem round_6 {x : NumP.Num} (hx : NumP.Good x) : roundT (textN x) 6 [101, 118, 101, 110] = if (rndU x).natAbs < 10 ^ 36 then (textN (numU (rndU x)), 0) else ([], 40) := by
  rw [round6 hx, checked_U]
  have hab : (rndU x).natAbs = cutN .even x.neg x.d P14 := by
    unfold rndU
    split
    · rw [Int.natAbs_neg, Int.natAbs_natCast]
    · rw [Int.natAbs_natCast]
  rw [← hab]
  by_cases h : (rndU x).natAbs < 10 ^ 36
  · rw [if_pos h, if_pos h]
    rw [hab]
    rfl
  · rw [if_neg h, if_neg h]
    rfl
theorem at_same {y mo d h mi n : Nat} (hp : Parts y mo d h mi n) (z : Int) (has : Bool) : atP (mkM y mo d h mi n z has) (totalP (mkM y mo d h mi n z has)) = (mkM y mo d h mi n z has, 0) := by
  rw [total_mk hp.n2]
  exact at_total hp (mkM y mo d h mi n z has)
set_option maxRecDepth 100000 in
set_option maxHeartbeats 8000000 in
theorem AddSeconds7_r (y mo d h mi : Int) (s : ByteArray) (z : Int) (has : Bool) (n : ByteArray) (W : World) (hsl : s.size ≤ maxLen) (hnl : n.size ≤ maxLen) : Calls Tryz.prog 29 #[.agg #[.int .i64 y, .int .i64 mo, .int .i64 d, .int .i64 h, .int .i64 mi, .string s, .int .i64 z, .bool has], .string n] W fun e w' => e = .returned (momE (addSecondsP ⟨y, mo, d, h, mi, s.data.toList, z, has⟩ n.data.toList)) ∧ Below W.heap.size W w' := by
  have hT0 := TwoC.init W y mo d h mi s z has
  obtain ⟨W1, hW1⟩ : ∃ w, w = twoC W y mo d h mi s z has := ⟨_, rfl⟩
  obtain ⟨q, hq⟩ : ∃ q, q = W.heap.size := ⟨_, rfl⟩
  rw [← hW1, ← hq] at hT0
  unfold twoC at hW1
  have t0 := Lib.hid hT0
  clear hT0
  have hq' := Lib.hid hq
  have kVal := Lib.hid (fun w => Valid7_r y mo d h mi s z has w hsl)
  cases hv : validP ⟨y, mo, d, h, mi, s.data.toList, z, has⟩ with
  | false =>
    rw [hv] at kVal
    have hR : Hid (addSecondsP ⟨y, mo, d, h, mi, s.data.toList, z, has⟩ n.data.toList = (mom0, 1)) := Lib.hid (addSeconds_bad hv)
    clear hv
    go_enter Tryz.func29, Tryz.ntmps29
    go_upto_region 1 with fail
    rw [← hW1, ← hq]
    clear hW1 hq
    obtain ⟨c0, c1, c2, c3, c4, c5, c6, c7⟩ := t0.out.mom
    go_wp2_with fail
    refine (kVal.out _).mono ?_
    rintro e w1 ⟨rfl, hb⟩
    have t1 := Lib.hid (t0.out.later hb)
    clear hb t0
    clear c0 c1 c2 c3 c4 c5 c6 c7
    obtain ⟨d0, d1, d2, d3, d4, d5, d6, d7⟩ := t1.out.res
    obtain ⟨f0, f1, f2, f3, f4, f5, f6, f7⟩ := froz8 t1.out.hp
    obtain ⟨W5, hW5, hp5, hb5⟩ := put_resC t1.out hq'.out (.int .i64 0) (.int .i64 0) (.int .i64 0) (.int .i64 0) (.int .i64 0) (.string ⟨#[]⟩) (.int .i64 0) (.bool false)
    replace hW5 := Lib.hid hW5
    replace hp5 := Lib.hid hp5
    go_wp2_with fail
    rw [← hW5.out]
    clear hW5 d0 d1 d2 d3 d4 d5 d6 d7 f0 f1 f2 f3 f4 f5 f6 f7
    obtain ⟨c0, c1, c2, c3, c4, c5, c6, c7⟩ := MomAt.of_heap hp5.out
    refine bodyPost_ret (v := .tuple #[.agg #[.int .i64 0, .int .i64 0, .int .i64 0, .int .i64 0, .int .i64 0, .string ⟨#[]⟩, .int .i64 0, .bool false], .int .i64 1]) ?ret rfl ?post
    case ret => rw [res_two rfl]; go_simp
    case post => exact ⟨by rw [hR.out]; rfl, hb5⟩
  | true =>
    rw [hv] at kVal
    have hpa := fun w => Parse_r n w hnl
    unfold OutE at hpa
    cases hpn : parseN n.data.toList with
    | error k =>
      have hk := parseN_err hpn
      have hpt : parseT n.data.toList = ([], k) := by unfold parseT; rw [hpn]; rfl
      rw [hpt] at hpa
      have kPar := Lib.hid hpa
      have hR : Hid (addSecondsP ⟨y, mo, d, h, mi, s.data.toList, z, has⟩ n.data.toList = (mom0, k)) := Lib.hid (addSeconds_err hv hpn)
      have gk : k ≠ 0 := by omega
      clear hv hpa hpn hpt hk
      go_enter Tryz.func29, Tryz.ntmps29
      go_upto_region 1 with fail
      rw [← hW1, ← hq]
      clear hW1 hq
      obtain ⟨c0, c1, c2, c3, c4, c5, c6, c7⟩ := t0.out.mom
      go_wp2_with fail
      refine (kVal.out _).mono ?_
      rintro e w1 ⟨rfl, hb⟩
      have t1 := Lib.hid (t0.out.later hb)
      clear hb t0
      clear c0 c1 c2 c3 c4 c5 c6 c7
      go_wp2_with fail
      refine (kPar.out _).mono ?_
      rintro e w2 ⟨rfl, hb⟩
      have t2 := Lib.hid (t1.out.later hb)
      clear hb t1
      obtain ⟨d0, d1, d2, d3, d4, d5, d6, d7⟩ := t2.out.res
      obtain ⟨f0, f1, f2, f3, f4, f5, f6, f7⟩ := froz8 t2.out.hp
      obtain ⟨W5, hW5, hp5, hb5⟩ := put_resC t2.out hq'.out (.int .i64 0) (.int .i64 0) (.int .i64 0) (.int .i64 0) (.int .i64 0) (.string ⟨#[]⟩) (.int .i64 0) (.bool false)
      replace hW5 := Lib.hid hW5
      replace hp5 := Lib.hid hp5
      go_wp2_with fail
      rw [← hW5.out]
      clear hW5 d0 d1 d2 d3 d4 d5 d6 d7 f0 f1 f2 f3 f4 f5 f6 f7
      obtain ⟨c0, c1, c2, c3, c4, c5, c6, c7⟩ := MomAt.of_heap hp5.out
      refine bodyPost_ret (v := .tuple #[.agg #[.int .i64 0, .int .i64 0, .int .i64 0, .int .i64 0, .int .i64 0, .string ⟨#[]⟩, .int .i64 0, .bool false], .int .i64 k]) ?ret rfl ?post
      case ret => rw [res_two rfl]; go_simp
      case post => exact ⟨by rw [hR.out]; rfl, hb5⟩
    | ok x =>
      have hx := parseN_good hpn
      have hpt : parseT n.data.toList = (textN x, 0) := by unfold parseT; rw [hpn]; rfl
      rw [hpt] at hpa
      have hR0 := addS_7 hv hpn
      have hr6 := round_6 hx
      obtain ⟨u, hu⟩ : ∃ u, u = rndU x := ⟨_, rfl⟩
      rw [← hu] at hR0 hr6
      obtain ⟨X1, hX1⟩ : ∃ X : ByteArray, X = ⟨(textN x).toArray⟩ := ⟨_, rfl⟩
      have lX1 : X1.data.toList = textN x := by rw [hX1]
      have ltX1 : X1.size ≤ maxLen := by
        rw [← list_len, lX1]
        exact Nat.le_trans (textN_len hx.1) (by decide)
      have kPar := Lib.hid (fun (w : World) => (show Calls Tryz.prog 63 #[.string n] w fun e w' => e = .returned (.tuple #[.string X1, .int .i64 0]) ∧ Below w.heap.size w w' by
        rw [hX1]
        exact hpa w
        ))
      have hrn := fun w => RRound_even X1 6 w ltX1 (by decide) (by decide)
      unfold OutE at hrn
      rw [lX1, hr6] at hrn
      clear hpa hpt hX1 lX1 hr6
      by_cases h36 : u.natAbs < 10 ^ 36
      · rw [if_pos h36] at hrn
        have gu := good36 h36
        obtain ⟨X2, hX2⟩ : ∃ X : ByteArray, X = ⟨(textN (numU u)).toArray⟩ := ⟨_, rfl⟩
        have lX2 : X2.data.toList = textN (numU u) := by rw [hX2]
        have ltX2 : X2.size ≤ maxLen := by
          rw [← list_len, lX2]
          exact Nat.le_trans (textN_len gu.1) (by decide)
        have kRnd := Lib.hid (fun (w : World) => (show Calls Tryz.prog 64 #[.string X1, .int .i64 6, .string ⟨#[101, 118, 101, 110]⟩] w fun e w' => e = .returned (.tuple #[.string X2, .int .i64 0]) ∧ Below w.heap.size w w' by
          rw [hX2]
          exact hrn w
          ))
        obtain ⟨c1, hc1⟩ : ∃ c, c = sgnI (u - 1000000000000 * 1000000) := ⟨_, rfl⟩
        obtain ⟨c2, hc2⟩ : ∃ c, c = sgnI (u - (-1000000000000) * 1000000) := ⟨_, rfl⟩
        have kC1 := Lib.hid (fun (w : World) => (show Calls Tryz.prog 65 #[.string X2, .string ⟨#[49, 48, 48, 48, 48, 48, 48, 48, 48, 48, 48, 48, 48]⟩] w fun e w' => e = .returned (.int .i64 c1) ∧ Below w.heap.size w w' by
          have := cmp7_r X2 ⟨#[49, 48, 48, 48, 48, 48, 48, 48, 48, 48, 48, 48, 48]⟩ w ltX2 (by decide)
          rw [lX2, show (⟨#[49, 48, 48, 48, 48, 48, 48, 48, 48, 48, 48, 48, 48]⟩ : ByteArray).data.toList = intP (1000000000000) by decide +kernel, intP_num (n := 1000000000000) (by decide), cmp_V7 gu (good36 (by decide)), ← hc1] at this
          exact this
          ))
        have kC2 := Lib.hid (fun (w : World) => (show Calls Tryz.prog 65 #[.string X2, .string ⟨#[45, 49, 48, 48, 48, 48, 48, 48, 48, 48, 48, 48, 48, 48]⟩] w fun e w' => e = .returned (.int .i64 c2) ∧ Below w.heap.size w w' by
          have := cmp7_r X2 ⟨#[45, 49, 48, 48, 48, 48, 48, 48, 48, 48, 48, 48, 48, 48]⟩ w ltX2 (by decide)
          rw [lX2, show (⟨#[45, 49, 48, 48, 48, 48, 48, 48, 48, 48, 48, 48, 48, 48]⟩ : ByteArray).data.toList = intP (-1000000000000) by decide +kernel, intP_num (n := -1000000000000) (by decide), cmp_V7 gu (good36 (by decide)), ← hc2] at this
          exact this
          ))
        have g1 := sgn_pos (u - 1000000000000 * 1000000)
        rw [← hc1] at g1
        have g2 := sgn_neg (u - (-1000000000000) * 1000000)
        rw [← hc2] at g2
        have e1 : c1 > 0 ↔ u > 1000000000000000000 := by rw [g1]; omega
        have e2 : c2 < 0 ↔ u < -1000000000000000000 := by rw [g2]; omega
        clear g1 g2 hc1 hc2 hrn h36 gu
        by_cases h1 : u > 1000000000000000000
        · have hR : Hid (addSecondsP ⟨y, mo, d, h, mi, s.data.toList, z, has⟩ n.data.toList = (mom0, 6)) := Lib.hid (by rw [hR0, if_neg (by omega)])
          have g1 := e1.2 h1
          clear e1 e2 hR0 hv hpn hu h1 hX2 lX2
          go_enter Tryz.func29, Tryz.ntmps29
          go_upto_region 1 with fail
          rw [← hW1, ← hq]
          clear hW1 hq
          obtain ⟨c0, c1, c2, c3, c4, c5, c6, c7⟩ := t0.out.mom
          go_wp2_with fail
          refine (kVal.out _).mono ?_
          rintro e w1 ⟨rfl, hb⟩
          have t1 := Lib.hid (t0.out.later hb)
          clear hb t0
          clear c0 c1 c2 c3 c4 c5 c6 c7
          go_wp2_with fail
          refine (kPar.out _).mono ?_
          rintro e w2 ⟨rfl, hb⟩
          have t2 := Lib.hid (t1.out.later hb)
          clear hb t1
          go_wp2_with fail
          refine (kRnd.out _).mono ?_
          rintro e w3 ⟨rfl, hb⟩
          have t3 := Lib.hid (t2.out.later hb)
          clear hb t2
          go_wp2_with fail
          refine (kC1.out _).mono ?_
          rintro e w4 ⟨rfl, hb⟩
          have t4 := Lib.hid (t3.out.later hb)
          clear hb t3
          obtain ⟨d0, d1, d2, d3, d4, d5, d6, d7⟩ := t4.out.res
          obtain ⟨f0, f1, f2, f3, f4, f5, f6, f7⟩ := froz8 t4.out.hp
          obtain ⟨W5, hW5, hp5, hb5⟩ := put_resC t4.out hq'.out (.int .i64 0) (.int .i64 0) (.int .i64 0) (.int .i64 0) (.int .i64 0) (.string ⟨#[]⟩) (.int .i64 0) (.bool false)
          replace hW5 := Lib.hid hW5
          replace hp5 := Lib.hid hp5
          go_wp2_with fail
          rw [← hW5.out]
          clear hW5 d0 d1 d2 d3 d4 d5 d6 d7 f0 f1 f2 f3 f4 f5 f6 f7
          obtain ⟨c0, c1, c2, c3, c4, c5, c6, c7⟩ := MomAt.of_heap hp5.out
          refine bodyPost_ret (v := .tuple #[.agg #[.int .i64 0, .int .i64 0, .int .i64 0, .int .i64 0, .int .i64 0, .string ⟨#[]⟩, .int .i64 0, .bool false], .int .i64 6]) ?ret rfl ?post
          case ret => rw [res_two rfl]; go_simp
          case post => exact ⟨by rw [hR.out]; rfl, hb5⟩
        have g1 : ¬ c1 > 0 := fun h => h1 (e1.1 h)
        by_cases h2 : u < -1000000000000000000
        · have hR : Hid (addSecondsP ⟨y, mo, d, h, mi, s.data.toList, z, has⟩ n.data.toList = (mom0, 6)) := Lib.hid (by rw [hR0, if_neg (by omega)])
          have g2 := e2.2 h2
          clear e1 e2 hR0 hv hpn hu h1 h2 hX2 lX2
          go_enter Tryz.func29, Tryz.ntmps29
          go_upto_region 1 with fail
          rw [← hW1, ← hq]
          clear hW1 hq
          obtain ⟨c0, c1, c2, c3, c4, c5, c6, c7⟩ := t0.out.mom
          go_wp2_with fail
          refine (kVal.out _).mono ?_
          rintro e w1 ⟨rfl, hb⟩
          have t1 := Lib.hid (t0.out.later hb)
          clear hb t0
          clear c0 c1 c2 c3 c4 c5 c6 c7
          go_wp2_with fail
          refine (kPar.out _).mono ?_
          rintro e w2 ⟨rfl, hb⟩
          have t2 := Lib.hid (t1.out.later hb)
          clear hb t1
          go_wp2_with fail
          refine (kRnd.out _).mono ?_
          rintro e w3 ⟨rfl, hb⟩
          have t3 := Lib.hid (t2.out.later hb)
          clear hb t2
          go_wp2_with fail
          refine (kC1.out _).mono ?_
          rintro e w4 ⟨rfl, hb⟩
          have t4 := Lib.hid (t3.out.later hb)
          clear hb t3
          go_wp2_with fail
          refine (kC2.out _).mono ?_
          rintro e w5 ⟨rfl, hb⟩
          have t5 := Lib.hid (t4.out.later hb)
          clear hb t4
          obtain ⟨d0, d1, d2, d3, d4, d5, d6, d7⟩ := t5.out.res
          obtain ⟨f0, f1, f2, f3, f4, f5, f6, f7⟩ := froz8 t5.out.hp
          obtain ⟨W5, hW5, hp5, hb5⟩ := put_resC t5.out hq'.out (.int .i64 0) (.int .i64 0) (.int .i64 0) (.int .i64 0) (.int .i64 0) (.string ⟨#[]⟩) (.int .i64 0) (.bool false)
          replace hW5 := Lib.hid hW5
          replace hp5 := Lib.hid hp5
          go_wp2_with fail
          rw [← hW5.out]
          clear hW5 d0 d1 d2 d3 d4 d5 d6 d7 f0 f1 f2 f3 f4 f5 f6 f7
          obtain ⟨c0, c1, c2, c3, c4, c5, c6, c7⟩ := MomAt.of_heap hp5.out
          refine bodyPost_ret (v := .tuple #[.agg #[.int .i64 0, .int .i64 0, .int .i64 0, .int .i64 0, .int .i64 0, .string ⟨#[]⟩, .int .i64 0, .bool false], .int .i64 6]) ?ret rfl ?post
          case ret => rw [res_two rfl]; go_simp
          case post => exact ⟨by rw [hR.out]; rfl, hb5⟩
        have g2 : ¬ c2 < 0 := fun h => h2 (e2.1 h)
        rw [if_pos (by omega)] at hR0
        have htb := total_bounds hv
        unfold epoch at htb
        obtain ⟨y', mo', d', h', mi', n', ey, emo, ed, eh, emi, hs, hp, hz, em⟩ := mom_nat hv
        have htm : totalP ⟨y, mo, d, h, mi, s.data.toList, z, has⟩ = (micU y' mo' d' h' mi' n' : Int) - epoch := by rw [em, total_mk hp.n2]
        have hlo := fun w => local7_r y' mo' d' h' mi' n' s z has w hp hs hsl
        rw [← htm, ← ey, ← emo, ← ed, ← eh, ← emi] at hlo
        obtain ⟨T, hT⟩ : ∃ T, T = totalP ⟨y, mo, d, h, mi, s.data.toList, z, has⟩ := ⟨_, rfl⟩
        rw [← hT] at hlo hR0 htb
        obtain ⟨XL, hXL⟩ : ∃ X : ByteArray, X = ⟨(textN (numU T)).toArray⟩ := ⟨_, rfl⟩
        have lXL : XL.data.toList = textN (numU T) := by rw [hXL]
        obtain ⟨XS, hXS⟩ : ∃ X : ByteArray, X = ⟨(textN (numU (T + u))).toArray⟩ := ⟨_, rfl⟩
        have lXS : XS.data.toList = textN (numU (T + u)) := by rw [hXS]
        have hT29 : T.natAbs < 10 ^ 29 := by omega
        have ltXL : XL.size ≤ maxLen := by
          rw [← list_len, lXL]
          exact Nat.le_trans (numU_short hT29) (by decide)
        have had : addT (textN (numU T)) (textN (numU u)) = (textN (numU (T + u)), 0) := addT_U (by omega) (by omega)
        have kLoc := Lib.hid (fun (w : World) => (show Calls Tryz.prog 52 #[.agg #[.int .i64 y, .int .i64 mo, .int .i64 d, .int .i64 h, .int .i64 mi, .string s, .int .i64 z, .bool has]] w fun e w' => e = .returned (.string XL) ∧ Below w.heap.size w w' by
          rw [hXL]
          exact hlo w
          ))
        have kAdd := Lib.hid (fun (w : World) => (show Calls Tryz.prog 58 #[.string XL, .string X2] w fun e w' => e = .returned (.tuple #[.string XS, .int .i64 0]) ∧ Below w.heap.size w w' by
          have := Add_r XL X2 w ltXL ltX2
          unfold OutE at this
          rw [lXL, lX2, had] at this
          rw [hXS]
          exact this
          ))
        have hat := fun w => at7_r y mo d h mi s z has XS (T + u) w lXS (by omega)
        obtain ⟨R, hRe⟩ : ∃ R, R = atP ⟨y, mo, d, h, mi, s.data.toList, z, has⟩ (T + u) := ⟨_, rfl⟩
        rw [← hRe] at hat hR0
        have kAt := Lib.hid hat
        have hR := Lib.hid hR0
        clear hat hR0 hRe had hXL lXL hXS lXS hlo htm hT htb hs hp hz em ey emo ed eh emi hv hpn hx hu e1 e2 h1 h2 hX2 lX2 hT29 ltXL ltX2
        obtain ⟨r, k⟩ := R
        have kAt2 : Hid (∀ w, Calls Tryz.prog 59 #[.agg #[.int .i64 y, .int .i64 mo, .int .i64 d, .int .i64 h, .int .i64 mi, .string s, .int .i64 z, .bool has], .string XS] w fun e w' => e = .returned (.tuple #[.agg #[.int .i64 r.y, .int .i64 r.mo, .int .i64 r.d, .int .i64 r.h, .int .i64 r.mi, .string ⟨r.s.toArray⟩, .int .i64 r.z, .bool r.has], .int .i64 k]) ∧ Below w.heap.size w w') := kAt
        clear kAt
        go_enter Tryz.func29, Tryz.ntmps29
        go_upto_region 1 with fail
        rw [← hW1, ← hq]
        clear hW1 hq
        obtain ⟨c0, c1, c2, c3, c4, c5, c6, c7⟩ := t0.out.mom
        go_wp2_with fail
        refine (kVal.out _).mono ?_
        rintro e w1 ⟨rfl, hb⟩
        have t1 := Lib.hid (t0.out.later hb)
        clear hb t0
        clear c0 c1 c2 c3 c4 c5 c6 c7
        go_wp2_with fail
        refine (kPar.out _).mono ?_
        rintro e w2 ⟨rfl, hb⟩
        have t2 := Lib.hid (t1.out.later hb)
        clear hb t1
        go_wp2_with fail
        refine (kRnd.out _).mono ?_
        rintro e w3 ⟨rfl, hb⟩
        have t3 := Lib.hid (t2.out.later hb)
        clear hb t2
        go_wp2_with fail
        refine (kC1.out _).mono ?_
        rintro e w4 ⟨rfl, hb⟩
        have t4 := Lib.hid (t3.out.later hb)
        clear hb t3
        go_wp2_with fail
        refine (kC2.out _).mono ?_
        rintro e w5 ⟨rfl, hb⟩
        have t5 := Lib.hid (t4.out.later hb)
        clear hb t4
        obtain ⟨c0, c1, c2, c3, c4, c5, c6, c7⟩ := t5.out.mom
        go_wp2_with fail
        refine (kLoc.out _).mono ?_
        rintro e w6 ⟨rfl, hb⟩
        have t6 := Lib.hid (t5.out.later hb)
        clear hb t5
        clear c0 c1 c2 c3 c4 c5 c6 c7
        go_wp2_with fail
        refine (kAdd.out _).mono ?_
        rintro e w7 ⟨rfl, hb⟩
        have t7 := Lib.hid (t6.out.later hb)
        clear hb t6
        obtain ⟨c0, c1, c2, c3, c4, c5, c6, c7⟩ := t7.out.mom
        go_wp2_with fail
        refine (kAt2.out _).mono ?_
        rintro e w8 ⟨rfl, hb⟩
        have t8 := Lib.hid (t7.out.later hb)
        clear hb t7
        clear c0 c1 c2 c3 c4 c5 c6 c7
        obtain ⟨d0, d1, d2, d3, d4, d5, d6, d7⟩ := t8.out.res
        obtain ⟨f0, f1, f2, f3, f4, f5, f6, f7⟩ := froz8 t8.out.hp
        obtain ⟨W5, hW5, hp5, hb5⟩ := put_resC t8.out hq'.out (.int .i64 r.y) (.int .i64 r.mo) (.int .i64 r.d) (.int .i64 r.h) (.int .i64 r.mi) (.string ⟨r.s.toArray⟩) (.int .i64 r.z) (.bool r.has)
        replace hW5 := Lib.hid hW5
        replace hp5 := Lib.hid hp5
        go_wp2_with fail
        rw [← hW5.out]
        clear hW5 d0 d1 d2 d3 d4 d5 d6 d7 f0 f1 f2 f3 f4 f5 f6 f7
        obtain ⟨c0, c1, c2, c3, c4, c5, c6, c7⟩ := MomAt.of_heap hp5.out
        refine bodyPost_ret (v := .tuple #[.agg #[.int .i64 r.y, .int .i64 r.mo, .int .i64 r.d, .int .i64 r.h, .int .i64 r.mi, .string ⟨r.s.toArray⟩, .int .i64 r.z, .bool r.has], .int .i64 k]) ?ret rfl ?post
        case ret => rw [res_two rfl]; go_simp
        case post => exact ⟨by rw [hR.out]; rfl, hb5⟩
      · rw [if_neg h36] at hrn
        have kRnd := Lib.hid hrn
        have hR : Hid (addSecondsP ⟨y, mo, d, h, mi, s.data.toList, z, has⟩ n.data.toList = (mom0, 6)) := Lib.hid (by rw [hR0, if_neg (by omega)])
        clear hrn hR0 h36 hu hv hpn
        go_enter Tryz.func29, Tryz.ntmps29
        go_upto_region 1 with fail
        rw [← hW1, ← hq]
        clear hW1 hq
        obtain ⟨c0, c1, c2, c3, c4, c5, c6, c7⟩ := t0.out.mom
        go_wp2_with fail
        refine (kVal.out _).mono ?_
        rintro e w1 ⟨rfl, hb⟩
        have t1 := Lib.hid (t0.out.later hb)
        clear hb t0
        clear c0 c1 c2 c3 c4 c5 c6 c7
        go_wp2_with fail
        refine (kPar.out _).mono ?_
        rintro e w2 ⟨rfl, hb⟩
        have t2 := Lib.hid (t1.out.later hb)
        clear hb t1
        go_wp2_with fail
        refine (kRnd.out _).mono ?_
        rintro e w3 ⟨rfl, hb⟩
        have t3 := Lib.hid (t2.out.later hb)
        clear hb t2
        obtain ⟨d0, d1, d2, d3, d4, d5, d6, d7⟩ := t3.out.res
        obtain ⟨f0, f1, f2, f3, f4, f5, f6, f7⟩ := froz8 t3.out.hp
        obtain ⟨W5, hW5, hp5, hb5⟩ := put_resC t3.out hq'.out (.int .i64 0) (.int .i64 0) (.int .i64 0) (.int .i64 0) (.int .i64 0) (.string ⟨#[]⟩) (.int .i64 0) (.bool false)
        replace hW5 := Lib.hid hW5
        replace hp5 := Lib.hid hp5
        go_wp2_with fail
        rw [← hW5.out]
        clear hW5 d0 d1 d2 d3 d4 d5 d6 d7 f0 f1 f2 f3 f4 f5 f6 f7
        obtain ⟨c0, c1, c2, c3, c4, c5, c6, c7⟩ := MomAt.of_heap hp5.out
        refine bodyPost_ret (v := .tuple #[.agg #[.int .i64 0, .int .i64 0, .int .i64 0, .int .i64 0, .int .i64 0, .string ⟨#[]⟩, .int .i64 0, .bool false], .int .i64 6]) ?ret rfl ?post
        case ret => rw [res_two rfl]; go_simp
        case post => exact ⟨by rw [hR.out]; rfl, hb5⟩
set_option maxRecDepth 100000 in
set_option maxHeartbeats 8000000 in
theorem Adjust7_r (y mo d h mi : Int) (s : ByteArray) (z : Int) (has : Bool) (zone : Int) (hz : Bool) (W : World) (hsl : s.size ≤ maxLen) : Calls Tryz.prog 26 #[.agg #[.int .i64 y, .int .i64 mo, .int .i64 d, .int .i64 h, .int .i64 mi, .string s, .int .i64 z, .bool has], .int .i64 zone, .bool hz] W fun e w' => e = .returned (momE (adjustP ⟨y, mo, d, h, mi, s.data.toList, z, has⟩ zone hz)) ∧ Below W.heap.size W w' := by
  have hT0 := TwoC.init W y mo d h mi s z has
  obtain ⟨W1, hW1⟩ : ∃ w, w = twoC W y mo d h mi s z has := ⟨_, rfl⟩
  obtain ⟨q, hq⟩ : ∃ q, q = W.heap.size := ⟨_, rfl⟩
  rw [← hW1, ← hq] at hT0
  unfold twoC at hW1
  have t0 := Lib.hid hT0
  clear hT0
  have hq' := Lib.hid hq
  have kVal := Lib.hid (fun w => Valid7_r y mo d h mi s z has w hsl)
  cases hv : validP ⟨y, mo, d, h, mi, s.data.toList, z, has⟩ with
  | false =>
    rw [hv] at kVal
    have hR : Hid (adjustP ⟨y, mo, d, h, mi, s.data.toList, z, has⟩ zone hz = (mom0, 1)) := Lib.hid (by unfold adjustP; rw [if_pos (Or.inl hv)])
    clear hv
    go_enter Tryz.func26, Tryz.ntmps26
    go_upto_region 1 with fail
    rw [← hW1, ← hq]
    clear hW1 hq
    obtain ⟨c0, c1, c2, c3, c4, c5, c6, c7⟩ := t0.out.mom
    go_wp2_with fail
    refine (kVal.out _).mono ?_
    rintro e w1 ⟨rfl, hb⟩
    have t1 := Lib.hid (t0.out.later hb)
    clear hb t0
    clear c0 c1 c2 c3 c4 c5 c6 c7
    obtain ⟨d0, d1, d2, d3, d4, d5, d6, d7⟩ := t1.out.res
    obtain ⟨f0, f1, f2, f3, f4, f5, f6, f7⟩ := froz8 t1.out.hp
    obtain ⟨W5, hW5, hp5, hb5⟩ := put_resC t1.out hq'.out (.int .i64 0) (.int .i64 0) (.int .i64 0) (.int .i64 0) (.int .i64 0) (.string ⟨#[]⟩) (.int .i64 0) (.bool false)
    replace hW5 := Lib.hid hW5
    replace hp5 := Lib.hid hp5
    go_wp2_with fail
    rw [← hW5.out]
    clear hW5 d0 d1 d2 d3 d4 d5 d6 d7 f0 f1 f2 f3 f4 f5 f6 f7
    obtain ⟨c0, c1, c2, c3, c4, c5, c6, c7⟩ := MomAt.of_heap hp5.out
    refine bodyPost_ret (v := .tuple #[.agg #[.int .i64 0, .int .i64 0, .int .i64 0, .int .i64 0, .int .i64 0, .string ⟨#[]⟩, .int .i64 0, .bool false], .int .i64 1]) ?ret rfl ?post
    case ret => rw [res_two rfl]; go_simp
    case post => exact ⟨by rw [hR.out]; rfl, hb5⟩
  | true =>
    rw [hv] at kVal
    cases hz with
    | false =>
      have hR : Hid (adjustP ⟨y, mo, d, h, mi, s.data.toList, z, has⟩ zone false = (⟨y, mo, d, h, mi, s.data.toList, 0, false⟩, 0)) := Lib.hid (by unfold adjustP; rw [if_neg (by rw [hv]; simp), if_pos rfl])
      clear hv
      go_enter Tryz.func26, Tryz.ntmps26
      go_upto_region 1 with fail
      rw [← hW1, ← hq]
      clear hW1 hq
      obtain ⟨c0, c1, c2, c3, c4, c5, c6, c7⟩ := t0.out.mom
      go_wp2_with fail
      refine (kVal.out _).mono ?_
      rintro e w1 ⟨rfl, hb⟩
      have t1 := Lib.hid (t0.out.later hb)
      clear hb t0
      clear c0 c1 c2 c3 c4 c5 c6 c7
      obtain ⟨c0, c1, c2, c3, c4, c5, c6, c7⟩ := t1.out.mom
      obtain ⟨w2, hw⟩ : ∃ w, w = w1.alloc (.cells #[.int .i64 y, .int .i64 mo, .int .i64 d, .int .i64 h, .int .i64 mi, .string s, .int .i64 z, .bool has] 28) := ⟨_, rfl⟩
      obtain ⟨p, hp⟩ : ∃ p, p = w1.heap.size := ⟨_, rfl⟩
      have t2 : Hid (TwoC W q w2 y mo d h mi s z has) := Lib.hid (by rw [hw]; exact t1.out.later ((Below.refl _ _).alloc (Nat.le_refl _) _))
      have o2 : Hid (w2.heap[p]? = some (.cells #[.int .i64 y, .int .i64 mo, .int .i64 d, .int .i64 h, .int .i64 mi, .string s, .int .i64 z, .bool has] 28 (0, 0))) := Lib.hid (by rw [hw, hp]; exact (MapKept.heap_alloc _ _).1)
      have hqp : Hid (p ≠ q) := Lib.hid (by rw [hp]; exact fun e => Nat.lt_irrefl _ (e ▸ heap_lt t1.out.hq))
      go_upto_region 4 with fail
      rw [← hw, ← hp]
      clear c0 c1 c2 c3 c4 c5 c6 c7 t1 hw
      replace hp := Lib.hid hp
      obtain ⟨c0, c1, c2, c3, c4, c5, c6, c7⟩ := t2.out.mom
      have ff6 := Lib.frozen_of_heap t2.out.hq 6
      have ff7 := Lib.frozen_of_heap t2.out.hq 7
      obtain ⟨w3, hw⟩ : ∃ w, w = ((w2.setCell ⟨q, 7, none⟩ (.bool false)).setCell ⟨q, 6, none⟩ (.int .i64 0)) := ⟨_, rfl⟩
      have t3 : Hid (TwoC W q w3 y mo d h mi s 0 false) := Lib.hid (by rw [hw]; exact (TwoC.set (W := W) (q := q) (y2 := y) (mo2 := mo) (d2 := d) (h2 := h) (mi2 := mi) (s2 := s) (z2 := 0) (has2 := false) (TwoC.set (W := W) (q := q) (y2 := y) (mo2 := mo) (d2 := d) (h2 := h) (mi2 := mi) (s2 := s) (z2 := z) (has2 := false) t2.out hq'.out 7 (.bool false) rfl) hq'.out 6 (.int .i64 0) rfl))
      have o3 : Hid (w3.heap[p]? = some (.cells #[.int .i64 y, .int .i64 mo, .int .i64 d, .int .i64 h, .int .i64 mi, .string s, .int .i64 z, .bool has] 28 (0, 0))) := Lib.hid (by rw [hw]; rw [Below.heap_setCell _ _ _ _ hqp.out]; rw [Below.heap_setCell _ _ _ _ hqp.out]; exact o2.out)
      go_upto_region 9 with fail
      rw [← hw]
      clear hw c0 c1 c2 c3 c4 c5 c6 c7 t2 o2 ff6 ff7
      obtain ⟨c0, c1, c2, c3, c4, c5, c6, c7⟩ := t3.out.mom
      obtain ⟨d0, d1, d2, d3, d4, d5, d6, d7⟩ := t3.out.res
      obtain ⟨f0, f1, f2, f3, f4, f5, f6, f7⟩ := froz8 t3.out.hp
      obtain ⟨W5, hW5, hp5, hb5⟩ := put_resC t3.out hq'.out (.int .i64 y) (.int .i64 mo) (.int .i64 d) (.int .i64 h) (.int .i64 mi) (.string s) (.int .i64 0) (.bool false)
      replace hW5 := Lib.hid hW5
      replace hp5 := Lib.hid hp5
      go_wp2_with fail
      rw [← hW5.out]
      clear hW5 d0 d1 d2 d3 d4 d5 d6 d7 f0 f1 f2 f3 f4 f5 f6 f7
      obtain ⟨c0, c1, c2, c3, c4, c5, c6, c7⟩ := MomAt.of_heap hp5.out
      refine bodyPost_ret (v := .tuple #[.agg #[.int .i64 y, .int .i64 mo, .int .i64 d, .int .i64 h, .int .i64 mi, .string s, .int .i64 0, .bool false], .int .i64 0]) ?ret rfl ?post
      case ret => rw [res_two rfl]; go_simp
      case post => exact ⟨by rw [hR.out]; rfl, hb5⟩
    | true =>
      by_cases hn1 : zone < -840
      · have hR : Hid (adjustP ⟨y, mo, d, h, mi, s.data.toList, z, has⟩ zone true = (mom0, 1)) := Lib.hid (by unfold adjustP; rw [if_pos (Or.inr ⟨rfl, Or.inl hn1⟩)])
        clear hv
        go_enter Tryz.func26, Tryz.ntmps26
        go_upto_region 1 with fail
        rw [← hW1, ← hq]
        clear hW1 hq
        obtain ⟨c0, c1, c2, c3, c4, c5, c6, c7⟩ := t0.out.mom
        go_wp2_with fail
        refine (kVal.out _).mono ?_
        rintro e w1 ⟨rfl, hb⟩
        have t1 := Lib.hid (t0.out.later hb)
        clear hb t0
        clear c0 c1 c2 c3 c4 c5 c6 c7
        obtain ⟨d0, d1, d2, d3, d4, d5, d6, d7⟩ := t1.out.res
        obtain ⟨f0, f1, f2, f3, f4, f5, f6, f7⟩ := froz8 t1.out.hp
        obtain ⟨W5, hW5, hp5, hb5⟩ := put_resC t1.out hq'.out (.int .i64 0) (.int .i64 0) (.int .i64 0) (.int .i64 0) (.int .i64 0) (.string ⟨#[]⟩) (.int .i64 0) (.bool false)
        replace hW5 := Lib.hid hW5
        replace hp5 := Lib.hid hp5
        go_wp2_with fail
        rw [← hW5.out]
        clear hW5 d0 d1 d2 d3 d4 d5 d6 d7 f0 f1 f2 f3 f4 f5 f6 f7
        obtain ⟨c0, c1, c2, c3, c4, c5, c6, c7⟩ := MomAt.of_heap hp5.out
        refine bodyPost_ret (v := .tuple #[.agg #[.int .i64 0, .int .i64 0, .int .i64 0, .int .i64 0, .int .i64 0, .string ⟨#[]⟩, .int .i64 0, .bool false], .int .i64 1]) ?ret rfl ?post
        case ret => rw [res_two rfl]; go_simp
        case post => exact ⟨by rw [hR.out]; rfl, hb5⟩
      by_cases hn2 : zone > 840
      · have hR : Hid (adjustP ⟨y, mo, d, h, mi, s.data.toList, z, has⟩ zone true = (mom0, 1)) := Lib.hid (by unfold adjustP; rw [if_pos (Or.inr ⟨rfl, Or.inr hn2⟩)])
        clear hv
        go_enter Tryz.func26, Tryz.ntmps26
        go_upto_region 1 with fail
        rw [← hW1, ← hq]
        clear hW1 hq
        obtain ⟨c0, c1, c2, c3, c4, c5, c6, c7⟩ := t0.out.mom
        go_wp2_with fail
        refine (kVal.out _).mono ?_
        rintro e w1 ⟨rfl, hb⟩
        have t1 := Lib.hid (t0.out.later hb)
        clear hb t0
        clear c0 c1 c2 c3 c4 c5 c6 c7
        obtain ⟨d0, d1, d2, d3, d4, d5, d6, d7⟩ := t1.out.res
        obtain ⟨f0, f1, f2, f3, f4, f5, f6, f7⟩ := froz8 t1.out.hp
        obtain ⟨W5, hW5, hp5, hb5⟩ := put_resC t1.out hq'.out (.int .i64 0) (.int .i64 0) (.int .i64 0) (.int .i64 0) (.int .i64 0) (.string ⟨#[]⟩) (.int .i64 0) (.bool false)
        replace hW5 := Lib.hid hW5
        replace hp5 := Lib.hid hp5
        go_wp2_with fail
        rw [← hW5.out]
        clear hW5 d0 d1 d2 d3 d4 d5 d6 d7 f0 f1 f2 f3 f4 f5 f6 f7
        obtain ⟨c0, c1, c2, c3, c4, c5, c6, c7⟩ := MomAt.of_heap hp5.out
        refine bodyPost_ret (v := .tuple #[.agg #[.int .i64 0, .int .i64 0, .int .i64 0, .int .i64 0, .int .i64 0, .string ⟨#[]⟩, .int .i64 0, .bool false], .int .i64 1]) ?ret rfl ?post
        case ret => rw [res_two rfl]; go_simp
        case post => exact ⟨by rw [hR.out]; rfl, hb5⟩
      have htb := total_bounds hv
      unfold epoch at htb
      obtain ⟨y', mo', d', h', mi', n', ey, emo, ed, eh, emi, hs, hp, hzz, em⟩ := mom_nat hv
      have htm : totalP ⟨y, mo, d, h, mi, s.data.toList, z, has⟩ = (micU y' mo' d' h' mi' n' : Int) - epoch := by rw [em, total_mk hp.n2]
      have hz1 := hzz.lo
      have hz2 := hzz.hi
      cases has with
      | false =>
        have em2 : (⟨y, mo, d, h, mi, s.data.toList, zone, true⟩ : Mom) = mkM y' mo' d' h' mi' n' zone true := by rw [ey, emo, ed, eh, emi, hs]; rfl
        have hR : Hid (adjustP ⟨y, mo, d, h, mi, s.data.toList, z, false⟩ zone true = (⟨y, mo, d, h, mi, s.data.toList, zone, true⟩, 0)) := Lib.hid (by
          unfold adjustP
          rw [if_neg (by rw [hv]; simp; omega), if_neg (by decide)]
          simp only [Bool.false_eq_true, if_false, Int.zero_mul, Int.add_zero]
          rw [htm, em2]
          exact at_total hp (mkM y' mo' d' h' mi' n' zone true))
        clear hv htb hs hp hzz em ey emo ed eh emi htm hz1 hz2 em2
        go_enter Tryz.func26, Tryz.ntmps26
        go_upto_region 1 with fail
        rw [← hW1, ← hq]
        clear hW1 hq
        obtain ⟨c0, c1, c2, c3, c4, c5, c6, c7⟩ := t0.out.mom
        go_wp2_with fail
        refine (kVal.out _).mono ?_
        rintro e w1 ⟨rfl, hb⟩
        have t1 := Lib.hid (t0.out.later hb)
        clear hb t0
        clear c0 c1 c2 c3 c4 c5 c6 c7
        obtain ⟨c0, c1, c2, c3, c4, c5, c6, c7⟩ := t1.out.mom
        obtain ⟨w2, hw⟩ : ∃ w, w = w1.alloc (.cells #[.int .i64 y, .int .i64 mo, .int .i64 d, .int .i64 h, .int .i64 mi, .string s, .int .i64 z, .bool false] 28) := ⟨_, rfl⟩
        obtain ⟨p, hp⟩ : ∃ p, p = w1.heap.size := ⟨_, rfl⟩
        have t2 : Hid (TwoC W q w2 y mo d h mi s z false) := Lib.hid (by rw [hw]; exact t1.out.later ((Below.refl _ _).alloc (Nat.le_refl _) _))
        have o2 : Hid (w2.heap[p]? = some (.cells #[.int .i64 y, .int .i64 mo, .int .i64 d, .int .i64 h, .int .i64 mi, .string s, .int .i64 z, .bool false] 28 (0, 0))) := Lib.hid (by rw [hw, hp]; exact (MapKept.heap_alloc _ _).1)
        have hqp : Hid (p ≠ q) := Lib.hid (by rw [hp]; exact fun e => Nat.lt_irrefl _ (e ▸ heap_lt t1.out.hq))
        go_upto_region 4 with fail
        rw [← hw, ← hp]
        clear c0 c1 c2 c3 c4 c5 c6 c7 t1 hw
        replace hp := Lib.hid hp
        obtain ⟨c0, c1, c2, c3, c4, c5, c6, c7⟩ := t2.out.mom
        have ff6 := Lib.frozen_of_heap t2.out.hq 6
        have ff7 := Lib.frozen_of_heap t2.out.hq 7
        obtain ⟨w3, hw⟩ : ∃ w, w = (((w2.setCell ⟨q, 7, none⟩ (.bool true)).setCell ⟨q, 6, none⟩ (.int .i64 0)).setCell ⟨q, 6, none⟩ (.int .i64 zone)) := ⟨_, rfl⟩
        have t3 : Hid (TwoC W q w3 y mo d h mi s zone true) := Lib.hid (by rw [hw]; exact (TwoC.set (W := W) (q := q) (y2 := y) (mo2 := mo) (d2 := d) (h2 := h) (mi2 := mi) (s2 := s) (z2 := zone) (has2 := true) (TwoC.set (W := W) (q := q) (y2 := y) (mo2 := mo) (d2 := d) (h2 := h) (mi2 := mi) (s2 := s) (z2 := 0) (has2 := true) (TwoC.set (W := W) (q := q) (y2 := y) (mo2 := mo) (d2 := d) (h2 := h) (mi2 := mi) (s2 := s) (z2 := z) (has2 := true) t2.out hq'.out 7 (.bool true) rfl) hq'.out 6 (.int .i64 0) rfl) hq'.out 6 (.int .i64 zone) rfl))
        have o3 : Hid (w3.heap[p]? = some (.cells #[.int .i64 y, .int .i64 mo, .int .i64 d, .int .i64 h, .int .i64 mi, .string s, .int .i64 z, .bool false] 28 (0, 0))) := Lib.hid (by rw [hw]; rw [Below.heap_setCell _ _ _ _ hqp.out]; rw [Below.heap_setCell _ _ _ _ hqp.out]; rw [Below.heap_setCell _ _ _ _ hqp.out]; exact o2.out)
        go_upto_region 8 with fail
        rw [← hw]
        clear hw c0 c1 c2 c3 c4 c5 c6 c7 t2 o2 ff6 ff7
        obtain ⟨x0, x1, x2, x3, x4, x5, x6, x7⟩ := MomAt.of_heap o3.out
        obtain ⟨c0, c1, c2, c3, c4, c5, c6, c7⟩ := t3.out.mom
        obtain ⟨d0, d1, d2, d3, d4, d5, d6, d7⟩ := t3.out.res
        obtain ⟨f0, f1, f2, f3, f4, f5, f6, f7⟩ := froz8 t3.out.hp
        obtain ⟨W5, hW5, hp5, hb5⟩ := put_resC t3.out hq'.out (.int .i64 y) (.int .i64 mo) (.int .i64 d) (.int .i64 h) (.int .i64 mi) (.string s) (.int .i64 zone) (.bool true)
        replace hW5 := Lib.hid hW5
        replace hp5 := Lib.hid hp5
        go_wp2_with fail
        rw [← hW5.out]
        clear hW5 d0 d1 d2 d3 d4 d5 d6 d7 f0 f1 f2 f3 f4 f5 f6 f7
        obtain ⟨c0, c1, c2, c3, c4, c5, c6, c7⟩ := MomAt.of_heap hp5.out
        refine bodyPost_ret (v := .tuple #[.agg #[.int .i64 y, .int .i64 mo, .int .i64 d, .int .i64 h, .int .i64 mi, .string s, .int .i64 zone, .bool true], .int .i64 0]) ?ret rfl ?post
        case ret => rw [res_two rfl]; go_simp
        case post => exact ⟨by rw [hR.out]; rfl, hb5⟩
      | true =>
        have hlo := fun w => local7_r y' mo' d' h' mi' n' s z true w hp hs hsl
        rw [← htm, ← ey, ← emo, ← ed, ← eh, ← emi] at hlo
        have hR0 : adjustP ⟨y, mo, d, h, mi, s.data.toList, z, true⟩ zone true = atP ⟨y, mo, d, h, mi, s.data.toList, zone, true⟩ (totalP ⟨y, mo, d, h, mi, s.data.toList, z, true⟩ + (zone - z) * 60000000) := by
          unfold adjustP
          rw [if_neg (by rw [hv]; simp; omega), if_neg (by decide)]
          rfl
        obtain ⟨T, hT⟩ : ∃ T, T = totalP ⟨y, mo, d, h, mi, s.data.toList, z, true⟩ := ⟨_, rfl⟩
        rw [← hT] at hlo hR0 htb
        obtain ⟨D, hD⟩ : ∃ D, D = 60 * (zone - z) := ⟨_, rfl⟩
        have hu : T + (zone - z) * 60000000 = T + D * 1000000 := by omega
        rw [hu] at hR0
        obtain ⟨XL, hXL⟩ : ∃ X : ByteArray, X = ⟨(textN (numU T)).toArray⟩ := ⟨_, rfl⟩
        have lXL : XL.data.toList = textN (numU T) := by rw [hXL]
        obtain ⟨XI, hXI⟩ : ∃ X : ByteArray, X = ⟨(intP D).toArray⟩ := ⟨_, rfl⟩
        have lXI : XI.data.toList = intP D := by rw [hXI]
        obtain ⟨XS, hXS⟩ : ∃ X : ByteArray, X = ⟨(textN (numU (T + D * 1000000))).toArray⟩ := ⟨_, rfl⟩
        have lXS : XS.data.toList = textN (numU (T + D * 1000000)) := by rw [hXS]
        have hT29 : T.natAbs < 10 ^ 29 := by omega
        have ltXL : XL.size ≤ maxLen := by
          rw [← list_len, lXL]
          exact Nat.le_trans (numU_short hT29) (by decide)
        have ltXI : XI.size ≤ maxLen := by
          rw [← list_len, lXI]
          exact Nat.le_trans (int_short (n := D) (by omega)) (by decide)
        have had : addT (textN (numU T)) (intP D) = (textN (numU (T + D * 1000000)), 0) := by
          rw [intP_num (n := D) (by omega)]
          exact addT_U (by omega) (by omega)
        have kLoc := Lib.hid (fun (w : World) => (show Calls Tryz.prog 52 #[.agg #[.int .i64 y, .int .i64 mo, .int .i64 d, .int .i64 h, .int .i64 mi, .string s, .int .i64 z, .bool true]] w fun e w' => e = .returned (.string XL) ∧ Below w.heap.size w w' by
          rw [hXL]
          exact hlo w
          ))
        have kInt := Lib.hid (fun (w : World) => (show Calls Tryz.prog 53 #[.int .i64 D] w fun e w' => e = .returned (.string XI) ∧ Below w.heap.size w w' by
          rw [hXI]
          exact integer_r D w (by omega) (by omega)
          ))
        have kAdd := Lib.hid (fun (w : World) => (show Calls Tryz.prog 58 #[.string XL, .string XI] w fun e w' => e = .returned (.tuple #[.string XS, .int .i64 0]) ∧ Below w.heap.size w w' by
          have := Add_r XL XI w ltXL ltXI
          unfold OutE at this
          rw [lXL, lXI, had] at this
          rw [hXS]
          exact this
          ))
        have hat := fun w => at7_r y mo d h mi s zone true XS (T + D * 1000000) w lXS (by omega)
        obtain ⟨R, hRe⟩ : ∃ R, R = atP ⟨y, mo, d, h, mi, s.data.toList, zone, true⟩ (T + D * 1000000) := ⟨_, rfl⟩
        rw [← hRe] at hat hR0
        have kAt := Lib.hid hat
        have hR := Lib.hid hR0
        obtain ⟨E, hE⟩ : ∃ E, E = zone - z := ⟨_, rfl⟩
        have g1 : IntKind.i64.wrap (zone - z) = E := by rw [hE]; exact IntWalk.i64_in _ (by omega)
        have g2 : IntKind.i64.wrap E = E := IntWalk.i64_in _ (by omega)
        have g3 : IntKind.i64.wrap (60 * E) = D := by rw [hE, ← hD]; exact IntWalk.i64_in _ (by omega)
        have g4 : IntKind.i64.wrap D = D := IntWalk.i64_in _ (by omega)
        have g5 : zone - z = E := hE.symm
        have g6 : 60 * E = D := by rw [hE, hD]
        have g7 : -1680 ≤ E ∧ E ≤ 1680 := by omega
        clear hat hR0 hRe had hXL lXL hXI lXI hXS lXS hlo htm hT htb hs hp hzz em ey emo ed eh emi hv hT29 ltXL ltXI hu hz1 hz2 hD hE
        obtain ⟨r, k⟩ := R
        have kAt2 : Hid (∀ w, Calls Tryz.prog 59 #[.agg #[.int .i64 y, .int .i64 mo, .int .i64 d, .int .i64 h, .int .i64 mi, .string s, .int .i64 zone, .bool true], .string XS] w fun e w' => e = .returned (.tuple #[.agg #[.int .i64 r.y, .int .i64 r.mo, .int .i64 r.d, .int .i64 r.h, .int .i64 r.mi, .string ⟨r.s.toArray⟩, .int .i64 r.z, .bool r.has], .int .i64 k]) ∧ Below w.heap.size w w') := kAt
        clear kAt
        go_enter Tryz.func26, Tryz.ntmps26
        go_upto_region 1 with fail
        rw [← hW1, ← hq]
        clear hW1 hq
        obtain ⟨c0, c1, c2, c3, c4, c5, c6, c7⟩ := t0.out.mom
        go_wp2_with fail
        refine (kVal.out _).mono ?_
        rintro e w1 ⟨rfl, hb⟩
        have t1 := Lib.hid (t0.out.later hb)
        clear hb t0
        clear c0 c1 c2 c3 c4 c5 c6 c7
        obtain ⟨c0, c1, c2, c3, c4, c5, c6, c7⟩ := t1.out.mom
        obtain ⟨w2, hw⟩ : ∃ w, w = w1.alloc (.cells #[.int .i64 y, .int .i64 mo, .int .i64 d, .int .i64 h, .int .i64 mi, .string s, .int .i64 z, .bool true] 28) := ⟨_, rfl⟩
        obtain ⟨p, hp⟩ : ∃ p, p = w1.heap.size := ⟨_, rfl⟩
        have t2 : Hid (TwoC W q w2 y mo d h mi s z true) := Lib.hid (by rw [hw]; exact t1.out.later ((Below.refl _ _).alloc (Nat.le_refl _) _))
        have o2 : Hid (w2.heap[p]? = some (.cells #[.int .i64 y, .int .i64 mo, .int .i64 d, .int .i64 h, .int .i64 mi, .string s, .int .i64 z, .bool true] 28 (0, 0))) := Lib.hid (by rw [hw, hp]; exact (MapKept.heap_alloc _ _).1)
        have hqp : Hid (p ≠ q) := Lib.hid (by rw [hp]; exact fun e => Nat.lt_irrefl _ (e ▸ heap_lt t1.out.hq))
        go_upto_region 4 with fail
        rw [← hw, ← hp]
        clear c0 c1 c2 c3 c4 c5 c6 c7 t1 hw
        replace hp := Lib.hid hp
        obtain ⟨c0, c1, c2, c3, c4, c5, c6, c7⟩ := t2.out.mom
        have ff6 := Lib.frozen_of_heap t2.out.hq 6
        have ff7 := Lib.frozen_of_heap t2.out.hq 7
        obtain ⟨w3, hw⟩ : ∃ w, w = (((w2.setCell ⟨q, 7, none⟩ (.bool true)).setCell ⟨q, 6, none⟩ (.int .i64 0)).setCell ⟨q, 6, none⟩ (.int .i64 zone)) := ⟨_, rfl⟩
        have t3 : Hid (TwoC W q w3 y mo d h mi s zone true) := Lib.hid (by rw [hw]; exact (TwoC.set (W := W) (q := q) (y2 := y) (mo2 := mo) (d2 := d) (h2 := h) (mi2 := mi) (s2 := s) (z2 := zone) (has2 := true) (TwoC.set (W := W) (q := q) (y2 := y) (mo2 := mo) (d2 := d) (h2 := h) (mi2 := mi) (s2 := s) (z2 := 0) (has2 := true) (TwoC.set (W := W) (q := q) (y2 := y) (mo2 := mo) (d2 := d) (h2 := h) (mi2 := mi) (s2 := s) (z2 := z) (has2 := true) t2.out hq'.out 7 (.bool true) rfl) hq'.out 6 (.int .i64 0) rfl) hq'.out 6 (.int .i64 zone) rfl))
        have o3 : Hid (w3.heap[p]? = some (.cells #[.int .i64 y, .int .i64 mo, .int .i64 d, .int .i64 h, .int .i64 mi, .string s, .int .i64 z, .bool true] 28 (0, 0))) := Lib.hid (by rw [hw]; rw [Below.heap_setCell _ _ _ _ hqp.out]; rw [Below.heap_setCell _ _ _ _ hqp.out]; rw [Below.heap_setCell _ _ _ _ hqp.out]; exact o2.out)
        go_upto_region 8 with fail
        rw [← hw]
        clear hw c0 c1 c2 c3 c4 c5 c6 c7 t2 o2 ff6 ff7
        obtain ⟨x0, x1, x2, x3, x4, x5, x6, x7⟩ := MomAt.of_heap o3.out
        have hpl : Hid (p < w3.heap.size) := Lib.hid (heap_lt o3.out)
        have hS := Lib.hid (show w3.drew.cell? ⟨p, 0, none⟩ = some (.int .i64 y) ∧ w3.drew.cell? ⟨p, 1, none⟩ = some (.int .i64 mo) ∧ w3.drew.cell? ⟨p, 2, none⟩ = some (.int .i64 d) ∧ w3.drew.cell? ⟨p, 3, none⟩ = some (.int .i64 h) ∧ w3.drew.cell? ⟨p, 4, none⟩ = some (.int .i64 mi) ∧ w3.drew.cell? ⟨p, 5, none⟩ = some (.string s) ∧ w3.drew.cell? ⟨p, 6, none⟩ = some (.int .i64 z) ∧ w3.drew.cell? ⟨p, 7, none⟩ = some (.bool true) ∧ Hid (Below w3.heap.size w3 w3.drew) from ⟨x0, x1, x2, x3, x4, x5, x6, x7, Lib.hid (Below.refl _ _).drew⟩)
        go_upto_region 10 with fail
        clear x0 x1 x2 x3 x4 x5 x6 x7
        go_region_held3 (fun w' => w'.cell? ⟨p, 0, none⟩ = some (.int .i64 y) ∧ w'.cell? ⟨p, 1, none⟩ = some (.int .i64 mo) ∧ w'.cell? ⟨p, 2, none⟩ = some (.int .i64 d) ∧ w'.cell? ⟨p, 3, none⟩ = some (.int .i64 h) ∧ w'.cell? ⟨p, 4, none⟩ = some (.int .i64 mi) ∧ w'.cell? ⟨p, 5, none⟩ = some (.string s) ∧ w'.cell? ⟨p, 6, none⟩ = some (.int .i64 z) ∧ w'.cell? ⟨p, 7, none⟩ = some (.bool true) ∧ Hid (Below w3.heap.size w3 w'))
          (first | exact hS.out | assumption | exact mom_later hpl (by assumption) (by assumption))
          (first
            | (go_at_call 53; refine (kInt.out _).mono ?_; rintro e w' ⟨rfl, hbb⟩)
            | (go_at_call 58; refine (kAdd.out _).mono ?_; rintro e w' ⟨rfl, hbb⟩)
            | (go_at_call 52; refine (kLoc.out _).mono ?_; rintro e w' ⟨rfl, hbb⟩))
        rename_i hH
        obtain ⟨-, -, -, -, -, -, -, -, hb3⟩ := hH
        obtain ⟨w4, hw⟩ : ∃ w, w = w' := ⟨_, rfl⟩
        rw [← hw] at hb3 ⊢
        clear hw hS
        have t4 := Lib.hid (t3.out.later hb3.out)
        clear hb3 t3 o3 hpl
        obtain ⟨c0, c1, c2, c3, c4, c5, c6, c7⟩ := t4.out.mom
        go_wp2_with fail
        refine (kAt2.out _).mono ?_
        rintro e w5 ⟨rfl, hb⟩
        have t5 := Lib.hid (t4.out.later hb)
        clear hb t4
        clear c0 c1 c2 c3 c4 c5 c6 c7
        obtain ⟨d0, d1, d2, d3, d4, d5, d6, d7⟩ := t5.out.res
        obtain ⟨f0, f1, f2, f3, f4, f5, f6, f7⟩ := froz8 t5.out.hp
        obtain ⟨W5, hW5, hp5, hb5⟩ := put_resC t5.out hq'.out (.int .i64 r.y) (.int .i64 r.mo) (.int .i64 r.d) (.int .i64 r.h) (.int .i64 r.mi) (.string ⟨r.s.toArray⟩) (.int .i64 r.z) (.bool r.has)
        replace hW5 := Lib.hid hW5
        replace hp5 := Lib.hid hp5
        go_wp2_with fail
        rw [← hW5.out]
        clear hW5 d0 d1 d2 d3 d4 d5 d6 d7 f0 f1 f2 f3 f4 f5 f6 f7
        obtain ⟨c0, c1, c2, c3, c4, c5, c6, c7⟩ := MomAt.of_heap hp5.out
        refine bodyPost_ret (v := .tuple #[.agg #[.int .i64 r.y, .int .i64 r.mo, .int .i64 r.d, .int .i64 r.h, .int .i64 r.mi, .string ⟨r.s.toArray⟩, .int .i64 r.z, .bool r.has], .int .i64 k]) ?ret rfl ?post
        case ret => rw [res_two rfl]; go_simp
        case post => exact ⟨by rw [hR.out]; rfl, hb5⟩
end Go.Proofs.YtgobpoeccdgeiaaGreatDoor
