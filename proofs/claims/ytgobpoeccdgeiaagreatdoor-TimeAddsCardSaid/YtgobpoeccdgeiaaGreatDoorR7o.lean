/- Package chiselref07: at, the moment with a local time. (Printed by genat7.py.) -/
import Derived.Test.YtgobpoeccdgeiaaGreatDoorR7n
namespace Go.Proofs.YtgobpoeccdgeiaaGreatDoor
open Go.RowKit NumP DurP TimeP Go.Proofs.YtgobpoeccdgeiaaGreatDoorW.PrintWords
set_option linter.unusedVariables false

theorem cmp_U7 {a b : Int} (ha : a.natAbs < 10 ^ 30) (hb : b.natAbs < 10 ^ 30) : (cmpR (canonN (textN (numU a))) (canonN (textN (numU b)))).1 = sgnI (a - b) := by
  rw [canon_text (numU_good ha), canon_text (numU_good hb)]
  have h := cmpT_U ha hb
  rw [cmpT_val (numU_good ha) (numU_good hb)] at h
  have h1 := congrArg Prod.fst h
  exact h1
theorem sgn_neg (a : Int) : sgnI a < 0 ↔ a < 0 := by
  unfold sgnI
  split
  · simp; assumption
  · split <;> omega
theorem sgn_pos (a : Int) : sgnI a > 0 ↔ a > 0 := by
  unfold sgnI
  split
  · omega
  · split <;> omega
theorem at_low (m : Mom) {us n : Int} (hn : n = us / 86400000000) (h : n + 719162 < 0) : atP m us = (mom0, 6) := by
  unfold atP
  simp only
  rw [← hn, if_pos h]
theorem at_high (m : Mom) {us n : Int} (hn : n = us / 86400000000) (h : 3652059 ≤ n + 719162) : atP m us = (mom0, 6) := by
  unfold atP
  simp only
  rw [← hn, if_neg (by omega), if_pos]
  have := (year_9999 (n + 719162).toNat)
  omega
theorem at_mid (m : Mom) {us n : Int} {N r : Nat} (hn : n = us / 86400000000) (hr : r = (us % 86400000000).toNat) (h : n + 719162 = (N : Int)) (hN : N < 3652059) : atP m us = (⟨(dateN N).1, (dateN N).2.1, (dateN N).2.2, (r / 3600000000 : Nat), (r % 3600000000 / 60000000 : Nat), decU ((r % 60000000 : Nat) : Int), m.z, m.has⟩, 0) := by
  unfold atP
  simp only
  rw [← hn, ← hr, if_neg (by omega), h, Int.toNat_natCast, if_neg (by have := (year_9999 N).2 hN; omega)]
/-- A number in a cell. -/
def numOf (w : World) (q i : Nat) : Int := match w.cell? ⟨q, i, none⟩ with
  | some v => intOf v
  | none => 0
theorem numOf_is {w : World} {q i : Nat} {k : Int} (h : w.cell? ⟨q, i, none⟩ = some (.int .i64 k)) : numOf w q i = k := by
  unfold numOf
  rw [h]
  rfl
set_option maxRecDepth 100000 in
set_option maxHeartbeats 8000000 in
theorem at7_r (y mo d h mi : Int) (s : ByteArray) (z : Int) (has : Bool) (t : ByteArray) (us : Int) (W : World) (ht : t.data.toList = textN (numU us)) (hus : us.natAbs < 4000000000000000000) : Calls Tryz.prog 59 #[.agg #[.int .i64 y, .int .i64 mo, .int .i64 d, .int .i64 h, .int .i64 mi, .string s, .int .i64 z, .bool has], .string t] W fun e w' => e = .returned (momE (atP ⟨y, mo, d, h, mi, s.data.toList, z, has⟩ us)) ∧ Below W.heap.size W w' := by
  have hT0 := TwoC.init W y mo d h mi s z has
  obtain ⟨W1, hW1⟩ : ∃ w, w = twoC W y mo d h mi s z has := ⟨_, rfl⟩
  obtain ⟨q, hq⟩ : ∃ q, q = W.heap.size := ⟨_, rfl⟩
  rw [← hW1, ← hq] at hT0
  unfold twoC at hW1
  have t0 := Lib.hid hT0
  clear hT0
  have hq' := Lib.hid hq
  obtain ⟨x, hx, hdiv, hrnd⟩ := div_days hus
  have hmul := mul_days (n := us / 86400000000) (by omega)
  have hsub := rest_days hus
  obtain ⟨n, hn⟩ : ∃ n, n = us / 86400000000 := ⟨_, rfl⟩
  obtain ⟨r, hr⟩ : ∃ r, r = (us % 86400000000).toNat := ⟨_, rfl⟩
  have hr1 : r < 86400000000 := by
    have h1 := Int.emod_nonneg us (show (86400000000 : Int) ≠ 0 by decide)
    have h2 := Int.emod_lt_of_pos us (show (0 : Int) < 86400000000 by decide)
    omega
  have hnb : -50000000 ≤ n ∧ n ≤ 50000000 := by omega
  rw [← hn] at hrnd hmul hsub
  rw [← hr] at hsub
  obtain ⟨X1, hX1⟩ : ∃ X : ByteArray, X = ⟨(textN x).toArray⟩ := ⟨_, rfl⟩
  have lX1 : X1.data.toList = textN x := by rw [hX1]
  obtain ⟨X2, hX2⟩ : ∃ X : ByteArray, X = ⟨(intP n).toArray⟩ := ⟨_, rfl⟩
  have lX2 : X2.data.toList = intP n := by rw [hX2]
  obtain ⟨X3, hX3⟩ : ∃ X : ByteArray, X = ⟨(textN (numU (n * 86400000000))).toArray⟩ := ⟨_, rfl⟩
  have lX3 : X3.data.toList = textN (numU (n * 86400000000)) := by rw [hX3]
  obtain ⟨X4, hX4⟩ : ∃ X : ByteArray, X = ⟨(textN (numU (r : Int))).toArray⟩ := ⟨_, rfl⟩
  have lX4 : X4.data.toList = textN (numU (r : Int)) := by rw [hX4]
  have len : ∀ l : List UInt8, l.length ≤ 60 → ∀ X : ByteArray, X.data.toList = l → X.size ≤ maxLen := fun l h X e => by
    rw [← list_len, e]
    exact Nat.le_trans h (by decide)
  have lenI : ∀ k : Int, k.natAbs < 10 ^ 18 → (intP k).length ≤ 60 := fun k h => Nat.le_trans (int_short h) (by decide)
  have lenU : ∀ k : Int, k.natAbs < 10 ^ 29 → (textN (numU k)).length ≤ 60 := fun k h => numU_short h
  have ltt := len _ (lenU us (by omega)) t ht
  have ltX1 := len _ (textN_len hx.1) X1 lX1
  have ltX2 := len _ (lenI n (by omega)) X2 lX2
  have ltX3 := len _ (lenU _ (by omega)) X3 lX3
  have ltX4 := len _ (lenU _ (by omega)) X4 lX4
  have kDiv := Lib.hid (fun (w : World) => (show Calls Tryz.prog 99 #[.string t, .string ⟨#[56, 54, 52, 48, 48]⟩] w fun e w' => e = .returned (.tuple #[.string X1, .int .i64 0]) ∧ Below w.heap.size w w' by
    have := Div_r t ⟨#[56, 54, 52, 48, 48]⟩ w ltt (by decide)
    unfold OutE at this
    rw [ht, show (⟨#[56, 54, 52, 48, 48]⟩ : ByteArray).data.toList = [56, 54, 52, 48, 48] from rfl, hdiv] at this
    rw [hX1]
    exact this
    ))
  have kRnd := Lib.hid (fun (w : World) => (show Calls Tryz.prog 64 #[.string X1, .int .i64 0, .string ⟨#[102, 108, 111, 111, 114]⟩] w fun e w' => e = .returned (.tuple #[.string X2, .int .i64 0]) ∧ Below w.heap.size w w' by
    have := RRound_floor X1 0 w ltX1 (by decide) (by decide)
    unfold OutE at this
    rw [lX1, hrnd] at this
    rw [hX2]
    exact this
    ))
  obtain ⟨c1, hc1⟩ : ∃ c, c = sgnI (n * 1000000 - (-1000000) * 1000000) := ⟨_, rfl⟩
  obtain ⟨c2, hc2⟩ : ∃ c, c = sgnI (n * 1000000 - 4000000 * 1000000) := ⟨_, rfl⟩
  have kC1 := Lib.hid (fun (w : World) => (show Calls Tryz.prog 65 #[.string X2, .string ⟨#[45, 49, 48, 48, 48, 48, 48, 48]⟩] w fun e w' => e = .returned (.int .i64 c1) ∧ Below w.heap.size w w' by
    have := cmp7_r X2 ⟨#[45, 49, 48, 48, 48, 48, 48, 48]⟩ w ltX2 (by decide)
    rw [lX2, show (⟨#[45, 49, 48, 48, 48, 48, 48, 48]⟩ : ByteArray).data.toList = intP (-1000000) by decide +kernel, intP_num (n := n) (by omega), intP_num (n := -1000000) (by decide), cmp_U7 (by omega) (by decide), ← hc1] at this
    exact this
    ))
  have kC2 := Lib.hid (fun (w : World) => (show Calls Tryz.prog 65 #[.string X2, .string ⟨#[52, 48, 48, 48, 48, 48, 48]⟩] w fun e w' => e = .returned (.int .i64 c2) ∧ Below w.heap.size w w' by
    have := cmp7_r X2 ⟨#[52, 48, 48, 48, 48, 48, 48]⟩ w ltX2 (by decide)
    rw [lX2, show (⟨#[52, 48, 48, 48, 48, 48, 48]⟩ : ByteArray).data.toList = intP (4000000) by decide +kernel, intP_num (n := n) (by omega), intP_num (n := 4000000) (by decide), cmp_U7 (by omega) (by decide), ← hc2] at this
    exact this
    ))
  have g1 := sgn_neg (n * 1000000 - (-1000000) * 1000000)
  rw [← hc1] at g1
  have g2 := sgn_pos (n * 1000000 - 4000000 * 1000000)
  rw [← hc2] at g2
  have e1 : c1 < 0 ↔ n < -1000000 := by rw [g1]; omega
  have e2 : c2 > 0 ↔ n > 4000000 := by rw [g2]; omega
  clear g1 g2 hc1 hc2
  have kMul := Lib.hid (fun (w : World) => (show Calls Tryz.prog 100 #[.string X2, .string ⟨#[56, 54, 52, 48, 48]⟩] w fun e w' => e = .returned (.tuple #[.string X3, .int .i64 0]) ∧ Below w.heap.size w w' by
    have := Mul_r X2 ⟨#[56, 54, 52, 48, 48]⟩ w ltX2 (by decide)
    unfold OutE at this
    rw [lX2, show (⟨#[56, 54, 52, 48, 48]⟩ : ByteArray).data.toList = [56, 54, 52, 48, 48] from rfl, hmul] at this
    rw [hX3]
    exact this
    ))
  have kSub := Lib.hid (fun (w : World) => (show Calls Tryz.prog 51 #[.string t, .string X3] w fun e w' => e = .returned (.tuple #[.string X4, .int .i64 0]) ∧ Below w.heap.size w w' by
    have := Sub_r t X3 w ltt ltX3
    unfold OutE at this
    rw [ht, lX3, hsub] at this
    rw [hX4]
    exact this
    ))
  have kWh := Lib.hid (fun (w : World) => (show Calls Tryz.prog 101 #[.string X2] w fun e w' => e = .returned (.int .i64 n) ∧ w = w' by
    exact whole7_r X2 n w (by omega) lX2
    ))
  have kEp := Lib.hid (fun (w : World) => day_epoch w)
  have kTop := Lib.hid (fun (w : World) => (show Calls Tryz.prog 55 #[.int .i64 10000, .int .i64 1, .int .i64 1] w fun e w' => e = .returned (.int .i64 3652059) ∧ w = w' by
    have := Number_r 10000 1 1 w (by decide) (by decide) (by decide) (by decide) (by decide) (by decide)
    rw [show dayN 10000 1 1 = 3652059 by decide +kernel] at this
    exact this
    ))
  clear hdiv hrnd hmul hsub hX1 hX2 hX3 lX1 lX2 lX3 ltX1 ltX2 ltX3 ltt hx
  replace ht := Lib.hid ht
  replace hus := Lib.hid hus
  by_cases h1 : n < -1000000
  · have hR : Hid (atP ⟨y, mo, d, h, mi, s.data.toList, z, has⟩ us = (mom0, 6)) := Lib.hid (at_low _ hn (by omega))
    have g1 := e1.2 h1
    clear e1 e2 hn hr hX4 lX4
    go_enter Tryz.func59, Tryz.ntmps59
    go_upto_region 1 with fail
    rw [← hW1, ← hq]
    clear hW1 hq
    go_wp2_with fail
    refine (kDiv.out _).mono ?_
    rintro e w1 ⟨rfl, hb⟩
    have t1 := Lib.hid (t0.out.later hb)
    clear hb t0
    go_wp2_with fail
    refine (kRnd.out _).mono ?_
    rintro e w2 ⟨rfl, hb⟩
    have t2 := Lib.hid (t1.out.later hb)
    clear hb t1
    go_wp2_with fail
    refine (kC1.out _).mono ?_
    rintro e w3 ⟨rfl, hb⟩
    have t3 := Lib.hid (t2.out.later hb)
    clear hb t2
    obtain ⟨d0, d1, d2, d3, d4, d5, d6, d7⟩ := t3.out.res
    obtain ⟨f0, f1, f2, f3, f4, f5, f6, f7⟩ := froz8 t3.out.hp
    obtain ⟨W5, hW5, hp5, hb5⟩ := put_resC t3.out hq'.out (.int .i64 0) (.int .i64 0) (.int .i64 0) (.int .i64 0) (.int .i64 0) (.string ⟨#[]⟩) (.int .i64 0) (.bool false)
    replace hW5 := Lib.hid hW5
    replace hp5 := Lib.hid hp5
    go_wp2_with fail
    rw [← hW5.out]
    clear hW5 d0 d1 d2 d3 d4 d5 d6 d7 f0 f1 f2 f3 f4 f5 f6 f7
    obtain ⟨c0, c1, c2, c3, c4, c5, c6, c7⟩ := MomAt.of_heap hp5.out
    refine bodyPost_ret (v := .tuple #[.agg #[.int .i64 0, .int .i64 0, .int .i64 0, .int .i64 0, .int .i64 0, .string ⟨#[]⟩, .int .i64 0, .bool false], .int .i64 6]) ?ret rfl ?post
    case ret => rw [res_two rfl]; go_simp
    case post => exact ⟨by rw [hR.out]; rfl, hb5⟩
  have g1 : ¬ c1 < 0 := fun h => h1 (e1.1 h)
  by_cases h2 : n > 4000000
  · have hR : Hid (atP ⟨y, mo, d, h, mi, s.data.toList, z, has⟩ us = (mom0, 6)) := Lib.hid (at_high _ hn (by omega))
    have g2 := e2.2 h2
    clear e1 e2 hn hr hX4 lX4
    go_enter Tryz.func59, Tryz.ntmps59
    go_upto_region 1 with fail
    rw [← hW1, ← hq]
    clear hW1 hq
    go_wp2_with fail
    refine (kDiv.out _).mono ?_
    rintro e w1 ⟨rfl, hb⟩
    have t1 := Lib.hid (t0.out.later hb)
    clear hb t0
    go_wp2_with fail
    refine (kRnd.out _).mono ?_
    rintro e w2 ⟨rfl, hb⟩
    have t2 := Lib.hid (t1.out.later hb)
    clear hb t1
    go_wp2_with fail
    refine (kC1.out _).mono ?_
    rintro e w3 ⟨rfl, hb⟩
    have t3 := Lib.hid (t2.out.later hb)
    clear hb t2
    go_wp2_with fail
    refine (kC2.out _).mono ?_
    rintro e w4 ⟨rfl, hb⟩
    have t4 := Lib.hid (t3.out.later hb)
    clear hb t3
    obtain ⟨d0, d1, d2, d3, d4, d5, d6, d7⟩ := t4.out.res
    obtain ⟨f0, f1, f2, f3, f4, f5, f6, f7⟩ := froz8 t4.out.hp
    obtain ⟨W5, hW5, hp5, hb5⟩ := put_resC t4.out hq'.out (.int .i64 0) (.int .i64 0) (.int .i64 0) (.int .i64 0) (.int .i64 0) (.string ⟨#[]⟩) (.int .i64 0) (.bool false)
    replace hW5 := Lib.hid hW5
    replace hp5 := Lib.hid hp5
    go_wp2_with fail
    rw [← hW5.out]
    clear hW5 d0 d1 d2 d3 d4 d5 d6 d7 f0 f1 f2 f3 f4 f5 f6 f7
    obtain ⟨c0, c1, c2, c3, c4, c5, c6, c7⟩ := MomAt.of_heap hp5.out
    refine bodyPost_ret (v := .tuple #[.agg #[.int .i64 0, .int .i64 0, .int .i64 0, .int .i64 0, .int .i64 0, .string ⟨#[]⟩, .int .i64 0, .bool false], .int .i64 6]) ?ret rfl ?post
    case ret => rw [res_two rfl]; go_simp
    case post => exact ⟨by rw [hR.out]; rfl, hb5⟩
  have g2 : ¬ c2 > 0 := fun h => h2 (e2.1 h)
  clear e1 e2
  obtain ⟨N', hN'⟩ : ∃ N' : Int, n + 719162 = N' := ⟨_, rfl⟩
  by_cases h3 : N' < 0
  · have hR : Hid (atP ⟨y, mo, d, h, mi, s.data.toList, z, has⟩ us = (mom0, 6)) := Lib.hid (at_low _ hn (by omega))
    clear hn hr hX4 lX4
    go_enter Tryz.func59, Tryz.ntmps59
    go_upto_region 1 with fail
    rw [← hW1, ← hq]
    clear hW1 hq
    go_wp2_with fail
    refine (kDiv.out _).mono ?_
    rintro e w1 ⟨rfl, hb⟩
    have t1 := Lib.hid (t0.out.later hb)
    clear hb t0
    go_wp2_with fail
    refine (kRnd.out _).mono ?_
    rintro e w2 ⟨rfl, hb⟩
    have t2 := Lib.hid (t1.out.later hb)
    clear hb t1
    go_wp2_with fail
    refine (kC1.out _).mono ?_
    rintro e w3 ⟨rfl, hb⟩
    have t3 := Lib.hid (t2.out.later hb)
    clear hb t2
    go_wp2_with fail
    refine (kC2.out _).mono ?_
    rintro e w4 ⟨rfl, hb⟩
    have t4 := Lib.hid (t3.out.later hb)
    clear hb t3
    go_wp2_with fail
    refine (kMul.out _).mono ?_
    rintro e w5 ⟨rfl, hb⟩
    have t5 := Lib.hid (t4.out.later hb)
    clear hb t4
    go_wp2_with fail
    refine (kSub.out _).mono ?_
    rintro e w6 ⟨rfl, hb⟩
    have t6 := Lib.hid (t5.out.later hb)
    clear hb t5
    go_wp2_with fail
    refine (kWh.out _).mono ?_
    rintro e wp ⟨rfl, rfl⟩
    go_wp2_with fail
    refine (kEp.out _).mono ?_
    rintro e wp ⟨rfl, rfl⟩
    obtain ⟨d0, d1, d2, d3, d4, d5, d6, d7⟩ := t6.out.res
    obtain ⟨f0, f1, f2, f3, f4, f5, f6, f7⟩ := froz8 t6.out.hp
    obtain ⟨W5, hW5, hp5, hb5⟩ := put_resC t6.out hq'.out (.int .i64 0) (.int .i64 0) (.int .i64 0) (.int .i64 0) (.int .i64 0) (.string ⟨#[]⟩) (.int .i64 0) (.bool false)
    replace hW5 := Lib.hid hW5
    replace hp5 := Lib.hid hp5
    go_wp2_with fail
    rw [← hW5.out]
    clear hW5 d0 d1 d2 d3 d4 d5 d6 d7 f0 f1 f2 f3 f4 f5 f6 f7
    obtain ⟨c0, c1, c2, c3, c4, c5, c6, c7⟩ := MomAt.of_heap hp5.out
    refine bodyPost_ret (v := .tuple #[.agg #[.int .i64 0, .int .i64 0, .int .i64 0, .int .i64 0, .int .i64 0, .string ⟨#[]⟩, .int .i64 0, .bool false], .int .i64 6]) ?ret rfl ?post
    case ret => rw [res_two rfl]; go_simp
    case post => exact ⟨by rw [hR.out]; rfl, hb5⟩
  by_cases h4 : N' ≥ 3652059
  · have hR : Hid (atP ⟨y, mo, d, h, mi, s.data.toList, z, has⟩ us = (mom0, 6)) := Lib.hid (at_high _ hn (by omega))
    clear hn hr hX4 lX4
    go_enter Tryz.func59, Tryz.ntmps59
    go_upto_region 1 with fail
    rw [← hW1, ← hq]
    clear hW1 hq
    go_wp2_with fail
    refine (kDiv.out _).mono ?_
    rintro e w1 ⟨rfl, hb⟩
    have t1 := Lib.hid (t0.out.later hb)
    clear hb t0
    go_wp2_with fail
    refine (kRnd.out _).mono ?_
    rintro e w2 ⟨rfl, hb⟩
    have t2 := Lib.hid (t1.out.later hb)
    clear hb t1
    go_wp2_with fail
    refine (kC1.out _).mono ?_
    rintro e w3 ⟨rfl, hb⟩
    have t3 := Lib.hid (t2.out.later hb)
    clear hb t2
    go_wp2_with fail
    refine (kC2.out _).mono ?_
    rintro e w4 ⟨rfl, hb⟩
    have t4 := Lib.hid (t3.out.later hb)
    clear hb t3
    go_wp2_with fail
    refine (kMul.out _).mono ?_
    rintro e w5 ⟨rfl, hb⟩
    have t5 := Lib.hid (t4.out.later hb)
    clear hb t4
    go_wp2_with fail
    refine (kSub.out _).mono ?_
    rintro e w6 ⟨rfl, hb⟩
    have t6 := Lib.hid (t5.out.later hb)
    clear hb t5
    go_wp2_with fail
    refine (kWh.out _).mono ?_
    rintro e wp ⟨rfl, rfl⟩
    go_wp2_with fail
    refine (kEp.out _).mono ?_
    rintro e wp ⟨rfl, rfl⟩
    go_wp2_with fail
    refine (kTop.out _).mono ?_
    rintro e wp ⟨rfl, rfl⟩
    obtain ⟨d0, d1, d2, d3, d4, d5, d6, d7⟩ := t6.out.res
    obtain ⟨f0, f1, f2, f3, f4, f5, f6, f7⟩ := froz8 t6.out.hp
    obtain ⟨W5, hW5, hp5, hb5⟩ := put_resC t6.out hq'.out (.int .i64 0) (.int .i64 0) (.int .i64 0) (.int .i64 0) (.int .i64 0) (.string ⟨#[]⟩) (.int .i64 0) (.bool false)
    replace hW5 := Lib.hid hW5
    replace hp5 := Lib.hid hp5
    go_wp2_with fail
    rw [← hW5.out]
    clear hW5 d0 d1 d2 d3 d4 d5 d6 d7 f0 f1 f2 f3 f4 f5 f6 f7
    obtain ⟨c0, c1, c2, c3, c4, c5, c6, c7⟩ := MomAt.of_heap hp5.out
    refine bodyPost_ret (v := .tuple #[.agg #[.int .i64 0, .int .i64 0, .int .i64 0, .int .i64 0, .int .i64 0, .string ⟨#[]⟩, .int .i64 0, .bool false], .int .i64 6]) ?ret rfl ?post
    case ret => rw [res_two rfl]; go_simp
    case post => exact ⟨by rw [hR.out]; rfl, hb5⟩
  obtain ⟨N, hN⟩ : ∃ N : Nat, N' = (N : Int) := ⟨N'.toNat, by omega⟩
  have hNlt : N < 3652059 := by omega
  have hR0 := at_mid ⟨y, mo, d, h, mi, s.data.toList, z, has⟩ hn hr (by rw [hN']; exact hN) hNlt
  obtain ⟨A, hA⟩ : ∃ A, A = r / 3600000000 := ⟨_, rfl⟩
  obtain ⟨r2, hr2⟩ : ∃ A, A = r % 3600000000 := ⟨_, rfl⟩
  obtain ⟨B, hB⟩ : ∃ A, A = r2 / 60000000 := ⟨_, rfl⟩
  obtain ⟨r3, hr3⟩ : ∃ A, A = r2 % 60000000 := ⟨_, rfl⟩
  have hr3' : r % 60000000 = r3 := by rw [hr3, hr2]; omega
  rw [← hA, ← hr2, ← hB, hr3'] at hR0
  have i1 := idiv_U (a := r) (b := 3600000000) (by omega) (by decide) (by decide)
  have m1 := mod_U (a := r) (b := 3600000000) (by omega) (by decide) (by decide)
  have i2 := idiv_U (a := r2) (b := 60000000) (by omega) (by decide) (by decide)
  have m2 := mod_U (a := r2) (b := 60000000) (by omega) (by decide) (by decide)
  rw [← sec_3600, ← hA] at i1
  rw [← sec_3600, ← hr2] at m1
  rw [← sec_60, ← hB] at i2
  rw [← sec_60, ← hr3] at m2
  rw [← whole_sec (r := r3) (by omega)] at hR0
  obtain ⟨X5, hX5⟩ : ∃ X : ByteArray, X = ⟨(textN (numU (r2 : Int))).toArray⟩ := ⟨_, rfl⟩
  have lX5 : X5.data.toList = textN (numU (r2 : Int)) := by rw [hX5]
  obtain ⟨X6, hX6⟩ : ∃ X : ByteArray, X = ⟨(textN (numU (r3 : Int))).toArray⟩ := ⟨_, rfl⟩
  have lX6 : X6.data.toList = textN (numU (r3 : Int)) := by rw [hX6]
  obtain ⟨XA, hXA⟩ : ∃ X : ByteArray, X = ⟨(intP (A : Int)).toArray⟩ := ⟨_, rfl⟩
  have lXA : XA.data.toList = intP (A : Int) := by rw [hXA]
  obtain ⟨XB, hXB⟩ : ∃ X : ByteArray, X = ⟨(intP (B : Int)).toArray⟩ := ⟨_, rfl⟩
  have lXB : XB.data.toList = intP (B : Int) := by rw [hXB]
  have ltX5 := len _ (lenU _ (by omega)) X5 lX5
  rw [← lX6] at hR0
  have hA1 : A < 24 := by omega
  have hB1 : B < 60 := by omega
  have kI1 := Lib.hid (fun (w : World) => (show Calls Tryz.prog 102 #[.string X4, .string ⟨#[51, 54, 48, 48]⟩] w fun e w' => e = .returned (.tuple #[.string XA, .int .i64 0]) ∧ Below w.heap.size w w' by
    have := IDiv_r X4 ⟨#[51, 54, 48, 48]⟩ w ltX4 (by decide)
    unfold OutE at this
    rw [lX4, show (⟨#[51, 54, 48, 48]⟩ : ByteArray).data.toList = [51, 54, 48, 48] from rfl, i1] at this
    rw [hXA]
    exact this
    ))
  have kM1 := Lib.hid (fun (w : World) => (show Calls Tryz.prog 103 #[.string X4, .string ⟨#[51, 54, 48, 48]⟩] w fun e w' => e = .returned (.tuple #[.string X5, .int .i64 0]) ∧ Below w.heap.size w w' by
    have := Mod_r X4 ⟨#[51, 54, 48, 48]⟩ w ltX4 (by decide)
    unfold OutE at this
    rw [lX4, show (⟨#[51, 54, 48, 48]⟩ : ByteArray).data.toList = [51, 54, 48, 48] from rfl, m1] at this
    rw [hX5]
    exact this
    ))
  have kI2 := Lib.hid (fun (w : World) => (show Calls Tryz.prog 102 #[.string X5, .string ⟨#[54, 48]⟩] w fun e w' => e = .returned (.tuple #[.string XB, .int .i64 0]) ∧ Below w.heap.size w w' by
    have := IDiv_r X5 ⟨#[54, 48]⟩ w ltX5 (by decide)
    unfold OutE at this
    rw [lX5, show (⟨#[54, 48]⟩ : ByteArray).data.toList = [54, 48] from rfl, i2] at this
    rw [hXB]
    exact this
    ))
  have kM2 := Lib.hid (fun (w : World) => (show Calls Tryz.prog 103 #[.string X5, .string ⟨#[54, 48]⟩] w fun e w' => e = .returned (.tuple #[.string X6, .int .i64 0]) ∧ Below w.heap.size w w' by
    have := Mod_r X5 ⟨#[54, 48]⟩ w ltX5 (by decide)
    unfold OutE at this
    rw [lX5, show (⟨#[54, 48]⟩ : ByteArray).data.toList = [54, 48] from rfl, m2] at this
    rw [hX6]
    exact this
    ))
  have kWA := Lib.hid (fun (w : World) => (show Calls Tryz.prog 101 #[.string XA] w fun e w' => e = .returned (.int .i64 (A : Int)) ∧ w = w' by
    exact whole7_r XA A w (by omega) lXA
    ))
  have kWB := Lib.hid (fun (w : World) => (show Calls Tryz.prog 101 #[.string XB] w fun e w' => e = .returned (.int .i64 (B : Int)) ∧ w = w' by
    exact whole7_r XB B w (by omega) lXB
    ))
  clear i1 m1 i2 m2 hX4 lX4 hX5 lX5 hX6 lX6 hXA lXA hXB lXB ltX4 ltX5 len lenI lenU hA hr2 hB hr3 hr3' hn hr hr1 hA1 hB1
  have hYs := Lib.hid (fun (Y : Nat) => year_of (N := N) (Y := Y) hNlt)
  have hMs := Lib.hid (fun (M Y : Nat) => mon_of (N := N) (M := M) (Y := Y))
  have hD31 : Hid ((dateN N).2.2 ≤ 31) := Lib.hid (by
    have h1 := (dateN_spec N).1.d2
    have h2 := lenM_le31 (dateN N).1 (dateN N).2.1
    omega)
  replace hR0 := Lib.hid hR0
  have kNum : Hid (∀ (a b : Nat) (A B : Int), A = (a : Int) → B = (b : Int) → 1 ≤ a → a ≤ 10000 → 1 ≤ b → b ≤ 12 → ∀ w, Calls Tryz.prog 55 #[.int .i64 A, .int .i64 B, .int .i64 1] w fun e w' => e = .returned (.int .i64 (dayN a b 1 : Nat)) ∧ w = w') := Lib.hid (fun a b A B ha hb h1 h2 h3 h4 w => by
    rw [ha, hb]
    exact Number_r a b 1 w h1 h2 h3 h4 (by decide) (by decide))
  have hst : Hid (yearS (N / 366 + 1) ≤ N) := Lib.hid (year_start N)
  obtain ⟨Q, hQ⟩ : ∃ Q, Q = N / 366 := ⟨_, rfl⟩
  rw [← hQ] at hst
  have gq1 : N' / 366 = (Q : Int) := by omega
  have gq2 : N'.tdiv 366 = (Q : Int) := by rw [Int.tdiv_eq_ediv_of_nonneg (by omega), gq1]
  have hQ1 : Q < 9999 := by omega
  replace hQ := Lib.hid hQ
  replace hN := Lib.hid hN
  clear hNlt
  go_enter Tryz.func59, Tryz.ntmps59
  go_upto_region 1 with fail
  rw [← hW1, ← hq]
  clear hW1 hq
  go_wp2_with fail
  refine (kDiv.out _).mono ?_
  rintro e w1 ⟨rfl, hb⟩
  have t1 := Lib.hid (t0.out.later hb)
  clear hb t0
  go_wp2_with fail
  refine (kRnd.out _).mono ?_
  rintro e w2 ⟨rfl, hb⟩
  have t2 := Lib.hid (t1.out.later hb)
  clear hb t1
  go_wp2_with fail
  refine (kC1.out _).mono ?_
  rintro e w3 ⟨rfl, hb⟩
  have t3 := Lib.hid (t2.out.later hb)
  clear hb t2
  go_wp2_with fail
  refine (kC2.out _).mono ?_
  rintro e w4 ⟨rfl, hb⟩
  have t4 := Lib.hid (t3.out.later hb)
  clear hb t3
  go_wp2_with fail
  refine (kMul.out _).mono ?_
  rintro e w5 ⟨rfl, hb⟩
  have t5 := Lib.hid (t4.out.later hb)
  clear hb t4
  go_wp2_with fail
  refine (kSub.out _).mono ?_
  rintro e w6 ⟨rfl, hb⟩
  have t6 := Lib.hid (t5.out.later hb)
  clear hb t5
  go_wp2_with fail
  refine (kWh.out _).mono ?_
  rintro e wp ⟨rfl, rfl⟩
  go_wp2_with fail
  refine (kEp.out _).mono ?_
  rintro e wp ⟨rfl, rfl⟩
  go_wp2_with fail
  refine (kTop.out _).mono ?_
  rintro e wp ⟨rfl, rfl⟩
  obtain ⟨c0, c1, c2, c3, c4, c5, c6, c7⟩ := t6.out.mom
  have ff := Lib.frozen_of_heap t6.out.hq 0
  obtain ⟨wy, hw⟩ : ∃ w, w = w6.setCell ⟨q, 0, none⟩ (.int .i64 ((Q : Int) + 1)) := ⟨_, rfl⟩
  have ty : Hid (TwoC W q wy ((Q : Int) + 1) mo d h mi s z has) := Lib.hid (by rw [hw]; exact t6.out.set hq'.out 0 (.int .i64 ((Q : Int) + 1)) rfl)
  go_wp2_with fail
  rw [← hw]
  clear hw ff c0 c1 c2 c3 c4 c5 c6 c7 t6
  go_loopw [73] (fun _ wr => ∃ Y : Nat, 1 ≤ Y ∧ Y ≤ 9999 ∧ Hid (yearS Y ≤ N) ∧ Hid (TwoC W q wr (Y : Int) mo d h mi s z has)) (fun _ wr => (9999 - numOf wr q 0).toNat)
  case atStart => exact ⟨Q + 1, by omega, by omega, hst, by push_cast; exact ty⟩
  case round =>
    obtain ⟨Y, y1, y2, hYN, t1⟩ := hrel
    clear ty hst
    obtain ⟨w1, hw1⟩ : ∃ w, w = wr := ⟨_, rfl⟩
    rw [← hw1] at t1 ⊢
    clear hw1
    obtain ⟨c0, c1, c2, c3, c4, c5, c6, c7⟩ := t1.out.mom
    obtain ⟨b, hb⟩ : ∃ b : Bool, b = decide (Y < 9999 ∧ yearS (Y + 1) ≤ N) := ⟨_, rfl⟩
    go_upto_region 11 with fail
    go_cut [73] from 63 to 72 (fun v wx => v = .bool b ∧ wx = w1)
    case first =>
      by_cases hy : Y < 9999
      · have hy' : (Y : Int) < 9999 := by omega
        have kn := Lib.hid (kNum.out (Y + 1) 1 ((Y : Int) + 1) 1 (by push_cast; rfl) rfl (by omega) (by omega) (by decide) (by decide))
        have e0 : dayN (Y + 1) 1 1 = yearS (Y + 1) := rfl
        rw [e0] at kn
        obtain ⟨S, hS⟩ : ∃ S, S = yearS (Y + 1) := ⟨_, rfl⟩
        rw [← hS] at kn hb
        replace hS := Lib.hid hS
        clear e0
        by_cases hle : S ≤ N
        · rw [decide_eq_true ⟨hy, hle⟩] at hb
          subst hb
          have hle' : (S : Int) ≤ N' := by have := hN.out; omega
          go_wp2_with fail
          refine (kn.out _).mono ?_
          rintro e wp ⟨rfl, rfl⟩
          go_wp2_with fail
          go_meet
          exact ⟨rfl, rfl⟩
        · rw [decide_eq_false (fun h => hle h.2)] at hb
          subst hb
          have hle' : ¬ (S : Int) ≤ N' := by have := hN.out; omega
          go_wp2_with fail
          refine (kn.out _).mono ?_
          rintro e wp ⟨rfl, rfl⟩
          go_wp2_with fail
          go_meet
          exact ⟨by first | rfl | rw [decide_eq_false (by omega)], rfl⟩
      · have hy' : ¬ (Y : Int) < 9999 := by omega
        rw [decide_eq_false (fun h => hy h.1)] at hb
        subst hb
        go_wp2_with fail
        go_meet
        exact ⟨rfl, rfl⟩
    case rest =>
    obtain ⟨rfl, hcw⟩ := hcut
    replace hcw := hcw.symm
    subst hcw
    cases b with
    | true =>
      have hb2 := of_decide_eq_true hb.symm
      have hy := hb2.1
      have hYN2 := Lib.hid hb2.2
      clear hb hb2 hYN
      have ff := Lib.frozen_of_heap t1.out.hq 0
      obtain ⟨w2, hw⟩ : ∃ w, w = w1.setCell ⟨q, 0, none⟩ (.int .i64 ((Y : Int) + 1)) := ⟨_, rfl⟩
      have t2 : Hid (TwoC W q w2 ((Y : Int) + 1) mo d h mi s z has) := Lib.hid (by rw [hw]; exact t1.out.set hq'.out 0 (.int .i64 ((Y : Int) + 1)) rfl)
      have n1 := numOf_is c0
      have n2 := numOf_is t2.out.mom.c0
      go_wp2_with fail
      rw [← hw]
      clear hw ff c0 c1 c2 c3 c4 c5 c6 c7 t1
      go_roundw
      case rel => exact ⟨Y + 1, by omega, by omega, hYN2, by push_cast; exact t2⟩
      case measure => rw [n1, n2]; omega
    | false =>
      have hYe : Y = (dateN N).1 := hYs.out Y y1 y2 hYN.out (by
        have := of_decide_eq_false hb.symm
        omega)
      clear hb
      have ff := Lib.frozen_of_heap t1.out.hq 1
      obtain ⟨w2, hv2⟩ : ∃ w, w = w1.setCell ⟨q, 1, none⟩ (.int .i64 1) := ⟨_, rfl⟩
      have tm : Hid (TwoC W q w2 (Y : Int) 1 d h mi s z has) := Lib.hid (by rw [hv2]; exact t1.out.set hq'.out 1 (.int .i64 1) rfl)
      have hst : Hid (dayN Y 1 1 ≤ N) := hYN
      rw [← hYe] at hR0
      replace hYe := Lib.hid hYe
      clear hYN
      go_wp2_with fail
      rw [← hv2]
      clear hv2 ff c0 c1 c2 c3 c4 c5 c6 c7 t1
      go_loopw [91] (fun _ wr => ∃ M : Nat, 1 ≤ M ∧ M ≤ 12 ∧ Hid (dayN Y M 1 ≤ N) ∧ Hid (TwoC W q wr (Y : Int) (M : Int) d h mi s z has)) (fun _ wr => (12 - numOf wr q 1).toNat)
      case atStart => exact ⟨1, by decide, by decide, hst, tm⟩
      case round =>
        obtain ⟨M, m1, m2, hMN, t1⟩ := hrel
        clear tm hst
        obtain ⟨w1, hw1⟩ : ∃ w, w = wr := ⟨_, rfl⟩
        rw [← hw1] at t1 ⊢
        clear hw1
        obtain ⟨c0, c1, c2, c3, c4, c5, c6, c7⟩ := t1.out.mom
        obtain ⟨b, hb⟩ : ∃ b : Bool, b = decide (M < 12 ∧ dayN Y (M + 1) 1 ≤ N) := ⟨_, rfl⟩
        go_upto_region 14 with fail
        go_cut [91] from 79 to 90 (fun v wx => v = .bool b ∧ wx = w1)
        case first =>
          by_cases hy : M < 12
          · have hy' : (M : Int) < 12 := by omega
            have kn := Lib.hid (kNum.out Y (M + 1) (Y : Int) ((M : Int) + 1) rfl (by push_cast; rfl) (by omega) (by omega) (by omega) (by omega))
            obtain ⟨S, hS⟩ : ∃ S, S = dayN Y (M + 1) 1 := ⟨_, rfl⟩
            rw [← hS] at kn hb
            replace hS := Lib.hid hS
            by_cases hle : S ≤ N
            · rw [decide_eq_true ⟨hy, hle⟩] at hb
              subst hb
              have hle' : (S : Int) ≤ N' := by have := hN.out; omega
              go_wp2_with fail
              refine (kn.out _).mono ?_
              rintro e wp ⟨rfl, rfl⟩
              go_wp2_with fail
              go_meet
              exact ⟨rfl, rfl⟩
            · rw [decide_eq_false (fun h => hle h.2)] at hb
              subst hb
              have hle' : ¬ (S : Int) ≤ N' := by have := hN.out; omega
              go_wp2_with fail
              refine (kn.out _).mono ?_
              rintro e wp ⟨rfl, rfl⟩
              go_wp2_with fail
              go_meet
              exact ⟨by first | rfl | rw [decide_eq_false (by omega)], rfl⟩
          · have hy' : ¬ (M : Int) < 12 := by omega
            rw [decide_eq_false (fun h => hy h.1)] at hb
            subst hb
            go_wp2_with fail
            go_meet
            exact ⟨rfl, rfl⟩
        case rest =>
        obtain ⟨rfl, hcw⟩ := hcut
        replace hcw := hcw.symm
        subst hcw
        cases b with
        | true =>
          have hb2 := of_decide_eq_true hb.symm
          have hy := hb2.1
          have hYN2 := Lib.hid hb2.2
          clear hb hb2 hMN
          have ff := Lib.frozen_of_heap t1.out.hq 1
          obtain ⟨w2, hw⟩ : ∃ w, w = w1.setCell ⟨q, 1, none⟩ (.int .i64 ((M : Int) + 1)) := ⟨_, rfl⟩
          have t2 : Hid (TwoC W q w2 (Y : Int) ((M : Int) + 1) d h mi s z has) := Lib.hid (by rw [hw]; exact t1.out.set hq'.out 1 (.int .i64 ((M : Int) + 1)) rfl)
          have n1 := numOf_is c1
          have n2 := numOf_is t2.out.mom.c1
          go_wp2_with fail
          rw [← hw]
          clear hw ff c0 c1 c2 c3 c4 c5 c6 c7 t1
          go_roundw
          case rel => exact ⟨M + 1, by omega, by omega, hYN2, by push_cast; exact t2⟩
          case measure => rw [n1, n2]; omega
        | false =>
          obtain ⟨hMe, hDe⟩ := hMs.out M Y hYe.out m1 m2 hMN.out (by
            have := of_decide_eq_false hb.symm
            omega)
          clear hb
          have hMN0 := hMN.out
          obtain ⟨S, hS⟩ : ∃ S, S = dayN Y M 1 := ⟨_, rfl⟩
          have kn := Lib.hid (kNum.out Y M (Y : Int) (M : Int) rfl rfl (by omega) (by omega) m1 m2)
          rw [← hS] at hDe kn hMN0
          obtain ⟨E, hE⟩ : ∃ E, E = N - S := ⟨_, rfl⟩
          have gS : (S : Int) ≤ N' := by have := hN.out; omega
          have gE : N' - (S : Int) = (E : Int) := by have := hN.out; omega
          rw [← hE] at hDe
          have gEb : E ≤ 31 := by have := hD31.out; omega
          have hR1 := hR0.out
          rw [← hMe, ← hDe] at hR1
          have hR := Lib.hid hR1
          clear hR1 hR0 hMe hDe hMN hYe hS hE hMN0
          have ff := Lib.frozen_of_heap t1.out.hq 2
          obtain ⟨w2, hw⟩ : ∃ w, w = w1.setCell ⟨q, 2, none⟩ (.int .i64 ((E : Int) + 1)) := ⟨_, rfl⟩
          have t2 : Hid (TwoC W q w2 (Y : Int) (M : Int) ((E : Int) + 1) h mi s z has) := Lib.hid (by rw [hw]; exact t1.out.set hq'.out 2 (.int .i64 ((E : Int) + 1)) rfl)
          go_wp2_with fail
          refine (kn.out _).mono ?_
          rintro e wp ⟨rfl, rfl⟩
          go_wp2_with fail
          rw [← hw]
          clear hw ff c0 c1 c2 c3 c4 c5 c6 c7 t1 kn
          refine (kI1.out _).mono ?_
          rintro e w3 ⟨rfl, hb⟩
          have t3 := Lib.hid (t2.out.later hb)
          clear hb t2
          go_wp2_with fail
          refine (kM1.out _).mono ?_
          rintro e w4 ⟨rfl, hb⟩
          have t4 := Lib.hid (t3.out.later hb)
          clear hb t3
          go_wp2_with fail
          refine (kI2.out _).mono ?_
          rintro e w5 ⟨rfl, hb⟩
          have t5 := Lib.hid (t4.out.later hb)
          clear hb t4
          go_wp2_with fail
          refine (kM2.out _).mono ?_
          rintro e w6 ⟨rfl, hb⟩
          have t6 := Lib.hid (t5.out.later hb)
          clear hb t5
          obtain ⟨c0, c1, c2, c3, c4, c5, c6, c7⟩ := t6.out.mom
          have ff := Lib.frozen_of_heap t6.out.hq 5
          obtain ⟨w7, hw⟩ : ∃ w, w = w6.setCell ⟨q, 5, none⟩ (.string X6) := ⟨_, rfl⟩
          have t7 : Hid (TwoC W q w7 (Y : Int) (M : Int) ((E : Int) + 1) h mi X6 z has) := Lib.hid (by rw [hw]; exact t6.out.set hq'.out 5 (.string X6) rfl)
          go_wp2_with fail
          rw [← hw]
          clear hw ff c0 c1 c2 c3 c4 c5 c6 c7 t6
          refine (kWA.out _).mono ?_
          rintro e wp ⟨rfl, rfl⟩
          obtain ⟨c0, c1, c2, c3, c4, c5, c6, c7⟩ := t7.out.mom
          have ff := Lib.frozen_of_heap t7.out.hq 3
          obtain ⟨w8, hw⟩ : ∃ w, w = w7.setCell ⟨q, 3, none⟩ (.int .i64 (A : Int)) := ⟨_, rfl⟩
          have t8 : Hid (TwoC W q w8 (Y : Int) (M : Int) ((E : Int) + 1) (A : Int) mi X6 z has) := Lib.hid (by rw [hw]; exact t7.out.set hq'.out 3 (.int .i64 (A : Int)) rfl)
          go_wp2_with fail
          rw [← hw]
          clear hw ff c0 c1 c2 c3 c4 c5 c6 c7 t7
          refine (kWB.out _).mono ?_
          rintro e wp ⟨rfl, rfl⟩
          obtain ⟨c0, c1, c2, c3, c4, c5, c6, c7⟩ := t8.out.mom
          have ff := Lib.frozen_of_heap t8.out.hq 4
          obtain ⟨w9, hw⟩ : ∃ w, w = w8.setCell ⟨q, 4, none⟩ (.int .i64 (B : Int)) := ⟨_, rfl⟩
          have t9 : Hid (TwoC W q w9 (Y : Int) (M : Int) ((E : Int) + 1) (A : Int) (B : Int) X6 z has) := Lib.hid (by rw [hw]; exact t8.out.set hq'.out 4 (.int .i64 (B : Int)) rfl)
          go_upto_region 23 with fail
          rw [← hw]
          clear hw ff c0 c1 c2 c3 c4 c5 c6 c7 t8
          obtain ⟨c0, c1, c2, c3, c4, c5, c6, c7⟩ := t9.out.mom
          obtain ⟨d0, d1, d2, d3, d4, d5, d6, d7⟩ := t9.out.res
          obtain ⟨f0, f1, f2, f3, f4, f5, f6, f7⟩ := froz8 t9.out.hp
          obtain ⟨W5, hW5, hp5, hb5⟩ := put_resC t9.out hq'.out (.int .i64 (Y : Int)) (.int .i64 (M : Int)) (.int .i64 ((E : Int) + 1)) (.int .i64 (A : Int)) (.int .i64 (B : Int)) (.string X6) (.int .i64 z) (.bool has)
          replace hW5 := Lib.hid hW5
          replace hp5 := Lib.hid hp5
          go_wp2_with fail
          rw [← hW5.out]
          clear hW5 d0 d1 d2 d3 d4 d5 d6 d7 f0 f1 f2 f3 f4 f5 f6 f7 c0 c1 c2 c3 c4 c5 c6 c7
          obtain ⟨c0, c1, c2, c3, c4, c5, c6, c7⟩ := MomAt.of_heap hp5.out
          refine bodyPost_ret (v := .tuple #[.agg #[.int .i64 (Y : Int), .int .i64 (M : Int), .int .i64 ((E : Int) + 1), .int .i64 (A : Int), .int .i64 (B : Int), .string X6, .int .i64 z, .bool has], .int .i64 0]) ?ret rfl ?post
          case ret => rw [res_two rfl]; go_simp
          case post => exact ⟨by rw [hR.out]; rfl, hb5⟩
end Go.Proofs.YtgobpoeccdgeiaaGreatDoor
