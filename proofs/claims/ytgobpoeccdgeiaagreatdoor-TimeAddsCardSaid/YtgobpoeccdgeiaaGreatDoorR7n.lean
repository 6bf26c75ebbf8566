/- Package chiselref07: at: the plain laws of the days, the hours, the minutes and the date of seconds. -/
import Derived.Test.YtgobpoeccdgeiaaGreatDoorR7m
namespace Go.Proofs.YtgobpoeccdgeiaaGreatDoor.TimeP
open NumP DurP
set_option linter.unusedVariables false

theorem sec_86400 : ([56, 54, 52, 48, 48] : List UInt8) = textN (numU 86400000000) := by decide +kernel
theorem sec_3600 : ([51, 54, 48, 48] : List UInt8) = textN (numU ((3600000000 : Nat) : Int)) := by decide +kernel
theorem sec_60 : ([54, 48] : List UInt8) = textN (numU ((60000000 : Nat) : Int)) := by decide +kernel
theorem floor_is (neg : Bool) (a c : Nat) (hc : c < P20) : cutN .floor neg (a * P20 + c) P20 = a + (neg && decide (c ≠ 0)).toNat := by
  have hp : 0 < P20 := by decide
  unfold cutN
  rw [Nat.mul_comm a, Nat.mul_add_div hp, Nat.mul_add_mod, Nat.div_eq_of_lt hc, Nat.mod_eq_of_lt hc]
  rfl
theorem quo_small {t : Nat} (h : t < 4000000000000000000) : t / 86400000000 < 50000000 := by omega
theorem floor_day {us n : Int} {a : Nat} (ha : a = us.natAbs / 86400000000) (hn : n = us / 86400000000) (e : Nat)
    (he : e = if us < 0 ∧ us.natAbs % 86400000000 ≠ 0 then 1 else 0) : (if us < 0 then -((a + e : Nat) : Int) else ((a + e : Nat) : Int)) = n := by
  subst ha hn he
  split
  · split <;> omega
  · split <;> omega
theorem pos_neg (a : Nat) : (numU (a : Int)).neg = false := decide_eq_false (show ¬ (a : Int) < 0 by omega)
theorem neg_mil (b : Nat) : -((b * 1000000 : Nat) : Int) = -(b : Int) * 1000000 := by omega
theorem pos_mil (b : Nat) : ((b * 1000000 : Nat) : Int) = (b : Int) * 1000000 := by omega
/-- The days of seconds. -/
theorem div_days {us : Int} (h : us.natAbs < 4000000000000000000) : ∃ x, NumP.Good x ∧ divE (textN (numU us)) [56, 54, 52, 48, 48] = (textN x, 0) ∧ roundT (textN x) 0 [102, 108, 111, 111, 114] = (intP (us / 86400000000), 0) := by
  have gu := numU_good (a := us) (by omega)
  have g86 := numU_good (a := 86400000000) (by decide)
  obtain ⟨t, ht⟩ : ∃ t, t = us.natAbs := ⟨_, rfl⟩
  obtain ⟨c, hc, hc1, hc0⟩ := quo_days t (decide (us < 0))
  obtain ⟨a, ha⟩ : ∃ a, a = t / 86400000000 := ⟨_, rfl⟩
  have ha5 : a < 50000000 := by rw [ha]; exact quo_small (by omega)
  rw [← ha] at hc
  have hD : a * P20 + c < P50 := by
    have h1 : a * P20 ≤ 50000000 * P20 := Nat.mul_le_mul_right _ (by omega)
    have h2 : 50000000 * P20 + P20 ≤ P50 := by decide
    omega
  have hdiv : divE (textN (numU us)) [56, 54, 52, 48, 48] = (textN ⟨decide (us < 0) && decide (0 < a * P20 + c), a * P20 + c⟩, 0) := by
    unfold divE
    rw [sec_86400, bothN_text gu g86]
    have hd86 : (numU 86400000000).d = 86400 * P20 := by decide
    have hn86 : (numU 86400000000).neg = false := by decide
    have hdu : (numU us).d = t * P14 := by rw [ht]; rfl
    have hnu : (numU us).neg = decide (us < 0) := rfl
    unfold divN
    rw [if_neg (by rw [hd86]; decide)]
    show outN (checkedN ⟨(numU us).neg != (numU 86400000000).neg, cutN .even ((numU us).neg != (numU 86400000000).neg) ((numU us).d * P20) (numU 86400000000).d⟩) = _
    rw [hd86, hn86, hdu, hnu, Bool.bne_false, hc]
    unfold checkedN
    simp only
    rw [if_neg (by omega)]
    rfl
  have hg : NumP.Good ⟨decide (us < 0) && decide (0 < a * P20 + c), a * P20 + c⟩ := ⟨hD, fun h2 => by
    simp only [Bool.and_eq_true, decide_eq_true_eq] at h2
    exact h2.2⟩
  refine ⟨_, hg, hdiv, ?_⟩
  unfold roundT
  rw [canon_text hg]
  simp only
  rw [if_neg (by decide)]
  show outN (checkedN ⟨decide (us < 0) && decide (0 < a * P20 + c), cutN .floor (decide (us < 0) && decide (0 < a * P20 + c)) (a * P20 + c) P20 * P20⟩) = _
  rw [floor_is _ _ _ hc1]
  have hneg : (decide (us < 0) && decide (0 < a * P20 + c)) = decide (us < 0) := by
    by_cases hu : us < 0
    · have : 0 < a * P20 + c := by
        rcases Nat.eq_zero_or_pos a with h0 | h0
        · have : t % 86400000000 ≠ 0 := by omega
          have : c ≠ 0 := fun e => this (hc0.1 e)
          omega
        · have := Nat.mul_pos h0 (show 0 < P20 by decide)
          omega
      rw [decide_eq_true this, Bool.and_true]
    · rw [decide_eq_false hu, Bool.false_and]
  rw [hneg]
  obtain ⟨e, he⟩ : ∃ e, e = (decide (us < 0) && decide (c ≠ 0)).toNat := ⟨_, rfl⟩
  rw [← he]
  have he2 : e = if us < 0 ∧ us.natAbs % 86400000000 ≠ 0 then 1 else 0 := by
    rw [he, ← ht]
    by_cases hu : us < 0
    · by_cases h0 : c = 0
      · rw [if_neg (fun h => h.2 (hc0.1 h0)), h0]; simp
      · rw [if_pos ⟨hu, fun h => h0 (hc0.2 h)⟩, decide_eq_true hu, decide_eq_true h0]; rfl
    · rw [if_neg (fun h => hu h.1), decide_eq_false hu]; rfl
  have hf := floor_day (us := us) (n := us / 86400000000) (a := a) (by rw [ha, ht]) rfl e he2
  have he1 : e ≤ 1 := by rw [he2]; split <;> omega
  have hK : (a + e) * P20 = (a + e) * 1000000 * P14 := by rw [Nat.mul_assoc]; rfl
  rw [hK, checked_U, if_pos (by omega)]
  have hn : (us / 86400000000).natAbs < 10 ^ 18 := by omega
  rw [intP_num hn, ← hf]
  show (textN _, (0 : Int)) = _
  obtain ⟨b, hb⟩ : ∃ b, b = a + e := ⟨_, rfl⟩
  rw [← hb]
  congr 3
  by_cases hu : us < 0
  · rw [if_pos (decide_eq_true hu), if_pos hu]; exact neg_mil b
  · rw [if_neg (fun h => hu (of_decide_eq_true h)), if_neg hu]; exact pos_mil b
theorem cutN_exact (w : NumP.Way) (neg : Bool) (k u : Nat) (h : 0 < u) : cutN w neg (k * u) u = k := by
  unfold cutN
  rw [Nat.mul_div_cancel _ h, Nat.mul_mod_left]
  have : NumP.Way.up w neg k 0 u = false := by
    cases w <;> simp [NumP.Way.up] <;> omega
  rw [this]; rfl
theorem day_mul (a p q : Nat) : a * 1000000 * p * (86400 * q) = (a * 86400000000 * p) * q := by grind
theorem mul_days {n : Int} (h : n.natAbs < 50000000) : mulT (intP n) [56, 54, 52, 48, 48] = (textN (numU (n * 86400000000)), 0) := by
  rw [intP_num (by omega), sec_86400]
  have gu := numU_good (a := n * 1000000) (by omega)
  have g86 := numU_good (a := 86400000000) (by decide)
  unfold mulT
  rw [bothN_text gu g86]
  have hd86 : (numU 86400000000).d = 86400 * P20 := by decide
  have hn86 : (numU 86400000000).neg = false := by decide
  have hdu : (numU (n * 1000000)).d = n.natAbs * 1000000 * P14 := by
    show (n * 1000000).natAbs * P14 = _
    rw [Int.natAbs_mul]; rfl
  have hnu : (numU (n * 1000000)).neg = decide (n * 1000000 < 0) := rfl
  obtain ⟨a, ha⟩ : ∃ a, a = n.natAbs := ⟨_, rfl⟩
  rw [hd86, hn86, hdu, hnu, Bool.bne_false, ← ha, day_mul a P14 P20]
  rw [cutN_exact _ _ _ _ (by decide), checked_U, if_pos (by omega)]
  show (textN _, (0 : Int)) = _
  congr 3
  by_cases hu : n < 0
  · rw [if_pos (decide_eq_true (by omega))]; omega
  · rw [if_neg (fun h => hu (by have := of_decide_eq_true h; omega))]; omega
theorem rest_days {us : Int} (h : us.natAbs < 4000000000000000000) : subT (textN (numU us)) (textN (numU (us / 86400000000 * 86400000000))) = (textN (numU (((us % 86400000000).toNat : Nat) : Int)), 0) := by
  have h1 := Int.emod_nonneg us (show (86400000000 : Int) ≠ 0 by decide)
  have h2 := Int.mul_ediv_add_emod us 86400000000
  obtain ⟨q, hq⟩ : ∃ q, q = us / 86400000000 := ⟨_, rfl⟩
  obtain ⟨r, hr⟩ : ∃ r, r = us % 86400000000 := ⟨_, rfl⟩
  rw [← hq, ← hr] at h2
  rw [← hr] at h1
  rw [← hq, ← hr]
  have hr2 : r < 86400000000 := by rw [hr]; exact Int.emod_lt_of_pos us (by decide)
  rw [subT_U (by omega) (by omega)]
  congr 3
  omega
theorem idiv_U {a b : Nat} (ha : a < 10 ^ 18) (hb : 0 < b) (hb2 : b < 10 ^ 18) : idivT (textN (numU (a : Int))) (textN (numU (b : Int))) = (intP ((a / b : Nat) : Int), 0) := by
  have ga := numU_good (a := (a : Int)) (by omega)
  have gb := numU_good (a := (b : Int)) (by omega)
  have hp : 0 < P14 := by decide
  have hlt : a / b < 10 ^ 18 := Nat.lt_of_le_of_lt (Nat.div_le_self a b) ha
  unfold idivT
  rw [bothN_text ga gb]
  have da : (numU (a : Int)).d = a * P14 := rfl
  have db : (numU (b : Int)).d = b * P14 := rfl
  have na : (numU (a : Int)).neg = false := pos_neg a
  have nb : (numU (b : Int)).neg = false := pos_neg b
  unfold divN
  rw [if_neg (by rw [db]; have := Nat.mul_pos hb hp; omega)]
  show outN (checkedN ⟨(numU (a : Int)).neg != (numU (b : Int)).neg, (numU (a : Int)).d / (numU (b : Int)).d * P20⟩) = _
  rw [da, db, na, nb, Nat.mul_div_mul_right _ _ hp]
  obtain ⟨q, hq⟩ : ∃ q, q = a / b := ⟨_, rfl⟩
  rw [← hq] at hlt ⊢
  rw [show q * P20 = q * 1000000 * P14 by rw [Nat.mul_assoc]; rfl, checked_U, if_pos (by omega), intP_num (by omega)]
  show (textN _, (0 : Int)) = _
  congr 3
theorem mod_U {a b : Nat} (ha : a < 10 ^ 18) (hb : 0 < b) (hb2 : b < 10 ^ 18) : modT (textN (numU (a : Int))) (textN (numU (b : Int))) = (textN (numU ((a % b : Nat) : Int)), 0) := by
  have ga := numU_good (a := (a : Int)) (by omega)
  have gb := numU_good (a := (b : Int)) (by omega)
  have hp : 0 < P14 := by decide
  have hlt : a % b < 10 ^ 18 := Nat.lt_of_le_of_lt (Nat.mod_le a b) ha
  unfold modT
  rw [bothN_text ga gb]
  have da : (numU (a : Int)).d = a * P14 := rfl
  have db : (numU (b : Int)).d = b * P14 := rfl
  have na : (numU (a : Int)).neg = false := pos_neg a
  unfold divN
  rw [if_neg (by rw [db]; have := Nat.mul_pos hb hp; omega)]
  show outN (checkedN ⟨(numU (a : Int)).neg, (numU (a : Int)).d % (numU (b : Int)).d⟩) = _
  rw [da, db, na, Nat.mul_mod_mul_right, checked_U, if_pos (by omega)]
  show (textN _, (0 : Int)) = _
  congr 3
/-- The year, the month and the day of a number of days. -/
theorem year_start (N : Nat) : yearS (N / 366 + 1) ≤ N := by
  obtain ⟨q, hq⟩ : ∃ q, q = N / 366 := ⟨_, rfl⟩
  unfold yearS
  rw [← hq]
  omega
theorem year_of {N Y : Nat} (hN : N < 3652059) (h1 : 1 ≤ Y) (h2 : Y ≤ 9999) (h3 : yearS Y ≤ N) (h4 : Y = 9999 ∨ N < yearS (Y + 1)) : Y = (dateN N).1 := by
  obtain ⟨hd, he⟩ := dateN_spec N
  have hy := (year_9999 N).2 hN
  have ht := hd.top
  unfold dayN at he
  obtain ⟨y, hye⟩ : ∃ y, y = (dateN N).1 := ⟨_, rfl⟩
  have hy1 := hd.y1
  rw [← hye] at he hy ht hy1 ⊢
  rcases Nat.lt_trichotomy Y y with h | h | h
  · have := yearS_lt h1 h
    have h5 := yearS_step h1
    rcases h4 with h4 | h4 <;> omega
  · exact h
  · have := yearS_lt hy1 h
    omega
theorem mon_of {N M Y : Nat} (hY : Y = (dateN N).1) (h1 : 1 ≤ M) (h2 : M ≤ 12) (h3 : dayN Y M 1 ≤ N) (h4 : M = 12 ∨ N < dayN Y (M + 1) 1) : M = (dateN N).2.1 ∧ N - dayN Y M 1 + 1 = (dateN N).2.2 := by
  obtain ⟨hd, he⟩ := dateN_spec N
  rw [← hY] at hd he
  obtain ⟨m, hme⟩ : ∃ y, y = (dateN N).2.1 := ⟨_, rfl⟩
  obtain ⟨d, hde⟩ : ∃ y, y = (dateN N).2.2 := ⟨_, rfl⟩
  rw [← hme, ← hde] at hd he ⊢
  have m1 := hd.m1
  have m2 := hd.m2
  have d1 := hd.d1
  have d2 := hd.d2
  unfold dayN at he h3 h4 ⊢
  have hM : M = m := by
    rcases Nat.lt_trichotomy M m with h | h | h
    · have := monS_lt Y h1 h
      have h5 := monS_step Y h1
      rcases h4 with h4 | h4 <;> omega
    · exact h
    · have := monS_lt Y m1 h
      omega
  subst hM
  exact ⟨rfl, by omega⟩
theorem whole_sec {r : Nat} (h : r < 60000000) : textN (numU ((r : Nat) : Int)) = decU ((r : Nat) : Int) := (decU_eq (by omega)).symm
end Go.Proofs.YtgobpoeccdgeiaaGreatDoor.TimeP
