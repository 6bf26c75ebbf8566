/- Package time: length, days, date. Package time: micros; strconv.Atoi of digits, strings.Cut at a point, strings.Repeat of zeros. Package time: valid (printed by genval.py). Package time: total, decimal. Package time: at. Package time: Weekday, Seconds. Package time: AddMonths, Adjust. Package time: Adjust (printed by genadz.py). Package num: Cmp, and Round to even. Package time: AddSeconds. -/
import Derived.Test.YtgobpoeccdgeiaaGreatDoorOa
import Derived.Test.YtgobpoeccdgeiaaGreatDoorQi
import Derived.Deep.CutRange
import Derived.Lib.SmallJoins
import Derived.Deep.QuietTactic
import Derived.BigQuiet
import Derived.Deep.Cut
import Derived.Deep.RegionHeld3
import Derived.Test.YtgobpoeccdgeiaaGreatDoorQg
import Derived.Test.YtgobpoeccdgeiaaGreatDoorQh

namespace Go.Proofs.YtgobpoeccdgeiaaGreatDoor
open Go.RowKit NumP DurP TimeP Go.Proofs.YtgobpoeccdgeiaaGreatDoorW.PrintWords
set_option linter.unusedVariables false

def lensN : List Nat := [31, 28, 31, 30, 31, 30, 31, 31, 30, 31, 30, 31]
/-- What is known of the library's variables and of the table of lengths. -/
structure LaidT (w : World) : Prop where
  base : LaidD w
  len : ∀ k n, lensN[k]? = some n → w.cell? ⟨0, k, none⟩ = some (.int .i64 (n : Nat))
theorem LaidT.below {w w' : World} (h : LaidT w) {B : Nat} (hb : Below B w w') (hB : 8 ≤ B) : LaidT w' :=
  ⟨h.base.below hb hB, fun k n e => (hb.cell (p := ⟨0, k, none⟩) (show (0 : Nat) < B by omega)).trans (h.len k n e)⟩
theorem LaidT.size {w : World} (h : LaidT w) : 8 ≤ w.heap.size := h.base.num.size
theorem lenM_at {y m : Nat} (h1 : 1 ≤ m) (h2 : m ≤ 12) (h : ¬ (m = 2 ∧ leapN y = true)) : lensN[m - 1]? = some (lenM y m) := by
  have : m = 1 ∨ m = 2 ∨ m = 3 ∨ m = 4 ∨ m = 5 ∨ m = 6 ∨ m = 7 ∨ m = 8 ∨ m = 9 ∨ m = 10 ∨ m = 11 ∨ m = 12 := by omega
  rcases this with rfl | rfl | rfl | rfl | rfl | rfl | rfl | rfl | rfl | rfl | rfl | rfl <;> try rfl
  have : leapN y = false := by cases hl : leapN y; rfl; exact absurd ⟨rfl, hl⟩ h
  unfold lenM
  rw [if_pos rfl, this]; rfl
set_option maxRecDepth 100000 in
set_option maxHeartbeats 2000000 in
theorem length_t (y m : Nat) (W : World) (hL : LaidT W) (h1 : 1 ≤ m) (h2 : m ≤ 12) : Calls Tryz.prog 56 #[.int .i64 (y : Int), .int .i64 (m : Int)] W fun e w' => e = .returned (.int .i64 (lenM y m : Nat)) ∧ W = w' := by
  obtain ⟨L, hLn⟩ : ∃ L, L = lenM y m := ⟨_, rfl⟩
  rw [← hLn]
  have hlf := leapI_is y
  have hrest : ¬ (m = 2 ∧ leapN y = true) → ∃ i : Nat, (m : Int) - 1 = (i : Int) ∧ (i : Int) < 12 ∧ i < 12 ∧ W.cell? ⟨0, i, none⟩ = some (.int .i64 (L : Nat)) := fun h =>
    ⟨m - 1, by omega, by omega, by omega, by rw [hLn]; exact hL.len _ _ (lenM_at h1 h2 h)⟩
  have hpos : m = 2 → leapN y = true → L = 29 := fun a b => by rw [hLn, a]; unfold lenM; rw [if_pos rfl, b]; rfl
  replace hLn := Lib.hid hLn
  replace hL := Lib.hid hL
  clear h1 h2
  by_cases hm : m = 2
  · have g0 : ((m : Int) == 2) = true := by rw [hm]; rfl
    by_cases c4 : y % 4 = 0
    · have g1 : ((y : Int) % 4 == 0) = true := by simp; omega
      by_cases c1 : y % 100 = 0
      · have g2 : ((y : Int) % 100 != 0) = false := by simp; omega
        by_cases c0 : y % 400 = 0
        · have g3 : ((y : Int) % 400 == 0) = true := by simp; omega
          have hl : leapN y = true := by unfold leapN; simp [c4, c1, c0]
          have hv := hpos hm hl
          subst hv
          replace hm := Lib.hid hm
          clear hrest hpos hlf c4 c1 c0 hl
          go_enter Tryz.func56, Tryz.ntmps56
          go_wp2_with fail
          go_ret
          exact ⟨rfl, rfl⟩
        · have g3 : ((y : Int) % 400 == 0) = false := by simp; omega
          have hl : leapN y = false := by unfold leapN; simp [c1, c0]
          obtain ⟨i, k1, k2, k3, k4⟩ := hrest (fun h => by rw [hl] at h; cases h.2)
          replace hm := Lib.hid hm
          clear hrest hpos hlf c4 c1 c0 hl
          go_enter Tryz.func56, Tryz.ntmps56
          go_wp2_with fail
          go_ret
          exact ⟨rfl, rfl⟩
      · have g2 : ((y : Int) % 100 != 0) = true := by simp; omega
        have hl : leapN y = true := by unfold leapN; simp [c4, c1]
        have hv := hpos hm hl
        subst hv
        replace hm := Lib.hid hm
        clear hrest hpos hlf c4 c1 hl
        go_enter Tryz.func56, Tryz.ntmps56
        go_wp2_with fail
        go_ret
        exact ⟨rfl, rfl⟩
    · have g1 : ((y : Int) % 4 == 0) = false := by simp; omega
      have g3 : ((y : Int) % 400 == 0) = false := by simp; omega
      have hl : leapN y = false := by unfold leapN; simp [c4]; omega
      obtain ⟨i, k1, k2, k3, k4⟩ := hrest (fun h => by rw [hl] at h; cases h.2)
      replace hm := Lib.hid hm
      clear hrest hpos hlf c4 hl
      go_enter Tryz.func56, Tryz.ntmps56
      go_wp2_with fail
      go_ret
      exact ⟨rfl, rfl⟩
  · have g0 : ((m : Int) == 2) = false := by simp; omega
    obtain ⟨i, k1, k2, k3, k4⟩ := hrest (fun h => hm h.1)
    replace hm := Lib.hid hm
    clear hrest hpos hlf
    go_enter Tryz.func56, Tryz.ntmps56
    go_wp2_with fail
    go_ret
    exact ⟨rfl, rfl⟩
set_option maxRecDepth 100000 in
set_option maxHeartbeats 2000000 in
theorem days_t (y m d : Nat) (W : World) (hL : LaidT W) (hy1 : 1 ≤ y) (hy2 : y ≤ 20000) (h1 : 1 ≤ m) (h2 : m ≤ 12) (hd : d ≤ 100) : Calls Tryz.prog 54 #[.int .i64 (y : Int), .int .i64 (m : Int), .int .i64 (d : Int)] W fun e w' => e = .returned (.int .i64 ((yearS y + monS y m + d : Nat) - 1 - 719162 : Int)) ∧ W = w' := by
  obtain ⟨u, hu⟩ : ∃ u, y = u + 1 := ⟨y - 1, by omega⟩
  have hys : (yearS y : Int) = 365 * (u : Int) + (u : Int) / 4 - (u : Int) / 100 + (u : Int) / 400 := by
    unfold yearS
    rw [hu, Nat.add_sub_cancel]
    omega
  have hyb : yearS y ≤ 8000000 := by
    unfold yearS; omega
  have hlen : Hid (∀ k : Nat, 1 ≤ k → k ≤ 12 → ∀ w, W = w → Calls Tryz.prog 56 #[.int .i64 (y : Int), .int .i64 (k : Int)] w fun e w' => e = .returned (.int .i64 (lenM y k : Nat)) ∧ W = w') := Lib.hid (fun k a b w e => by subst e; exact length_t y k W hL a b)
  have gu : (y : Int) - 1 = (u : Int) := by omega
  have ub : (u : Int) ≤ 20000 := by omega
  obtain ⟨Y, hY⟩ : ∃ Y, Y = yearS y := ⟨_, rfl⟩
  rw [← hY] at hys hyb ⊢
  have hmb : Hid (∀ k, 1 ≤ k → k ≤ 12 → monS y k ≤ 400 ∧ lenM y k ≤ 31) := Lib.hid (fun k a b => ⟨by have := monS_top y a b; have := leapI_le y; omega, (lenM_pos y k).2⟩)
  have hst : Hid (∀ k, 1 ≤ k → monS y (k + 1) = monS y k + lenM y k) := Lib.hid (fun k a => monS_step y a)
  replace hY := Lib.hid hY
  replace hL := Lib.hid hL
  clear hu hy1 hy2
  go_enter Tryz.func54, Tryz.ntmps54
  go_wp2_with fail
  go_loopw [8, 9] (fun nv kv wr => ∃ k : Nat, kv = .int .i64 (k : Int) ∧ 1 ≤ k ∧ k ≤ m ∧ nv = .int .i64 ((Y : Int) + (monS y k : Nat)) ∧ W = wr) (fun _ kv _ => m - (intOf kv).toNat)
  case atStart => exact ⟨1, rfl, Nat.le_refl _, h1, by rw [hys, monS_one]; simp, rfl⟩
  case round =>
    obtain ⟨k, rfl, hk1, hk2, rfl, rfl⟩ := hrel
    by_cases hlt : k < m
    · have gk : ((k : Int) < (m : Int)) := by omega
      have hb := hmb.out k hk1 (by omega)
      have hs := hst.out k hk1
      obtain ⟨S, hS⟩ : ∃ S, S = monS y k := ⟨_, rfl⟩
      obtain ⟨L, hLm⟩ : ∃ L, L = lenM y k := ⟨_, rfl⟩
      have hle := hlen.out k hk1 (by omega) W rfl
      rw [← hS, ← hLm] at hb hs
      rw [← hLm] at hle
      rw [← hS]
      obtain ⟨hb1, hb2⟩ := hb
      replace hs := Lib.hid hs
      replace hS := Lib.hid hS
      replace hLm := Lib.hid hLm
      replace hys := Lib.hid hys
      go_wp2_with fail
      refine hle.mono ?_
      rintro e w ⟨rfl, rfl⟩
      go_wp2_with fail
      exact ⟨⟨k + 1, by simp, by omega, by omega, by rw [hs.out]; push_cast; rw [Int.add_assoc], trivial⟩, by simp [intOf]; omega⟩
    · have hkm : m = k := by omega
      subst hkm
      have gk : ¬ ((m : Int) < (m : Int)) := by omega
      have hb := (hmb.out m hk1 h2).1
      obtain ⟨S, hS⟩ : ∃ S, S = monS y m := ⟨_, rfl⟩
      rw [← hS] at hb ⊢
      replace hys := Lib.hid hys
      replace hS := Lib.hid hS
      go_wp2_with fail
      go_ret
      exact ⟨by rw [hS.out]; push_cast; rfl, rfl⟩
theorem res_four {fn : Func} {a b c d : Tmp} (h : fn.results = #[.tmp a, .tmp b, .tmp c, .tmp d]) (tmps : Array Value) (P : Program) (w : World) :
    (results fn tmps).run P w = .ok (.tuple #[tmps.getD a undef, tmps.getD b undef, tmps.getD c undef, tmps.getD d undef]) w := by
  simp [results, h]
set_option maxRecDepth 100000 in
set_option maxHeartbeats 2000000 in
theorem date_t (n : Int) (W : World) (hL : LaidT W) (h1 : -1000000000 ≤ n) (h2 : n ≤ 1000000000) : Calls Tryz.prog 98 #[.int .i64 n] W fun e w' => e = .returned (if n + 719162 < 0 then .tuple #[.int .i64 0, .int .i64 0, .int .i64 0, .bool false] else .tuple #[.int .i64 ((dateN (n + 719162).toNat).1 : Nat), .int .i64 ((dateN (n + 719162).toNat).2.1 : Nat), .int .i64 ((dateN (n + 719162).toNat).2.2 : Nat), .bool (decide ((dateN (n + 719162).toNat).1 ≤ 9999))]) ∧ W = w' := by
  by_cases h0 : n + 719162 < 0
  · rw [if_pos h0]
    go_enter Tryz.func98, Tryz.ntmps98
    go_wp2_with fail
    refine bodyPost_ret (v := .tuple #[.int .i64 0, .int .i64 0, .int .i64 0, .bool false]) ?ret rfl ?post
    case ret => rw [res_four rfl]; go_simp
    case post => exact ⟨rfl, rfl⟩
  · rw [if_neg h0]
    obtain ⟨N, hN⟩ : ∃ N : Nat, n + 719162 = (N : Int) := ⟨(n + 719162).toNat, by omega⟩
    rw [show (n + 719162).toNat = N by omega]
    have hNb : N ≤ 1000719162 := by omega
    obtain ⟨Y0, hY0⟩ : ∃ Y0, Y0 = 1 + N / 146097 * 400 := ⟨_, rfl⟩
    obtain ⟨r0, hr0⟩ : ∃ r0, r0 = N % 146097 := ⟨_, rfl⟩
    have hr0b : r0 < 146097 := by omega
    have hY0b : 1 ≤ Y0 ∧ Y0 ≤ 3000000 := by omega
    have hd : Hid (dateN N = ((yearF 401 Y0 r0).1, (monF (yearF 401 Y0 r0).1 12 1 (yearF 401 Y0 r0).2).1, (monF (yearF 401 Y0 r0).1 12 1 (yearF 401 Y0 r0).2).2 + 1)) := Lib.hid (by rw [hY0, hr0]; rfl)
    have hsp := yearF_spec 401 Y0 r0 hY0b.1 (by omega)
    have hlen : Hid (∀ y k : Nat, 1 ≤ k → k ≤ 12 → ∀ w, W = w → Calls Tryz.prog 56 #[.int .i64 (y : Int), .int .i64 (k : Int)] w fun e w' => e = .returned (.int .i64 (lenM y k : Nat)) ∧ W = w') := Lib.hid (fun y k a b w e => by subst e; exact length_t y k W hL a b)
    have q1 : (N : Int) / 146097 * 400 + 1 = (Y0 : Int) := by omega
    have q1' : 1 + (N : Int) / 146097 * 400 = (Y0 : Int) := by omega
    have q2 : (N : Int) % 146097 = (r0 : Int) := by omega
    replace hL := Lib.hid hL
    replace hsp := Lib.hid hsp
    clear hY0 hr0
    go_enter Tryz.func98, Tryz.ntmps98
    go_wp2_with fail
    go_loopw [0, 2] (fun nv yv wr => ∃ y r f : Nat, nv = .int .i64 (r : Int) ∧ yv = .int .i64 (y : Int) ∧ 1 ≤ y ∧ y + r ≤ 4000000 ∧ Hid (yearF f y r = yearF 401 Y0 r0) ∧ Hid (r < 365 * f) ∧ W = wr) (fun nv _ _ => (intOf nv).toNat)
    case atStart => exact ⟨Y0, r0, 401, rfl, rfl, hY0b.1, by omega, Lib.hid rfl, Lib.hid (by omega), rfl⟩
    case round =>
      obtain ⟨y, r, f, rfl, rfl, hy1, hy2, hF, hf, hw⟩ := hrel
      subst hw
      obtain ⟨L, hLm⟩ : ∃ L, L = lenM y 2 := ⟨_, rfl⟩
      have hLb : 28 ≤ L ∧ L ≤ 29 := by rw [hLm, lenM_feb]; have := leapI_le y; omega
      have hle := hlen.out y 2 (by decide) (by decide) W rfl
      rw [← hLm] at hle
      have hle' : Calls Tryz.prog 56 #[.int .i64 (y : Int), .int .i64 2] W fun e w' => e = .returned (.int .i64 (L : Nat)) ∧ W = w' := hle
      clear hle
      obtain ⟨f', hf'⟩ : ∃ f', f = f' + 1 := ⟨f - 1, by have := hf.out; omega⟩
      subst hf'
      by_cases hc : 365 + L - 28 ≤ r
      · have gc : ((r : Int) ≥ 365 + (L : Int) - 28) := by omega
        obtain ⟨r', hr'⟩ : ∃ r' : Nat, (r : Int) - (365 + (L : Int) - 28) = (r' : Int) := ⟨r - (365 + L - 28), by omega⟩
        have hF2 : Hid (yearF f' (y + 1) r' = yearF 401 Y0 r0) := Lib.hid (by
          rw [← hF.out, yearF, ← hLm, if_pos hc, show r - (365 + L - 28) = r' by omega])
        have hf2 : Hid (r' < 365 * f') := Lib.hid (by have := hf.out; omega)
        replace hLm := Lib.hid hLm
        go_wp2_with fail
        refine hle'.mono ?_
        rintro e w ⟨rfl, rfl⟩
        go_wp2_with fail
        refine hle'.mono ?_
        rintro e w ⟨rfl, rfl⟩
        go_wp2_with fail
        exact ⟨⟨y + 1, r', f', rfl, by simp, by omega, by omega, hF2, hf2, trivial⟩, by simp [intOf]; omega⟩
      · have gc : ¬ ((r : Int) ≥ 365 + (L : Int) - 28) := by omega
        have hF2 : Hid (yearF 401 Y0 r0 = (y, r)) := Lib.hid (by rw [← hF.out, yearF, ← hLm, if_neg hc])
        have hsp2 := hsp.out
        rw [hF2.out] at hsp2
        have hrl : r < 365 + leapI y := hsp2.2.1
        replace hLm := Lib.hid hLm
        clear hsp2 hF hf
        go_wp2_with fail
        refine hle'.mono ?_
        rintro e w ⟨rfl, rfl⟩
        clear hle'
        go_wp2_with fail
        have hd2 : Hid (dateN N = (y, (monF y 12 1 r).1, (monF y 12 1 r).2 + 1)) := Lib.hid (by rw [hd.out, hF2.out])
        go_loopw [0, 3] (fun nv mv wr => ∃ m t f : Nat, nv = .int .i64 (t : Int) ∧ mv = .int .i64 (m : Int) ∧ 1 ≤ m ∧ m ≤ 12 ∧ t ≤ 400 ∧ Hid (monF y f m t = monF y 12 1 r) ∧ Hid (12 < m + f) ∧ Hid (monS y m + t < 365 + leapI y) ∧ W = wr) (fun nv _ _ => (intOf nv).toNat)
        case atStart => exact ⟨1, r, 12, rfl, rfl, Nat.le_refl _, by decide, by have := leapI_le y; omega, Lib.hid rfl, Lib.hid (by decide), Lib.hid (by rw [monS_one]; omega), rfl⟩
        case round =>
          obtain ⟨m, t, f, rfl, rfl, hm1, hm2, ht, hM, hmf, hmt, hw⟩ := hrel
          subst hw
          obtain ⟨K, hK⟩ : ∃ K, K = lenM y m := ⟨_, rfl⟩
          have hKb := lenM_pos y m
          rw [← hK] at hKb
          have hle := hlen.out y m hm1 hm2 W rfl
          rw [← hK] at hle
          obtain ⟨f', hf'⟩ : ∃ f', f = f' + 1 := ⟨f - 1, by have := hmf.out; omega⟩
          subst hf'
          by_cases hc2 : K ≤ t
          · have gc2 : ((t : Int) ≥ (K : Int)) := by omega
            have hm12 : m < 12 := by
              rcases Nat.lt_or_ge m 12 with h5 | h5
              · exact h5
              · have h6 := monS_12 y
                have h7 := hmt.out
                rw [show m = 12 by omega] at h7 hK
                omega
            obtain ⟨t', ht'⟩ : ∃ t' : Nat, (t : Int) - (K : Int) = (t' : Int) := ⟨t - K, by omega⟩
            have hM2 : Hid (monF y f' (m + 1) t' = monF y 12 1 r) := Lib.hid (by rw [← hM.out, monF, ← hK, if_pos hc2, show t - K = t' by omega])
            have hmf2 : Hid (12 < m + 1 + f') := Lib.hid (by have := hmf.out; omega)
            have hmt2 : Hid (monS y (m + 1) + t' < 365 + leapI y) := Lib.hid (by
              rw [monS_step y hm1, ← hK]
              have := hmt.out
              omega)
            replace hK := Lib.hid hK
            go_wp2_with fail
            refine hle.mono ?_
            rintro e w ⟨rfl, rfl⟩
            go_wp2_with fail
            refine hle.mono ?_
            rintro e w ⟨rfl, rfl⟩
            go_wp2_with fail
            exact ⟨⟨m + 1, t', f', rfl, by simp, by omega, by omega, by omega, hM2, hmf2, hmt2, trivial⟩, by simp [intOf]; omega⟩
          · have gc2 : ¬ ((t : Int) ≥ (K : Int)) := by omega
            have hd3 : Hid (dateN N = (y, m, t + 1)) := Lib.hid (by rw [hd2.out, ← hM.out, monF, ← hK, if_neg hc2])
            have hdy : Hid (decide ((y : Int) ≤ 9999) = decide (y ≤ 9999)) := Lib.hid (by apply decide_eq_decide.2; omega)
            replace hK := Lib.hid hK
            go_wp2_with fail
            refine hle.mono ?_
            rintro e w ⟨rfl, rfl⟩
            go_wp2_with fail
            refine bodyPost_ret (v := .tuple #[.int .i64 (y : Int), .int .i64 (m : Int), .int .i64 ((t : Int) + 1), .bool (decide ((y : Int) ≤ 9999))]) ?ret rfl ?post
            case ret => rw [res_four rfl]; go_simp
            case post => exact ⟨by rw [hd3.out, hdy.out]; rfl, rfl⟩
end Go.Proofs.YtgobpoeccdgeiaaGreatDoor

namespace Go.Proofs.YtgobpoeccdgeiaaGreatDoor
open Go.RowKit NumP DurP TimeP Go.Proofs.YtgobpoeccdgeiaaGreatDoorW.PrintWords
set_option linter.unusedVariables false

theorem digs_zeros (k : Nat) : Dig (List.replicate k 48) := fun c hc => by rw [List.eq_of_mem_replicate hc]; rfl
theorem digs_app {a b : List UInt8} (ha : Dig a) (hb : Dig b) : Dig (a ++ b) := fun c hc => by
  rw [List.mem_append] at hc
  exact hc.elim (ha c) (hb c)
theorem valF_ge : ∀ (l : List UInt8) (a : Nat), a ≤ valF a l
  | [], a => Nat.le_refl _
  | c :: l, a => Nat.le_trans (by omega) (valF_ge l (10 * a + (c.toNat - 48)))
theorem parseUint_dig : ∀ (l : List UInt8) (a : Nat), Dig l → valF a l < 10 ^ 18 → Lib.parseUint10 a l = .ok (valF a l)
  | [], a, _, _ => rfl
  | c :: l, a, h, hv => by
    have hc := h c (List.mem_cons_self ..)
    have h2 : valF (10 * a + (c.toNat - 48)) l < 10 ^ 18 := hv
    have h3 := valF_ge l (10 * a + (c.toNat - 48))
    unfold isDig at hc
    simp only [Bool.and_eq_true, decide_eq_true_eq] at hc
    unfold Lib.parseUint10
    rw [if_pos hc, if_neg (by omega), if_neg (by omega), Nat.mul_comm a 10, parseUint_dig l _ (fun x hx => h x (List.mem_cons_of_mem _ hx)) h2]
    rfl
theorem atoiAll_dig {l : List UInt8} (h : Dig l) (h0 : l ≠ []) (hv : valD l < 10 ^ 18) : Lib.atoiAll l = .ok (valD l : Int) := by
  cases l with
  | nil => exact absurd rfl h0
  | cons c r =>
    have hc := h c (List.mem_cons_self ..)
    unfold isDig at hc
    simp only [Bool.and_eq_true, decide_eq_true_eq] at hc
    unfold Lib.atoiAll
    simp only
    rw [if_neg (by omega)]
    unfold Lib.parseMag
    rw [if_neg (by simp), parseUint_dig _ 0 h hv]
    simp only
    rw [show valF 0 (c :: r) = valD (c :: r) from rfl, if_neg (by omega), if_neg (by omega), if_neg (by omega)]
theorem atoiAll_neg {l : List UInt8} (h : Dig l) (h0 : l ≠ []) (hv : valD l < 10 ^ 18) : Lib.atoiAll (45 :: l) = .ok (-(valD l : Int)) := by
  unfold Lib.atoiAll
  simp only
  rw [if_pos (.inr rfl)]
  unfold Lib.parseMag
  rw [if_neg h0, parseUint_dig _ 0 h hv]
  simp only
  rw [show valF 0 l = valD l from rfl, if_neg (fun h => h.1 rfl), if_neg (by omega), if_pos (show UInt8.toNat 45 = 45 from rfl)]
/-- strconv.Atoi of a number in digits. -/
theorem atoi_t (s : ByteArray) (n : Int) (h : Lib.atoiAll s.data.toList = .ok n) (hs : s.size ≤ 1000) (w : World) : Calls Tryz.prog 62 #[.string s] w fun e w' => e = .returned (.tuple #[.int .i64 n, .nilIface]) ∧ Below w.heap.size w w' :=
  (Tryz.strconv_Atoi_ok s (by omega) n h w).mono fun e w' ⟨h1, h2⟩ => ⟨h1, by
    rcases h2 with rfl | ⟨t, rfl⟩
    · exact Below.refl _ _
    · exact Joins.below_bytesWorld _ _ _ _ (Nat.le_refl _)⟩
theorem idx_in : ∀ (l : List UInt8), -1 ≤ Lib.indexByte l 46 ∧ (0 ≤ Lib.indexByte l 46 ↔ l.contains 46 = true)
  | [] => by simp [Lib.indexByte]
  | c :: l => by
    obtain ⟨h1, h2⟩ := idx_in l
    by_cases hb : c = 46
    · subst hb
      have e : Lib.indexByte (46 :: l) 46 = 0 := by simp [Lib.indexByte]
      rw [e]; simp
    · have e : Lib.indexByte (c :: l) 46 = if Lib.indexByte l 46 == -1 then -1 else Lib.indexByte l 46 + 1 := by
        rw [Lib.indexByte, if_neg (by simpa using hb)]
      have e2 : (c :: l).contains 46 = l.contains 46 := by
        rw [List.contains_cons, show ((46 : UInt8) == c) = false by simpa using fun h => hb h.symm, Bool.false_or]
      rw [e, e2]
      by_cases h3 : Lib.indexByte l 46 = -1
      · rw [if_pos (by simpa using h3)]
        rw [h3] at h2
        exact ⟨by decide, ⟨fun h => absurd h (by decide), fun h => absurd (h2.2 h) (by decide)⟩⟩
      · rw [if_neg (by simpa using h3)]
        refine ⟨by omega, ?_⟩
        rw [← h2]
        constructor <;> intro <;> omega
theorem cut_found (l : List UInt8) : (Lib.cut l [46]).2.2 = l.contains 46 := by
  obtain ⟨h1, h2⟩ := idx_in l
  unfold Lib.cut
  rw [Lib.index_one]
  by_cases h : 0 ≤ Lib.indexByte l 46
  · rw [if_pos h, h2.1 h]
  · rw [if_neg h]
    cases hc : l.contains 46 with
    | false => rfl
    | true => exact absurd (h2.2 hc) h
/-- strings.Cut at a point. -/
theorem cut_t (s : ByteArray) (w : World) (hL : LaidT w) (hs : s.size ≤ 100000) : Calls Tryz.prog 47 #[.string s, .string ⟨#[46]⟩] w fun e w' => e = .returned (.tuple #[.string ⟨(before 46 s.data.toList).toArray⟩, .string ⟨(behind 46 s.data.toList).toArray⟩, .bool (s.data.toList.contains 46)]) ∧ Below w.heap.size w w' := by
  obtain ⟨m, hm⟩ := hL.base.num.maxlen
  refine (Tryz.strings_Cut s ⟨#[46]⟩ m w (by omega) hm).mono ?_
  rintro e w' ⟨h1, n, rfl⟩
  refine ⟨?_, below_drewN (Below.refl _ _) n⟩
  rw [h1, show (⟨#[46]⟩ : ByteArray).data.toList = [46] from rfl, (cut_point _).1, (cut_point _).2, cut_found]
/-- strings.Repeat of zeros. -/
theorem zeros_t (k : Nat) (w : World) (hk : k ≤ 1000) : Calls Tryz.prog 46 #[.string ⟨#[48]⟩, .int .i64 (k : Int)] w fun e w' => e = .returned (.string ⟨(List.replicate k 48).toArray⟩) ∧ Below w.heap.size w w' :=
  (Tryz.strings_Repeat ⟨#[48]⟩ k w (by omega) (by show 1 * k ≤ _; omega)).mono fun e w' ⟨h1, h2⟩ => ⟨by rw [h1, show (⟨#[48]⟩ : ByteArray).data.toList = [48] from rfl, repeat_zero], h2⟩
/-- Whether seconds are valid. -/
theorem parse_nil0 : parseT [] = ([], 5) := by decide +kernel
set_option maxHeartbeats 2000000 in
set_option maxRecDepth 100000 in
theorem micros_t (s : ByteArray) (W : World) (hL : LaidT W) (hs : s.size ≤ 1000) : Calls Tryz.prog 87 #[.string s] W fun e w' => e = .returned (.tuple #[.int .i64 ((micP s.data.toList).1 : Nat), .bool (micP s.data.toList).2]) ∧ Below W.heap.size W w' := by
  have hpa := Parse_b s W hL.base.num (by unfold maxLen; omega)
  obtain ⟨X, hX⟩ : ∃ X : ByteArray, X = ⟨(parseT s.data.toList).1.toArray⟩ := ⟨_, rfl⟩
  obtain ⟨ex, hex⟩ : ∃ k, k = (parseT s.data.toList).2 := ⟨_, rfl⟩
  have hpa' : Calls Tryz.prog 33 #[.string s] W fun e w' => e = .returned (.tuple #[.string X, .int .i64 ex]) ∧ Below W.heap.size W w' := hpa.mono fun e w' h => ⟨by rw [hX, hex]; exact h.1, h.2⟩
  have hXd : X.data.toList = (parseT s.data.toList).1 := by rw [hX]
  obtain ⟨M, hM⟩ : ∃ M, M = micP s.data.toList := ⟨_, rfl⟩
  rw [← hM]
  have hbad : (ex ≠ 0 ∨ X.data.toList ≠ s.data.toList ∨ s.data.toList.head? = some 45) → M = (0, false) := fun h => by
    rw [hM]; unfold micP; rw [if_pos (by rw [← hex, ← hXd]; exact h)]
  have hgood : ¬ (ex ≠ 0 ∨ X.data.toList ≠ s.data.toList ∨ s.data.toList.head? = some 45) → M = if 2 < (before 46 s.data.toList).length ∨ 6 < (behind 46 s.data.toList).length then (0, false) else (valD (before 46 s.data.toList ++ behind 46 s.data.toList ++ List.replicate (6 - (behind 46 s.data.toList).length) 48), decide (valD (before 46 s.data.toList ++ behind 46 s.data.toList ++ List.replicate (6 - (behind 46 s.data.toList).length) 48) < 60000000)) := fun h => by
    rw [hM]; unfold micP; rw [if_neg (by rw [← hex, ← hXd]; exact h)]
  have hne : ex = 0 → 0 < s.size := fun h => by
    rcases Nat.eq_zero_or_pos s.size with h0 | h0
    · have h2 : s.data.toList = [] := List.eq_nil_of_length_eq_zero (by rw [list_len]; exact h0)
      rw [h2, parse_nil0] at hex
      have hex : ex = 5 := hex
      omega
    · exact h0
  have hdigs : ex = 0 → X.data.toList = s.data.toList → s.data.toList.head? ≠ some 45 → Dig (before 46 s.data.toList) ∧ Dig (behind 46 s.data.toList) ∧ before 46 s.data.toList ≠ [] := fun h1 h2 h3 => by
    rw [hXd] at h2
    rw [hex] at h1
    unfold parseT at h1 h2
    cases hp : parseN s.data.toList with
    | error k =>
      rw [hp] at h1
      have := parseN_err hp
      have h1 : k = 0 := h1
      omega
    | ok x =>
      rw [hp] at h2
      have h2 : textN x = s.data.toList := h2
      obtain ⟨neg, d⟩ := x
      cases neg with
      | true => rw [← h2, tx_neg] at h3; exact absurd rfl h3
      | false =>
        obtain ⟨w, f, -, hb, hf, hw, hff, h0, -⟩ := tx_split d
        have h2 : tx d = s.data.toList := h2
        rw [← h2, hb, hf]
        exact ⟨hw, hff, h0⟩
  clear hpa hX hXd hex hM
  by_cases h1 : ex = 0
  · have g1 : (ex == 0) = true := by simpa using h1
    have hs0 := hne h1
    by_cases h2 : X.data.toList = s.data.toList
    · have g2 : (X.toList == s.toList) = true := by rw [ByteArray.toList_eq, ByteArray.toList_eq]; simpa using h2
      have hat := data_at s 0 hs0
      rw [← List.head?_eq_getElem?] at hat
      have gI : (0 : Int) < (s.size : Int) := by omega
      by_cases h3 : s.data.toList.head? = some 45
      · have hv := Lib.hid (hbad (.inr (.inr h3)))
        have g3 : ((s[0].toNat : Int) == 45) = true := by
          rw [hat] at h3
          rw [Option.some.inj h3]; rfl
        replace h1 := Lib.hid h1
        replace h2 := Lib.hid h2
        replace h3 := Lib.hid h3
        clear hbad hgood hne hdigs hat
        go_enter Tryz.func87, Tryz.ntmps87
        go_wp2_with fail
        refine hpa'.mono ?_
        rintro e w1 ⟨rfl, hb1⟩
        clear hpa'
        go_wp2_with fail
        go_ret2
        exact ⟨by rw [hv.out]; rfl, hb1⟩
      · have g3 : ((s[0].toNat : Int) == 45) = false := by
          rw [hat] at h3
          rw [show (45 : Int) = ((45 : UInt8).toNat : Int) from rfl, byte_eq]
          simpa using h3
        obtain ⟨hw, hf, hw0⟩ := hdigs h1 h2 h3
        have hv := hgood (by rintro (h | h | h); exact h h1; exact h h2; exact h3 h)
        have hcu := fun w hL => cut_t s w hL (by omega)
        obtain ⟨A, hA⟩ : ∃ A : ByteArray, A = ⟨(before 46 s.data.toList).toArray⟩ := ⟨_, rfl⟩
        obtain ⟨F, hF⟩ : ∃ F : ByteArray, F = ⟨(behind 46 s.data.toList).toArray⟩ := ⟨_, rfl⟩
        rw [← hA, ← hF] at hcu
        have hAl : A.data.toList = before 46 s.data.toList := by rw [hA]
        have hFl : F.data.toList = behind 46 s.data.toList := by rw [hF]
        rw [← hAl] at hv hw hw0
        rw [← hFl] at hv hf
        rw [list_len, list_len] at hv
        obtain ⟨cf, hcf⟩ : ∃ b, b = s.data.toList.contains 46 := ⟨_, rfl⟩
        rw [← hcf] at hcu
        replace h1 := Lib.hid h1
        replace h2 := Lib.hid h2
        replace h3 := Lib.hid h3
        replace hL := Lib.hid hL
        replace hcu := Lib.hid hcu
        clear hbad hgood hne hdigs hat hA hF hAl hFl hcf
        by_cases h4 : 2 < A.size ∨ 6 < F.size
        · rw [if_pos h4] at hv
          replace hv := Lib.hid hv
          clear hw hf hw0
          by_cases h5 : 2 < A.size
          · have g5 : ((A.size : Int) > 2) := by omega
            go_enter Tryz.func87, Tryz.ntmps87
            go_wp2_with fail
            refine hpa'.mono ?_
            rintro e w1 ⟨rfl, hb1⟩
            clear hpa'
            go_wp2_with fail
            refine (hcu.out w1 (hL.out.below hb1 hL.out.size)).mono ?_
            rintro e w2 ⟨rfl, hb2⟩
            go_wp2_with fail
            go_ret2
            exact ⟨by rw [hv.out]; rfl, hb1.trans (hb2.mono hb1.size)⟩
          · have g5 : ¬ ((A.size : Int) > 2) := by omega
            have g6 : ((F.size : Int) > 6) := by omega
            clear h4 h5
            go_enter Tryz.func87, Tryz.ntmps87
            go_wp2_with fail
            refine hpa'.mono ?_
            rintro e w1 ⟨rfl, hb1⟩
            clear hpa'
            go_wp2_with fail
            refine (hcu.out w1 (hL.out.below hb1 hL.out.size)).mono ?_
            rintro e w2 ⟨rfl, hb2⟩
            go_wp2_with fail
            go_ret2
            exact ⟨by rw [hv.out]; rfl, hb1.trans (hb2.mono hb1.size)⟩
        · rw [if_neg h4] at hv
          have g5 : ¬ ((A.size : Int) > 2) := by omega
          have g6 : ¬ ((F.size : Int) > 6) := by omega
          obtain ⟨k, hk⟩ : ∃ k : Nat, (6 : Int) - (F.size : Int) = (k : Int) := ⟨6 - F.size, by omega⟩
          rw [show 6 - F.size = k by omega] at hv
          have hze := fun w => zeros_t k w (by omega)
          obtain ⟨Z, hZ⟩ : ∃ Z : ByteArray, Z = ⟨(List.replicate k 48).toArray⟩ := ⟨_, rfl⟩
          have hZl : Z.data.toList = List.replicate k 48 := by rw [hZ]
          rw [← hZ] at hze
          have hZs : Z.size = k := by rw [← list_len, hZl, List.length_replicate]
          obtain ⟨T, hT⟩ : ∃ T : ByteArray, T = A ++ F ++ Z := ⟨_, rfl⟩
          have hTl : T.data.toList = A.data.toList ++ F.data.toList ++ List.replicate k 48 := by rw [hT, ByteArray.data_append, ByteArray.data_append]; simp [hZl]
          have hTd : Dig T.data.toList := by
            rw [hTl]
            exact digs_app (digs_app hw hf) (digs_zeros k)
          have hTs : T.size ≤ 8 := by rw [hT, ByteArray.size_append, ByteArray.size_append]; omega
          have hTv : valD T.data.toList < 10 ^ 18 := Nat.lt_of_lt_of_le (valD_lt _ hTd) (Nat.pow_le_pow_right (by decide) (by rw [list_len]; omega))
          have hT0 : T.data.toList ≠ [] := by
            rw [hTl]
            intro h
            simp at h
            exact hw0 (by simpa using h.1)
          rw [← hTl] at hv
          obtain ⟨V, hV⟩ : ∃ V, V = valD T.data.toList := ⟨_, rfl⟩
          have hato := fun w => atoi_t T (V : Int) (by rw [hV]; exact atoiAll_dig hTd hT0 hTv) (by omega) w
          rw [← hV] at hv
          have e1 : (9223372036854775807 < A.size + F.size) = False := eq_false (by omega)
          have e2 : (9223372036854775807 < A.size + F.size + Z.size) = False := eq_false (by omega)
          have eT : A ++ F ++ Z = T := hT.symm
          replace hv := Lib.hid hv
          replace hze := Lib.hid hze
          replace hato := Lib.hid hato
          replace eT := Lib.hid eT
          clear hw hf hw0 h4 hZ hZl hZs hT hTl hTd hTs hTv hT0 hV
          have hdec : Hid (decide (V < 60000000) = decide ((V : Int) < 60000000)) := Lib.hid (by
            apply decide_eq_decide.2
            omega)
          go_enter Tryz.func87, Tryz.ntmps87
          go_wp2_with fail
          refine hpa'.mono ?_
          rintro e w1 ⟨rfl, hb1⟩
          clear hpa'
          go_wp2_with fail
          refine (hcu.out w1 (hL.out.below hb1 hL.out.size)).mono ?_
          rintro e w2 ⟨rfl, hb2⟩
          have hb02 := Lib.hid (hb1.trans (hb2.mono hb1.size))
          clear hb1 hb2
          go_wp2_with fail
          refine (hze.out _).mono ?_
          rintro e w3 ⟨rfl, hb3⟩
          have hb03 := Lib.hid (hb02.out.trans (hb3.mono hb02.out.size))
          clear hb3
          go_wp2_with fail
          rw [eT.out]
          refine (hato.out _).mono ?_
          rintro e w4 ⟨rfl, hb4⟩
          have hb04 := Lib.hid (hb03.out.trans (hb4.mono hb03.out.size))
          clear hb4
          go_wp2_with fail
          go_ret2
          exact ⟨by rw [hv.out]; show _ = Ending.returned (.tuple #[.int .i64 (V : Nat), .bool (decide (V < 60000000))]); rw [hdec.out]; rfl, hb04.out⟩
    · have g2 : (X.toList == s.toList) = false := by rw [ByteArray.toList_eq, ByteArray.toList_eq]; simpa using h2
      have hv := Lib.hid (hbad (.inr (.inl h2)))
      replace h1 := Lib.hid h1
      replace h2 := Lib.hid h2
      clear hbad hgood hne hdigs
      go_enter Tryz.func87, Tryz.ntmps87
      go_wp2_with fail
      refine hpa'.mono ?_
      rintro e w1 ⟨rfl, hb1⟩
      clear hpa'
      go_wp2_with fail
      go_ret2
      exact ⟨by rw [hv.out]; rfl, hb1⟩
  · have g1 : (ex == 0) = false := by simpa using h1
    have hv := Lib.hid (hbad (.inl h1))
    replace h1 := Lib.hid h1
    clear hbad hgood hne hdigs
    go_enter Tryz.func87, Tryz.ntmps87
    go_wp2_with fail
    refine hpa'.mono ?_
    rintro e w1 ⟨rfl, hb1⟩
    clear hpa'
    go_wp2_with fail
    go_ret2
    exact ⟨by rw [hv.out]; rfl, hb1⟩
end Go.Proofs.YtgobpoeccdgeiaaGreatDoor

namespace Go.Proofs.YtgobpoeccdgeiaaGreatDoor
open Go.RowKit NumP DurP TimeP Go.Proofs.YtgobpoeccdgeiaaGreatDoorW.PrintWords
set_option linter.unusedVariables false

/-- What is known of a moment in memory. -/
structure MomAt (w : World) (q : Nat) (y mo d h mi : Int) (s : ByteArray) (z : Int) (has : Bool) : Prop where
  c0 : w.cell? ⟨q, 0, none⟩ = some (.int .i64 y)
  c1 : w.cell? ⟨q, 1, none⟩ = some (.int .i64 mo)
  c2 : w.cell? ⟨q, 2, none⟩ = some (.int .i64 d)
  c3 : w.cell? ⟨q, 3, none⟩ = some (.int .i64 h)
  c4 : w.cell? ⟨q, 4, none⟩ = some (.int .i64 mi)
  c5 : w.cell? ⟨q, 5, none⟩ = some (.string s)
  c6 : w.cell? ⟨q, 6, none⟩ = some (.int .i64 z)
  c7 : w.cell? ⟨q, 7, none⟩ = some (.bool has)
theorem MomAt.of_heap {w : World} {q : Nat} {y mo d h mi : Int} {s : ByteArray} {z : Int} {has : Bool} {T : TypeId} (e : w.heap[q]? = some (.cells #[.int .i64 y, .int .i64 mo, .int .i64 d, .int .i64 h, .int .i64 mi, .string s, .int .i64 z, .bool has] T (0, 0))) : MomAt w q y mo d h mi s z has := by
  refine ⟨?_, ?_, ?_, ?_, ?_, ?_, ?_, ?_⟩ <;> (rw [Lib.cell_of_heap e]; rfl)
theorem MomAt.below {w w' : World} {q : Nat} {y mo d h mi : Int} {s : ByteArray} {z : Int} {has : Bool} (m : MomAt w q y mo d h mi s z has) (hb : Below w.heap.size w w') : MomAt w' q y mo d h mi s z has := by
  obtain ⟨c0, c1, c2, c3, c4, c5, c6, c7⟩ := m
  have hq : q < w.heap.size := World.block_lt_of_cell? _ _ c0
  refine ⟨?_, ?_, ?_, ?_, ?_, ?_, ?_, ?_⟩ <;> (rw [hb.cell (p := ⟨q, _, none⟩) hq]; assumption)
theorem MomAt.drewN {w : World} {q : Nat} {y mo d h mi : Int} {s : ByteArray} {z : Int} {has : Bool} (m : MomAt w q y mo d h mi s z has) (n : Nat) : MomAt (w.drewN n) q y mo d h mi s z has := m.below (below_drewN (Below.refl _ _) n)
set_option maxRecDepth 100000 in
set_option maxHeartbeats 8000000 in
theorem valid_t (y mo d h mi : Int) (s : ByteArray) (z : Int) (has : Bool) (W : World) (hL : LaidT W) (hs : s.size ≤ 1000) : Calls Tryz.prog 43 #[.agg #[.int .i64 y, .int .i64 mo, .int .i64 d, .int .i64 h, .int .i64 mi, .string s, .int .i64 z, .bool has]] W fun e w' => e = .returned (.bool (validP ⟨y, mo, d, h, mi, s.data.toList, z, has⟩)) ∧ Below W.heap.size W w' := by
  obtain ⟨W1, hW1⟩ : ∃ w, w = W.alloc (.cells #[.int .i64 y, .int .i64 mo, .int .i64 d, .int .i64 h, .int .i64 mi, .string s, .int .i64 z, .bool has] 24) := ⟨_, rfl⟩
  obtain ⟨q, hq⟩ : ∃ q, q = W.heap.size := ⟨_, rfl⟩
  have hx1 : W1.heap[q]? = some (.cells #[.int .i64 y, .int .i64 mo, .int .i64 d, .int .i64 h, .int .i64 mi, .string s, .int .i64 z, .bool has] 24 (0, 0)) := by rw [hW1, hq]; exact (MapKept.heap_alloc _ _).1
  have hb1 : Hid (Below W.heap.size W W1) := Lib.hid (by rw [hW1]; exact (Below.refl _ _).alloc (Nat.le_refl _) _)
  have hM1 := Lib.hid (MomAt.of_heap hx1)
  have hL1 : Hid (LaidT W1) := Lib.hid (hL.below hb1.out hL.size)
  obtain ⟨L, hLn⟩ : ∃ L, L = lenM y.toNat mo.toNat := ⟨_, rfl⟩
  obtain ⟨V, hV⟩ : ∃ V, V = validP ⟨y, mo, d, h, mi, s.data.toList, z, has⟩ := ⟨_, rfl⟩
  rw [← hV]
  unfold validP at hV
  simp only at hV
  rw [← hLn] at hV
  obtain ⟨bb, hbb⟩ : ∃ b : Bool, b = decide (1 ≤ y ∧ y ≤ 9999 ∧ 1 ≤ mo ∧ mo ≤ 12 ∧ 1 ≤ d ∧ d ≤ (L : Int) ∧ 0 ≤ h ∧ h ≤ 23 ∧ 0 ≤ mi ∧ mi ≤ 59) := ⟨_, rfl⟩
  rw [← hbb] at hV
  obtain ⟨mn, hmn⟩ : ∃ n, n = (micP s.data.toList).1 := ⟨_, rfl⟩
  obtain ⟨mb, hmb⟩ : ∃ n, n = (micP s.data.toList).2 := ⟨_, rfl⟩
  have hmic := fun w hL => micros_t s w hL hs
  rw [← hmn, ← hmb] at hmic
  rw [← hmb] at hV
  have hlen : Hid (¬ y < 1 → ¬ mo < 1 → ¬ mo > 12 → ∀ w, LaidT w → Calls Tryz.prog 56 #[.int .i64 y, .int .i64 mo] w fun e w' => e = .returned (.int .i64 (L : Nat)) ∧ w' = w) := Lib.hid (fun a b c w hw => by
    have := length_t y.toNat mo.toNat w hw (by omega) (by omega)
    rw [← hLn, show ((y.toNat : Nat) : Int) = y by omega, show ((mo.toNat : Nat) : Int) = mo by omega] at this
    exact this.mono fun e w' h => ⟨h.1, h.2.symm⟩)
  replace hV := Lib.hid hV
  replace hLn := Lib.hid hLn
  replace hmic := Lib.hid hmic
  replace hL := Lib.hid hL
  clear hx1 hmn hmb hs
  go_enter Tryz.func43, Tryz.ntmps43
  go_upto_region 1 with fail
  rw [← hW1, ← hq]
  clear hW1
  replace hq := Lib.hid hq
  obtain ⟨c0, c1, c2, c3, c4, c5, c6, c7⟩ := hM1.out
  go_cut [57] from 5 to 56 (fun v wx => v = .bool (!bb) ∧ ∃ n, wx = W1.drewN n)
  case first =>
    by_cases n0 : y < 1
    · have hb0 : bb = false := by rw [hbb]; apply decide_eq_false; intro hh; omega
      have t0 : decide (y < 1) = true := decide_eq_true n0
      subst hb0
      clear hbb
      replace hlen := Lib.hid hlen
      go_quiet (fail)
      go_wp2_with fail
      go_meet
      exact ⟨rfl, _, rfl⟩
    · by_cases n1 : y > 9999
      · have f0 : decide (y < 1) = false := decide_eq_false n0
        have hb0 : bb = false := by rw [hbb]; apply decide_eq_false; intro hh; omega
        have t1 : decide (y > 9999) = true := decide_eq_true n1
        subst hb0
        clear hbb
        replace hlen := Lib.hid hlen
        go_quiet (fail)
        go_wp2_with fail
        go_meet
        exact ⟨rfl, _, rfl⟩
      · by_cases n2 : mo < 1
        · have f0 : decide (y < 1) = false := decide_eq_false n0
          have f1 : decide (y > 9999) = false := decide_eq_false n1
          have hb0 : bb = false := by rw [hbb]; apply decide_eq_false; intro hh; omega
          have t2 : decide (mo < 1) = true := decide_eq_true n2
          subst hb0
          clear hbb
          replace hlen := Lib.hid hlen
          go_quiet (fail)
          go_wp2_with fail
          go_meet
          exact ⟨rfl, _, rfl⟩
        · by_cases n3 : mo > 12
          · have f0 : decide (y < 1) = false := decide_eq_false n0
            have f1 : decide (y > 9999) = false := decide_eq_false n1
            have f2 : decide (mo < 1) = false := decide_eq_false n2
            have hb0 : bb = false := by rw [hbb]; apply decide_eq_false; intro hh; omega
            have t3 : decide (mo > 12) = true := decide_eq_true n3
            subst hb0
            clear hbb
            replace hlen := Lib.hid hlen
            go_quiet (fail)
            go_wp2_with fail
            go_meet
            exact ⟨rfl, _, rfl⟩
          · by_cases n4 : d < 1
            · have f0 : decide (y < 1) = false := decide_eq_false n0
              have f1 : decide (y > 9999) = false := decide_eq_false n1
              have f2 : decide (mo < 1) = false := decide_eq_false n2
              have f3 : decide (mo > 12) = false := decide_eq_false n3
              have hb0 : bb = false := by rw [hbb]; apply decide_eq_false; intro hh; omega
              have t4 : decide (d < 1) = true := decide_eq_true n4
              subst hb0
              clear hbb
              replace hlen := Lib.hid hlen
              go_quiet (fail)
              go_wp2_with fail
              go_meet
              exact ⟨rfl, _, rfl⟩
            · by_cases n5 : d > (L : Int)
              · have f0 : decide (y < 1) = false := decide_eq_false n0
                have f1 : decide (y > 9999) = false := decide_eq_false n1
                have f2 : decide (mo < 1) = false := decide_eq_false n2
                have f3 : decide (mo > 12) = false := decide_eq_false n3
                have f4 : decide (d < 1) = false := decide_eq_false n4
                have hb0 : bb = false := by rw [hbb]; apply decide_eq_false; intro hh; omega
                have t5 : decide (d > (L : Int)) = true := decide_eq_true n5
                subst hb0
                clear hbb
                have hl := hlen.out n0 n2 n3
                replace hlen := Lib.hid hlen
                go_quiet ((go_at_call 56; exact Calls.quiet_of_same (hl _ (hL1.out.below (below_drewN (Below.refl _ _) _) hL1.out.size))))
                go_wp2_with fail
                go_meet
                exact ⟨rfl, _, rfl⟩
              · by_cases n6 : h < 0
                · have f0 : decide (y < 1) = false := decide_eq_false n0
                  have f1 : decide (y > 9999) = false := decide_eq_false n1
                  have f2 : decide (mo < 1) = false := decide_eq_false n2
                  have f3 : decide (mo > 12) = false := decide_eq_false n3
                  have f4 : decide (d < 1) = false := decide_eq_false n4
                  have f5 : decide (d > (L : Int)) = false := decide_eq_false n5
                  have hb0 : bb = false := by rw [hbb]; apply decide_eq_false; intro hh; omega
                  have t6 : decide (h < 0) = true := decide_eq_true n6
                  subst hb0
                  clear hbb
                  have hl := hlen.out n0 n2 n3
                  replace hlen := Lib.hid hlen
                  go_quiet ((go_at_call 56; exact Calls.quiet_of_same (hl _ (hL1.out.below (below_drewN (Below.refl _ _) _) hL1.out.size))))
                  go_wp2_with fail
                  go_meet
                  exact ⟨rfl, _, rfl⟩
                · by_cases n7 : h > 23
                  · have f0 : decide (y < 1) = false := decide_eq_false n0
                    have f1 : decide (y > 9999) = false := decide_eq_false n1
                    have f2 : decide (mo < 1) = false := decide_eq_false n2
                    have f3 : decide (mo > 12) = false := decide_eq_false n3
                    have f4 : decide (d < 1) = false := decide_eq_false n4
                    have f5 : decide (d > (L : Int)) = false := decide_eq_false n5
                    have f6 : decide (h < 0) = false := decide_eq_false n6
                    have hb0 : bb = false := by rw [hbb]; apply decide_eq_false; intro hh; omega
                    have t7 : decide (h > 23) = true := decide_eq_true n7
                    subst hb0
                    clear hbb
                    have hl := hlen.out n0 n2 n3
                    replace hlen := Lib.hid hlen
                    go_quiet ((go_at_call 56; exact Calls.quiet_of_same (hl _ (hL1.out.below (below_drewN (Below.refl _ _) _) hL1.out.size))))
                    go_wp2_with fail
                    go_meet
                    exact ⟨rfl, _, rfl⟩
                  · by_cases n8 : mi < 0
                    · have f0 : decide (y < 1) = false := decide_eq_false n0
                      have f1 : decide (y > 9999) = false := decide_eq_false n1
                      have f2 : decide (mo < 1) = false := decide_eq_false n2
                      have f3 : decide (mo > 12) = false := decide_eq_false n3
                      have f4 : decide (d < 1) = false := decide_eq_false n4
                      have f5 : decide (d > (L : Int)) = false := decide_eq_false n5
                      have f6 : decide (h < 0) = false := decide_eq_false n6
                      have f7 : decide (h > 23) = false := decide_eq_false n7
                      have hb0 : bb = false := by rw [hbb]; apply decide_eq_false; intro hh; omega
                      have t8 : decide (mi < 0) = true := decide_eq_true n8
                      subst hb0
                      clear hbb
                      have hl := hlen.out n0 n2 n3
                      replace hlen := Lib.hid hlen
                      go_quiet ((go_at_call 56; exact Calls.quiet_of_same (hl _ (hL1.out.below (below_drewN (Below.refl _ _) _) hL1.out.size))))
                      go_wp2_with fail
                      go_meet
                      exact ⟨rfl, _, rfl⟩
                    · by_cases n9 : mi > 59
                      · have f0 : decide (y < 1) = false := decide_eq_false n0
                        have f1 : decide (y > 9999) = false := decide_eq_false n1
                        have f2 : decide (mo < 1) = false := decide_eq_false n2
                        have f3 : decide (mo > 12) = false := decide_eq_false n3
                        have f4 : decide (d < 1) = false := decide_eq_false n4
                        have f5 : decide (d > (L : Int)) = false := decide_eq_false n5
                        have f6 : decide (h < 0) = false := decide_eq_false n6
                        have f7 : decide (h > 23) = false := decide_eq_false n7
                        have f8 : decide (mi < 0) = false := decide_eq_false n8
                        have hb0 : bb = false := by rw [hbb]; apply decide_eq_false; intro hh; omega
                        have t9 : decide (mi > 59) = true := decide_eq_true n9
                        subst hb0
                        clear hbb
                        have hl := hlen.out n0 n2 n3
                        replace hlen := Lib.hid hlen
                        go_quiet ((go_at_call 56; exact Calls.quiet_of_same (hl _ (hL1.out.below (below_drewN (Below.refl _ _) _) hL1.out.size))))
                        go_wp2_with fail
                        go_meet
                        exact ⟨rfl, _, rfl⟩
                      · have f0 : decide (y < 1) = false := decide_eq_false n0
                        have f1 : decide (y > 9999) = false := decide_eq_false n1
                        have f2 : decide (mo < 1) = false := decide_eq_false n2
                        have f3 : decide (mo > 12) = false := decide_eq_false n3
                        have f4 : decide (d < 1) = false := decide_eq_false n4
                        have f5 : decide (d > (L : Int)) = false := decide_eq_false n5
                        have f6 : decide (h < 0) = false := decide_eq_false n6
                        have f7 : decide (h > 23) = false := decide_eq_false n7
                        have f8 : decide (mi < 0) = false := decide_eq_false n8
                        have f9 : decide (mi > 59) = false := decide_eq_false n9
                        have hb0 : bb = true := by rw [hbb]; apply decide_eq_true; omega
                        subst hb0
                        clear hbb
                        have hl := hlen.out n0 n2 n3
                        replace hlen := Lib.hid hlen
                        go_quiet ((go_at_call 56; exact Calls.quiet_of_same (hl _ (hL1.out.below (below_drewN (Below.refl _ _) _) hL1.out.size))))
                        go_wp2_with fail
                        go_meet
                        exact ⟨rfl, _, rfl⟩
  case rest =>
  obtain ⟨rfl, kn, hw⟩ := hcut
  clear c0 c1 c2 c3 c4 c5 c6 c7
  have hb2 : Hid (Below W.heap.size W wc) := Lib.hid (by rw [hw]; exact below_drewN hb1.out kn)
  have hM2 : Hid (MomAt wc q y mo d h mi s z has) := Lib.hid (by rw [hw]; exact hM1.out.drewN kn)
  have hL2 : Hid (LaidT wc) := Lib.hid (hL.out.below hb2.out hL.out.size)
  clear hw hbb
  cases bb with
  | false =>
    have hv : Hid (V = false) := Lib.hid (by rw [hV.out]; rfl)
    go_wp2_with fail
    go_ret
    exact ⟨by rw [hv.out]; rfl, hb2.out⟩
  | true =>
  obtain ⟨c0, c1, c2, c3, c4, c5, c6, c7⟩ := hM2.out
  go_wp2_with fail
  refine (hmic.out wc hL2.out).mono ?_
  rintro e w3 ⟨rfl, hb3⟩
  clear c0 c1 c2 c3 c4 c5 c6 c7
  have hB := Lib.hid (hb2.out.trans (hb3.mono hb2.out.size))
  have hM3 := Lib.hid (hM2.out.below hb3)
  clear hb3
  obtain ⟨-, -, -, -, -, -, c6, c7⟩ := hM3.out
  cases mb with
  | false =>
    have hv : Hid (V = false) := Lib.hid (by rw [hV.out]; simp)
    go_wp2_with fail
    go_ret
    exact ⟨by rw [hv.out]; rfl, hB.out⟩
  | true =>
    by_cases h1 : z ≥ -840
    · by_cases h2 : z ≤ 840
      · cases has with
        | true =>
          have hv : Hid (V = true) := Lib.hid (by rw [hV.out]; simp; omega)
          go_wp2_with fail
          go_ret
          exact ⟨by rw [hv.out]; rfl, hB.out⟩
        | false =>
          by_cases h3 : z = 0
          · have g3 : (z == 0) = true := by simpa using h3
            have hv : Hid (V = true) := Lib.hid (by rw [hV.out]; simp; omega)
            replace h3 := Lib.hid h3
            go_wp2_with fail
            go_ret
            exact ⟨by rw [hv.out]; rfl, hB.out⟩
          · have g3 : (z == 0) = false := by simpa using h3
            have hv : Hid (V = false) := Lib.hid (by rw [hV.out]; simp; omega)
            replace h3 := Lib.hid h3
            go_wp2_with fail
            go_ret
            exact ⟨by rw [hv.out]; rfl, hB.out⟩
      · have hv : Hid (V = false) := Lib.hid (by rw [hV.out]; simp; omega)
        go_wp2_with fail
        go_ret
        exact ⟨by rw [hv.out]; rfl, hB.out⟩
    · have hv : Hid (V = false) := Lib.hid (by rw [hV.out]; simp; omega)
      go_wp2_with fail
      go_ret
      exact ⟨by rw [hv.out]; rfl, hB.out⟩
end Go.Proofs.YtgobpoeccdgeiaaGreatDoor

namespace Go.Proofs.YtgobpoeccdgeiaaGreatDoor
open Go.RowKit NumP DurP TimeP Go.Proofs.YtgobpoeccdgeiaaGreatDoorW.PrintWords
set_option linter.unusedVariables false

set_option maxRecDepth 100000 in
set_option maxHeartbeats 4000000 in
theorem total_t (y mo d h mi n : Nat) (s : ByteArray) (z : Int) (has : Bool) (W : World) (hp : Parts y mo d h mi n) (hsd : s.data.toList = tx (n * P14)) (hL : LaidT W) (hs : s.size ≤ 1000) : Calls Tryz.prog 50 #[.agg #[.int .i64 (y : Int), .int .i64 (mo : Int), .int .i64 (d : Int), .int .i64 (h : Int), .int .i64 (mi : Int), .string s, .int .i64 z, .bool has]] W fun e w' => e = .returned (.int .i64 ((micU y mo d h mi n : Int) - epoch)) ∧ Below W.heap.size W w' := by
  obtain ⟨W1, hW1⟩ : ∃ w, w = W.alloc (.cells #[.int .i64 (y : Int), .int .i64 (mo : Int), .int .i64 (d : Int), .int .i64 (h : Int), .int .i64 (mi : Int), .string s, .int .i64 z, .bool has] 24) := ⟨_, rfl⟩
  obtain ⟨q, hq⟩ : ∃ q, q = W.heap.size := ⟨_, rfl⟩
  have hx1 : W1.heap[q]? = some (.cells #[.int .i64 (y : Int), .int .i64 (mo : Int), .int .i64 (d : Int), .int .i64 (h : Int), .int .i64 (mi : Int), .string s, .int .i64 z, .bool has] 24 (0, 0)) := by rw [hW1, hq]; exact (MapKept.heap_alloc _ _).1
  have hb1 : Hid (Below W.heap.size W W1) := Lib.hid (by rw [hW1]; exact (Below.refl _ _).alloc (Nat.le_refl _) _)
  have hM1 := Lib.hid (MomAt.of_heap hx1)
  have hL1 : Hid (LaidT W1) := Lib.hid (hL.below hb1.out hL.size)
  have hmic := micros_t s W1 hL1.out hs
  rw [hsd, micP_text hp.n2] at hmic
  have hda : Hid (∀ w, LaidT w → Calls Tryz.prog 54 #[.int .i64 (y : Int), .int .i64 (mo : Int), .int .i64 (d : Int)] w fun e w' => e = .returned (.int .i64 ((yearS y + monS y mo + d : Nat) - 1 - 719162 : Int)) ∧ w' = w) := Lib.hid (fun w hw => by
    have hd2 := hp.date.d2
    have hl := (lenM_pos y mo).2
    have hy := hp.y2
    exact (days_t y mo d w hw hp.date.y1 (by omega) hp.date.m1 hp.date.m2 (by omega)).mono fun e w' h => ⟨h.1, h.2.symm⟩)
  obtain ⟨D, hD⟩ : ∃ D : Int, D = ((yearS y + monS y mo + d : Nat) - 1 - 719162 : Int) := ⟨_, rfl⟩
  have hdn : (dayN y mo d : Int) = D + 719162 := by
    have := hp.date.d1
    rw [hD]; unfold dayN; omega
  have hdl : dayN y mo d < 3652059 := (year_9999 (dayN y mo d)).1 (by rw [dateN_dayN hp.date]; exact hp.y2)
  rw [← hD] at hda
  have hR : Hid ((micU y mo d h mi n : Int) - epoch = ((D * 24 + (h : Int)) * 60 + (mi : Int)) * 60000000 + (n : Int)) := Lib.hid (by unfold micU epoch; omega)
  have k1 : -719162 ≤ D ∧ D ≤ 3000000 := by omega
  obtain ⟨k1, k2⟩ := k1
  have k3 : (h : Int) ≤ 23 := by have := hp.h2; omega
  have k4 : (mi : Int) ≤ 59 := by have := hp.mi2; omega
  have k5 : (n : Int) < 60000000 := by have := hp.n2; omega
  replace hD := Lib.hid hD
  replace hL := Lib.hid hL
  clear hx1 hp hsd hs hdn hdl
  go_enter Tryz.func50, Tryz.ntmps50
  go_upto_region 1 with fail
  rw [← hW1, ← hq]
  clear hW1
  replace hq := Lib.hid hq
  obtain ⟨c0, c1, c2, c3, c4, c5, c6, c7⟩ := hM1.out
  go_wp2_with fail
  refine hmic.mono ?_
  rintro e w3 ⟨rfl, hb3⟩
  clear hmic c0 c1 c2 c3 c4 c5 c6 c7
  have hB := Lib.hid (hb1.out.trans (hb3.mono hb1.out.size))
  have hM3 := Lib.hid (hM1.out.below hb3)
  have hL3 : Hid (LaidT w3) := Lib.hid (hL.out.below hB.out hL.out.size)
  clear hb3
  obtain ⟨c0, c1, c2, c3, c4, c5, c6, c7⟩ := hM3.out
  go_wp2_with fail
  go_quiet ((go_at_call 54; exact Calls.quiet_of_same (hda.out _ (hL3.out.below (below_drewN (Below.refl _ _) _) hL3.out.size))))
  go_wp2_with fail
  go_ret
  exact ⟨by rw [hR.out]; rfl, below_drewN hB.out _⟩
/-- strconv.Itoa, with a sign. -/
theorem itoa_t (n : Int) (w : World) (hL : LaidT w) (hn : n.natAbs < 1000000000000000000) : Calls Tryz.prog 45 #[.int .i64 n] w fun e w' => e = .returned (.string ⟨((if n < 0 then [45] else []) ++ decP n.natAbs).toArray⟩) ∧ Below w.heap.size w w' := by
  refine (Tryz.strconv_Itoa n (by omega) (by omega) w hL.base.tab).mono ?_
  rintro e w' ⟨rfl, k, os, rfl⟩
  refine ⟨?_, below_grow w k os⟩
  rw [decP_eq (by omega)]
  unfold Lib.itoa
  by_cases h : n < 0
  · rw [if_pos h, if_pos h]; rfl
  · rw [if_neg h, if_neg h, show n.toNat = n.natAbs by omega]; rfl
/-- What decimal writes, by the digits with zeros ahead. -/
theorem decU_split {us : Int} {S : List UInt8} (h : S = List.replicate (7 - (decP us.natAbs).length) 48 ++ decP us.natAbs) : decU us = (parseT ((if us < 0 then [45] else []) ++ S.take (S.length - 6) ++ 46 :: S.drop (S.length - 6))).1 := by
  unfold decU
  simp only
  rw [h]
theorem bel_later {W w w' : World} (h : Hid (Below W.heap.size W w)) (hb : Below w.heap.size w w') : Hid (Below W.heap.size W w') := Lib.hid (h.out.trans (hb.mono h.out.size))
set_option maxRecDepth 100000 in
set_option maxHeartbeats 4000000 in
theorem decimal_t (us : Int) (W : World) (hL : LaidT W) (hn : us.natAbs < 1000000000000000000) : Calls Tryz.prog 49 #[.int .i64 us] W fun e w' => e = .returned (.string ⟨(decU us).toArray⟩) ∧ Below W.heap.size W w' := by
  have hit := itoa_t us W hL hn
  obtain ⟨D, hD⟩ : ∃ D : ByteArray, D = ⟨(decP us.natAbs).toArray⟩ := ⟨_, rfl⟩
  have hDl : D.data.toList = decP us.natAbs := by rw [hD]
  have hDs : D.size ≤ 18 := by rw [← list_len, hDl]; exact decF_short 20 us.natAbs 17 (by omega)
  have hD1 : 1 ≤ D.size := by
    have := (decP_dig (n := us.natAbs) (by omega)).2.1
    rw [← list_len, hDl]
    exact List.length_pos_iff.2 this
  obtain ⟨k, hk⟩ : ∃ k : Nat, k = 7 - D.size := ⟨_, rfl⟩
  have gk : max (0 : Int) (7 - (D.size : Int)) = (k : Int) := by omega
  have hze := fun w => zeros_t k w (by omega)
  obtain ⟨Z, hZ⟩ : ∃ Z : ByteArray, Z = ⟨(List.replicate k 48).toArray⟩ := ⟨_, rfl⟩
  rw [← hZ] at hze
  have hZs : Z.size = k := by rw [← list_len, hZ]; simp
  obtain ⟨S, hS⟩ : ∃ S : ByteArray, S = Z ++ D := ⟨_, rfl⟩
  have hSs : S.size = k + D.size := by rw [hS, ByteArray.size_append, hZs]
  have hSl : S.data.toList = List.replicate (7 - (decP us.natAbs).length) 48 ++ decP us.natAbs := by
    rw [hS, ByteArray.data_append, hZ, ← hDl, list_len, ← hk]; simp
  have hdU := decU_split hSl
  rw [list_len] at hdU
  obtain ⟨j, hj⟩ : ∃ j, S.size = j + 6 := ⟨S.size - 6, by omega⟩
  have hj20 : j ≤ 14 := by omega
  rw [hj, Nat.add_sub_cancel] at hdU
  obtain ⟨sg, hsg⟩ : ∃ s : ByteArray, s = (if us < 0 then ⟨#[45]⟩ else ⟨#[]⟩) := ⟨_, rfl⟩
  have hsgl : sg.data.toList = (if us < 0 then [45] else []) := by rw [hsg]; split <;> rfl
  have hsgs : sg.size ≤ 1 := by rw [hsg]; split <;> decide
  obtain ⟨A, hA⟩ : ∃ A : ByteArray, A = S.extract 0 j := ⟨_, rfl⟩
  obtain ⟨F, hF⟩ : ∃ F : ByteArray, F = S.extract j S.size := ⟨_, rfl⟩
  have hAl : A.data.toList = S.data.toList.take j := by rw [hA, ← take_mk]
  have hFl : F.data.toList = S.data.toList.drop j := by rw [hF, ← drop_mk]
  have hAs : A.size ≤ 14 := by rw [← list_len, hAl, List.length_take]; omega
  have hFs : F.size ≤ 20 := by rw [← list_len, hFl, List.length_drop, list_len]; omega
  obtain ⟨P, hP⟩ : ∃ P : ByteArray, P = sg ++ A := ⟨_, rfl⟩
  obtain ⟨Q, hQ⟩ : ∃ Q : ByteArray, Q = P ++ ⟨#[46]⟩ := ⟨_, rfl⟩
  obtain ⟨T, hT⟩ : ∃ T : ByteArray, T = Q ++ F := ⟨_, rfl⟩
  have hPs : P.size = sg.size + A.size := by rw [hP, ByteArray.size_append]
  have hQs : Q.size = P.size + 1 := by rw [hQ, ByteArray.size_append]; rfl
  have hTs : T.size = Q.size + F.size := by rw [hT, ByteArray.size_append]
  have hTl : T.data.toList = (if us < 0 then [45] else []) ++ S.data.toList.take j ++ 46 :: S.data.toList.drop j := by
    rw [hT, hQ, hP]
    simp only [ByteArray.data_append, Array.toList_append, hsgl, hAl, hFl]
    simp
  obtain ⟨R, hR⟩ : ∃ R, R = decU us := ⟨_, rfl⟩
  have hpar' : ∀ w, LaidT w → Calls Tryz.prog 33 #[.string T] w fun e w' => ∃ k, e = .returned (.tuple #[.string ⟨R.toArray⟩, .int .i64 k]) ∧ Below w.heap.size w w' := fun w hw => (Parse_b T w hw.base.num (show T.size ≤ 2 ^ 63 - 1 by omega)).mono fun e w' h => ⟨_, by rw [hR, hdU, ← hTl]; exact h.1, h.2⟩
  rw [← hR]
  have e1 : (9223372036854775807 < Z.size + D.size) = False := eq_false (by omega)
  have e3 : (9223372036854775807 < P.size + 1) = False := eq_false (by omega)
  have e4 : (9223372036854775807 < Q.size + F.size) = False := eq_false (by omega)
  have e5 : (9223372036854775807 < 1 + A.size) = False := eq_false (by omega)
  have e6 : (9223372036854775807 < 0 + A.size) = False := eq_false (by omega)
  have e7 : (9223372036854775807 < A.size) = False := eq_false (by omega)
  have q1 : P ++ ⟨#[46]⟩ = Q := hQ.symm
  have q2 : Q ++ F = T := hT.symm
  have k1 : (S.size : Int) - 6 = (j : Int) := by omega
  have k2 : (j : Int) ≤ (S.size : Int) := by omega
  have k3 : j ≤ S.size := by omega
  have k4 : (0:Int) ≤ (j : Int) := by omega
  have k5 : IntKind.i64.wrap ((S.size : Int) - 6) = (j : Int) := by rw [k1]; exact IntWalk.i64_in _ (by omega)
  have k6 : IntKind.i64.wrap (j : Int) = (j : Int) := IntWalk.i64_in _ (by omega)
  have eA : S.extract 0 j = A := hA.symm
  have eF : S.extract j S.size = F := hF.symm
  have hL' := Lib.hid hL
  replace hpar' := Lib.hid hpar'
  replace hze := Lib.hid hze
  have hS' := Lib.hid hS
  have hA' := Lib.hid hA
  have hF' := Lib.hid hF
  clear hTl hdU hSl hDl hR hZ hk hZs hSs hAl hFl hAs hFs hj hj20 hsgl hsgs hD1 hS hA hF hT hQ hPs hQs hTs hL
  by_cases hneg : us < 0
  · obtain ⟨N, hN⟩ : ∃ N : ByteArray, N = ⟨(45 :: decP us.natAbs).toArray⟩ := ⟨_, rfl⟩
    rw [if_pos hneg] at hit hsg
    have q0 : (⟨#[45]⟩ : ByteArray) ++ A = P := by rw [hP, hsg]
    have hit2 : Calls Tryz.prog 45 #[.int .i64 us] W fun e w' => e = .returned (.string N) ∧ Below W.heap.size W w' := hit.mono fun e w' h => ⟨by rw [hN]; exact h.1, h.2⟩
    have e5 : (1:Int) ≤ (N.size:Int) := by rw [hN]; simp [ByteArray.size]; omega
    have e6 : 1 ≤ N.size := by omega
    have e0 : N.extract 1 N.size = D := by rw [← drop_mk, hN, hD]; rfl
    clear hN hit hD hP hsg
    go_enter Tryz.func49, Tryz.ntmps49
    go_wp2_with fail
    refine hit2.mono ?_
    rintro e w1 ⟨rfl, hb1⟩
    clear hit2
    go_wp2_with fail
    go_quiet (fail)
    go_wp2_with fail
    refine (hze.out _).mono ?_
    rintro e w3 ⟨rfl, hw3⟩
    have hB := bel_later (Lib.hid (below_drewN hb1 _)) hw3
    clear hw3 hb1 gk
    have hL3 : Hid (LaidT w3) := Lib.hid (hL'.out.below hB.out hL'.out.size)
    have hSS : Hid (Hid (Below w3.heap.size w3 w3.drew)) := Lib.hid (Lib.hid (Below.refl _ _).drew)
    go_wp2_with fail
    rw [← hS'.out]
    go_region_held3 (fun w' => Hid (Below w3.heap.size w3 w'))
      (first | exact hSS.out | assumption | exact bel_later (by assumption) (by assumption))
      (first | (go_at_call 33; refine (hpar'.out _ (hL3.out.below (Hid.out (by assumption)) hL3.out.size)).mono ?_; rintro e w' ⟨k', rfl, hbb⟩))
    rename_i hH
    go_wp2_with fail
    go_ret
    exact ⟨rfl, hB.out.trans (hH.out.mono hB.out.size)⟩
  · rw [if_neg hneg] at hit hsg
    have q0 : (⟨#[]⟩ : ByteArray) ++ A = P := by rw [hP, hsg]
    have hit2 : Calls Tryz.prog 45 #[.int .i64 us] W fun e w' => e = .returned (.string D) ∧ Below W.heap.size W w' := hit.mono fun e w' h => ⟨by rw [hD]; exact h.1, h.2⟩
    clear hit hD hP hsg
    go_enter Tryz.func49, Tryz.ntmps49
    go_wp2_with fail
    refine hit2.mono ?_
    rintro e w1 ⟨rfl, hb1⟩
    clear hit2
    go_wp2_with fail
    refine (hze.out _).mono ?_
    rintro e w3 ⟨rfl, hw3⟩
    have hB := bel_later (Lib.hid (hb1)) hw3
    clear hw3 hb1 gk
    have hL3 : Hid (LaidT w3) := Lib.hid (hL'.out.below hB.out hL'.out.size)
    have hSS : Hid (Hid (Below w3.heap.size w3 w3.drew)) := Lib.hid (Lib.hid (Below.refl _ _).drew)
    go_wp2_with fail
    rw [← hS'.out]
    go_region_held3 (fun w' => Hid (Below w3.heap.size w3 w'))
      (first | exact hSS.out | assumption | exact bel_later (by assumption) (by assumption))
      (first | (go_at_call 33; refine (hpar'.out _ (hL3.out.below (Hid.out (by assumption)) hL3.out.size)).mono ?_; rintro e w' ⟨k', rfl, hbb⟩))
    rename_i hH
    go_wp2_with fail
    go_ret
    exact ⟨rfl, hB.out.trans (hH.out.mono hB.out.size)⟩
end Go.Proofs.YtgobpoeccdgeiaaGreatDoor

namespace Go.Proofs.YtgobpoeccdgeiaaGreatDoor
open Go.RowKit NumP DurP TimeP Go.Proofs.YtgobpoeccdgeiaaGreatDoorW.PrintWords
set_option linter.unusedVariables false

/-- A moment as a value. -/
def momV (m : Mom) : Value := .agg #[.int .i64 m.y, .int .i64 m.mo, .int .i64 m.d, .int .i64 m.h, .int .i64 m.mi, .string ⟨m.s.toArray⟩, .int .i64 m.z, .bool m.has]
/-- A moment and an error as a value. -/
def momE (r : Mom × Int) : Value := .tuple #[momV r.1, .int .i64 r.2]
theorem date_k (n : Int) (h1 : -1000000000 ≤ n) (h2 : n ≤ 1000000000) : ∃ (A B C : Int) (ok : Bool), (∀ w, LaidT w → Calls Tryz.prog 98 #[.int .i64 n] w fun e w' => e = .returned (.tuple #[.int .i64 A, .int .i64 B, .int .i64 C, .bool ok]) ∧ w = w') ∧
    ∀ (m : Mom) (us : Int), us / 86400000000 = n → if ok = true then atP m us = (⟨A, B, C, ((us % 86400000000).toNat / 3600000000 : Nat), ((us % 86400000000).toNat % 3600000000 / 60000000 : Nat), decU (((us % 86400000000).toNat % 60000000 : Nat) : Int), m.z, m.has⟩, 0) else atP m us = (mom0, 6) := by
  by_cases h0 : n + 719162 < 0
  · refine ⟨0, 0, 0, false, fun w hw => (date_t n w hw h1 h2).mono fun e w' h => ⟨by rw [h.1, if_pos h0], h.2⟩, fun m us e => ?_⟩
    rw [if_neg (by decide)]
    unfold atP
    rw [e, if_pos h0]
  · refine ⟨_, _, _, decide ((dateN (n + 719162).toNat).1 ≤ 9999), fun w hw => (date_t n w hw h1 h2).mono fun e w' h => ⟨by rw [h.1, if_neg h0], h.2⟩, fun m us e => ?_⟩
    by_cases hy : (dateN (n + 719162).toNat).1 ≤ 9999
    · rw [if_pos (by simpa using hy)]
      unfold atP
      simp only
      rw [e, if_neg h0, if_neg (by omega)]
    · rw [if_neg (by simpa using hy)]
      unfold atP
      simp only
      rw [e, if_neg h0, if_pos (by omega)]
/-- A whole moment is stored. -/
theorem put8 {w : World} {q : Nat} {T : TypeId} {x0 x1 x2 x3 x4 x5 x6 x7 : Value} (h : w.heap[q]? = some (.cells #[x0, x1, x2, x3, x4, x5, x6, x7] T (0, 0))) (a0 a1 a2 a3 a4 a5 a6 a7 : Value) {B : Nat} (hB : B ≤ q) :
    ∃ W5, W5 = (((((((w.setCell ⟨q, 0, none⟩ a0).setCell ⟨q, 1, none⟩ a1).setCell ⟨q, 2, none⟩ a2).setCell ⟨q, 3, none⟩ a3).setCell ⟨q, 4, none⟩ a4).setCell ⟨q, 5, none⟩ a5).setCell ⟨q, 6, none⟩ a6).setCell ⟨q, 7, none⟩ a7 ∧ W5.heap[q]? = some (.cells #[a0, a1, a2, a3, a4, a5, a6, a7] T (0, 0)) ∧ Below B w W5 := by
  obtain ⟨w1, v1⟩ : ∃ u, u = w.setCell ⟨q, 0, none⟩ a0 := ⟨_, rfl⟩
  have e1 : w1.heap[q]? = some (.cells #[a0, x1, x2, x3, x4, x5, x6, x7] T (0, 0)) := by rw [v1]; exact Lib.heap_setCell_same (i := 0) h a0
  have b1 : Below B w w1 := by rw [v1]; exact (Below.refl _ _).setCell (p := ⟨q, 0, none⟩) hB _
  obtain ⟨w2, v2⟩ : ∃ u, u = w1.setCell ⟨q, 1, none⟩ a1 := ⟨_, rfl⟩
  have e2 : w2.heap[q]? = some (.cells #[a0, a1, x2, x3, x4, x5, x6, x7] T (0, 0)) := by rw [v2]; exact Lib.heap_setCell_same (i := 1) e1 a1
  have b2 : Below B w1 w2 := by rw [v2]; exact (Below.refl _ _).setCell (p := ⟨q, 1, none⟩) hB _
  obtain ⟨w3, v3⟩ : ∃ u, u = w2.setCell ⟨q, 2, none⟩ a2 := ⟨_, rfl⟩
  have e3 : w3.heap[q]? = some (.cells #[a0, a1, a2, x3, x4, x5, x6, x7] T (0, 0)) := by rw [v3]; exact Lib.heap_setCell_same (i := 2) e2 a2
  have b3 : Below B w2 w3 := by rw [v3]; exact (Below.refl _ _).setCell (p := ⟨q, 2, none⟩) hB _
  obtain ⟨w4, v4⟩ : ∃ u, u = w3.setCell ⟨q, 3, none⟩ a3 := ⟨_, rfl⟩
  have e4 : w4.heap[q]? = some (.cells #[a0, a1, a2, a3, x4, x5, x6, x7] T (0, 0)) := by rw [v4]; exact Lib.heap_setCell_same (i := 3) e3 a3
  have b4 : Below B w3 w4 := by rw [v4]; exact (Below.refl _ _).setCell (p := ⟨q, 3, none⟩) hB _
  obtain ⟨w5, v5⟩ : ∃ u, u = w4.setCell ⟨q, 4, none⟩ a4 := ⟨_, rfl⟩
  have e5 : w5.heap[q]? = some (.cells #[a0, a1, a2, a3, a4, x5, x6, x7] T (0, 0)) := by rw [v5]; exact Lib.heap_setCell_same (i := 4) e4 a4
  have b5 : Below B w4 w5 := by rw [v5]; exact (Below.refl _ _).setCell (p := ⟨q, 4, none⟩) hB _
  obtain ⟨w6, v6⟩ : ∃ u, u = w5.setCell ⟨q, 5, none⟩ a5 := ⟨_, rfl⟩
  have e6 : w6.heap[q]? = some (.cells #[a0, a1, a2, a3, a4, a5, x6, x7] T (0, 0)) := by rw [v6]; exact Lib.heap_setCell_same (i := 5) e5 a5
  have b6 : Below B w5 w6 := by rw [v6]; exact (Below.refl _ _).setCell (p := ⟨q, 5, none⟩) hB _
  obtain ⟨w7, v7⟩ : ∃ u, u = w6.setCell ⟨q, 6, none⟩ a6 := ⟨_, rfl⟩
  have e7 : w7.heap[q]? = some (.cells #[a0, a1, a2, a3, a4, a5, a6, x7] T (0, 0)) := by rw [v7]; exact Lib.heap_setCell_same (i := 6) e6 a6
  have b7 : Below B w6 w7 := by rw [v7]; exact (Below.refl _ _).setCell (p := ⟨q, 6, none⟩) hB _
  obtain ⟨w8, v8⟩ : ∃ u, u = w7.setCell ⟨q, 7, none⟩ a7 := ⟨_, rfl⟩
  have e8 : w8.heap[q]? = some (.cells #[a0, a1, a2, a3, a4, a5, a6, a7] T (0, 0)) := by rw [v8]; exact Lib.heap_setCell_same (i := 7) e7 a7
  have b8 : Below B w7 w8 := by rw [v8]; exact (Below.refl _ _).setCell (p := ⟨q, 7, none⟩) hB _
  exact ⟨w8, by rw [v8, v7, v6, v5, v4, v3, v2, v1], e8, b1.trans (b2.trans (b3.trans (b4.trans (b5.trans (b6.trans (b7.trans b8))))))⟩
set_option maxRecDepth 100000 in
set_option maxHeartbeats 4000000 in
theorem at_t (y mo d h mi : Int) (s : ByteArray) (z : Int) (has : Bool) (us : Int) (W : World) (hL : LaidT W) (hu1 : -2000000000000000000 < us) (hu2 : us < 2000000000000000000) : Calls Tryz.prog 57 #[.agg #[.int .i64 y, .int .i64 mo, .int .i64 d, .int .i64 h, .int .i64 mi, .string s, .int .i64 z, .bool has], .int .i64 us] W fun e w' => e = .returned (momE (atP ⟨y, mo, d, h, mi, s.data.toList, z, has⟩ us)) ∧ Below W.heap.size W w' := by
  obtain ⟨n, hn⟩ : ∃ n, us / 86400000000 = n := ⟨_, rfl⟩
  obtain ⟨A, B, C, ok, hda, hat⟩ := date_k n (by omega) (by omega)
  have hat := hat ⟨y, mo, d, h, mi, s.data.toList, z, has⟩ us hn
  obtain ⟨r, hr⟩ : ∃ r : Nat, us % 86400000000 = (r : Int) := ⟨(us % 86400000000).toNat, by omega⟩
  rw [hr, Int.toNat_natCast] at hat
  obtain ⟨R, hR⟩ : ∃ R, R = atP ⟨y, mo, d, h, mi, s.data.toList, z, has⟩ us := ⟨_, rfl⟩
  rw [← hR] at hat ⊢
  replace hat := Lib.hid hat
  obtain ⟨H, hH⟩ : ∃ H, H = r / 3600000000 := ⟨_, rfl⟩
  obtain ⟨M, hM⟩ : ∃ M, M = r % 3600000000 / 60000000 := ⟨_, rfl⟩
  obtain ⟨U, hU⟩ : ∃ U, U = r % 60000000 := ⟨_, rfl⟩
  have hUb : U < 60000000 := by omega
  have hr86 : r < 86400000000 := by omega
  have hdec : Hid (∀ w, LaidT w → Calls Tryz.prog 49 #[.int .i64 (U : Int)] w fun e w' => e = .returned (.string ⟨(decU (U : Int)).toArray⟩) ∧ Below w.heap.size w w') := Lib.hid (fun w hw => decimal_t U w hw (by omega))
  obtain ⟨a, ha⟩ : ∃ a, us.tdiv 86400000000 = a := ⟨_, rfl⟩
  obtain ⟨b, hb⟩ : ∃ b, us.tmod 86400000000 = b := ⟨_, rfl⟩
  have hab : us = 86400000000 * a + b := by rw [← ha, ← hb]; exact (Int.mul_tdiv_add_tmod _ _).symm
  have b1 : -86400000000 < b := by rw [← hb]; have := Int.lt_tmod_of_pos us (show (0:Int) < 86400000000 by decide); exact this
  have b2 : b < 86400000000 := by rw [← hb]; exact Int.tmod_lt_of_pos us (by decide)
  have a1 : -100000000 < a := by omega
  have a2 : a < 100000000 := by omega
  have g1 : (r : Int) / 3600000000 = (H : Int) := by omega
  have g2 : (r : Int) % 3600000000 / 60000000 = (M : Int) := by omega
  have g3 : (r : Int) % 3600000000 % 60000000 = (U : Int) := by omega
  obtain ⟨q, hq⟩ : ∃ q, q = W.heap.size := ⟨_, rfl⟩
  have hda : Hid (∀ w, LaidT w → Calls Tryz.prog 98 #[.int .i64 n] w fun e w' => e = .returned (.tuple #[.int .i64 A, .int .i64 B, .int .i64 C, .bool ok]) ∧ w = w') := Lib.hid hda
  by_cases hneg : b < 0
  · have e1 : a - 1 = n := by omega
    have e2 : b + 86400000000 = (r : Int) := by omega
    replace hab := Lib.hid hab
    replace hn := Lib.hid hn
    replace hr := Lib.hid hr
    replace hR := Lib.hid hR
    replace hL := Lib.hid hL
    replace hq := Lib.hid hq
    replace hH := Lib.hid hH
    replace hM := Lib.hid hM
    replace hU := Lib.hid hU
    go_enter Tryz.func57, Tryz.ntmps57
    go_wp2_with fail
    refine (hda.out _ (hL.out.below (((Below.refl _ _).alloc (Nat.le_refl _) _).alloc (by simp) _) hL.out.size)).mono ?_
    rintro e w ⟨rfl, rfl⟩
    clear hda
    cases ok with
    | false =>
      have hRe := Lib.hid (hat.out)
      go_wp2_with fail
      refine bodyPost_ret (v := .tuple #[.agg #[.int .i64 0, .int .i64 0, .int .i64 0, .int .i64 0, .int .i64 0, .string ⟨#[]⟩, .int .i64 0, .bool false], .int .i64 6]) ?ret rfl ?post
      case ret => rw [res_two rfl]; go_simp
      case post => exact ⟨by rw [show R = (mom0, 6) from hRe.out]; rfl, ((Below.refl _ _).alloc (Nat.le_refl _) _).alloc (by simp) _⟩
    | true =>
      have hRe := Lib.hid (hat.out)
      obtain ⟨W2, hW2⟩ : ∃ w, w = (W.alloc (.cells #[.int .i64 A, .int .i64 B, .int .i64 C, .int .i64 (H : Int), .int .i64 (M : Int), .string s, .int .i64 z, .bool has] 24)).alloc (.cells #[.int .i64 0, .int .i64 0, .int .i64 0, .int .i64 0, .int .i64 0, .string ⟨#[]⟩, .int .i64 0, .bool false] 24) := ⟨_, rfl⟩
      have hq2 : W2.heap[q]? = some (.cells #[.int .i64 A, .int .i64 B, .int .i64 C, .int .i64 (H : Int), .int .i64 (M : Int), .string s, .int .i64 z, .bool has] 24 (0, 0)) := by
        rw [hW2, hq.out]
        rw [(MapKept.heap_alloc _ _).2 _ (by simp)]
        exact (MapKept.heap_alloc _ _).1
      have hp2 : W2.heap[q + 1]? = some (.cells #[.int .i64 0, .int .i64 0, .int .i64 0, .int .i64 0, .int .i64 0, .string ⟨#[]⟩, .int .i64 0, .bool false] 24 (0, 0)) := by
        rw [hW2, hq.out, show W.heap.size + 1 = (W.alloc (.cells #[.int .i64 A, .int .i64 B, .int .i64 C, .int .i64 (H : Int), .int .i64 (M : Int), .string s, .int .i64 z, .bool has] 24)).heap.size by simp]
        exact (MapKept.heap_alloc _ _).1
      have hb2 : Below W.heap.size W W2 := by rw [hW2]; exact ((Below.refl _ _).alloc (Nat.le_refl _) _).alloc (by simp) _
      have hde := hdec.out W2 (hL.out.below hb2 hL.out.size)
      go_wp2_with fail
      rw [← hW2, ← hq.out]
      clear hW2
      refine hde.mono ?_
      rintro e w3 ⟨rfl, hb3⟩
      have hq3 : w3.heap[q]? = _ := (hb3.block q (heap_lt hq2)).trans hq2
      have hp3 : w3.heap[q + 1]? = _ := (hb3.block (q + 1) (heap_lt hp2)).trans hp2
      have hb03 := hb2.trans (hb3.mono hb2.size)
      clear hde hdec hb3 hb2 hq2 hp2
      obtain ⟨W4, hW4⟩ : ∃ w, w = w3.setCell ⟨q, 5, none⟩ (.string ⟨(decU (U : Int)).toArray⟩) := ⟨_, rfl⟩
      have hqw : W.heap.size ≤ q := by rw [hq.out]; exact Nat.le_refl _
      have hb4 : Below W.heap.size w3 W4 := by rw [hW4]; exact (Below.refl _ _).setCell (p := ⟨q, 5, none⟩) hqw _
      have hp4 := (show W4.heap[q + 1]? = w3.heap[q + 1]? by rw [hW4, Below.heap_setCell _ _ _ _ (by simp)]).trans hp3
      obtain ⟨W5, hW5, hp5, hb5⟩ := put8 hp4 (.int .i64 A) (.int .i64 B) (.int .i64 C) (.int .i64 (H : Int)) (.int .i64 (M : Int)) (.string ⟨(decU (U : Int)).toArray⟩) (.int .i64 z) (.bool has) (B := W.heap.size) (by omega)
      have hb05 := hb03.trans (hb4.trans hb5)
      obtain ⟨c0, c1, c2, c3, c4, c5, c6, c7⟩ := MomAt.of_heap hq3
      obtain ⟨d0, d1, d2, d3, d4, d5, d6, d7⟩ := MomAt.of_heap hp3
      have f5 := Lib.frozen_of_heap hq3 5
      have g0 := Lib.frozen_of_heap hp3 0
      have g1 := Lib.frozen_of_heap hp3 1
      have g2 := Lib.frozen_of_heap hp3 2
      have g3 := Lib.frozen_of_heap hp3 3
      have g4 := Lib.frozen_of_heap hp3 4
      have g5 := Lib.frozen_of_heap hp3 5
      have g6 := Lib.frozen_of_heap hp3 6
      have g7 := Lib.frozen_of_heap hp3 7
      rw [hW4] at hW5
      replace hW5 := Lib.hid hW5
      replace hp5 := Lib.hid hp5
      clear hW4 hb4 hp4 hb5 hb03 hqw hq3 hp3
      go_wp2_with fail
      rw [← hW5.out]
      clear c0 c1 c2 c3 c4 c5 c6 c7 d0 d1 d2 d3 d4 d5 d6 d7 f5 g0 g1 g2 g3 g4 g5 g6 g7
      obtain ⟨c0, c1, c2, c3, c4, c5, c6, c7⟩ := MomAt.of_heap hp5.out
      refine bodyPost_ret (v := .tuple #[.agg #[.int .i64 A, .int .i64 B, .int .i64 C, .int .i64 (H : Int), .int .i64 (M : Int), .string ⟨(decU (U : Int)).toArray⟩, .int .i64 z, .bool has], .int .i64 0]) ?ret rfl ?post
      case ret => rw [res_two rfl]; go_simp
      case post =>
        have hRe2 : R = (⟨A, B, C, (r / 3600000000 : Nat), (r % 3600000000 / 60000000 : Nat), decU ((r % 60000000 : Nat) : Int), z, has⟩, 0) := hRe.out
        rw [← hH.out, ← hM.out, ← hU.out] at hRe2
        exact ⟨by rw [hRe2]; rfl, hb05⟩
  · have hbr : b = (r : Int) := by omega
    have han : a = n := by omega
    subst hbr
    subst han
    replace hab := Lib.hid hab
    replace hn := Lib.hid hn
    replace hr := Lib.hid hr
    replace hR := Lib.hid hR
    replace hL := Lib.hid hL
    replace hq := Lib.hid hq
    replace hH := Lib.hid hH
    replace hM := Lib.hid hM
    replace hU := Lib.hid hU
    go_enter Tryz.func57, Tryz.ntmps57
    go_wp2_with fail
    refine (hda.out _ (hL.out.below (((Below.refl _ _).alloc (Nat.le_refl _) _).alloc (by simp) _) hL.out.size)).mono ?_
    rintro e w ⟨rfl, rfl⟩
    clear hda
    cases ok with
    | false =>
      have hRe := Lib.hid (hat.out)
      go_wp2_with fail
      refine bodyPost_ret (v := .tuple #[.agg #[.int .i64 0, .int .i64 0, .int .i64 0, .int .i64 0, .int .i64 0, .string ⟨#[]⟩, .int .i64 0, .bool false], .int .i64 6]) ?ret rfl ?post
      case ret => rw [res_two rfl]; go_simp
      case post => exact ⟨by rw [show R = (mom0, 6) from hRe.out]; rfl, ((Below.refl _ _).alloc (Nat.le_refl _) _).alloc (by simp) _⟩
    | true =>
      have hRe := Lib.hid (hat.out)
      obtain ⟨W2, hW2⟩ : ∃ w, w = (W.alloc (.cells #[.int .i64 A, .int .i64 B, .int .i64 C, .int .i64 (H : Int), .int .i64 (M : Int), .string s, .int .i64 z, .bool has] 24)).alloc (.cells #[.int .i64 0, .int .i64 0, .int .i64 0, .int .i64 0, .int .i64 0, .string ⟨#[]⟩, .int .i64 0, .bool false] 24) := ⟨_, rfl⟩
      have hq2 : W2.heap[q]? = some (.cells #[.int .i64 A, .int .i64 B, .int .i64 C, .int .i64 (H : Int), .int .i64 (M : Int), .string s, .int .i64 z, .bool has] 24 (0, 0)) := by
        rw [hW2, hq.out]
        rw [(MapKept.heap_alloc _ _).2 _ (by simp)]
        exact (MapKept.heap_alloc _ _).1
      have hp2 : W2.heap[q + 1]? = some (.cells #[.int .i64 0, .int .i64 0, .int .i64 0, .int .i64 0, .int .i64 0, .string ⟨#[]⟩, .int .i64 0, .bool false] 24 (0, 0)) := by
        rw [hW2, hq.out, show W.heap.size + 1 = (W.alloc (.cells #[.int .i64 A, .int .i64 B, .int .i64 C, .int .i64 (H : Int), .int .i64 (M : Int), .string s, .int .i64 z, .bool has] 24)).heap.size by simp]
        exact (MapKept.heap_alloc _ _).1
      have hb2 : Below W.heap.size W W2 := by rw [hW2]; exact ((Below.refl _ _).alloc (Nat.le_refl _) _).alloc (by simp) _
      have hde := hdec.out W2 (hL.out.below hb2 hL.out.size)
      go_wp2_with fail
      rw [← hW2, ← hq.out]
      clear hW2
      refine hde.mono ?_
      rintro e w3 ⟨rfl, hb3⟩
      have hq3 : w3.heap[q]? = _ := (hb3.block q (heap_lt hq2)).trans hq2
      have hp3 : w3.heap[q + 1]? = _ := (hb3.block (q + 1) (heap_lt hp2)).trans hp2
      have hb03 := hb2.trans (hb3.mono hb2.size)
      clear hde hdec hb3 hb2 hq2 hp2
      obtain ⟨W4, hW4⟩ : ∃ w, w = w3.setCell ⟨q, 5, none⟩ (.string ⟨(decU (U : Int)).toArray⟩) := ⟨_, rfl⟩
      have hqw : W.heap.size ≤ q := by rw [hq.out]; exact Nat.le_refl _
      have hb4 : Below W.heap.size w3 W4 := by rw [hW4]; exact (Below.refl _ _).setCell (p := ⟨q, 5, none⟩) hqw _
      have hp4 := (show W4.heap[q + 1]? = w3.heap[q + 1]? by rw [hW4, Below.heap_setCell _ _ _ _ (by simp)]).trans hp3
      obtain ⟨W5, hW5, hp5, hb5⟩ := put8 hp4 (.int .i64 A) (.int .i64 B) (.int .i64 C) (.int .i64 (H : Int)) (.int .i64 (M : Int)) (.string ⟨(decU (U : Int)).toArray⟩) (.int .i64 z) (.bool has) (B := W.heap.size) (by omega)
      have hb05 := hb03.trans (hb4.trans hb5)
      obtain ⟨c0, c1, c2, c3, c4, c5, c6, c7⟩ := MomAt.of_heap hq3
      obtain ⟨d0, d1, d2, d3, d4, d5, d6, d7⟩ := MomAt.of_heap hp3
      have f5 := Lib.frozen_of_heap hq3 5
      have g0 := Lib.frozen_of_heap hp3 0
      have g1 := Lib.frozen_of_heap hp3 1
      have g2 := Lib.frozen_of_heap hp3 2
      have g3 := Lib.frozen_of_heap hp3 3
      have g4 := Lib.frozen_of_heap hp3 4
      have g5 := Lib.frozen_of_heap hp3 5
      have g6 := Lib.frozen_of_heap hp3 6
      have g7 := Lib.frozen_of_heap hp3 7
      rw [hW4] at hW5
      replace hW5 := Lib.hid hW5
      replace hp5 := Lib.hid hp5
      clear hW4 hb4 hp4 hb5 hb03 hqw hq3 hp3
      go_wp2_with fail
      rw [← hW5.out]
      clear c0 c1 c2 c3 c4 c5 c6 c7 d0 d1 d2 d3 d4 d5 d6 d7 f5 g0 g1 g2 g3 g4 g5 g6 g7
      obtain ⟨c0, c1, c2, c3, c4, c5, c6, c7⟩ := MomAt.of_heap hp5.out
      refine bodyPost_ret (v := .tuple #[.agg #[.int .i64 A, .int .i64 B, .int .i64 C, .int .i64 (H : Int), .int .i64 (M : Int), .string ⟨(decU (U : Int)).toArray⟩, .int .i64 z, .bool has], .int .i64 0]) ?ret rfl ?post
      case ret => rw [res_two rfl]; go_simp
      case post =>
        have hRe2 : R = (⟨A, B, C, (r / 3600000000 : Nat), (r % 3600000000 / 60000000 : Nat), decU ((r % 60000000 : Nat) : Int), z, has⟩, 0) := hRe.out
        rw [← hH.out, ← hM.out, ← hU.out] at hRe2
        exact ⟨by rw [hRe2]; rfl, hb05⟩
end Go.Proofs.YtgobpoeccdgeiaaGreatDoor

namespace Go.Proofs.YtgobpoeccdgeiaaGreatDoor
open Go.RowKit NumP DurP TimeP Go.Proofs.YtgobpoeccdgeiaaGreatDoorW.PrintWords
set_option linter.unusedVariables false

theorem val_cases {y mo d h mi : Int} {s : ByteArray} {z : Int} {has : Bool} (hv : validP ⟨y, mo, d, h, mi, s.data.toList, z, has⟩ = true) : ∃ y' mo' d' h' mi' n : Nat, y = (y' : Int) ∧ mo = (mo' : Int) ∧ d = (d' : Int) ∧ h = (h' : Int) ∧ mi = (mi' : Int) ∧ s.data.toList = tx (n * P14) ∧ Parts y' mo' d' h' mi' n ∧ Zone z has := by
  obtain ⟨y', mo', d', h', mi', n, e, hp, hz⟩ := valid_of hv
  unfold mkM at e
  simp only [Mom.mk.injEq, and_true] at e
  obtain ⟨e1, e2, e3, e4, e5, e6⟩ := e
  exact ⟨y', mo', d', h', mi', n, e1, e2, e3, e4, e5, e6, hp, hz⟩
set_option maxRecDepth 100000 in
set_option maxHeartbeats 4000000 in
theorem Weekday_t (y mo d h mi : Int) (s : ByteArray) (z : Int) (has : Bool) (W : World) (hL : LaidT W) (hs : s.size ≤ 1000) : Calls Tryz.prog 22 #[.agg #[.int .i64 y, .int .i64 mo, .int .i64 d, .int .i64 h, .int .i64 mi, .string s, .int .i64 z, .bool has]] W fun e w' => e = .returned (.int .i64 (weekdayP ⟨y, mo, d, h, mi, s.data.toList, z, has⟩)) ∧ Below W.heap.size W w' := by
  obtain ⟨W1, hW1⟩ : ∃ w, w = W.alloc (.cells #[.int .i64 y, .int .i64 mo, .int .i64 d, .int .i64 h, .int .i64 mi, .string s, .int .i64 z, .bool has] 24) := ⟨_, rfl⟩
  obtain ⟨q, hq⟩ : ∃ q, q = W.heap.size := ⟨_, rfl⟩
  have hx1 : W1.heap[q]? = some (.cells #[.int .i64 y, .int .i64 mo, .int .i64 d, .int .i64 h, .int .i64 mi, .string s, .int .i64 z, .bool has] 24 (0, 0)) := by rw [hW1, hq]; exact (MapKept.heap_alloc _ _).1
  have hb1 : Hid (Below W.heap.size W W1) := Lib.hid (by rw [hW1]; exact (Below.refl _ _).alloc (Nat.le_refl _) _)
  have hM1 := Lib.hid (MomAt.of_heap hx1)
  have hL1 : Hid (LaidT W1) := Lib.hid (hL.below hb1.out hL.size)
  have hva := valid_t y mo d h mi s z has W1 hL1.out hs
  replace hL := Lib.hid hL
  by_cases hv : validP ⟨y, mo, d, h, mi, s.data.toList, z, has⟩ = true
  · rw [hv] at hva
    have hR : Hid (weekdayP ⟨y, mo, d, h, mi, s.data.toList, z, has⟩ = ((dayN y.toNat mo.toNat d.toNat : Nat) : Int) % 7 + 1) := Lib.hid (by unfold weekdayP; rw [if_pos hv])
    obtain ⟨y', mo', d', h', mi', n, rfl, rfl, rfl, rfl, rfl, -, hp, -⟩ := val_cases hv
    have hda : Hid (∀ w, LaidT w → Calls Tryz.prog 54 #[.int .i64 (y' : Int), .int .i64 (mo' : Int), .int .i64 (d' : Int)] w fun e w' => e = .returned (.int .i64 ((yearS y' + monS y' mo' + d' : Nat) - 1 - 719162 : Int)) ∧ w = w') := Lib.hid (fun w hw => by
      have hd2 := hp.date.d2
      have hl := (lenM_pos y' mo').2
      have hy := hp.y2
      exact (days_t y' mo' d' w hw hp.date.y1 (by omega) hp.date.m1 hp.date.m2 (by omega)))
    obtain ⟨D, hD⟩ : ∃ D : Int, D = ((yearS y' + monS y' mo' + d' : Nat) - 1 - 719162 : Int) := ⟨_, rfl⟩
    have hdn : (dayN y' mo' d' : Int) = D + 719162 := by
      have := hp.date.d1
      rw [hD]; unfold dayN; omega
    have hdl : dayN y' mo' d' < 3652059 := (year_9999 (dayN y' mo' d')).1 (by rw [dateN_dayN hp.date]; exact hp.y2)
    rw [← hD] at hda
    obtain ⟨N, hN⟩ : ∃ N, N = dayN y' mo' d' := ⟨_, rfl⟩
    have k0 : D + 719162 = (N : Int) := by omega
    have k1 : (N : Int) < 3652059 := by omega
    have k2 : -719162 ≤ D := by omega
    have k3 : D < 3652059 := by omega
    replace hN := Lib.hid hN
    replace hD := Lib.hid hD
    clear hx1 hp hs hdn hdl hv
    go_enter Tryz.func22, Tryz.ntmps22
    go_upto_region 1 with fail
    rw [← hW1, ← hq]
    clear hW1
    replace hq := Lib.hid hq
    obtain ⟨c0, c1, c2, c3, c4, c5, c6, c7⟩ := hM1.out
    go_wp2_with fail
    refine hva.mono ?_
    rintro e w3 ⟨rfl, hb3⟩
    clear hva c0 c1 c2 c3 c4 c5 c6 c7
    have hB := Lib.hid (hb1.out.trans (hb3.mono hb1.out.size))
    have hM3 := Lib.hid (hM1.out.below hb3)
    have hda3 := hda.out w3 (hL.out.below hB.out hL.out.size)
    clear hb3
    obtain ⟨c0, c1, c2, c3, c4, c5, c6, c7⟩ := hM3.out
    go_wp2_with fail
    refine hda3.mono ?_
    rintro e w4 ⟨rfl, rfl⟩
    go_wp2_with fail
    go_ret
    exact ⟨by rw [hR.out, Int.toNat_natCast, Int.toNat_natCast, Int.toNat_natCast, ← hN.out]; rfl, hB.out⟩
  · rw [Bool.not_eq_true] at hv
    rw [hv] at hva
    have hR : Hid (weekdayP ⟨y, mo, d, h, mi, s.data.toList, z, has⟩ = 0) := Lib.hid (by unfold weekdayP; rw [hv]; rfl)
    clear hx1 hs hv
    go_enter Tryz.func22, Tryz.ntmps22
    go_upto_region 1 with fail
    rw [← hW1, ← hq]
    clear hW1
    replace hq := Lib.hid hq
    obtain ⟨c0, c1, c2, c3, c4, c5, c6, c7⟩ := hM1.out
    go_wp2_with fail
    refine hva.mono ?_
    rintro e w3 ⟨rfl, hb3⟩
    clear hva c0 c1 c2 c3 c4 c5 c6 c7
    have hB := Lib.hid (hb1.out.trans (hb3.mono hb1.out.size))
    go_wp2_with fail
    go_ret
    exact ⟨by rw [hR.out]; rfl, hB.out⟩
/-- What is known of a moment's block and of the worlds between. -/
theorem eight_later {V : World} {q : Nat} {y mo d h mi : Int} {s : ByteArray} {z : Int} {has : Bool} {w w' : World} (e : w.cell? ⟨q, 0, none⟩ = some (.int .i64 y) ∧ w.cell? ⟨q, 1, none⟩ = some (.int .i64 mo) ∧ w.cell? ⟨q, 2, none⟩ = some (.int .i64 d) ∧ w.cell? ⟨q, 3, none⟩ = some (.int .i64 h) ∧ w.cell? ⟨q, 4, none⟩ = some (.int .i64 mi) ∧ w.cell? ⟨q, 5, none⟩ = some (.string s) ∧ w.cell? ⟨q, 6, none⟩ = some (.int .i64 z) ∧ w.cell? ⟨q, 7, none⟩ = some (.bool has) ∧ Hid (Below V.heap.size V w)) (hb : Below w.heap.size w w') :
    w'.cell? ⟨q, 0, none⟩ = some (.int .i64 y) ∧ w'.cell? ⟨q, 1, none⟩ = some (.int .i64 mo) ∧ w'.cell? ⟨q, 2, none⟩ = some (.int .i64 d) ∧ w'.cell? ⟨q, 3, none⟩ = some (.int .i64 h) ∧ w'.cell? ⟨q, 4, none⟩ = some (.int .i64 mi) ∧ w'.cell? ⟨q, 5, none⟩ = some (.string s) ∧ w'.cell? ⟨q, 6, none⟩ = some (.int .i64 z) ∧ w'.cell? ⟨q, 7, none⟩ = some (.bool has) ∧ Hid (Below V.heap.size V w') := by
  obtain ⟨c0, c1, c2, c3, c4, c5, c6, c7, hB⟩ := e
  obtain ⟨d0, d1, d2, d3, d4, d5, d6, d7⟩ := MomAt.below ⟨c0, c1, c2, c3, c4, c5, c6, c7⟩ hb
  exact ⟨d0, d1, d2, d3, d4, d5, d6, d7, bel_later hB hb⟩
theorem eight_out {V : World} {q : Nat} {y mo d h mi : Int} {s : ByteArray} {z : Int} {has : Bool} {w : World} (e : w.cell? ⟨q, 0, none⟩ = some (.int .i64 y) ∧ w.cell? ⟨q, 1, none⟩ = some (.int .i64 mo) ∧ w.cell? ⟨q, 2, none⟩ = some (.int .i64 d) ∧ w.cell? ⟨q, 3, none⟩ = some (.int .i64 h) ∧ w.cell? ⟨q, 4, none⟩ = some (.int .i64 mi) ∧ w.cell? ⟨q, 5, none⟩ = some (.string s) ∧ w.cell? ⟨q, 6, none⟩ = some (.int .i64 z) ∧ w.cell? ⟨q, 7, none⟩ = some (.bool has) ∧ Hid (Below V.heap.size V w)) : Below V.heap.size V w := by
  obtain ⟨c0, c1, c2, c3, c4, c5, c6, c7, hB⟩ := e
  exact hB.out
set_option maxRecDepth 100000 in
set_option maxHeartbeats 4000000 in
theorem Seconds_t (y mo d h mi : Int) (s : ByteArray) (z : Int) (has : Bool) (W : World) (hL : LaidT W) (hs : s.size ≤ 1000) : Calls Tryz.prog 20 #[.agg #[.int .i64 y, .int .i64 mo, .int .i64 d, .int .i64 h, .int .i64 mi, .string s, .int .i64 z, .bool has]] W fun e w' => e = .returned (.tuple #[.string ⟨(secondsT ⟨y, mo, d, h, mi, s.data.toList, z, has⟩).1.toArray⟩, .int .i64 (secondsT ⟨y, mo, d, h, mi, s.data.toList, z, has⟩).2]) ∧ Below W.heap.size W w' := by
  obtain ⟨W1, hW1⟩ : ∃ w, w = W.alloc (.cells #[.int .i64 y, .int .i64 mo, .int .i64 d, .int .i64 h, .int .i64 mi, .string s, .int .i64 z, .bool has] 24) := ⟨_, rfl⟩
  obtain ⟨q, hq⟩ : ∃ q, q = W.heap.size := ⟨_, rfl⟩
  have hx1 : W1.heap[q]? = some (.cells #[.int .i64 y, .int .i64 mo, .int .i64 d, .int .i64 h, .int .i64 mi, .string s, .int .i64 z, .bool has] 24 (0, 0)) := by rw [hW1, hq]; exact (MapKept.heap_alloc _ _).1
  have hb1 : Hid (Below W.heap.size W W1) := Lib.hid (by rw [hW1]; exact (Below.refl _ _).alloc (Nat.le_refl _) _)
  have hM1 := Lib.hid (MomAt.of_heap hx1)
  have hL1 : Hid (LaidT W1) := Lib.hid (hL.below hb1.out hL.size)
  have hva := valid_t y mo d h mi s z has W1 hL1.out hs
  replace hL := Lib.hid hL
  by_cases hv : validP ⟨y, mo, d, h, mi, s.data.toList, z, has⟩ = true
  · rw [hv] at hva
    have hR : secondsT ⟨y, mo, d, h, mi, s.data.toList, z, has⟩ = (decU (totalP ⟨y, mo, d, h, mi, s.data.toList, z, has⟩ - z * 60000000), 0) := by unfold secondsT; rw [if_pos hv]
    have htb := total_bounds hv
    obtain ⟨T, hT⟩ : ∃ T, T = totalP ⟨y, mo, d, h, mi, s.data.toList, z, has⟩ := ⟨_, rfl⟩
    obtain ⟨y', mo', d', h', mi', n, rfl, rfl, rfl, rfl, rfl, hsd, hp, hz⟩ := val_cases hv
    have hto : Hid (∀ w, LaidT w → Calls Tryz.prog 50 #[.agg #[.int .i64 (y' : Int), .int .i64 (mo' : Int), .int .i64 (d' : Int), .int .i64 (h' : Int), .int .i64 (mi' : Int), .string s, .int .i64 z, .bool has]] w fun e w' => e = .returned (.int .i64 T) ∧ Below w.heap.size w w') := Lib.hid (fun w hw => by
      have := total_t y' mo' d' h' mi' n s z has w hp hsd hw hs
      rw [← total_mk (y := y') (mo := mo') (d := d') (h := h') (mi := mi') hp.n2 z has] at this
      unfold mkM at this
      rw [← hsd, ← hT] at this
      exact this)
    rw [← hT] at htb hR
    have k1 : -epoch ≤ T := htb.1
    have k2 : T < 315537897600000000 - epoch := htb.2
    unfold epoch at k1 k2
    have z1 : -840 ≤ z := hz.lo
    have z2 : z ≤ 840 := hz.hi
    have k3 : -100000000000000000 ≤ T := by omega
    have k4 : T ≤ 400000000000000000 := by omega
    have w1 : IntKind.i64.wrap (z * 60000000) = z * 60000000 := IntWalk.i64_in _ (by omega)
    have w2 : IntKind.i64.wrap (T - z * 60000000) = T - z * 60000000 := IntWalk.i64_in _ (by omega)
    have hde : Hid (∀ w, LaidT w → Calls Tryz.prog 49 #[.int .i64 (T - z * 60000000)] w fun e w' => e = .returned (.string ⟨(decU (T - z * 60000000)).toArray⟩) ∧ Below w.heap.size w w') := Lib.hid (fun w hw => decimal_t _ w hw (by omega))
    replace hR := Lib.hid hR
    clear hx1 hp hs hv hz hT hsd htb
    go_enter Tryz.func20, Tryz.ntmps20
    go_upto_region 1 with fail
    rw [← hW1, ← hq]
    clear hW1
    replace hq := Lib.hid hq
    obtain ⟨c0, c1, c2, c3, c4, c5, c6, c7⟩ := hM1.out
    go_wp2_with fail
    refine hva.mono ?_
    rintro e w3 ⟨rfl, hb3⟩
    clear hva c0 c1 c2 c3 c4 c5 c6 c7
    have hB := Lib.hid (hb1.out.trans (hb3.mono hb1.out.size))
    have hM3 := (hM1.out.below hb3).below ((Below.refl w3.heap.size w3).drew)
    have hL3 : Hid (LaidT w3) := Lib.hid (hL.out.below hB.out hL.out.size)
    clear hb3
    obtain ⟨c0, c1, c2, c3, c4, c5, c6, c7⟩ := hM3
    have hS := Lib.hid (And.intro c0 (And.intro c1 (And.intro c2 (And.intro c3 (And.intro c4 (And.intro c5 (And.intro c6 (And.intro c7 (Lib.hid (Below.refl w3.heap.size w3).drew)))))))))
    clear c0 c1 c2 c3 c4 c5 c6 c7
    go_wp2_with fail
    go_region_held3 (fun w' => w'.cell? ⟨q, 0, none⟩ = some (.int .i64 (y' : Int)) ∧ w'.cell? ⟨q, 1, none⟩ = some (.int .i64 (mo' : Int)) ∧ w'.cell? ⟨q, 2, none⟩ = some (.int .i64 (d' : Int)) ∧ w'.cell? ⟨q, 3, none⟩ = some (.int .i64 (h' : Int)) ∧ w'.cell? ⟨q, 4, none⟩ = some (.int .i64 (mi' : Int)) ∧ w'.cell? ⟨q, 5, none⟩ = some (.string s) ∧ w'.cell? ⟨q, 6, none⟩ = some (.int .i64 z) ∧ w'.cell? ⟨q, 7, none⟩ = some (.bool has) ∧ Hid (Below w3.heap.size w3 w'))
      (first | exact hS.out | assumption | exact eight_later (by assumption) (by assumption))
      (first
        | (go_at_call 50; refine (hto.out _ (hL3.out.below (eight_out (by assumption)) hL3.out.size)).mono ?_; rintro e w' ⟨rfl, hbb⟩)
        | (go_at_call 49; refine (hde.out _ (hL3.out.below (eight_out (by assumption)) hL3.out.size)).mono ?_; rintro e w' ⟨rfl, hbb⟩))
    rename_i hH
    have hbb := Lib.hid (eight_out hH)
    clear hH
    go_wp2_with fail
    go_ret2
    exact ⟨by rw [hR.out]; rfl, hB.out.trans (hbb.out.mono hB.out.size)⟩
  · rw [Bool.not_eq_true] at hv
    rw [hv] at hva
    have hR : Hid (secondsT ⟨y, mo, d, h, mi, s.data.toList, z, has⟩ = ([], 1)) := Lib.hid (by unfold secondsT; rw [hv]; rfl)
    clear hx1 hs hv
    go_enter Tryz.func20, Tryz.ntmps20
    go_upto_region 1 with fail
    rw [← hW1, ← hq]
    clear hW1
    replace hq := Lib.hid hq
    obtain ⟨c0, c1, c2, c3, c4, c5, c6, c7⟩ := hM1.out
    go_wp2_with fail
    refine hva.mono ?_
    rintro e w3 ⟨rfl, hb3⟩
    clear hva c0 c1 c2 c3 c4 c5 c6 c7
    have hB := Lib.hid (hb1.out.trans (hb3.mono hb1.out.size))
    go_wp2_with fail
    go_ret2
    exact ⟨by rw [hR.out]; rfl, hB.out⟩
end Go.Proofs.YtgobpoeccdgeiaaGreatDoor

namespace Go.Proofs.YtgobpoeccdgeiaaGreatDoor
open Go.RowKit NumP DurP TimeP Go.Proofs.YtgobpoeccdgeiaaGreatDoorW.PrintWords
set_option linter.unusedVariables false

/-- The world with a moment's block and the result's. -/
def twoW (W : World) (y mo d h mi : Int) (s : ByteArray) (z : Int) (has : Bool) : World := (W.alloc (.cells #[.int .i64 y, .int .i64 mo, .int .i64 d, .int .i64 h, .int .i64 mi, .string s, .int .i64 z, .bool has] 24)).alloc (.cells #[.int .i64 0, .int .i64 0, .int .i64 0, .int .i64 0, .int .i64 0, .string ⟨#[]⟩, .int .i64 0, .bool false] 24)
/-- What is known of the two blocks. -/
structure TwoB (W : World) (q : Nat) (w : World) (y mo d h mi : Int) (s : ByteArray) (z : Int) (has : Bool) : Prop where
  hq : w.heap[q]? = some (.cells #[.int .i64 y, .int .i64 mo, .int .i64 d, .int .i64 h, .int .i64 mi, .string s, .int .i64 z, .bool has] 24 (0, 0))
  hp : w.heap[q + 1]? = some (.cells #[.int .i64 0, .int .i64 0, .int .i64 0, .int .i64 0, .int .i64 0, .string ⟨#[]⟩, .int .i64 0, .bool false] 24 (0, 0))
  hb : Below W.heap.size W w
theorem TwoB.init (W : World) (y mo d h mi : Int) (s : ByteArray) (z : Int) (has : Bool) : TwoB W W.heap.size (twoW W y mo d h mi s z has) y mo d h mi s z has := by
  refine ⟨?_, ?_, ((Below.refl _ _).alloc (Nat.le_refl _) _).alloc (by simp) _⟩
  · unfold twoW
    rw [(MapKept.heap_alloc _ _).2 _ (by simp)]
    exact (MapKept.heap_alloc _ _).1
  · unfold twoW
    rw [show W.heap.size + 1 = (W.alloc (.cells #[.int .i64 y, .int .i64 mo, .int .i64 d, .int .i64 h, .int .i64 mi, .string s, .int .i64 z, .bool has] 24)).heap.size by simp]
    exact (MapKept.heap_alloc _ _).1
theorem TwoB.later {W : World} {q : Nat} {w w' : World} {y mo d h mi : Int} {s : ByteArray} {z : Int} {has : Bool} (t : TwoB W q w y mo d h mi s z has) (hb : Below w.heap.size w w') : TwoB W q w' y mo d h mi s z has :=
  ⟨(hb.block q (heap_lt t.hq)).trans t.hq, (hb.block (q + 1) (heap_lt t.hp)).trans t.hp, t.hb.trans (hb.mono t.hb.size)⟩
theorem TwoB.mom {W : World} {q : Nat} {w : World} {y mo d h mi : Int} {s : ByteArray} {z : Int} {has : Bool} (t : TwoB W q w y mo d h mi s z has) : MomAt w q y mo d h mi s z has := MomAt.of_heap t.hq
theorem TwoB.res {W : World} {q : Nat} {w : World} {y mo d h mi : Int} {s : ByteArray} {z : Int} {has : Bool} (t : TwoB W q w y mo d h mi s z has) : MomAt w (q + 1) 0 0 0 0 0 ⟨#[]⟩ 0 false := MomAt.of_heap t.hp
theorem froz8 {w : World} {q : Nat} {c : Array Value} {T : TypeId} (h : w.heap[q]? = some (.cells c T (0, 0))) : w.frozen? ⟨q, 0, none⟩ = false ∧ w.frozen? ⟨q, 1, none⟩ = false ∧ w.frozen? ⟨q, 2, none⟩ = false ∧ w.frozen? ⟨q, 3, none⟩ = false ∧ w.frozen? ⟨q, 4, none⟩ = false ∧ w.frozen? ⟨q, 5, none⟩ = false ∧ w.frozen? ⟨q, 6, none⟩ = false ∧ w.frozen? ⟨q, 7, none⟩ = false :=
  ⟨Lib.frozen_of_heap h _, Lib.frozen_of_heap h _, Lib.frozen_of_heap h _, Lib.frozen_of_heap h _, Lib.frozen_of_heap h _, Lib.frozen_of_heap h _, Lib.frozen_of_heap h _, Lib.frozen_of_heap h _⟩
/-- A moment with two results. -/
theorem put_res {W : World} {q : Nat} {w : World} {y mo d h mi : Int} {s : ByteArray} {z : Int} {has : Bool} (t : TwoB W q w y mo d h mi s z has) (hq : q = W.heap.size) (a0 a1 a2 a3 a4 a5 a6 a7 : Value) :
    ∃ W5, W5 = (((((((w.setCell ⟨q + 1, 0, none⟩ a0).setCell ⟨q + 1, 1, none⟩ a1).setCell ⟨q + 1, 2, none⟩ a2).setCell ⟨q + 1, 3, none⟩ a3).setCell ⟨q + 1, 4, none⟩ a4).setCell ⟨q + 1, 5, none⟩ a5).setCell ⟨q + 1, 6, none⟩ a6).setCell ⟨q + 1, 7, none⟩ a7 ∧ W5.heap[q + 1]? = some (.cells #[a0, a1, a2, a3, a4, a5, a6, a7] 24 (0, 0)) ∧ Below W.heap.size W W5 := by
  obtain ⟨W5, h1, h2, h3⟩ := put8 t.hp a0 a1 a2 a3 a4 a5 a6 a7 (B := W.heap.size) (by omega)
  exact ⟨W5, h1, h2, t.hb.trans h3⟩
/-- One field of the moment is stored. -/
theorem TwoB.set {W : World} {q : Nat} {w : World} {y mo d h mi : Int} {s : ByteArray} {z : Int} {has : Bool} (t : TwoB W q w y mo d h mi s z has) (hq : q = W.heap.size) (i : Nat) (v : Value) {y2 mo2 d2 h2 mi2 : Int} {s2 : ByteArray} {z2 : Int} {has2 : Bool}
    (e : (#[.int .i64 y, .int .i64 mo, .int .i64 d, .int .i64 h, .int .i64 mi, .string s, .int .i64 z, .bool has] : Array Value).set! i v = #[.int .i64 y2, .int .i64 mo2, .int .i64 d2, .int .i64 h2, .int .i64 mi2, .string s2, .int .i64 z2, .bool has2]) : TwoB W q (w.setCell ⟨q, i, none⟩ v) y2 mo2 d2 h2 mi2 s2 z2 has2 := by
  refine ⟨?_, ?_, t.hb.setCell (p := ⟨q, i, none⟩) (by show W.heap.size ≤ q; omega) _⟩
  · rw [← e]; exact Lib.heap_setCell_same t.hq v
  · rw [Below.heap_setCell _ _ _ _ (by simp)]; exact t.hp
set_option maxRecDepth 100000 in
set_option maxHeartbeats 4000000 in
theorem AddMonths_t (y mo d h mi : Int) (s : ByteArray) (z : Int) (has : Bool) (n : Int) (W : World) (hL : LaidT W) (hs : s.size ≤ 1000) : Calls Tryz.prog 24 #[.agg #[.int .i64 y, .int .i64 mo, .int .i64 d, .int .i64 h, .int .i64 mi, .string s, .int .i64 z, .bool has], .int .i64 n] W fun e w' => e = .returned (momE (addMonthsP ⟨y, mo, d, h, mi, s.data.toList, z, has⟩ n)) ∧ Below W.heap.size W w' := by
  have hT0 := TwoB.init W y mo d h mi s z has
  obtain ⟨W1, hW1⟩ : ∃ w, w = twoW W y mo d h mi s z has := ⟨_, rfl⟩
  obtain ⟨q, hq⟩ : ∃ q, q = W.heap.size := ⟨_, rfl⟩
  rw [← hW1, ← hq] at hT0
  unfold twoW at hW1
  replace hT0 := Lib.hid hT0
  have hva := valid_t y mo d h mi s z has W1 (hL.below hT0.out.hb hL.size) hs
  replace hL := Lib.hid hL
  have hq' := Lib.hid hq
  by_cases hv : validP ⟨y, mo, d, h, mi, s.data.toList, z, has⟩ = true
  · rw [hv] at hva
    obtain ⟨y', mo', d', h', mi', t, rfl, rfl, rfl, rfl, rfl, hsd, hp, hz⟩ := val_cases hv
    have p1 := hp.y2
    have p2 := hp.date.y1
    have p3 := hp.date.m1
    have p4 := hp.date.m2
    have p5 := hp.date.d1
    have p6 := hp.date.d2
    have p7 := (lenM_pos y' mo').2
    have p8 : d' ≤ 31 := by omega
    have q1 : (y' : Int) ≤ 9999 := by omega
    have q2 : (mo' : Int) ≤ 12 := by omega
    clear p7 p6
    by_cases hn1 : n < -120000
    · have hR : Hid (addMonthsP ⟨y', mo', d', h', mi', s.data.toList, z, has⟩ n = (mom0, 6)) := Lib.hid (by unfold addMonthsP; rw [if_neg (by rw [hv]; decide), if_pos (Or.inl hn1)])
      clear hs hv hsd hp hz
      go_enter Tryz.func24, Tryz.ntmps24
      go_upto_region 1 with fail
      rw [← hW1, ← hq]
      clear hW1 hq
      obtain ⟨c0, c1, c2, c3, c4, c5, c6, c7⟩ := hT0.out.mom
      go_wp2_with fail
      refine hva.mono ?_
      rintro e w3 ⟨rfl, hb3⟩
      clear hva c0 c1 c2 c3 c4 c5 c6 c7
      have hT3 := hT0.out.later hb3
      obtain ⟨d0, d1, d2, d3, d4, d5, d6, d7⟩ := hT3.res
      obtain ⟨f0, f1, f2, f3, f4, f5, f6, f7⟩ := froz8 hT3.hp
      obtain ⟨W5, hW5, hp5, hb5⟩ := put_res hT3 hq'.out (.int .i64 0) (.int .i64 0) (.int .i64 0) (.int .i64 0) (.int .i64 0) (.string ⟨#[]⟩) (.int .i64 0) (.bool false)
      replace hW5 := Lib.hid hW5
      replace hp5 := Lib.hid hp5
      clear hb3 hT3
      go_wp2_with fail
      rw [← hW5.out]
      clear hW5 d0 d1 d2 d3 d4 d5 d6 d7 f0 f1 f2 f3 f4 f5 f6 f7
      obtain ⟨c0, c1, c2, c3, c4, c5, c6, c7⟩ := MomAt.of_heap hp5.out
      refine bodyPost_ret (v := .tuple #[.agg #[.int .i64 0, .int .i64 0, .int .i64 0, .int .i64 0, .int .i64 0, .string ⟨#[]⟩, .int .i64 0, .bool false], .int .i64 6]) ?ret rfl ?post
      case ret => rw [res_two rfl]; go_simp
      case post => exact ⟨by rw [hR.out]; rfl, hb5⟩
    · by_cases hn2 : 120000 < n
      · have hR : Hid (addMonthsP ⟨y', mo', d', h', mi', s.data.toList, z, has⟩ n = (mom0, 6)) := Lib.hid (by unfold addMonthsP; rw [if_neg (by rw [hv]; decide), if_pos (Or.inr hn2)])
        have hn3 : n > 120000 := hn2
        clear hs hv hsd hp hz
        go_enter Tryz.func24, Tryz.ntmps24
        go_upto_region 1 with fail
        rw [← hW1, ← hq]
        clear hW1 hq
        obtain ⟨c0, c1, c2, c3, c4, c5, c6, c7⟩ := hT0.out.mom
        go_wp2_with fail
        refine hva.mono ?_
        rintro e w3 ⟨rfl, hb3⟩
        clear hva c0 c1 c2 c3 c4 c5 c6 c7
        have hT3 := hT0.out.later hb3
        obtain ⟨d0, d1, d2, d3, d4, d5, d6, d7⟩ := hT3.res
        obtain ⟨f0, f1, f2, f3, f4, f5, f6, f7⟩ := froz8 hT3.hp
        obtain ⟨W5, hW5, hp5, hb5⟩ := put_res hT3 hq'.out (.int .i64 0) (.int .i64 0) (.int .i64 0) (.int .i64 0) (.int .i64 0) (.string ⟨#[]⟩) (.int .i64 0) (.bool false)
        replace hW5 := Lib.hid hW5
        replace hp5 := Lib.hid hp5
        clear hb3 hT3
        go_wp2_with fail
        rw [← hW5.out]
        clear hW5 d0 d1 d2 d3 d4 d5 d6 d7 f0 f1 f2 f3 f4 f5 f6 f7
        obtain ⟨c0, c1, c2, c3, c4, c5, c6, c7⟩ := MomAt.of_heap hp5.out
        refine bodyPost_ret (v := .tuple #[.agg #[.int .i64 0, .int .i64 0, .int .i64 0, .int .i64 0, .int .i64 0, .string ⟨#[]⟩, .int .i64 0, .bool false], .int .i64 6]) ?ret rfl ?post
        case ret => rw [res_two rfl]; go_simp
        case post => exact ⟨by rw [hR.out]; rfl, hb5⟩
      · have hn3 : ¬ (n > 120000) := hn2
        obtain ⟨k, hk⟩ : ∃ k : Int, (y' : Int) * 12 + (mo' : Int) - 1 + n = k := ⟨_, rfl⟩
        have b1 : -120000 ≤ n := by omega
        have b2 : n ≤ 120000 := by omega
        by_cases hk1 : k < 12
        · have hR : Hid (addMonthsP ⟨y', mo', d', h', mi', s.data.toList, z, has⟩ n = (mom0, 6)) := Lib.hid (by unfold addMonthsP; rw [if_neg (by rw [hv]; decide), if_neg (by omega)]; simp only []; rw [hk, if_pos (Or.inl hk1)])
          clear hs hv hsd hp hz
          go_enter Tryz.func24, Tryz.ntmps24
          go_upto_region 1 with fail
          rw [← hW1, ← hq]
          clear hW1 hq
          obtain ⟨c0, c1, c2, c3, c4, c5, c6, c7⟩ := hT0.out.mom
          go_wp2_with fail
          refine hva.mono ?_
          rintro e w3 ⟨rfl, hb3⟩
          clear hva c0 c1 c2 c3 c4 c5 c6 c7
          have hT3 := hT0.out.later hb3
          obtain ⟨c0, c1, c2, c3, c4, c5, c6, c7⟩ := hT3.mom
          obtain ⟨d0, d1, d2, d3, d4, d5, d6, d7⟩ := hT3.res
          obtain ⟨f0, f1, f2, f3, f4, f5, f6, f7⟩ := froz8 hT3.hp
          obtain ⟨W5, hW5, hp5, hb5⟩ := put_res hT3 hq'.out (.int .i64 0) (.int .i64 0) (.int .i64 0) (.int .i64 0) (.int .i64 0) (.string ⟨#[]⟩) (.int .i64 0) (.bool false)
          replace hW5 := Lib.hid hW5
          replace hp5 := Lib.hid hp5
          clear hb3 hT3
          go_wp2_with fail
          rw [← hW5.out]
          clear hW5 d0 d1 d2 d3 d4 d5 d6 d7 f0 f1 f2 f3 f4 f5 f6 f7
          obtain ⟨c0, c1, c2, c3, c4, c5, c6, c7⟩ := MomAt.of_heap hp5.out
          refine bodyPost_ret (v := .tuple #[.agg #[.int .i64 0, .int .i64 0, .int .i64 0, .int .i64 0, .int .i64 0, .string ⟨#[]⟩, .int .i64 0, .bool false], .int .i64 6]) ?ret rfl ?post
          case ret => rw [res_two rfl]; go_simp
          case post => exact ⟨by rw [hR.out]; rfl, hb5⟩
        · by_cases hk2 : k ≥ 120000
          · have hR : Hid (addMonthsP ⟨y', mo', d', h', mi', s.data.toList, z, has⟩ n = (mom0, 6)) := Lib.hid (by unfold addMonthsP; rw [if_neg (by rw [hv]; decide), if_neg (by omega)]; simp only []; rw [hk, if_pos (Or.inr hk2)])
            clear hs hv hsd hp hz
            go_enter Tryz.func24, Tryz.ntmps24
            go_upto_region 1 with fail
            rw [← hW1, ← hq]
            clear hW1 hq
            obtain ⟨c0, c1, c2, c3, c4, c5, c6, c7⟩ := hT0.out.mom
            go_wp2_with fail
            refine hva.mono ?_
            rintro e w3 ⟨rfl, hb3⟩
            clear hva c0 c1 c2 c3 c4 c5 c6 c7
            have hT3 := hT0.out.later hb3
            obtain ⟨c0, c1, c2, c3, c4, c5, c6, c7⟩ := hT3.mom
            obtain ⟨d0, d1, d2, d3, d4, d5, d6, d7⟩ := hT3.res
            obtain ⟨f0, f1, f2, f3, f4, f5, f6, f7⟩ := froz8 hT3.hp
            obtain ⟨W5, hW5, hp5, hb5⟩ := put_res hT3 hq'.out (.int .i64 0) (.int .i64 0) (.int .i64 0) (.int .i64 0) (.int .i64 0) (.string ⟨#[]⟩) (.int .i64 0) (.bool false)
            replace hW5 := Lib.hid hW5
            replace hp5 := Lib.hid hp5
            clear hb3 hT3
            go_wp2_with fail
            rw [← hW5.out]
            clear hW5 d0 d1 d2 d3 d4 d5 d6 d7 f0 f1 f2 f3 f4 f5 f6 f7
            obtain ⟨c0, c1, c2, c3, c4, c5, c6, c7⟩ := MomAt.of_heap hp5.out
            refine bodyPost_ret (v := .tuple #[.agg #[.int .i64 0, .int .i64 0, .int .i64 0, .int .i64 0, .int .i64 0, .string ⟨#[]⟩, .int .i64 0, .bool false], .int .i64 6]) ?ret rfl ?post
            case ret => rw [res_two rfl]; go_simp
            case post => exact ⟨by rw [hR.out]; rfl, hb5⟩
          · obtain ⟨K, hK⟩ : ∃ K : Nat, k = (K : Int) := ⟨k.toNat, by omega⟩
            obtain ⟨Y, hY⟩ : ∃ Y : Nat, Y = K / 12 := ⟨_, rfl⟩
            obtain ⟨M, hM⟩ : ∃ M : Nat, M = K % 12 + 1 := ⟨_, rfl⟩
            have g1 : k / 12 = (Y : Int) := by omega
            have g3 : k.tdiv 12 = (Y : Int) := by rw [Int.tdiv_eq_ediv_of_nonneg (by omega)]; exact g1
            have g2 : k % 12 + 1 = (M : Int) := by omega
            have g4 : k.tmod 12 + 1 = (M : Int) := by rw [Int.tmod_eq_emod_of_nonneg (by omega)]; exact g2
            have qY : (Y : Int) ≤ 9999 := by omega
            have hM1 : 1 ≤ M ∧ M ≤ 12 := by omega
            obtain ⟨L, hLn⟩ : ∃ L, L = lenM Y M := ⟨_, rfl⟩
            have hLb : L ≤ 31 := by rw [hLn]; exact (lenM_pos Y M).2
            obtain ⟨D, hD⟩ : ∃ D : Int, min (d' : Int) (L : Int) = D := ⟨_, rfl⟩
            have hR : Hid (addMonthsP ⟨y', mo', d', h', mi', s.data.toList, z, has⟩ n = (⟨Y, M, D, h', mi', s.data.toList, z, has⟩, 0)) := Lib.hid (by
              unfold addMonthsP
              rw [if_neg (by rw [hv]; decide), if_neg (by omega)]
              simp only []
              rw [hk, if_neg (by omega), g1, g2, Int.toNat_natCast, Int.toNat_natCast, ← hLn, hD])
            have hle : Hid (∀ w, LaidT w → Calls Tryz.prog 56 #[.int .i64 (Y : Int), .int .i64 (M : Int)] w fun e w' => e = .returned (.int .i64 (L : Int)) ∧ w = w') := Lib.hid (fun w hw => by rw [hLn]; exact length_t Y M w hw hM1.1 hM1.2)
            clear hs hv hsd hp hz hLn hY hM hK
            go_enter Tryz.func24, Tryz.ntmps24
            go_upto_region 1 with fail
            rw [← hW1, ← hq]
            clear hW1 hq
            obtain ⟨c0, c1, c2, c3, c4, c5, c6, c7⟩ := hT0.out.mom
            go_wp2_with fail
            refine hva.mono ?_
            rintro e w3 ⟨rfl, hb3⟩
            clear hva c0 c1 c2 c3 c4 c5 c6 c7
            have hT3 := hT0.out.later hb3
            obtain ⟨c0, c1, c2, c3, c4, c5, c6, c7⟩ := hT3.mom
            obtain ⟨f0, f1, f2, f3, f4, f5, f6, f7⟩ := froz8 hT3.hq
            have hT4 := (hT3.set hq'.out 0 (.int .i64 (Y : Int)) rfl).set hq'.out 1 (.int .i64 (M : Int)) rfl
            replace hT3 := Lib.hid hT3
            obtain ⟨W4, hW4⟩ : ∃ w, w = (w3.setCell ⟨q, 0, none⟩ (.int .i64 (Y : Int))).setCell ⟨q, 1, none⟩ (.int .i64 (M : Int)) := ⟨_, rfl⟩
            rw [← hW4] at hT4
            replace hW4 := Lib.hid hW4
            have hL4 : LaidT W4 := hL.out.below hT4.hb hL.out.size
            have hle4 := Lib.hid (hle.out W4.drew (hL4.below (Below.refl _ _).drew hL4.size))
            clear hle
            replace hL4 := Lib.hid hL4
            replace hT4 := Lib.hid hT4
            clear hb3
            go_upto_region 9 with fail
            rw [← hW4.out]
            clear hW4 c0 c1 c2 c3 c4 c5 c6 c7 f0 f1 f2 f3 f4 f5 f6 f7
            obtain ⟨c0, c1, c2, c3, c4, c5, c6, c7⟩ := hT4.out.mom
            have f2 := (froz8 hT4.out.hq).2.2.1
            go_cut [6] from 41 to 49 (fun v wx => v = .int .i64 k ∧ wx = (W4.setCell ⟨q, 2, none⟩ (.int .i64 D)).drew)
            case first =>
              go_region_with (first
                | (go_at_call 56; refine hle4.out.mono ?_; rintro e w6 ⟨rfl, rfl⟩))
              all_goals (go_wp2_with fail; go_meet; exact ⟨rfl, rfl⟩)
            obtain ⟨rfl, hw⟩ := hcut
            have hT5 := (hT4.out.set hq'.out 2 (.int .i64 D) rfl).later ((Below.refl _ _).drew)
            rw [← hw] at hT5
            clear hw
            clear c0 c1 c2 c3 c4 c5 c6 c7 f2
            have hT6 := hT5
            obtain ⟨c0, c1, c2, c3, c4, c5, c6, c7⟩ := hT6.mom
            obtain ⟨d0, d1, d2, d3, d4, d5, d6, d7⟩ := hT6.res
            obtain ⟨f0, f1, f2, f3, f4, f5, f6, f7⟩ := froz8 hT6.hp
            obtain ⟨W5, hW5, hp5, hb5⟩ := put_res hT6 hq'.out (.int .i64 (Y : Int)) (.int .i64 (M : Int)) (.int .i64 D) (.int .i64 (h' : Int)) (.int .i64 (mi' : Int)) (.string s) (.int .i64 z) (.bool has)
            replace hW5 := Lib.hid hW5
            replace hp5 := Lib.hid hp5
            clear hT6
            go_wp2_with fail
            rw [← hW5.out]
            clear hW5 d0 d1 d2 d3 d4 d5 d6 d7 f0 f1 f2 f3 f4 f5 f6 f7 c0 c1 c2 c3 c4 c5 c6 c7
            obtain ⟨c0, c1, c2, c3, c4, c5, c6, c7⟩ := MomAt.of_heap hp5.out
            refine bodyPost_ret (v := .tuple #[.agg #[.int .i64 (Y : Int), .int .i64 (M : Int), .int .i64 D, .int .i64 (h' : Int), .int .i64 (mi' : Int), .string s, .int .i64 z, .bool has], .int .i64 0]) ?ret rfl ?post
            case ret => rw [res_two rfl]; go_simp
            case post => exact ⟨by rw [hR.out]; rfl, hb5⟩
  · rw [Bool.not_eq_true] at hv
    rw [hv] at hva
    have hR : Hid (addMonthsP ⟨y, mo, d, h, mi, s.data.toList, z, has⟩ n = (mom0, 1)) := Lib.hid (by unfold addMonthsP; rw [if_pos hv])
    clear hs hv
    go_enter Tryz.func24, Tryz.ntmps24
    go_upto_region 1 with fail
    rw [← hW1, ← hq]
    clear hW1 hq
    obtain ⟨c0, c1, c2, c3, c4, c5, c6, c7⟩ := hT0.out.mom
    go_wp2_with fail
    refine hva.mono ?_
    rintro e w3 ⟨rfl, hb3⟩
    clear hva c0 c1 c2 c3 c4 c5 c6 c7
    have hT3 := hT0.out.later hb3
    obtain ⟨d0, d1, d2, d3, d4, d5, d6, d7⟩ := hT3.res
    obtain ⟨f0, f1, f2, f3, f4, f5, f6, f7⟩ := froz8 hT3.hp
    obtain ⟨W5, hW5, hp5, hb5⟩ := put_res hT3 hq'.out (.int .i64 0) (.int .i64 0) (.int .i64 0) (.int .i64 0) (.int .i64 0) (.string ⟨#[]⟩) (.int .i64 0) (.bool false)
    replace hW5 := Lib.hid hW5
    replace hp5 := Lib.hid hp5
    clear hb3 hT3
    go_wp2_with fail
    rw [← hW5.out]
    clear hW5 d0 d1 d2 d3 d4 d5 d6 d7 f0 f1 f2 f3 f4 f5 f6 f7
    obtain ⟨c0, c1, c2, c3, c4, c5, c6, c7⟩ := MomAt.of_heap hp5.out
    refine bodyPost_ret (v := .tuple #[.agg #[.int .i64 0, .int .i64 0, .int .i64 0, .int .i64 0, .int .i64 0, .string ⟨#[]⟩, .int .i64 0, .bool false], .int .i64 1]) ?ret rfl ?post
    case ret => rw [res_two rfl]; go_simp
    case post => exact ⟨by rw [hR.out]; rfl, hb5⟩
end Go.Proofs.YtgobpoeccdgeiaaGreatDoor

namespace Go.Proofs.YtgobpoeccdgeiaaGreatDoor
open Go.RowKit NumP DurP TimeP Go.Proofs.YtgobpoeccdgeiaaGreatDoorW.PrintWords
set_option linter.unusedVariables false

/-- What is known behind a store of the result. -/
structure ResAt (W : World) (q : Nat) (w : World) (y mo d h mi : Int) (s : ByteArray) (z : Int) (has : Bool) : Prop where
  hp : w.heap[q]? = some (.cells #[.int .i64 y, .int .i64 mo, .int .i64 d, .int .i64 h, .int .i64 mi, .string s, .int .i64 z, .bool has] 24 (0, 0))
  hb : Below W.heap.size W w
theorem ResAt.drew {W : World} {q : Nat} {w : World} {y mo d h mi : Int} {s : ByteArray} {z : Int} {has : Bool} (t : ResAt W q w y mo d h mi s z has) : ResAt W q w.drew y mo d h mi s z has := ⟨t.hp, t.hb.drew⟩
set_option maxRecDepth 100000 in
set_option maxHeartbeats 4000000 in
theorem Adjust_t (y mo d h mi : Int) (s : ByteArray) (z : Int) (has : Bool) (zone : Int) (hz : Bool) (W : World) (hL : LaidT W) (hs : s.size ≤ 1000) : Calls Tryz.prog 25 #[.agg #[.int .i64 y, .int .i64 mo, .int .i64 d, .int .i64 h, .int .i64 mi, .string s, .int .i64 z, .bool has], .int .i64 zone, .bool hz] W fun e w' => e = .returned (momE (adjustP ⟨y, mo, d, h, mi, s.data.toList, z, has⟩ zone hz)) ∧ Below W.heap.size W w' := by
  have hT0 := TwoB.init W y mo d h mi s z has
  obtain ⟨W1, hW1⟩ : ∃ w, w = twoW W y mo d h mi s z has := ⟨_, rfl⟩
  obtain ⟨q, hq⟩ : ∃ q, q = W.heap.size := ⟨_, rfl⟩
  rw [← hW1, ← hq] at hT0
  unfold twoW at hW1
  replace hT0 := Lib.hid hT0
  have hva := valid_t y mo d h mi s z has W1 (hL.below hT0.out.hb hL.size) hs
  replace hL := Lib.hid hL
  have hq' := Lib.hid hq
  by_cases hv : validP ⟨y, mo, d, h, mi, s.data.toList, z, has⟩ = true
  · rw [hv] at hva
    cases hz with
    | false =>
      have hR : Hid (adjustP ⟨y, mo, d, h, mi, s.data.toList, z, has⟩ zone false = (⟨y, mo, d, h, mi, s.data.toList, 0, false⟩, 0)) := Lib.hid (by unfold adjustP; rw [if_neg (by rw [hv]; simp), if_pos rfl])
      clear hs hv
      go_enter Tryz.func25, Tryz.ntmps25
      go_upto_region 1 with fail
      rw [← hW1, ← hq]
      clear hW1 hq
      obtain ⟨c0, c1, c2, c3, c4, c5, c6, c7⟩ := hT0.out.mom
      go_wp2_with fail
      refine hva.mono ?_
      rintro e w3 ⟨rfl, hb3⟩
      clear hva c0 c1 c2 c3 c4 c5 c6 c7
      have hT3 := hT0.out.later hb3
      obtain ⟨c0, c1, c2, c3, c4, c5, c6, c7⟩ := hT3.mom
      obtain ⟨f0, f1, f2, f3, f4, f5, f6, f7⟩ := froz8 hT3.hq
      have hT4 := (hT3.set hq'.out 6 (.int .i64 0) rfl).set hq'.out 7 (.bool false) rfl
      replace hT3 := Lib.hid hT3
      obtain ⟨W4, hW4⟩ : ∃ w, w = (w3.setCell ⟨q, 6, none⟩ (.int .i64 0)).setCell ⟨q, 7, none⟩ (.bool false) := ⟨_, rfl⟩
      rw [← hW4] at hT4
      replace hW4 := Lib.hid hW4
      replace hT4 := Lib.hid hT4
      clear hb3
      go_upto_region 5 with fail
      rw [← hW4.out]
      clear hW4 c0 c1 c2 c3 c4 c5 c6 c7 f0 f1 f2 f3 f4 f5 f6 f7
      have hT6 := hT4.out
      obtain ⟨c0, c1, c2, c3, c4, c5, c6, c7⟩ := hT6.mom
      obtain ⟨d0, d1, d2, d3, d4, d5, d6, d7⟩ := hT6.res
      obtain ⟨f0, f1, f2, f3, f4, f5, f6, f7⟩ := froz8 hT6.hp
      obtain ⟨W5, hW5, hp5, hb5⟩ := put_res hT6 hq'.out (.int .i64 y) (.int .i64 mo) (.int .i64 d) (.int .i64 h) (.int .i64 mi) (.string s) (.int .i64 0) (.bool false)
      replace hW5 := Lib.hid hW5
      replace hp5 := Lib.hid hp5
      clear hT6
      go_wp2_with fail
      rw [← hW5.out]
      clear hW5 d0 d1 d2 d3 d4 d5 d6 d7 f0 f1 f2 f3 f4 f5 f6 f7 c0 c1 c2 c3 c4 c5 c6 c7
      obtain ⟨c0, c1, c2, c3, c4, c5, c6, c7⟩ := MomAt.of_heap hp5.out
      refine bodyPost_ret (v := .tuple #[.agg #[.int .i64 y, .int .i64 mo, .int .i64 d, .int .i64 h, .int .i64 mi, .string s, .int .i64 0, .bool false], .int .i64 0]) ?ret rfl ?post
      case ret => rw [res_two rfl]; go_simp
      case post => exact ⟨by rw [hR.out]; rfl, hb5⟩
    | true =>
      by_cases hn1 : zone < -840
      · have hR : Hid (adjustP ⟨y, mo, d, h, mi, s.data.toList, z, has⟩ zone true = (mom0, 1)) := Lib.hid (by unfold adjustP; rw [if_pos (Or.inr ⟨rfl, Or.inl hn1⟩)])
        clear hs hv
        go_enter Tryz.func25, Tryz.ntmps25
        go_upto_region 1 with fail
        rw [← hW1, ← hq]
        clear hW1 hq
        obtain ⟨c0, c1, c2, c3, c4, c5, c6, c7⟩ := hT0.out.mom
        go_wp2_with fail
        refine hva.mono ?_
        rintro e w3 ⟨rfl, hb3⟩
        clear hva c0 c1 c2 c3 c4 c5 c6 c7
        have hT3 := hT0.out.later hb3
        obtain ⟨d0, d1, d2, d3, d4, d5, d6, d7⟩ := hT3.res
        obtain ⟨f0, f1, f2, f3, f4, f5, f6, f7⟩ := froz8 hT3.hp
        obtain ⟨W5, hW5, hp5, hb5⟩ := put_res hT3 hq'.out (.int .i64 0) (.int .i64 0) (.int .i64 0) (.int .i64 0) (.int .i64 0) (.string ⟨#[]⟩) (.int .i64 0) (.bool false)
        replace hW5 := Lib.hid hW5
        replace hp5 := Lib.hid hp5
        clear hb3 hT3
        go_wp2_with fail
        rw [← hW5.out]
        clear hW5 d0 d1 d2 d3 d4 d5 d6 d7 f0 f1 f2 f3 f4 f5 f6 f7
        obtain ⟨c0, c1, c2, c3, c4, c5, c6, c7⟩ := MomAt.of_heap hp5.out
        refine bodyPost_ret (v := .tuple #[.agg #[.int .i64 0, .int .i64 0, .int .i64 0, .int .i64 0, .int .i64 0, .string ⟨#[]⟩, .int .i64 0, .bool false], .int .i64 1]) ?ret rfl ?post
        case ret => rw [res_two rfl]; go_simp
        case post => exact ⟨by rw [hR.out]; rfl, hb5⟩
      · by_cases hn2 : zone > 840
        · have hR : Hid (adjustP ⟨y, mo, d, h, mi, s.data.toList, z, has⟩ zone true = (mom0, 1)) := Lib.hid (by unfold adjustP; rw [if_pos (Or.inr ⟨rfl, Or.inr hn2⟩)])
          clear hs hv
          go_enter Tryz.func25, Tryz.ntmps25
          go_upto_region 1 with fail
          rw [← hW1, ← hq]
          clear hW1 hq
          obtain ⟨c0, c1, c2, c3, c4, c5, c6, c7⟩ := hT0.out.mom
          go_wp2_with fail
          refine hva.mono ?_
          rintro e w3 ⟨rfl, hb3⟩
          clear hva c0 c1 c2 c3 c4 c5 c6 c7
          have hT3 := hT0.out.later hb3
          obtain ⟨d0, d1, d2, d3, d4, d5, d6, d7⟩ := hT3.res
          obtain ⟨f0, f1, f2, f3, f4, f5, f6, f7⟩ := froz8 hT3.hp
          obtain ⟨W5, hW5, hp5, hb5⟩ := put_res hT3 hq'.out (.int .i64 0) (.int .i64 0) (.int .i64 0) (.int .i64 0) (.int .i64 0) (.string ⟨#[]⟩) (.int .i64 0) (.bool false)
          replace hW5 := Lib.hid hW5
          replace hp5 := Lib.hid hp5
          clear hb3 hT3
          go_wp2_with fail
          rw [← hW5.out]
          clear hW5 d0 d1 d2 d3 d4 d5 d6 d7 f0 f1 f2 f3 f4 f5 f6 f7
          obtain ⟨c0, c1, c2, c3, c4, c5, c6, c7⟩ := MomAt.of_heap hp5.out
          refine bodyPost_ret (v := .tuple #[.agg #[.int .i64 0, .int .i64 0, .int .i64 0, .int .i64 0, .int .i64 0, .string ⟨#[]⟩, .int .i64 0, .bool false], .int .i64 1]) ?ret rfl ?post
          case ret => rw [res_two rfl]; go_simp
          case post => exact ⟨by rw [hR.out]; rfl, hb5⟩
        · have hin : Hid (validP ⟨y, mo, d, h, mi, s.data.toList, zone, true⟩ = true ∧ totalP ⟨y, mo, d, h, mi, s.data.toList, zone, true⟩ = totalP ⟨y, mo, d, h, mi, s.data.toList, z, has⟩) := Lib.hid ⟨by
            obtain ⟨y', mo', d', h', mi', t, rfl, rfl, rfl, rfl, rfl, hsd, hp, hzz⟩ := val_cases hv
            rw [hsd]
            exact valid_mk hp ⟨by omega, by omega, by intro h; cases h⟩, rfl⟩
          have htb := total_bounds hv
          obtain ⟨T, hT⟩ : ∃ T, T = totalP ⟨y, mo, d, h, mi, s.data.toList, z, has⟩ := ⟨_, rfl⟩
          rw [← hT] at htb
          have hz0 : has = false → z = 0 ∧ True := fun e => by
            obtain ⟨y', mo', d', h', mi', t, rfl, rfl, rfl, rfl, rfl, hsd, hp, hzz⟩ := val_cases hv
            exact ⟨hzz.no e, trivial⟩
          have hzb : -840 ≤ z ∧ z ≤ 840 := by
            obtain ⟨y', mo', d', h', mi', t, rfl, rfl, rfl, rfl, rfl, hsd, hp, hzz⟩ := val_cases hv
            exact ⟨hzz.lo, hzz.hi⟩
          obtain ⟨sh, hsh⟩ : ∃ sh : Int, sh = (if has then zone - z else 0) := ⟨_, rfl⟩
          have hsb : -2000 ≤ sh ∧ sh ≤ 2000 := by rw [hsh]; split <;> omega
          have k1 : -epoch ≤ T := htb.1
          have k2 : T < 315537897600000000 - epoch := htb.2
          unfold epoch at k1 k2
          obtain ⟨R, hRR⟩ : ∃ R, R = atP ⟨y, mo, d, h, mi, s.data.toList, zone, true⟩ (T + sh * 60000000) := ⟨_, rfl⟩
          have hR : Hid (adjustP ⟨y, mo, d, h, mi, s.data.toList, z, has⟩ zone true = R) := Lib.hid (by
            unfold adjustP
            rw [if_neg (by rw [hv]; intro hh; rcases hh with hh | ⟨-, hh⟩; cases hh; omega), if_neg (by decide), hRR, hsh, ← hT])
          have hto : Hid (∀ w, LaidT w → Calls Tryz.prog 50 #[.agg #[.int .i64 y, .int .i64 mo, .int .i64 d, .int .i64 h, .int .i64 mi, .string s, .int .i64 zone, .bool true]] w fun e w' => e = .returned (.int .i64 T) ∧ Below w.heap.size w w') := Lib.hid (fun w hw => by
            obtain ⟨y', mo', d', h', mi', t, rfl, rfl, rfl, rfl, rfl, hsd, hp, hzz⟩ := val_cases hv
            have := total_t y' mo' d' h' mi' t s zone true w hp hsd hw hs
            rw [← total_mk (y := y') (mo := mo') (d := d') (h := h') (mi := mi') hp.n2 z has] at this
            unfold mkM at this
            rw [← hsd, ← hT] at this
            exact this)
          obtain ⟨⟨ry, rmo, rd, rh, rmi, rs, rz, rhas⟩, rk⟩ := R
          have hat : Hid (∀ w, LaidT w → Calls Tryz.prog 57 #[.agg #[.int .i64 y, .int .i64 mo, .int .i64 d, .int .i64 h, .int .i64 mi, .string s, .int .i64 zone, .bool true], .int .i64 (T + sh * 60000000)] w fun e w' => e = .returned (.tuple #[.agg #[.int .i64 ry, .int .i64 rmo, .int .i64 rd, .int .i64 rh, .int .i64 rmi, .string ⟨rs.toArray⟩, .int .i64 rz, .bool rhas], .int .i64 rk]) ∧ Below w.heap.size w w') := Lib.hid (fun w hw => by
            have := at_t y mo d h mi s zone true (T + sh * 60000000) w hw (by omega) (by omega)
            rw [← hRR] at this
            exact this)
          have z1 : -840 ≤ z := hzb.1
          have z2 : z ≤ 840 := hzb.2
          have s1 : -2000 ≤ sh := hsb.1
          have s2 : sh ≤ 2000 := hsb.2
          have w1 : IntKind.i64.wrap (sh * 60000000) = sh * 60000000 := IntWalk.i64_in _ (by omega)
          have w2 : IntKind.i64.wrap (T + sh * 60000000) = T + sh * 60000000 := IntWalk.i64_in _ (by omega)
          have k3 : -100000000000000000 ≤ T := by omega
          have k4 : T ≤ 400000000000000000 := by omega
          have hm1 : -840 ≤ zone := by omega
          have hm2 : zone ≤ 840 := by omega
          clear hin hs hv hT htb hz0 hzb hsb k1 k2 hRR
          cases has with
          | false =>
            replace hsh : sh = 0 := hsh
            subst hsh
            simp only [Int.zero_mul, Int.add_zero] at hat w1 w2
            go_enter Tryz.func25, Tryz.ntmps25
            go_upto_region 1 with fail
            rw [← hW1, ← hq]
            clear hW1 hq
            obtain ⟨c0, c1, c2, c3, c4, c5, c6, c7⟩ := hT0.out.mom
            go_wp2_with fail
            refine hva.mono ?_
            rintro e w3 ⟨rfl, hb3⟩
            clear hva c0 c1 c2 c3 c4 c5 c6 c7
            have hT3 := hT0.out.later hb3
            obtain ⟨c0, c1, c2, c3, c4, c5, c6, c7⟩ := hT3.mom
            obtain ⟨f0, f1, f2, f3, f4, f5, f6, f7⟩ := froz8 hT3.hq
            have hT4 := (hT3.set hq'.out 6 (.int .i64 zone) rfl).set hq'.out 7 (.bool true) rfl
            replace hT3 := Lib.hid hT3
            obtain ⟨W4, hW4⟩ : ∃ w, w = (w3.setCell ⟨q, 6, none⟩ (.int .i64 zone)).setCell ⟨q, 7, none⟩ (.bool true) := ⟨_, rfl⟩
            rw [← hW4] at hT4
            replace hW4 := Lib.hid hW4
            replace hT4 := Lib.hid hT4
            clear hb3
            go_upto_region 10 with fail
            rw [← hW4.out]
            clear hW4 c0 c1 c2 c3 c4 c5 c6 c7 f0 f1 f2 f3 f4 f5 f6 f7
            go_cut [7] from 38 to 46 (fun v wx => v = .int .i64 rk ∧ Hid (ResAt W (q + 1) wx ry rmo rd rh rmi ⟨rs.toArray⟩ rz rhas))
            case first =>
              obtain ⟨c0, c1, c2, c3, c4, c5, c6, c7⟩ := hT4.out.mom
              go_region_with (first
                | (go_at_call 50; refine (hto.out _ (hL.out.below hT4.out.hb.drew hL.out.size)).mono ?_; rintro e w7 ⟨rfl, hbb⟩; have hT7 := (hT4.out.later (Below.refl _ _).drew).later hbb; clear hbb; obtain ⟨e0, e1, e2, e3, e4, e5, e6, e7⟩ := hT7.mom)
                | (go_at_call 57; refine (hat.out _ (hL.out.below hT7.hb hL.out.size)).mono ?_; rintro e w8 ⟨rfl, hbb⟩; have hT8 := hT7.later hbb; clear hbb; obtain ⟨d0, d1, d2, d3, d4, d5, d6, d7⟩ := hT8.res; obtain ⟨f0, f1, f2, f3, f4, f5, f6, f7⟩ := froz8 hT8.hp
                   obtain ⟨W5, hW5, hp5, hb5⟩ := put_res hT8 hq'.out (.int .i64 ry) (.int .i64 rmo) (.int .i64 rd) (.int .i64 rh) (.int .i64 rmi) (.string ⟨rs.toArray⟩) (.int .i64 rz) (.bool rhas)
                   replace hW5 := Lib.hid hW5; replace hp5 := Lib.hid hp5))
              all_goals (go_wp2_with fail; rw [← hW5.out]; go_meet; exact ⟨rfl, Lib.hid ⟨hp5.out, hb5⟩⟩)
            obtain ⟨rfl, hres⟩ := hcut
            obtain ⟨c0, c1, c2, c3, c4, c5, c6, c7⟩ := MomAt.of_heap hres.out.hp
            go_wp2_with fail
            refine bodyPost_ret (v := .tuple #[.agg #[.int .i64 ry, .int .i64 rmo, .int .i64 rd, .int .i64 rh, .int .i64 rmi, .string ⟨rs.toArray⟩, .int .i64 rz, .bool rhas], .int .i64 rk]) ?ret rfl ?post
            case ret => rw [res_two rfl]; go_simp
            case post => exact ⟨by rw [hR.out]; rfl, hres.out.hb⟩
          | true =>
            replace hsh : sh = zone - z := hsh
            have hsh' : zone - z = sh := hsh.symm
            clear hsh
            go_enter Tryz.func25, Tryz.ntmps25
            go_upto_region 1 with fail
            rw [← hW1, ← hq]
            clear hW1 hq
            obtain ⟨c0, c1, c2, c3, c4, c5, c6, c7⟩ := hT0.out.mom
            go_wp2_with fail
            refine hva.mono ?_
            rintro e w3 ⟨rfl, hb3⟩
            clear hva c0 c1 c2 c3 c4 c5 c6 c7
            have hT3 := hT0.out.later hb3
            obtain ⟨c0, c1, c2, c3, c4, c5, c6, c7⟩ := hT3.mom
            obtain ⟨f0, f1, f2, f3, f4, f5, f6, f7⟩ := froz8 hT3.hq
            have hT4 := (hT3.set hq'.out 6 (.int .i64 zone) rfl).set hq'.out 7 (.bool true) rfl
            replace hT3 := Lib.hid hT3
            obtain ⟨W4, hW4⟩ : ∃ w, w = (w3.setCell ⟨q, 6, none⟩ (.int .i64 zone)).setCell ⟨q, 7, none⟩ (.bool true) := ⟨_, rfl⟩
            rw [← hW4] at hT4
            replace hW4 := Lib.hid hW4
            replace hT4 := Lib.hid hT4
            clear hb3
            go_upto_region 10 with fail
            rw [← hW4.out]
            clear hW4 c0 c1 c2 c3 c4 c5 c6 c7 f0 f1 f2 f3 f4 f5 f6 f7
            go_cut [7] from 38 to 46 (fun v wx => v = .int .i64 rk ∧ Hid (ResAt W (q + 1) wx ry rmo rd rh rmi ⟨rs.toArray⟩ rz rhas))
            case first =>
              obtain ⟨c0, c1, c2, c3, c4, c5, c6, c7⟩ := hT4.out.mom
              go_region_with (first
                | (go_at_call 50; refine (hto.out _ (hL.out.below hT4.out.hb.drew hL.out.size)).mono ?_; rintro e w7 ⟨rfl, hbb⟩; have hT7 := (hT4.out.later (Below.refl _ _).drew).later hbb; clear hbb; obtain ⟨e0, e1, e2, e3, e4, e5, e6, e7⟩ := hT7.mom)
                | (go_at_call 57; refine (hat.out _ (hL.out.below hT7.hb hL.out.size)).mono ?_; rintro e w8 ⟨rfl, hbb⟩; have hT8 := hT7.later hbb; clear hbb; obtain ⟨d0, d1, d2, d3, d4, d5, d6, d7⟩ := hT8.res; obtain ⟨f0, f1, f2, f3, f4, f5, f6, f7⟩ := froz8 hT8.hp
                   obtain ⟨W5, hW5, hp5, hb5⟩ := put_res hT8 hq'.out (.int .i64 ry) (.int .i64 rmo) (.int .i64 rd) (.int .i64 rh) (.int .i64 rmi) (.string ⟨rs.toArray⟩) (.int .i64 rz) (.bool rhas)
                   replace hW5 := Lib.hid hW5; replace hp5 := Lib.hid hp5))
              all_goals (go_wp2_with fail; rw [← hW5.out]; go_meet; exact ⟨rfl, Lib.hid ⟨hp5.out, hb5⟩⟩)
            obtain ⟨rfl, hres⟩ := hcut
            obtain ⟨c0, c1, c2, c3, c4, c5, c6, c7⟩ := MomAt.of_heap hres.out.hp
            go_wp2_with fail
            refine bodyPost_ret (v := .tuple #[.agg #[.int .i64 ry, .int .i64 rmo, .int .i64 rd, .int .i64 rh, .int .i64 rmi, .string ⟨rs.toArray⟩, .int .i64 rz, .bool rhas], .int .i64 rk]) ?ret rfl ?post
            case ret => rw [res_two rfl]; go_simp
            case post => exact ⟨by rw [hR.out]; rfl, hres.out.hb⟩
  · rw [Bool.not_eq_true] at hv
    rw [hv] at hva
    have hR : Hid (adjustP ⟨y, mo, d, h, mi, s.data.toList, z, has⟩ zone hz = (mom0, 1)) := Lib.hid (by unfold adjustP; rw [if_pos (Or.inl hv)])
    clear hs hv
    go_enter Tryz.func25, Tryz.ntmps25
    go_upto_region 1 with fail
    rw [← hW1, ← hq]
    clear hW1 hq
    obtain ⟨c0, c1, c2, c3, c4, c5, c6, c7⟩ := hT0.out.mom
    go_wp2_with fail
    refine hva.mono ?_
    rintro e w3 ⟨rfl, hb3⟩
    clear hva c0 c1 c2 c3 c4 c5 c6 c7
    have hT3 := hT0.out.later hb3
    obtain ⟨d0, d1, d2, d3, d4, d5, d6, d7⟩ := hT3.res
    obtain ⟨f0, f1, f2, f3, f4, f5, f6, f7⟩ := froz8 hT3.hp
    obtain ⟨W5, hW5, hp5, hb5⟩ := put_res hT3 hq'.out (.int .i64 0) (.int .i64 0) (.int .i64 0) (.int .i64 0) (.int .i64 0) (.string ⟨#[]⟩) (.int .i64 0) (.bool false)
    replace hW5 := Lib.hid hW5
    replace hp5 := Lib.hid hp5
    clear hb3 hT3
    go_wp2_with fail
    rw [← hW5.out]
    clear hW5 d0 d1 d2 d3 d4 d5 d6 d7 f0 f1 f2 f3 f4 f5 f6 f7
    obtain ⟨c0, c1, c2, c3, c4, c5, c6, c7⟩ := MomAt.of_heap hp5.out
    refine bodyPost_ret (v := .tuple #[.agg #[.int .i64 0, .int .i64 0, .int .i64 0, .int .i64 0, .int .i64 0, .string ⟨#[]⟩, .int .i64 0, .bool false], .int .i64 1]) ?ret rfl ?post
    case ret => rw [res_two rfl]; go_simp
    case post => exact ⟨by rw [hR.out]; rfl, hb5⟩
end Go.Proofs.YtgobpoeccdgeiaaGreatDoor

namespace Go.Proofs.YtgobpoeccdgeiaaGreatDoor
open Go.RowKit NumP Go.Proofs.YtgobpoeccdgeiaaGreatDoorW.PrintWords
set_option linter.unusedVariables false

theorem rnd_later {V : World} {q : Nat} {a b : Value} {w w' : World} (hlt : Hid (q < V.heap.size)) (e : w.cell? ⟨q, 0, none⟩ = some a ∧ w.cell? ⟨q, 1, none⟩ = some b ∧ Hid (Below V.heap.size V w)) (hb : Below w.heap.size w w') :
    w'.cell? ⟨q, 0, none⟩ = some a ∧ w'.cell? ⟨q, 1, none⟩ = some b ∧ Hid (Below V.heap.size V w') := by
  obtain ⟨c0, c1, hB⟩ := e
  have hq : q < w.heap.size := Nat.lt_of_lt_of_le hlt.out hB.out.size
  exact ⟨by rw [hb.cell (p := ⟨q, 0, none⟩) hq]; exact c0, by rw [hb.cell (p := ⟨q, 1, none⟩) hq]; exact c1, Lib.hid (hB.out.trans (hb.mono hB.out.size))⟩
theorem rnd_out {V : World} {q : Nat} {a b : Value} {w : World} (e : w.cell? ⟨q, 0, none⟩ = some a ∧ w.cell? ⟨q, 1, none⟩ = some b ∧ Hid (Below V.heap.size V w)) : Below V.heap.size V w := e.2.2.out
theorem round_wide {d : Nat} (h : d < P50) (k : Nat) (hk : k ≤ 50) (neg : Bool) : (wordsN (10 ^ k)).length ≤ 400000 ∧ Small (10 ^ k) ∧ Small (cutN .even neg d (10 ^ k)) ∧ (wordsN (cutN .even neg d (10 ^ k) * 10 ^ k)).length ≤ 400000 := by
  have hu : 10 ^ k < 1000000000 ^ 6 := Nat.lt_of_le_of_lt (Nat.pow_le_pow_right (by decide) hk) (by decide)
  have hc := cutN_le .even neg d (10 ^ k)
  have hc2 : cutN .even neg d (10 ^ k) < 1000000000 ^ 6 := Nat.lt_of_le_of_lt hc (Nat.lt_of_le_of_lt (Nat.succ_le_of_lt h) (by decide))
  refine ⟨wBig hu (by decide), Small.of_lt hu (by decide), Small.of_lt hc2 (by decide), wBig (k := 12) ?_ (by decide)⟩
  exact Nat.lt_of_lt_of_le (Nat.mul_lt_mul'' hc2 hu) (by decide)
set_option maxHeartbeats 2000000 in
set_option maxRecDepth 100000 in
theorem Round_even (a : ByteArray) (dg : Int) (W : World) (hL : LaidW W) (ha : a.size ≤ maxLen) (h1 : -30 ≤ dg) (h2 : dg ≤ 20) : Calls Tryz.prog 34 #[.string a, .int .i64 dg, .string ⟨#[101, 118, 101, 110]⟩] W (StrPost W (roundT a.data.toList dg [101, 118, 101, 110])) := by
  have hca := canonical_b a W hL ha
  obtain ⟨k, hk⟩ : ∃ k : Nat, 20 - dg = (k : Int) := ⟨(20 - dg).toNat, by omega⟩
  have hk50 : k ≤ 50 := by omega
  obtain ⟨R, hR⟩ : ∃ R, R = roundT a.data.toList dg [101, 118, 101, 110] := ⟨_, rfl⟩
  rw [← hR]
  unfold roundT at hR
  have g1 : ¬ (dg < -30) := by omega
  have g2 : ¬ (dg > 20) := by omega
  cases hx : canonN a.data.toList with
  | error kk =>
    rw [hx] at hR hca
    have hk0 : kk ≠ 0 := by
      unfold canonN at hx
      split at hx
      · split at hx
        · cases hx
        · injection hx with hx; omega
      · injection hx with hx; omega
    have g3 : (kk == 0) = false := by simpa using hk0
    replace hx := Lib.hid hx
    replace hR := Lib.hid hR
    clear hk0
    go_enter Tryz.func34, Tryz.ntmps34
    go_wp2_with fail
    refine hca.mono ?_
    rintro e w1 ⟨hb1, rfl⟩
    clear hca
    go_wp2_with fail
    go_ret2
    exact ⟨by rw [hR.out]; rfl, hb1.alloc hb1.size _⟩
  | ok x =>
    obtain ⟨neg, d⟩ := x
    have hdx : d < P50 := (canonN_good hx).1.1
    obtain ⟨u1, u2, u3, u4⟩ := round_wide hdx k hk50 neg
    rw [hx] at hR hca
    have hR2 : R = outN (checkedN ⟨neg, cutN .even neg d (10 ^ k) * 10 ^ k⟩) := by
      rw [hR]
      simp only
      rw [if_neg (by omega), show (20 - dg).toNat = k by omega]
      rfl
    obtain ⟨U, hU⟩ : ∃ U, U = 10 ^ k := ⟨_, rfl⟩
    have hU0 : 0 < U := by rw [hU]; exact Nat.pow_pos (by decide)
    rw [← hU] at hR2 u1 u2 u3 u4
    obtain ⟨D, hD⟩ : ∃ D, D = cutN .even neg d U := ⟨_, rfl⟩
    rw [← hD] at hR2 u3 u4
    have hpw : Hid (∀ w, Calls Tryz.prog 72 #[.int .i64 (k : Int)] w (BPost w (wordsN U))) := Lib.hid (fun w => by rw [hU]; exact pow10_b w k (by omega))
    have hld : (wordsN d).length ≤ 400000 := Nat.le_trans (w50 hdx) (by decide)
    have hcu : Hid (∀ w v u, BN w v d → BN w u U → Calls Tryz.prog 75 #[.bool neg, v, u, evenF] w (BPost w (wordsN D))) := Lib.hid (fun w v u b1 b2 => by rw [hD]; exact cut_even w neg v u _ _ b1 b2 hld u1 hU0)
    have hti : Hid (∀ w v u, BN w v D → BN w u U → Calls Tryz.prog 74 #[v, u] w (BPost w (wordsN (D * U)))) := Lib.hid (fun w v u b1 b2 => times_b w v u D U b1 b2 u3 u2)
    obtain ⟨E, hE⟩ : ∃ E, E = D * U := ⟨_, rfl⟩
    rw [← hE] at hR2 u4 hti
    have hdo := fun w A n c hv => done_b w neg A n c E hv u4
    obtain ⟨res, hres⟩ : ∃ r, r = outN (checkedN ⟨neg, E⟩) := ⟨_, rfl⟩
    rw [← hres] at hdo hR2
    replace hx := Lib.hid hx
    replace hR2 := Lib.hid hR2
    replace hdo := Lib.hid hdo
    clear hR u1 u2 u3 u4 hld hU hD hE hU0 hres hdx hk50
    go_enter Tryz.func34, Tryz.ntmps34
    go_wp2_with fail
    refine hca.mono ?_
    rintro e w1 ⟨hb1, A, n, c, rfl, hB, hn⟩
    clear hca
    replace hn := Lib.hid hn
    obtain ⟨W2, hW2⟩ : ∃ w, w = w1.alloc (.cells #[.bool neg, .slice A n c] 87) := ⟨_, rfl⟩
    obtain ⟨q, hq⟩ : ∃ q, q = w1.heap.size := ⟨_, rfl⟩
    have hx2 : W2.heap[q]? = some (.cells #[.bool neg, .slice A n c] 87 (0, 0)) := by rw [hW2, hq]; exact (MapKept.heap_alloc _ _).1
    have hb12 : Below w1.heap.size w1 W2 := by rw [hW2]; exact (Below.refl _ _).alloc (Nat.le_refl _) _
    have hB2 : Hid (BN W2 (.slice A n c) d) := Lib.hid (hB.below hb12)
    have hbW2 := Lib.hid (hb1.trans (hb12.mono hb1.size))
    have hlt : Hid (q < W2.heap.size) := Lib.hid (heap_lt hx2)
    obtain ⟨⟨c0, c1⟩, -⟩ := cells2 hx2
    clear hB hb1 hb12 hx2
    go_wp2_with fail
    rw [← hW2, ← hq]
    clear hW2
    replace hq := Lib.hid hq
    refine (ways_even _).mono ?_
    rintro e w3 ⟨rfl, rfl⟩
    unfold evenF at hcu ⊢
    have hnil : ∀ w, Sem.run Tryz.prog (binOp BinOp.eql 92 (.func (.func 123) #[] #[]) .nilFunc) w = .ok (.bool false) w := fun w => by rfl
    go_wp2_with fail
    refine ((hpw.out _).mono (fun e w' h => BPost.sl h)).mono ?_
    rintro e w4 ⟨A4, c4, rfl, hv4, hb4⟩
    have hb4' := hb4
    obtain ⟨d0, d1, hq4⟩ : w4.cell? ⟨q, 0, none⟩ = some (.bool neg) ∧ w4.cell? ⟨q, 1, none⟩ = some (.slice A n c) ∧ q < w4.heap.size := ⟨by rw [hb4.cell (p := ⟨q, 0, none⟩) hlt.out]; exact c0, by rw [hb4.cell (p := ⟨q, 1, none⟩) hlt.out]; exact c1, Nat.lt_of_lt_of_le hlt.out hb4.size⟩
    have hlt4 := Lib.hid hq4
    have hB4 : Hid (BN w4 (.slice A n c) d) := Lib.hid (hB2.out.below hb4)
    have hbW4 := Lib.hid (hbW2.out.trans (hb4.mono hbW2.out.size))
    have hS : Hid (w4.drew.cell? ⟨q, 0, none⟩ = some (.bool neg) ∧ w4.drew.cell? ⟨q, 1, none⟩ = some (.slice A n c) ∧ Hid (Below w4.heap.size w4 w4.drew)) := Lib.hid ⟨d0, d1, Lib.hid (Below.refl _ _).drew⟩
    have hv4' := Lib.hid hv4
    clear hb4 hb4' c0 c1 d0 d1 hq4 hv4
    go_wp2_with fail
    go_region_held3 (fun w' => w'.cell? ⟨q, 0, none⟩ = some (.bool neg) ∧ w'.cell? ⟨q, 1, none⟩ = some (.slice A n c) ∧ Hid (Below w4.heap.size w4 w'))
      (first | exact hS.out | assumption | exact rnd_later hlt4 (by assumption) (by assumption))
      (first
        | (go_at_call 75; refine ((hcu.out _ _ _ (hB4.out.below (rnd_out (by assumption))) (hv4'.out.below (rnd_out (by assumption)))).mono (fun e w' h => BPost.sl h)).mono ?_; rintro e w' ⟨A8, c8, rfl, hv8, hbb⟩)
        | (go_at_call 74; refine ((hti.out _ _ _ (by assumption) (hv4'.out.below (rnd_out (by assumption)))).mono (fun e w' h => BPost.sl h)).mono ?_; rintro e w' ⟨A7, c7, rfl, hv7, hbb⟩)
        | (go_at_call 73; refine (hdo.out _ _ _ _ (by assumption)).mono ?_; rintro e w' ⟨rfl, hbb⟩))
    rename_i hH
    have hbb := Lib.hid hH.2.2.out
    go_wp2_with fail
    go_ret2
    exact ⟨by rw [hR2.out]; rfl, hbW4.out.trans (hbb.out.mono hbW4.out.size)⟩
end Go.Proofs.YtgobpoeccdgeiaaGreatDoor

namespace Go.Proofs.YtgobpoeccdgeiaaGreatDoor
open Go.RowKit NumP DurP TimeP Go.Proofs.YtgobpoeccdgeiaaGreatDoorW.PrintWords
set_option linter.unusedVariables false

theorem before_le (c : UInt8) : ∀ l : List UInt8, (before c l).length ≤ l.length := fun l => by unfold before; exact (List.takeWhile_prefix _).length_le
theorem behind_le (c : UInt8) : ∀ l : List UInt8, (behind c l).length ≤ l.length := fun l => by unfold behind; exact Nat.le_trans (List.length_drop ▸ Nat.sub_le _ _) (List.dropWhile_suffix _).length_le
theorem before_sign (v : Int) : before 46 (textN (numU v)) = (if v < 0 then [45] else []) ++ before 46 (tx (v.natAbs * P14)) := by
  obtain ⟨n, hn⟩ : ∃ n, n = v.natAbs * P14 := ⟨_, rfl⟩
  unfold numU
  rw [← hn]
  by_cases h : v < 0
  · rw [decide_eq_true h, tx_neg, if_pos h]; rfl
  · rw [decide_eq_false h, if_neg h]; rfl
/-- The text of millionths, cut, is a number for Atoi. -/
theorem atoi_U (v : Int) (h : v.natAbs < 10 ^ 18) : (behind 46 (textN (numU v))).length ≤ 6 ∧ Lib.atoiAll (before 46 (textN (numU v)) ++ behind 46 (textN (numU v)) ++ List.replicate (6 - (behind 46 (textN (numU v))).length) 48) = .ok v := by
  rw [before_sign, (before_U v).2]
  obtain ⟨w, f, e, hb, hf, hw, hff, h0, h20, hv, hl, -⟩ := tx_split (v.natAbs * P14)
  have h6 : f.length ≤ 6 := by
    have := frac_len (e := v.natAbs) (j := 14) (by decide)
    rw [← hf]
    exact this
  have hval := val_U v.natAbs
  rw [hb, hf] at hval ⊢
  refine ⟨h6, ?_⟩
  have hd : Dig (w ++ f ++ List.replicate (6 - f.length) 48) := digs_app (digs_app hw hff) (digs_zeros _)
  have hne : w ++ f ++ List.replicate (6 - f.length) 48 ≠ [] := by
    cases w with
    | nil => exact absurd rfl h0
    | cons c w => simp
  by_cases hn : v < 0
  · rw [if_pos hn]
    show Lib.atoiAll (45 :: (w ++ f ++ List.replicate (6 - f.length) 48)) = .ok v
    rw [atoiAll_neg hd hne (by rw [hval]; exact h), hval]
    congr 1
    omega
  · rw [if_neg hn]
    show Lib.atoiAll (w ++ f ++ List.replicate (6 - f.length) 48) = .ok v
    rw [atoiAll_dig hd hne (by rw [hval]; exact h), hval]
    congr 1
    omega
/-- The ways of AddSeconds. -/
theorem addS_form {m : Mom} {l : List UInt8} (hm : validP m = true) : ((parseT l).2 ≠ 0 ∧ addSecondsP m l = (mom0, (parseT l).2)) ∨ ((parseT l).2 = 0 ∧ ∃ X k, roundT (parseT l).1 6 [101, 118, 101, 110] = (X, k) ∧ X.length ≤ 60 ∧
    ((k ≠ 0 ∧ addSecondsP m l = (mom0, 6)) ∨ (k = 0 ∧ 12 < (stripM (before 46 X)).length ∧ addSecondsP m l = (mom0, 6)) ∨
      (k = 0 ∧ (stripM (before 46 X)).length ≤ 12 ∧ (behind 46 X).length ≤ 6 ∧ ∃ v : Int, v.natAbs < 10 ^ 18 ∧ Lib.atoiAll (before 46 X ++ behind 46 X ++ List.replicate (6 - (behind 46 X).length) 48) = .ok v ∧ addSecondsP m l = atP m (totalP m + v)))) := by
  cases hx : parseN l with
  | error k =>
    have hk := parseN_err hx
    have hp : parseT l = ([], k) := by unfold parseT; rw [hx]; rfl
    left
    rw [hp]
    exact ⟨by show k ≠ 0; omega, addSeconds_err hm hx⟩
  | ok x =>
    right
    have hg := parseN_good hx
    have hp : parseT l = (textN x, 0) := by unfold parseT; rw [hx]; rfl
    have hval := addSeconds_val hm hx
    rw [hp]
    refine ⟨rfl, ?_⟩
    show ∃ X k, roundT (textN x) 6 [101, 118, 101, 110] = (X, k) ∧ _
    rw [round6 hg, checked_U]
    have hab : (rndU x).natAbs = cutN .even x.neg x.d P14 := by
      unfold rndU
      split
      · rw [Int.natAbs_neg, Int.natAbs_natCast]
      · rw [Int.natAbs_natCast]
    have hr : (if x.neg = true then -(cutN .even x.neg x.d P14 : Int) else (cutN .even x.neg x.d P14 : Nat)) = rndU x := rfl
    rw [hr]
    obtain ⟨c, hc⟩ : ∃ c, c = cutN .even x.neg x.d P14 := ⟨_, rfl⟩
    rw [← hc] at hab ⊢
    by_cases h36 : c < 10 ^ 36
    · rw [if_pos h36]
      have hlen : (outN (.ok (numU (rndU x)))).1.length ≤ 60 := outN_len fun z h => by
        injection h with h
        rw [← h]
        show (rndU x).natAbs * P14 < P50
        rw [hab]
        exact Nat.lt_of_lt_of_le (Nat.mul_lt_mul_of_pos_right h36 (by decide)) (by decide)
      refine ⟨textN (numU (rndU x)), 0, rfl, hlen, Or.inr ?_⟩
      have hlu := long_U c
      rw [(before_U (rndU x)).1, hab]
      by_cases h18 : c < 10 ^ 18
      · have h18' : (rndU x).natAbs < 10 ^ 18 := by rw [hab]; exact h18
        rw [if_pos h18'] at hval
        obtain ⟨a1, a2⟩ := atoi_U (rndU x) h18'
        exact Or.inr ⟨rfl, Nat.le_of_not_lt (fun h => by have := hlu.1 h; omega), a1, rndU x, h18', a2, hval⟩
      · rw [if_neg (by rw [hab]; exact h18)] at hval
        exact Or.inl ⟨rfl, hlu.2 (by omega), hval⟩
    · rw [if_neg h36]
      rw [if_neg (by rw [hab]; omega)] at hval
      exact ⟨[], 40, rfl, by decide, Or.inl ⟨by decide, hval⟩⟩
set_option maxRecDepth 100000 in
set_option maxHeartbeats 4000000 in
theorem AddSeconds_t (y mo d h mi : Int) (s : ByteArray) (z : Int) (has : Bool) (n : ByteArray) (W : World) (hL : LaidT W) (hs : s.size ≤ 1000) (hn : n.size ≤ maxLen) : Calls Tryz.prog 28 #[.agg #[.int .i64 y, .int .i64 mo, .int .i64 d, .int .i64 h, .int .i64 mi, .string s, .int .i64 z, .bool has], .string n] W fun e w' => e = .returned (momE (addSecondsP ⟨y, mo, d, h, mi, s.data.toList, z, has⟩ n.data.toList)) ∧ Below W.heap.size W w' := by
  have hT0 := TwoB.init W y mo d h mi s z has
  obtain ⟨W1, hW1⟩ : ∃ w, w = twoW W y mo d h mi s z has := ⟨_, rfl⟩
  obtain ⟨q, hq⟩ : ∃ q, q = W.heap.size := ⟨_, rfl⟩
  rw [← hW1, ← hq] at hT0
  unfold twoW at hW1
  replace hT0 := Lib.hid hT0
  have hva := valid_t y mo d h mi s z has W1 (hL.below hT0.out.hb hL.size) hs
  replace hL := Lib.hid hL
  have hq' := Lib.hid hq
  by_cases hv : validP ⟨y, mo, d, h, mi, s.data.toList, z, has⟩ = true
  · rw [hv] at hva
    have hpa : Hid (∀ w, LaidT w → Calls Tryz.prog 33 #[.string n] w (StrPost w (parseT n.data.toList))) := Lib.hid (fun w hw => Parse_b n w hw.base.num hn)
    have hpl := parseT_len n.data.toList
    have hform := addS_form (l := n.data.toList) hv
    obtain ⟨R, hRR⟩ : ∃ R, R = addSecondsP ⟨y, mo, d, h, mi, s.data.toList, z, has⟩ n.data.toList := ⟨_, rfl⟩
    rw [← hRR] at hform ⊢
    replace hRR := Lib.hid hRR
    obtain ⟨⟨pl, pk⟩, hpe⟩ : ∃ p, p = parseT n.data.toList := ⟨_, rfl⟩
    rw [← hpe] at hpa hpl hform
    clear hpe
    obtain ⟨Pb, hPb⟩ : ∃ b : ByteArray, b = ⟨pl.toArray⟩ := ⟨_, rfl⟩
    have hPl : Pb.data.toList = pl := by rw [hPb]
    have hpa : Hid (∀ w, LaidT w → Calls Tryz.prog 33 #[.string n] w fun e w' => e = .returned (.tuple #[.string Pb, .int .i64 pk]) ∧ Below w.heap.size w w') := Lib.hid (fun w hw => (hpa.out w hw).mono fun e w' h => ⟨by rw [hPb]; exact h.1, h.2⟩)
    rcases hform with ⟨h1, h2⟩ | ⟨h1, X, k, hro, hXl, hrest⟩
    · have h1 : pk ≠ 0 := h1
      have hR : Hid (R = (mom0, pk)) := Lib.hid h2
      have g1 : (pk != 0) = true := by simpa using h1
      clear h2 h1 hPb hPl hv hs hpl
      go_enter Tryz.func28, Tryz.ntmps28
      go_upto_region 1 with fail
      rw [← hW1, ← hq]
      clear hW1 hq
      obtain ⟨c0, c1, c2, c3, c4, c5, c6, c7⟩ := hT0.out.mom
      go_wp2_with fail
      refine hva.mono ?_
      rintro e w3 ⟨rfl, hb3⟩
      clear hva c0 c1 c2 c3 c4 c5 c6 c7
      have hT3 := hT0.out.later hb3
      have hL3 := Lib.hid (hL.out.below hT3.hb hL.out.size)
      clear hb3
      go_wp2_with fail
      refine (hpa.out _ hL3.out).mono ?_
      rintro e w4 ⟨rfl, hb4⟩
      have hT4 := hT3.later hb4
      clear hT3 hb4
      obtain ⟨d0, d1, d2, d3, d4, d5, d6, d7⟩ := hT4.res
      obtain ⟨f0, f1, f2, f3, f4, f5, f6, f7⟩ := froz8 hT4.hp
      obtain ⟨W5, hW5, hp5, hb5⟩ := put_res hT4 hq'.out (.int .i64 0) (.int .i64 0) (.int .i64 0) (.int .i64 0) (.int .i64 0) (.string ⟨#[]⟩) (.int .i64 0) (.bool false)
      replace hW5 := Lib.hid hW5
      replace hp5 := Lib.hid hp5
      clear hT4
      go_wp2_with fail
      rw [← hW5.out]
      clear hW5 d0 d1 d2 d3 d4 d5 d6 d7 f0 f1 f2 f3 f4 f5 f6 f7
      obtain ⟨c0, c1, c2, c3, c4, c5, c6, c7⟩ := MomAt.of_heap hp5.out
      refine bodyPost_ret (v := .tuple #[.agg #[.int .i64 0, .int .i64 0, .int .i64 0, .int .i64 0, .int .i64 0, .string ⟨#[]⟩, .int .i64 0, .bool false], .int .i64 pk]) ?ret rfl ?post
      case ret => rw [res_two rfl]; go_simp
      case post => exact ⟨by rw [hR.out]; rfl, hb5⟩
    · have h1 : pk = 0 := h1
      subst h1
      have hro : roundT pl 6 [101, 118, 101, 110] = (X, k) := hro
      obtain ⟨Xb, hXb⟩ : ∃ b : ByteArray, b = ⟨X.toArray⟩ := ⟨_, rfl⟩
      have hXd : Xb.data.toList = X := by rw [hXb]
      have hrn : Hid (∀ w, LaidT w → Calls Tryz.prog 34 #[.string Pb, .int .i64 6, .string ⟨#[101, 118, 101, 110]⟩] w fun e w' => e = .returned (.tuple #[.string Xb, .int .i64 k]) ∧ Below w.heap.size w w') := Lib.hid (fun w hw => by
        have := Round_even Pb 6 w hw.base.num (show Pb.size ≤ 2 ^ 63 - 1 by rw [← list_len, hPl]; have : pl.length ≤ 60 := hpl; omega) (by decide) (by decide)
        rw [hPl, hro] at this
        exact this.mono fun e w' h => ⟨by rw [hXb]; exact h.1, h.2⟩)
      have hXs : Xb.size ≤ 60 := by rw [← list_len, hXd]; exact hXl
      obtain ⟨wb, hwb⟩ : ∃ b : ByteArray, b = ⟨(before 46 X).toArray⟩ := ⟨_, rfl⟩
      obtain ⟨fb, hfb⟩ : ∃ b : ByteArray, b = ⟨(behind 46 X).toArray⟩ := ⟨_, rfl⟩
      have hwd : wb.data.toList = before 46 X := by rw [hwb]
      have hfd : fb.data.toList = behind 46 X := by rw [hfb]
      obtain ⟨cc, hcc⟩ : ∃ c, c = X.contains 46 := ⟨_, rfl⟩
      have hcu : Hid (∀ w, LaidT w → Calls Tryz.prog 47 #[.string Xb, .string ⟨#[46]⟩] w fun e w' => e = .returned (.tuple #[.string wb, .string fb, .bool cc]) ∧ Below w.heap.size w w') := Lib.hid (fun w hw => (cut_t Xb w hw (by omega)).mono fun e w' h => ⟨by rw [h.1, hXd, hwb, hfb, hcc], h.2⟩)
      obtain ⟨tb, htb⟩ : ∃ b : ByteArray, b = ⟨(stripM (before 46 X)).toArray⟩ := ⟨_, rfl⟩
      have htd : tb.data.toList = stripM (before 46 X) := by rw [htb]
      have htr : Hid (∀ w, Calls Tryz.prog 61 #[.string wb, .string ⟨#[45]⟩] w fun e w' => e = .returned (.string tb) ∧ w = w') := Lib.hid (fun w => (Tryz.strings_TrimPrefix wb ⟨#[45]⟩ w).mono (fun e w' h => ⟨by rw [h.1, hwd, show (⟨#[45]⟩ : ByteArray).data.toList = [45] from rfl, trim_one, htb]; rfl, h.2.symm⟩))
      have hwl : wb.size ≤ 60 := by rw [← list_len, hwd]; exact Nat.le_trans (before_le _ _) hXl
      have htl : tb.size ≤ 60 := by
        rw [← list_len, htd]
        refine Nat.le_trans ?_ (Nat.le_trans (before_le 46 X) hXl)
        unfold stripM; split
        · rw [List.length_drop]; omega
        · exact Nat.le_refl _
      have hfl : fb.size ≤ 60 := by rw [← list_len, hfd]; exact Nat.le_trans (behind_le _ _) hXl
      clear hPb hPl hXb hwb hcc htb hpl hro hXs
      rcases hrest with ⟨hk, hR⟩ | ⟨rfl, hlong, hR⟩ | ⟨rfl, hshort, hf6, v, hv18, hat, hR⟩
      · have g1 : (k != 0) = true := by simpa using hk
        replace hR := Lib.hid hR
        clear hwd hfd htd hXd hXl hv hk hs hfb
        go_enter Tryz.func28, Tryz.ntmps28
        go_upto_region 1 with fail
        rw [← hW1, ← hq]
        clear hW1 hq
        obtain ⟨c0, c1, c2, c3, c4, c5, c6, c7⟩ := hT0.out.mom
        go_wp2_with fail
        refine hva.mono ?_
        rintro e w3 ⟨rfl, hb3⟩
        clear hva c0 c1 c2 c3 c4 c5 c6 c7
        have hT3 := hT0.out.later hb3
        have hL3 := Lib.hid (hL.out.below hT3.hb hL.out.size)
        clear hb3
        go_wp2_with fail
        refine (hpa.out _ hL3.out).mono ?_
        rintro e w4 ⟨rfl, hb4⟩
        have hT4 := hT3.later hb4
        have hL4 := Lib.hid (hL.out.below hT4.hb hL.out.size)
        clear hb4 hT3
        go_wp2_with fail
        refine (hrn.out _ hL4.out).mono ?_
        rintro e w5 ⟨rfl, hb5⟩
        have hT5 := hT4.later hb5
        have hL5 := Lib.hid (hL.out.below hT5.hb hL.out.size)
        clear hb5 hT4
        go_wp2_with fail
        refine (hcu.out _ hL5.out).mono ?_
        rintro e w6 ⟨rfl, hb6⟩
        have hT6 := hT5.later hb6
        have hL6 := Lib.hid (hL.out.below hT6.hb hL.out.size)
        clear hb6 hT5
        obtain ⟨d0, d1, d2, d3, d4, d5, d6, d7⟩ := hT6.res
        obtain ⟨f0, f1, f2, f3, f4, f5, f6, f7⟩ := froz8 hT6.hp
        obtain ⟨W5, hW5, hp5, hb5⟩ := put_res hT6 hq'.out (.int .i64 0) (.int .i64 0) (.int .i64 0) (.int .i64 0) (.int .i64 0) (.string ⟨#[]⟩) (.int .i64 0) (.bool false)
        replace hW5 := Lib.hid hW5
        replace hp5 := Lib.hid hp5
        clear hT6
        go_wp2_with fail
        rw [← hW5.out]
        clear hW5 d0 d1 d2 d3 d4 d5 d6 d7 f0 f1 f2 f3 f4 f5 f6 f7
        obtain ⟨c0, c1, c2, c3, c4, c5, c6, c7⟩ := MomAt.of_heap hp5.out
        refine bodyPost_ret (v := .tuple #[.agg #[.int .i64 0, .int .i64 0, .int .i64 0, .int .i64 0, .int .i64 0, .string ⟨#[]⟩, .int .i64 0, .bool false], .int .i64 6]) ?ret rfl ?post
        case ret => rw [res_two rfl]; go_simp
        case post => exact ⟨by rw [hR.out]; rfl, hb5⟩
      · have g1 : (tb.size : Int) > 12 := by rw [← list_len, htd]; omega
        replace hR := Lib.hid hR
        clear hwd hfd htd hXd hXl hv hs hfb hlong
        go_enter Tryz.func28, Tryz.ntmps28
        go_upto_region 1 with fail
        rw [← hW1, ← hq]
        clear hW1 hq
        obtain ⟨c0, c1, c2, c3, c4, c5, c6, c7⟩ := hT0.out.mom
        go_wp2_with fail
        refine hva.mono ?_
        rintro e w3 ⟨rfl, hb3⟩
        clear hva c0 c1 c2 c3 c4 c5 c6 c7
        have hT3 := hT0.out.later hb3
        have hL3 := Lib.hid (hL.out.below hT3.hb hL.out.size)
        clear hb3
        go_wp2_with fail
        refine (hpa.out _ hL3.out).mono ?_
        rintro e w4 ⟨rfl, hb4⟩
        have hT4 := hT3.later hb4
        have hL4 := Lib.hid (hL.out.below hT4.hb hL.out.size)
        clear hb4 hT3
        go_wp2_with fail
        refine (hrn.out _ hL4.out).mono ?_
        rintro e w5 ⟨rfl, hb5⟩
        have hT5 := hT4.later hb5
        have hL5 := Lib.hid (hL.out.below hT5.hb hL.out.size)
        clear hb5 hT4
        go_wp2_with fail
        refine (hcu.out _ hL5.out).mono ?_
        rintro e w6 ⟨rfl, hb6⟩
        have hT6 := hT5.later hb6
        have hL6 := Lib.hid (hL.out.below hT6.hb hL.out.size)
        clear hb6 hT5
        go_wp2_with fail
        refine (htr.out _).mono ?_
        rintro e w7 ⟨rfl, rfl⟩
        obtain ⟨d0, d1, d2, d3, d4, d5, d6, d7⟩ := hT6.res
        obtain ⟨f0, f1, f2, f3, f4, f5, f6, f7⟩ := froz8 hT6.hp
        obtain ⟨W5, hW5, hp5, hb5⟩ := put_res hT6 hq'.out (.int .i64 0) (.int .i64 0) (.int .i64 0) (.int .i64 0) (.int .i64 0) (.string ⟨#[]⟩) (.int .i64 0) (.bool false)
        replace hW5 := Lib.hid hW5
        replace hp5 := Lib.hid hp5
        clear hT6
        go_wp2_with fail
        rw [← hW5.out]
        clear hW5 d0 d1 d2 d3 d4 d5 d6 d7 f0 f1 f2 f3 f4 f5 f6 f7
        obtain ⟨c0, c1, c2, c3, c4, c5, c6, c7⟩ := MomAt.of_heap hp5.out
        refine bodyPost_ret (v := .tuple #[.agg #[.int .i64 0, .int .i64 0, .int .i64 0, .int .i64 0, .int .i64 0, .string ⟨#[]⟩, .int .i64 0, .bool false], .int .i64 6]) ?ret rfl ?post
        case ret => rw [res_two rfl]; go_simp
        case post => exact ⟨by rw [hR.out]; rfl, hb5⟩
      · have g1 : ¬ ((tb.size : Int) > 12) := by rw [← list_len, htd]; omega
        replace hR := Lib.hid hR
        have hf6' : fb.size ≤ 6 := by rw [← list_len, hfd]; exact hf6
        obtain ⟨zk, hzk⟩ : ∃ zk : Nat, zk = 6 - fb.size := ⟨_, rfl⟩
        have g2 : (6 : Int) - (fb.size : Int) = (zk : Int) := by omega
        obtain ⟨Z, hZ⟩ : ∃ Z : ByteArray, Z = ⟨(List.replicate zk 48).toArray⟩ := ⟨_, rfl⟩
        have hZs : Z.size = zk := by rw [← list_len, hZ]; simp
        have hze : Hid (∀ w, Calls Tryz.prog 46 #[.string ⟨#[48]⟩, .int .i64 (zk : Int)] w fun e w' => e = .returned (.string Z) ∧ Below w.heap.size w w') := Lib.hid (fun w => by rw [hZ]; exact zeros_t zk w (by omega))
        obtain ⟨D1, hD1⟩ : ∃ b : ByteArray, b = wb ++ fb := ⟨_, rfl⟩
        obtain ⟨D2, hD2⟩ : ∃ b : ByteArray, b = D1 ++ Z := ⟨_, rfl⟩
        have hD1s : D1.size = wb.size + fb.size := by rw [hD1, ByteArray.size_append]
        have hD2s : D2.size = D1.size + Z.size := by rw [hD2, ByteArray.size_append]
        have hD2l : D2.data.toList = before 46 X ++ behind 46 X ++ List.replicate (6 - (behind 46 X).length) 48 := by
          rw [hD2, ByteArray.data_append, hD1, ByteArray.data_append, Array.toList_append, Array.toList_append, hwd, hfd, hZ, hzk, ← list_len fb, hfd]
        have hato : Hid (∀ w, Calls Tryz.prog 62 #[.string D2] w fun e w' => e = .returned (.tuple #[.int .i64 v, .nilIface]) ∧ Below w.heap.size w w') := Lib.hid (fun w => atoi_t D2 v (by rw [hD2l]; exact hat) (by omega) w)
        have e1 : (9223372036854775807 < wb.size + fb.size) = False := eq_false (by omega)
        have e2 : (9223372036854775807 < D1.size + Z.size) = False := eq_false (by omega)
        have q1 : wb ++ fb = D1 := hD1.symm
        have q2 : D1 ++ Z = D2 := hD2.symm
        have htb := total_bounds hv
        obtain ⟨T, hT⟩ : ∃ T, T = totalP ⟨y, mo, d, h, mi, s.data.toList, z, has⟩ := ⟨_, rfl⟩
        rw [← hT] at htb hR
        have k1 : -epoch ≤ T := htb.1
        have k2 : T < 315537897600000000 - epoch := htb.2
        unfold epoch at k1 k2
        have v1 : -1000000000000000000 < v := by omega
        have v2 : v < 1000000000000000000 := by omega
        have hto : Hid (∀ w, LaidT w → Calls Tryz.prog 50 #[.agg #[.int .i64 y, .int .i64 mo, .int .i64 d, .int .i64 h, .int .i64 mi, .string s, .int .i64 z, .bool has]] w fun e w' => e = .returned (.int .i64 T) ∧ Below w.heap.size w w') := Lib.hid (fun w hw => by
          obtain ⟨y', mo', d', h', mi', t, rfl, rfl, rfl, rfl, rfl, hsd, hp, hzz⟩ := val_cases hv
          have := total_t y' mo' d' h' mi' t s z has w hp hsd hw hs
          rw [← total_mk (y := y') (mo := mo') (d := d') (h := h') (mi := mi') hp.n2 z has] at this
          unfold mkM at this
          rw [← hsd, ← hT] at this
          exact this)
        obtain ⟨⟨ry, rmo, rd, rh, rmi, rs, rz, rhas⟩, rk⟩ := R
        have hat : Hid (∀ w, LaidT w → Calls Tryz.prog 57 #[.agg #[.int .i64 y, .int .i64 mo, .int .i64 d, .int .i64 h, .int .i64 mi, .string s, .int .i64 z, .bool has], .int .i64 (T + v)] w fun e w' => e = .returned (.tuple #[.agg #[.int .i64 ry, .int .i64 rmo, .int .i64 rd, .int .i64 rh, .int .i64 rmi, .string ⟨rs.toArray⟩, .int .i64 rz, .bool rhas], .int .i64 rk]) ∧ Below w.heap.size w w') := Lib.hid (fun w hw => by
          have := at_t y mo d h mi s z has (T + v) w hw (by omega) (by omega)
          rw [← hR.out] at this
          exact this)
        have w2 : IntKind.i64.wrap (T + v) = T + v := IntWalk.i64_in _ (by omega)
        have k3 : -100000000000000000 ≤ T := by omega
        have k4 : T ≤ 400000000000000000 := by omega
        clear hwd hfd htd hXd hXl hv hs hfb hshort hf6 hD2l hZ hzk hT htb k1 k2 hD1 hD2 hv18
        go_enter Tryz.func28, Tryz.ntmps28
        go_upto_region 1 with fail
        rw [← hW1, ← hq]
        clear hW1 hq
        obtain ⟨c0, c1, c2, c3, c4, c5, c6, c7⟩ := hT0.out.mom
        go_wp2_with fail
        refine hva.mono ?_
        rintro e w3 ⟨rfl, hb3⟩
        clear hva c0 c1 c2 c3 c4 c5 c6 c7
        have hT3 := hT0.out.later hb3
        have hL3 := Lib.hid (hL.out.below hT3.hb hL.out.size)
        clear hb3
        go_wp2_with fail
        refine (hpa.out _ hL3.out).mono ?_
        rintro e w4 ⟨rfl, hb4⟩
        have hT4 := hT3.later hb4
        have hL4 := Lib.hid (hL.out.below hT4.hb hL.out.size)
        clear hb4 hT3
        go_wp2_with fail
        refine (hrn.out _ hL4.out).mono ?_
        rintro e w5 ⟨rfl, hb5⟩
        have hT5 := hT4.later hb5
        have hL5 := Lib.hid (hL.out.below hT5.hb hL.out.size)
        clear hb5 hT4
        go_wp2_with fail
        refine (hcu.out _ hL5.out).mono ?_
        rintro e w6 ⟨rfl, hb6⟩
        have hT6 := hT5.later hb6
        have hL6 := Lib.hid (hL.out.below hT6.hb hL.out.size)
        clear hb6 hT5
        go_wp2_with fail
        refine (htr.out _).mono ?_
        rintro e w7 ⟨rfl, rfl⟩
        go_wp2_with fail
        refine (hze.out _).mono ?_
        rintro e w8 ⟨rfl, hb8⟩
        have hT8 := hT6.later hb8
        clear hb8 hT6
        go_wp2_with fail
        refine (hato.out _).mono ?_
        rintro e w9 ⟨rfl, hb9⟩
        have hT9 := Lib.hid (hT8.later hb9)
        clear hb9 hT8
        go_upto_region 13 with fail
        go_cut [5] from 61 to 68 (fun v wx => v = .int .i64 rk ∧ Hid (ResAt W (q + 1) wx ry rmo rd rh rmi ⟨rs.toArray⟩ rz rhas))
        case first =>
          obtain ⟨c0, c1, c2, c3, c4, c5, c6, c7⟩ := hT9.out.mom
          go_region_with (first
            | (go_at_call 50; refine (hto.out _ (hL.out.below hT9.out.hb.drew hL.out.size)).mono ?_; rintro e w7 ⟨rfl, hbb⟩; have hT7 := (hT9.out.later (Below.refl _ _).drew).later hbb; clear hbb; obtain ⟨e0, e1, e2, e3, e4, e5, e6, e7⟩ := hT7.mom)
            | (go_at_call 57; refine (hat.out _ (hL.out.below hT7.hb hL.out.size)).mono ?_; rintro e w8 ⟨rfl, hbb⟩; have hT8 := hT7.later hbb; clear hbb; obtain ⟨d0, d1, d2, d3, d4, d5, d6, d7⟩ := hT8.res; obtain ⟨f0, f1, f2, f3, f4, f5, f6, f7⟩ := froz8 hT8.hp
               obtain ⟨W5, hW5, hp5, hb5⟩ := put_res hT8 hq'.out (.int .i64 ry) (.int .i64 rmo) (.int .i64 rd) (.int .i64 rh) (.int .i64 rmi) (.string ⟨rs.toArray⟩) (.int .i64 rz) (.bool rhas)
               replace hW5 := Lib.hid hW5; replace hp5 := Lib.hid hp5))
          all_goals (go_wp2_with fail; rw [← hW5.out]; go_meet; exact ⟨rfl, Lib.hid ⟨hp5.out, hb5⟩⟩)
        obtain ⟨rfl, hres⟩ := hcut
        obtain ⟨c0, c1, c2, c3, c4, c5, c6, c7⟩ := MomAt.of_heap hres.out.hp
        go_wp2_with fail
        refine bodyPost_ret (v := .tuple #[.agg #[.int .i64 ry, .int .i64 rmo, .int .i64 rd, .int .i64 rh, .int .i64 rmi, .string ⟨rs.toArray⟩, .int .i64 rz, .bool rhas], .int .i64 rk]) ?ret rfl ?post
        case ret => rw [res_two rfl]; go_simp
        case post => exact ⟨rfl, hres.out.hb⟩
  · rw [Bool.not_eq_true] at hv
    rw [hv] at hva
    have hR : Hid (addSecondsP ⟨y, mo, d, h, mi, s.data.toList, z, has⟩ n.data.toList = (mom0, 1)) := Lib.hid (addSeconds_bad hv)
    clear hs hv
    go_enter Tryz.func28, Tryz.ntmps28
    go_upto_region 1 with fail
    rw [← hW1, ← hq]
    clear hW1 hq
    obtain ⟨c0, c1, c2, c3, c4, c5, c6, c7⟩ := hT0.out.mom
    go_wp2_with fail
    refine hva.mono ?_
    rintro e w3 ⟨rfl, hb3⟩
    clear hva c0 c1 c2 c3 c4 c5 c6 c7
    have hT3 := hT0.out.later hb3
    obtain ⟨d0, d1, d2, d3, d4, d5, d6, d7⟩ := hT3.res
    obtain ⟨f0, f1, f2, f3, f4, f5, f6, f7⟩ := froz8 hT3.hp
    obtain ⟨W5, hW5, hp5, hb5⟩ := put_res hT3 hq'.out (.int .i64 0) (.int .i64 0) (.int .i64 0) (.int .i64 0) (.int .i64 0) (.string ⟨#[]⟩) (.int .i64 0) (.bool false)
    replace hW5 := Lib.hid hW5
    replace hp5 := Lib.hid hp5
    clear hb3 hT3
    go_wp2_with fail
    rw [← hW5.out]
    clear hW5 d0 d1 d2 d3 d4 d5 d6 d7 f0 f1 f2 f3 f4 f5 f6 f7
    obtain ⟨c0, c1, c2, c3, c4, c5, c6, c7⟩ := MomAt.of_heap hp5.out
    refine bodyPost_ret (v := .tuple #[.agg #[.int .i64 0, .int .i64 0, .int .i64 0, .int .i64 0, .int .i64 0, .string ⟨#[]⟩, .int .i64 0, .bool false], .int .i64 1]) ?ret rfl ?post
    case ret => rw [res_two rfl]; go_simp
    case post => exact ⟨by rw [hR.out]; rfl, hb5⟩
end Go.Proofs.YtgobpoeccdgeiaaGreatDoor
