/- Package chiselref07: zone, calendar. (Printed by genzone7.py.) -/
import Derived.Test.YtgobpoeccdgeiaaGreatDoorR7r
import Derived.Test.YtgobpoeccdgeiaaGreatDoorR7k
namespace Go.Proofs.YtgobpoeccdgeiaaGreatDoor
open Go.RowKit NumP DigP DurP TimeP Go.Proofs.YtgobpoeccdgeiaaGreatDoorW.PrintWords
set_option linter.unusedVariables false

theorem drew_add {W w w' : World} (h : ∃ m, w = W.drewN m) (h2 : ∃ m, w' = w.drewN m) : ∃ m, w' = W.drewN m := by
  obtain ⟨a, rfl⟩ := h
  obtain ⟨b, rfl⟩ := h2
  exact ⟨a + b, World.drewN_drewN _ _ _⟩
theorem drew_below {W w : World} (h : ∃ m, w = W.drewN m) : Below W.heap.size W w := by
  obtain ⟨a, rfl⟩ := h
  exact below_drewN (Below.refl _ _) a
/-- The value of digits. -/
def dval (X : ByteArray) : Int := (valD X.data.toList : Nat)
def DOk (X : ByteArray) : Prop := X.size ≤ 17 ∧ ∀ c ∈ X.data.toList, isDig c = true
theorem digits7_q (X : ByteArray) (w : World) (h : Hid (DOk X)) : Calls Tryz.prog 83 #[.string X] w fun e w' => e = .returned (.int .i64 (dval X)) ∧ w' = w := (digits7_r X w h.out.1 h.out.2).mono fun e w' ⟨a, b⟩ => ⟨a, b.symm⟩
theorem digits7_p (X : ByteArray) (w : World) (h : Hid (DOk X)) : Calls Tryz.prog 83 #[.string X] w fun e w' => e = .returned (.int .i64 (dval X)) ∧ w = w' := digits7_r X w h.out.1 h.out.2
theorem results_tmp4 {fn : Func} {t u v x : Tmp} (h : fn.results = #[.tmp t, .tmp u, .tmp v, .tmp x]) (tmps : Array Value) (P : Program) (w : World) :
    (results fn tmps).run P w = .ok (.tuple #[tmps.getD t undef, tmps.getD u undef, tmps.getD v undef, tmps.getD x undef]) w := by
  simp [results, h]
theorem last_at {s : ByteArray} {m : Nat} (h : s.size = m + 1) : s.data.toList.getLast? = some s[m] := by
  rw [List.getLast?_eq_getElem?, list_len, show s.size - 1 = m by omega]
  exact data_at s m (by omega)
theorem zone_none {l : List UInt8} (h1 : l.getLast? ≠ some 90) (h2 : ¬ (6 ≤ l.length ∧ fitsL (l.drop (l.length - 6)) zForm = true ∧ fitsL l dForm = false)) : zone7 l = (l, 0, false, true) := by
  unfold zone7
  rw [if_neg h1, if_neg h2]
theorem valD_two {l : List UInt8} (h : ∀ c ∈ l, isDig c = true) (hl : l.length = 2) : valD l < 100 := by
  have := valD_lt l h
  rw [hl] at this
  exact this
set_option maxRecDepth 100000 in
set_option maxHeartbeats 2000000 in
theorem zone7_r (s : ByteArray) (W : World) (hs : s.size ≤ 1000) : Calls Tryz.prog 39 #[.string s] W fun e w' => e = .returned (.tuple #[.string ⟨(zone7 s.data.toList).1.toArray⟩, .int .i64 (zone7 s.data.toList).2.1, .bool (zone7 s.data.toList).2.2.1, .bool (zone7 s.data.toList).2.2.2]) ∧ ∃ m, w' = W.drewN m := by
  obtain ⟨Z, hZ⟩ : ∃ Z, Z = zone7 s.data.toList := ⟨_, rfl⟩
  rw [← hZ]
  by_cases h0 : s.size = 0
  · have hR : Hid (Z = (s.data.toList, 0, false, true)) := Lib.hid (by
      have hlen := list_len s
      rw [hZ]
      refine zone_none ?_ (fun h => by omega)
      have hl0 : s.data.toList = [] := List.length_eq_zero_iff.1 (by omega)
      rw [hl0]
      simp)
    have g1 : ¬ ((s.size : Int) ≥ 1) := by omega
    have g2 : ¬ ((s.size : Int) ≥ 6) := by omega
    clear hZ
    replace h0 := Lib.hid h0
    go_enter Tryz.func39, Tryz.ntmps39
    go_wp2_with fail
    (try simp only [Exit.inBlock, Exit.then])
    refine bodyPost_ret (results_tmp4 rfl _ _ _) rfl ?_
    exact ⟨by rw [hR.out] <;> rfl, 0, rfl⟩
  obtain ⟨m, hm⟩ : ∃ m, s.size = m + 1 := ⟨s.size - 1, by omega⟩
  have hml : m < s.size := by omega
  have hlast : s.data.toList.getLast? = some (s[m]'hml) := last_at hm
  have g1 : ((s.size : Int) ≥ 1) := by omega
  have gm : (s.size : Int) - 1 = (m : Int) := by omega
  have gm2 : (m : Int) < (s.size : Int) := by omega
  have b90 : (((s[m]'hml).toNat : Int) == 90) = ((s[m]'hml) == 90) := byte_ne (s[m]'hml) 90 (by decide)
  by_cases h90 : (s[m]'hml) = 90
  · have hR : Hid (Z = (s.data.toList.take m, 0, true, true)) := Lib.hid (by
      have hlen := list_len s
      rw [hZ]
      unfold zone7
      rw [if_pos (by rw [hlast, h90]), hlen, show s.size - 1 = m by omega])
    rw [beq_iff_eq.2 h90] at b90
    have e1 := take_mk s m
    have hE : Hid (s.extract 0 m = ⟨(s.data.toList.take m).toArray⟩) := Lib.hid e1.symm
    have gm3 : (m : Int) ≤ (s.size : Int) := by omega
    clear e1 hZ hlast
    replace hm := Lib.hid hm
    replace h90 := Lib.hid h90
    go_enter Tryz.func39, Tryz.ntmps39
    go_wp2_with fail
    (try simp only [Exit.inBlock, Exit.then])
    refine bodyPost_ret (results_tmp4 rfl _ _ _) rfl ?_
    exact ⟨by rw [hR.out, hE.out]; rfl, 0, rfl⟩
  rw [beq_eq_false_iff_ne.2 h90] at b90
  have hl90 : s.data.toList.getLast? ≠ some 90 := by rw [hlast]; intro e; exact h90 (Option.some.inj e)
  replace h90 := Lib.hid h90
  clear hlast
  by_cases h6 : s.size < 6
  · have hR : Hid (Z = (s.data.toList, 0, false, true)) := Lib.hid (by
      have hlen := list_len s
      rw [hZ]
      exact zone_none hl90 (fun h => by omega))
    have g2 : ¬ ((s.size : Int) ≥ 6) := by omega
    clear hZ hl90
    replace hm := Lib.hid hm
    go_enter Tryz.func39, Tryz.ntmps39
    go_wp2_with fail
    (try simp only [Exit.inBlock, Exit.then])
    refine bodyPost_ret (results_tmp4 rfl _ _ _) rfl ?_
    exact ⟨by rw [hR.out] <;> rfl, 0, rfl⟩
  obtain ⟨k, hk⟩ : ∃ k, s.size = k + 6 := ⟨s.size - 6, by omega⟩
  have g2 : ((s.size : Int) ≥ 6) := by omega
  have gk6 : (s.size : Int) - 6 = (k : Int) := by omega
  have gk : (k : Int) ≤ (s.size : Int) := by omega
  have gk2 : (k : Int) < (s.size : Int) := by omega
  have hkl : k < s.size := by omega
  have hdr : s.data.toList.drop (s.data.toList.length - 6) = (s.extract k s.size).data.toList := by rw [ext_drop, list_len, show s.size - 6 = k by omega]
  obtain ⟨fz, hfz⟩ : ∃ b, b = fitsL (s.extract k s.size).data.toList zForm := ⟨_, rfl⟩
  obtain ⟨fd, hfd⟩ : ∃ b, b = fitsL s.data.toList dForm := ⟨_, rfl⟩
  have kz : Hid (∀ w, Calls Tryz.prog 82 #[.string (s.extract k s.size), .string ⟨#[83, 68, 68, 58, 68, 68]⟩] w fun e w' => e = .returned (.bool fz) ∧ ∃ m, w' = w.drewN m) := Lib.hid (fun w => by
    have := fits7_r (s.extract k s.size) ⟨#[83, 68, 68, 58, 68, 68]⟩ w (by rw [← list_len, ext_drop, List.length_drop, list_len]; omega)
    rw [show (⟨#[83, 68, 68, 58, 68, 68]⟩ : ByteArray).data.toList = zForm from rfl, ← hfz] at this
    exact this)
  have kd : Hid (∀ w, Calls Tryz.prog 82 #[.string s, .string ⟨#[68, 68, 68, 68, 45, 68, 68, 45, 68, 68]⟩] w fun e w' => e = .returned (.bool fd) ∧ ∃ m, w' = w.drewN m) := Lib.hid (fun w => by
    have := fits7_r s ⟨#[68, 68, 68, 68, 45, 68, 68, 45, 68, 68]⟩ w hs
    rw [show (⟨#[68, 68, 68, 68, 45, 68, 68, 45, 68, 68]⟩ : ByteArray).data.toList = dForm from rfl, ← hfd] at this
    exact this)
  cases fz with
  | false =>
    have hR : Hid (Z = (s.data.toList, 0, false, true)) := Lib.hid (by
      have hlen := list_len s
      rw [hZ]
      refine zone_none hl90 (fun h => ?_)
      have h2 := h.2.1
      rw [hdr, ← hfz] at h2
      cases h2)
    clear hZ hl90 hdr hfz hfd kd
    replace hm := Lib.hid hm
    replace hk := Lib.hid hk
    go_enter Tryz.func39, Tryz.ntmps39
    go_wp2_with fail
    refine (kz.out _).mono ?_
    rintro e wkz ⟨rfl, hd⟩
    go_wp2_with fail
    (try simp only [Exit.inBlock, Exit.then])
    refine bodyPost_ret (results_tmp4 rfl _ _ _) rfl ?_
    exact ⟨by rw [hR.out] <;> rfl, hd⟩
  | true =>
    cases fd with
    | true =>
      have hR : Hid (Z = (s.data.toList, 0, false, true)) := Lib.hid (by
        have hlen := list_len s
        rw [hZ]
        refine zone_none hl90 (fun h => ?_)
        have h2 := h.2.2
        rw [← hfd] at h2
        cases h2)
      clear hZ hl90 hdr hfz hfd
      replace hm := Lib.hid hm
      replace hk := Lib.hid hk
      go_enter Tryz.func39, Tryz.ntmps39
      go_wp2_with fail
      refine (kz.out _).mono ?_
      rintro e wkz ⟨rfl, hd⟩
      have hd1 := Lib.hid hd
      clear hd
      go_wp2_with fail
      refine (kd.out _).mono ?_
      rintro e wkd ⟨rfl, hd⟩
      go_wp2_with fail
      (try simp only [Exit.inBlock, Exit.then])
      refine bodyPost_ret (results_tmp4 rfl _ _ _) rfl ?_
      exact ⟨by rw [hR.out] <;> rfl, drew_add hd1.out hd⟩
    | false =>
      obtain ⟨sg, a, b, hsg, ha, hb, he⟩ := fits_zone.1 hfz.symm
      obtain ⟨a1, a2, rfl⟩ := two_list ha.2
      obtain ⟨b1, b2, rfl⟩ := two_list hb.2
      have hd0 : s.data.toList.drop k = sg :: ([a1, a2] ++ 58 :: [b1, b2]) := by rw [← he, ext_drop]
      have eA : (s.extract (k + 1) (k + 3)).data.toList = [a1, a2] := by
        rw [ext_data, ← List.drop_drop, hd0, show k + 3 - (k + 1) = 2 by omega]; rfl
      have eB : (s.extract (k + 4) s.size).data.toList = [b1, b2] := by
        rw [ext_drop, ← List.drop_drop, hd0]; rfl
      have hsk : (s[k]'hkl) = sg := by
        have h1 := data_at s k hkl
        have h2 := congrArg (fun l => l[0]?) hd0
        simp only [List.getElem?_drop, Nat.add_zero] at h2
        rw [h1] at h2
        exact Option.some.inj h2
      obtain ⟨A, hA⟩ : ∃ A, A = valD [a1, a2] := ⟨_, rfl⟩
      obtain ⟨B, hB⟩ : ∃ A, A = valD [b1, b2] := ⟨_, rfl⟩
      have hAb : A < 100 := by rw [hA]; exact valD_two ha.1 rfl
      have hBb : B < 100 := by rw [hB]; exact valD_two hb.1 rfl
      obtain ⟨T, hT⟩ : ∃ T : Nat, T = 60 * A + B := ⟨_, rfl⟩
      have hR0 : Z = (s.data.toList.take k, (if (s[k]'hkl) = 45 then -(T : Int) else (T : Int)), true, decide (A ≤ 14) && decide (B ≤ 59) && decide (T ≤ 840)) := by
        have hlen := list_len s
        rw [hZ]
        unfold zone7
        rw [if_neg hl90, if_pos ⟨by omega, by rw [hdr]; exact hfz.symm, hfd.symm⟩]
        simp only
        rw [hlen, show s.size - 6 = k by omega, show s.size - 5 = k + 1 by omega, show s.size - 2 = k + 4 by omega, ← List.drop_drop, ← List.drop_drop, hd0, data_at s k hkl]
        have x1 : ((sg :: ([a1, a2] ++ 58 :: [b1, b2])).drop 1).take 2 = [a1, a2] := rfl
        have x2 : (sg :: ([a1, a2] ++ 58 :: [b1, b2])).drop 4 = [b1, b2] := rfl
        rw [x1, x2, ← hA, ← hB, ← hT]
        congr 2
        by_cases h45 : (s[k]'hkl) = 45
        · rw [if_pos (by rw [h45]), if_pos h45]
        · rw [if_neg (fun e => h45 (Option.some.inj e)), if_neg h45]
      have k1 : Hid (DOk (s.extract (k + 1) (k + 3))) := Lib.hid ⟨by rw [← list_len, eA]; show 2 ≤ 17; decide, by rw [eA]; exact ha.1⟩
      have k2 : Hid (DOk (s.extract (k + 4) s.size)) := Lib.hid ⟨by rw [← list_len, eB]; show 2 ≤ 17; decide, by rw [eB]; exact hb.1⟩
      have v1 : dval (s.extract (k + 1) (k + 3)) = (A : Int) := by unfold dval; rw [eA, ← hA]
      have v2 : dval (s.extract (k + 4) s.size) = (B : Int) := by unfold dval; rw [eB, ← hB]
      obtain ⟨j1, hj1⟩ : ∃ j, j = k + 1 := ⟨_, rfl⟩
      obtain ⟨j3, hj3⟩ : ∃ j, j = k + 3 := ⟨_, rfl⟩
      obtain ⟨j4, hj4⟩ : ∃ j, j = k + 4 := ⟨_, rfl⟩
      have gj1 : (s.size : Int) - 5 = (j1 : Int) := by omega
      have gj3 : (s.size : Int) - 3 = (j3 : Int) := by omega
      have gj4 : (s.size : Int) - 2 = (j4 : Int) := by omega
      have gj13 : (j1 : Int) ≤ (j3 : Int) := by omega
      have gj3s : (j3 : Int) ≤ (s.size : Int) := by omega
      have gj4s : (j4 : Int) ≤ (s.size : Int) := by omega
      rw [← hj1, ← hj3] at k1 v1
      rw [← hj4] at k2 v2
      obtain ⟨ib, hib⟩ : ∃ b, b = (decide (A ≤ 14) && decide (B ≤ 59) && decide (T ≤ 840)) := ⟨_, rfl⟩
      rw [← hib] at hR0
      have gT : 60 * (A : Int) + (B : Int) = (T : Int) := by omega
      have gTb : T < 6100 := by omega
      obtain ⟨D, hD⟩ : ∃ X : Int, X = (if (s[k]'hkl) = 45 then -(T : Int) else (T : Int)) := ⟨_, rfl⟩
      rw [← hD] at hR0
      have hR := Lib.hid hR0
      have b45 : (((s[k]'hkl).toNat : Int) == 45) = ((s[k]'hkl) == 45) := byte_ne (s[k]'hkl) 45 (by decide)
      have e1 := take_mk s k
      have hE : Hid (s.extract 0 k = ⟨(s.data.toList.take k).toArray⟩) := Lib.hid e1.symm
      replace hT := Lib.hid hT
      clear hR0 hZ hl90 hdr hfz hfd he ha hb hsg hd0 eA eB hsk hA hB hj1 hj3 hj4 e1
      replace hm := Lib.hid hm
      replace hk := Lib.hid hk
      go_enter Tryz.func39, Tryz.ntmps39
      go_wp2_with fail
      refine (kz.out _).mono ?_
      rintro e wkz ⟨rfl, hd⟩
      have hd1 := Lib.hid hd
      clear hd
      go_wp2_with fail
      refine (kd.out _).mono ?_
      rintro e wkd ⟨rfl, hd⟩
      have hd2 := Lib.hid (drew_add hd1.out hd)
      clear hd hd1
      go_wp2_with fail
      go_quiet ((go_at_call 83; exact Calls.quiet_of_same (digits7_q _ _ (by assumption))))
      rw [v1, v2]
      clear v1 v2 k1 k2
      have hd3 : Hid (∃ m, wkd.drewN nq = W.drewN m) := Lib.hid (drew_add hd2.out ⟨nq, rfl⟩)
      go_upto_region 7 with fail
      go_cut [5] from 54 to 63 (fun v wx => v = .bool ib ∧ ∃ m, wx = W.drewN m)
      case first =>
        by_cases q1 : A ≤ 14
        · have r1 : ((A : Int) ≤ 14) := by omega
          by_cases q2 : B ≤ 59
          · have r2 : ((B : Int) ≤ 59) := by omega
            by_cases q3 : T ≤ 840
            · have r3 : ((T : Int) ≤ 840) := by omega
              rw [decide_eq_true q1, decide_eq_true q2, decide_eq_true q3] at hib
              replace hib : ib = true := hib
              subst hib
              go_wp2_with fail
              go_meet
              exact ⟨rfl, hd3.out⟩
            · have r3 : ¬ ((T : Int) ≤ 840) := by omega
              rw [decide_eq_true q1, decide_eq_true q2, decide_eq_false q3] at hib
              replace hib : ib = false := hib
              subst hib
              go_wp2_with fail
              go_meet
              exact ⟨rfl, hd3.out⟩
          · have r2 : ¬ ((B : Int) ≤ 59) := by omega
            rw [decide_eq_true q1, decide_eq_false q2] at hib
            replace hib : ib = false := by rw [hib]; rfl
            subst hib
            go_wp2_with fail
            go_meet
            exact ⟨rfl, hd3.out⟩
        · have r1 : ¬ ((A : Int) ≤ 14) := by omega
          rw [decide_eq_false q1] at hib
          replace hib : ib = false := by rw [hib]; rfl
          subst hib
          go_wp2_with fail
          go_meet
          exact ⟨rfl, hd3.out⟩
      case rest =>
      obtain ⟨rfl, hd⟩ := hcut
      clear hib hd3 hd2
      have hd2 := Lib.hid hd
      clear hd
      by_cases h45 : (s[k]'hkl) = 45
      · rw [if_pos h45] at hD
        rw [beq_iff_eq.2 h45] at b45
        subst hD
        replace h45 := Lib.hid h45
        go_wp2_with fail
        (try simp only [Exit.inBlock, Exit.then])
        refine bodyPost_ret (results_tmp4 rfl _ _ _) rfl ?_
        exact ⟨by rw [hR.out, hE.out]; rfl, hd2.out⟩
      · rw [if_neg h45] at hD
        rw [beq_eq_false_iff_ne.2 h45] at b45
        subst hD
        replace h45 := Lib.hid h45
        go_wp2_with fail
        (try simp only [Exit.inBlock, Exit.then])
        refine bodyPost_ret (results_tmp4 rfl _ _ _) rfl ?_
        exact ⟨by rw [hR.out, hE.out]; rfl, hd2.out⟩
set_option maxRecDepth 100000 in
set_option maxHeartbeats 8000000 in
theorem cal7_r (s : ByteArray) (y mo d h mi : Int) (z0 : ByteArray) (z : Int) (has : Bool) (W : World) (hs : s.size ≤ 1000) : Calls Tryz.prog 84 #[.string s, .agg #[.int .i64 y, .int .i64 mo, .int .i64 d, .int .i64 h, .int .i64 mi, .string z0, .int .i64 z, .bool has]] W fun e w' => e = .returned (.tuple #[momV (cal7 s.data.toList ⟨y, mo, d, h, mi, z0.data.toList, z, has⟩).1, .bool (cal7 s.data.toList ⟨y, mo, d, h, mi, z0.data.toList, z, has⟩).2]) ∧ Below W.heap.size W w' := by
  have hT0 := TwoC.init W y mo d h mi z0 z has
  obtain ⟨W1, hW1⟩ : ∃ w, w = twoC W y mo d h mi z0 z has := ⟨_, rfl⟩
  obtain ⟨q, hq⟩ : ∃ q, q = W.heap.size := ⟨_, rfl⟩
  rw [← hW1, ← hq] at hT0
  unfold twoC at hW1
  have t0 := Lib.hid hT0
  clear hT0
  have hq' := Lib.hid hq
  obtain ⟨R, hR0⟩ : ∃ R, R = cal7 s.data.toList ⟨y, mo, d, h, mi, z0.data.toList, z, has⟩ := ⟨_, rfl⟩
  rw [← hR0]
  obtain ⟨fd, hfd⟩ : ∃ b, b = fitsL s.data.toList dForm := ⟨_, rfl⟩
  have kd : Hid (∀ w, Calls Tryz.prog 82 #[.string s, .string ⟨#[68, 68, 68, 68, 45, 68, 68, 45, 68, 68]⟩] w fun e w' => e = .returned (.bool fd) ∧ ∃ m, w' = w.drewN m) := Lib.hid (fun w => by
    have := fits7_r s ⟨#[68, 68, 68, 68, 45, 68, 68, 45, 68, 68]⟩ w hs
    rw [show (⟨#[68, 68, 68, 68, 45, 68, 68, 45, 68, 68]⟩ : ByteArray).data.toList = dForm from rfl, ← hfd] at this
    exact this)
  cases fd with
  | false =>
    have hR : Hid (R = (⟨y, mo, d, h, mi, z0.data.toList, z, has⟩, false)) := Lib.hid (by rw [hR0]; unfold cal7; rw [if_neg (by rw [← hfd]; decide)])
    clear hR0 hfd
    go_enter Tryz.func84, Tryz.ntmps84
    go_upto_region 1 with fail
    rw [← hW1, ← hq]
    clear hW1 hq
    go_wp2_with fail
    refine (kd.out _).mono ?_
    rintro e w1 ⟨rfl, hd⟩
    have t1 := Lib.hid (t0.out.later (drew_below hd))
    clear hd t0
    obtain ⟨c0, c1, c2, c3, c4, c5, c6, c7⟩ := t1.out.mom
    obtain ⟨d0, d1, d2, d3, d4, d5, d6, d7⟩ := t1.out.res
    obtain ⟨f0, f1, f2, f3, f4, f5, f6, f7⟩ := froz8 t1.out.hp
    obtain ⟨W5, hW5, hp5, hb5⟩ := put_resC t1.out hq'.out (.int .i64 y) (.int .i64 mo) (.int .i64 d) (.int .i64 h) (.int .i64 mi) (.string z0) (.int .i64 z) (.bool has)
    replace hW5 := Lib.hid hW5
    replace hp5 := Lib.hid hp5
    go_wp2_with fail
    rw [← hW5.out]
    clear hW5 d0 d1 d2 d3 d4 d5 d6 d7 f0 f1 f2 f3 f4 f5 f6 f7 c0 c1 c2 c3 c4 c5 c6 c7
    obtain ⟨c0, c1, c2, c3, c4, c5, c6, c7⟩ := MomAt.of_heap hp5.out
    refine bodyPost_ret (v := .tuple #[.agg #[.int .i64 y, .int .i64 mo, .int .i64 d, .int .i64 h, .int .i64 mi, .string z0, .int .i64 z, .bool has], .bool false]) ?ret rfl ?post
    case ret => rw [res_two rfl]; go_simp
    case post => exact ⟨by rw [hR.out] <;> rfl, hb5⟩
  | true =>
    obtain ⟨a, b, c, ha, hb, hc, e⟩ := fits_date.1 hfd.symm
    have hsz : s.size = 10 := by
      rw [← list_len, e, List.length_append, List.length_cons, List.length_append, List.length_cons, ha.2, hb.2, hc.2]
    have eA : (s.extract 0 4).data.toList = a := by rw [ext_take, e]; exact List.take_left' ha.2
    have e5 : s.data.toList.drop 5 = b ++ 45 :: c := by rw [e]; exact drop_sep ha.2 45 _
    have eB : (s.extract 5 7).data.toList = b := by rw [ext_data, e5]; exact List.take_left' hb.2
    have eC : (s.extract 8 s.size).data.toList = c := by
      rw [ext_drop, show (8 : Nat) = 5 + 3 from rfl, ← List.drop_drop, e5]
      exact drop_sep hb.2 45 _
    have k1 : Hid (DOk (s.extract 0 4)) := Lib.hid ⟨by rw [← list_len, eA, ha.2]; decide, by rw [eA]; exact ha.1⟩
    have k2 : Hid (DOk (s.extract 5 7)) := Lib.hid ⟨by rw [← list_len, eB, hb.2]; decide, by rw [eB]; exact hb.1⟩
    have k3 : Hid (DOk (s.extract 8 s.size)) := Lib.hid ⟨by rw [← list_len, eC, hc.2]; decide, by rw [eC]; exact hc.1⟩
    obtain ⟨Y, hY⟩ : ∃ Y : Int, Y = (valD a : Nat) := ⟨_, rfl⟩
    obtain ⟨Mo, hMo⟩ : ∃ Y : Int, Y = (valD b : Nat) := ⟨_, rfl⟩
    obtain ⟨Da, hDa⟩ : ∃ Y : Int, Y = (valD c : Nat) := ⟨_, rfl⟩
    have v1 : dval (s.extract 0 4) = Y := by unfold dval; rw [eA, hY]
    have v2 : dval (s.extract 5 7) = Mo := by unfold dval; rw [eB, hMo]
    have v3 : dval (s.extract 8 s.size) = Da := by unfold dval; rw [eC, hDa]
    have hR : Hid (R = (⟨Y, Mo, Da, h, mi, z0.data.toList, z, has⟩, true)) := Lib.hid (by rw [hR0, e, cal7_app ha hb hc, hY, hMo, hDa])
    have g1 : (4 : Int) ≤ (s.size : Int) := by omega
    have g2 : (7 : Int) ≤ (s.size : Int) := by omega
    have g3 : (8 : Int) ≤ (s.size : Int) := by omega
    have g1' : 4 ≤ s.size := by omega
    have g2' : 7 ≤ s.size := by omega
    have g3' : 8 ≤ s.size := by omega
    replace v1 := Lib.hid v1
    replace v2 := Lib.hid v2
    replace v3 := Lib.hid v3
    clear hR0 hfd e e5 eA eB eC hY hMo hDa ha hb hc hsz
    go_enter Tryz.func84, Tryz.ntmps84
    go_upto_region 1 with fail
    rw [← hW1, ← hq]
    clear hW1 hq
    go_wp2_with fail
    refine (kd.out _).mono ?_
    rintro e w1 ⟨rfl, hd⟩
    have t1 := Lib.hid (t0.out.later (drew_below hd))
    clear hd t0
    go_wp2_with fail
    refine (digits7_p _ _ k1).mono ?_
    rintro e wp ⟨rfl, rfl⟩
    rw [v1.out]
    obtain ⟨c0, c1, c2, c3, c4, c5, c6, c7⟩ := t1.out.mom
    have ff := Lib.frozen_of_heap t1.out.hq 0
    obtain ⟨w2, hw⟩ : ∃ w, w = w1.setCell ⟨q, 0, none⟩ (.int .i64 Y) := ⟨_, rfl⟩
    have t2 : Hid (TwoC W q w2 Y mo d h mi z0 z has) := Lib.hid (by rw [hw]; exact t1.out.set hq'.out 0 (.int .i64 Y) rfl)
    go_wp2_with fail
    rw [← hw]
    clear hw ff c0 c1 c2 c3 c4 c5 c6 c7 t1
    refine (digits7_p _ _ k2).mono ?_
    rintro e wp ⟨rfl, rfl⟩
    rw [v2.out]
    obtain ⟨c0, c1, c2, c3, c4, c5, c6, c7⟩ := t2.out.mom
    have ff := Lib.frozen_of_heap t2.out.hq 1
    obtain ⟨w3, hw⟩ : ∃ w, w = w2.setCell ⟨q, 1, none⟩ (.int .i64 Mo) := ⟨_, rfl⟩
    have t3 : Hid (TwoC W q w3 Y Mo d h mi z0 z has) := Lib.hid (by rw [hw]; exact t2.out.set hq'.out 1 (.int .i64 Mo) rfl)
    go_wp2_with fail
    rw [← hw]
    clear hw ff c0 c1 c2 c3 c4 c5 c6 c7 t2
    refine (digits7_p _ _ k3).mono ?_
    rintro e wp ⟨rfl, rfl⟩
    rw [v3.out]
    obtain ⟨c0, c1, c2, c3, c4, c5, c6, c7⟩ := t3.out.mom
    have ff := Lib.frozen_of_heap t3.out.hq 2
    obtain ⟨w4, hw⟩ : ∃ w, w = w3.setCell ⟨q, 2, none⟩ (.int .i64 Da) := ⟨_, rfl⟩
    have t4 : Hid (TwoC W q w4 Y Mo Da h mi z0 z has) := Lib.hid (by rw [hw]; exact t3.out.set hq'.out 2 (.int .i64 Da) rfl)
    go_upto_region 6 with fail
    rw [← hw]
    clear hw ff c0 c1 c2 c3 c4 c5 c6 c7 t3
    obtain ⟨c0, c1, c2, c3, c4, c5, c6, c7⟩ := t4.out.mom
    obtain ⟨d0, d1, d2, d3, d4, d5, d6, d7⟩ := t4.out.res
    obtain ⟨f0, f1, f2, f3, f4, f5, f6, f7⟩ := froz8 t4.out.hp
    obtain ⟨W5, hW5, hp5, hb5⟩ := put_resC t4.out hq'.out (.int .i64 Y) (.int .i64 Mo) (.int .i64 Da) (.int .i64 h) (.int .i64 mi) (.string z0) (.int .i64 z) (.bool has)
    replace hW5 := Lib.hid hW5
    replace hp5 := Lib.hid hp5
    go_wp2_with fail
    rw [← hW5.out]
    clear hW5 d0 d1 d2 d3 d4 d5 d6 d7 f0 f1 f2 f3 f4 f5 f6 f7 c0 c1 c2 c3 c4 c5 c6 c7
    obtain ⟨c0, c1, c2, c3, c4, c5, c6, c7⟩ := MomAt.of_heap hp5.out
    refine bodyPost_ret (v := .tuple #[.agg #[.int .i64 Y, .int .i64 Mo, .int .i64 Da, .int .i64 h, .int .i64 mi, .string z0, .int .i64 z, .bool has], .bool true]) ?ret rfl ?post
    case ret => rw [res_two rfl]; go_simp
    case post => exact ⟨by rw [hR.out] <;> rfl, hb5⟩
end Go.Proofs.YtgobpoeccdgeiaaGreatDoor
