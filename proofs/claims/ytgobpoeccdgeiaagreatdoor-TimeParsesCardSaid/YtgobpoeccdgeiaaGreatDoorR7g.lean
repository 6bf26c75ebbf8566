/- Package chiselref07: Valid (printed by genval7.py). -/
import Derived.Test.YtgobpoeccdgeiaaGreatDoorR7f
import Derived.Test.YtgobpoeccdgeiaaGreatDoorOe
import Derived.Deep.QuietTactic
import Derived.BigQuiet
import Derived.Deep.Cut
namespace Go.Proofs.YtgobpoeccdgeiaaGreatDoor
open Go.RowKit NumP DigP DurP TimeP Go.Proofs.YtgobpoeccdgeiaaGreatDoorW.PrintWords
set_option linter.unusedVariables false

set_option maxRecDepth 100000 in
set_option maxHeartbeats 8000000 in
theorem Valid7_r (y mo d h mi : Int) (s : ByteArray) (z : Int) (has : Bool) (W : World) (hs : s.size ≤ maxLen) : Calls Tryz.prog 41 #[.agg #[.int .i64 y, .int .i64 mo, .int .i64 d, .int .i64 h, .int .i64 mi, .string s, .int .i64 z, .bool has]] W fun e w' => e = .returned (.bool (validP ⟨y, mo, d, h, mi, s.data.toList, z, has⟩)) ∧ Below W.heap.size W w' := by
  obtain ⟨W1, hW1⟩ : ∃ w, w = W.alloc (.cells #[.int .i64 y, .int .i64 mo, .int .i64 d, .int .i64 h, .int .i64 mi, .string s, .int .i64 z, .bool has] 28) := ⟨_, rfl⟩
  obtain ⟨q, hq⟩ : ∃ q, q = W.heap.size := ⟨_, rfl⟩
  have hx1 : W1.heap[q]? = some (.cells #[.int .i64 y, .int .i64 mo, .int .i64 d, .int .i64 h, .int .i64 mi, .string s, .int .i64 z, .bool has] 28 (0, 0)) := by rw [hW1, hq]; exact (MapKept.heap_alloc _ _).1
  have hb1 : Hid (Below W.heap.size W W1) := Lib.hid (by rw [hW1]; exact (Below.refl _ _).alloc (Nat.le_refl _) _)
  have hM1 := Lib.hid (MomAt.of_heap hx1)
  obtain ⟨L, hLn⟩ : ∃ L, L = lenM y.toNat mo.toNat := ⟨_, rfl⟩
  obtain ⟨V, hV⟩ : ∃ V, V = validP ⟨y, mo, d, h, mi, s.data.toList, z, has⟩ := ⟨_, rfl⟩
  rw [← hV]
  unfold validP at hV
  simp only at hV
  rw [← hLn] at hV
  obtain ⟨bb, hbb⟩ : ∃ b : Bool, b = decide (1 ≤ y ∧ y ≤ 9999 ∧ 1 ≤ mo ∧ mo ≤ 12 ∧ 1 ≤ d ∧ d ≤ (L : Int)) := ⟨_, rfl⟩
  obtain ⟨mb, hmb⟩ : ∃ n, n = (micP s.data.toList).2 := ⟨_, rfl⟩
  have hmic := fun w => second7_r s w hs
  rw [← hmb] at hV hmic
  have hlen : Hid (¬ y < 1 → ¬ mo < 1 → ¬ mo > 12 → ∀ w, Calls Tryz.prog 60 #[.int .i64 y, .int .i64 mo] w fun e w' => e = .returned (.int .i64 (L : Nat)) ∧ w' = w) := Lib.hid (fun a b c w => by
    have := Days_r y.toNat mo.toNat w
    rw [← hLn, show ((y.toNat : Nat) : Int) = y by omega, show ((mo.toNat : Nat) : Int) = mo by omega] at this
    exact this.mono fun e w' h => ⟨h.1, h.2.symm⟩)
  have hV1 : Hid (bb = false → V = false) := Lib.hid (fun e => by
    have : ¬ _ := of_decide_eq_false (hbb.symm.trans e)
    rw [hV, decide_eq_false (fun hh => this ⟨hh.1, hh.2.1, hh.2.2.1, hh.2.2.2.1, hh.2.2.2.2.1, hh.2.2.2.2.2.1⟩)]
    rfl)
  have hV2 : Hid ((h < 0 ∨ h > 23 ∨ mi < 0 ∨ mi > 59) → V = false) := Lib.hid (fun e => by
    rw [hV, decide_eq_false (by omega)]
    rfl)
  have hV3 : Hid (bb = true → ¬ h < 0 → ¬ h > 23 → ¬ mi < 0 → ¬ mi > 59 → V = (mb && decide (-840 ≤ z ∧ z ≤ 840) && (has || decide (z = 0)))) := Lib.hid (fun e a1 a2 a3 a4 => by
    have := of_decide_eq_true (hbb.symm.trans e)
    rw [hV, decide_eq_true (by omega), Bool.true_and])
  clear hV
  replace hLn := Lib.hid hLn
  replace hmic := Lib.hid hmic
  clear hx1 hmb hs
  go_enter Tryz.func41, Tryz.ntmps41
  go_upto_region 1 with fail
  rw [← hW1, ← hq]
  clear hW1
  replace hq := Lib.hid hq
  obtain ⟨c0, c1, c2, c3, c4, c5, c6, c7⟩ := hM1.out
  go_cut [35] from 3 to 35 (fun v wx => v = .bool (!bb) ∧ ∃ n, wx = W1.drewN n)
  case first =>
    by_cases n0 : y < 1
    · have hb0 : bb = false := by rw [hbb]; apply decide_eq_false; intro hh; omega
      have t0 : decide (y < 1) = true := decide_eq_true n0
      subst hb0
      clear hbb
      replace hlen := Lib.hid hlen
      replace hV1 := Lib.hid hV1
      replace hV3 := Lib.hid hV3
      go_quiet (fail)
      go_wp2_with fail
      go_meet
      exact ⟨rfl, _, rfl⟩
    · by_cases n1 : y > 9999
      · have f0 : decide (y < 1) = false := decide_eq_false n0
        have hb0 : bb = false := by rw [hbb]; apply decide_eq_false; intro hh; omega
        have t1 : decide (y > 9999) = true := decide_eq_true n1
        subst hb0
        clear hbb
        replace hlen := Lib.hid hlen
        replace hV1 := Lib.hid hV1
        replace hV3 := Lib.hid hV3
        go_quiet (fail)
        go_wp2_with fail
        go_meet
        exact ⟨rfl, _, rfl⟩
      · by_cases n2 : mo < 1
        · have f0 : decide (y < 1) = false := decide_eq_false n0
          have f1 : decide (y > 9999) = false := decide_eq_false n1
          have hb0 : bb = false := by rw [hbb]; apply decide_eq_false; intro hh; omega
          have t2 : decide (mo < 1) = true := decide_eq_true n2
          subst hb0
          clear hbb
          replace hlen := Lib.hid hlen
          replace hV1 := Lib.hid hV1
          replace hV3 := Lib.hid hV3
          go_quiet (fail)
          go_wp2_with fail
          go_meet
          exact ⟨rfl, _, rfl⟩
        · by_cases n3 : mo > 12
          · have f0 : decide (y < 1) = false := decide_eq_false n0
            have f1 : decide (y > 9999) = false := decide_eq_false n1
            have f2 : decide (mo < 1) = false := decide_eq_false n2
            have hb0 : bb = false := by rw [hbb]; apply decide_eq_false; intro hh; omega
            have t3 : decide (mo > 12) = true := decide_eq_true n3
            subst hb0
            clear hbb
            replace hlen := Lib.hid hlen
            replace hV1 := Lib.hid hV1
            replace hV3 := Lib.hid hV3
            go_quiet (fail)
            go_wp2_with fail
            go_meet
            exact ⟨rfl, _, rfl⟩
          · by_cases n4 : d < 1
            · have f0 : decide (y < 1) = false := decide_eq_false n0
              have f1 : decide (y > 9999) = false := decide_eq_false n1
              have f2 : decide (mo < 1) = false := decide_eq_false n2
              have f3 : decide (mo > 12) = false := decide_eq_false n3
              have hb0 : bb = false := by rw [hbb]; apply decide_eq_false; intro hh; omega
              have t4 : decide (d < 1) = true := decide_eq_true n4
              subst hb0
              clear hbb
              replace hlen := Lib.hid hlen
              replace hV1 := Lib.hid hV1
              replace hV3 := Lib.hid hV3
              go_quiet (fail)
              go_wp2_with fail
              go_meet
              exact ⟨rfl, _, rfl⟩
            · by_cases n5 : d > (L : Int)
              · have f0 : decide (y < 1) = false := decide_eq_false n0
                have f1 : decide (y > 9999) = false := decide_eq_false n1
                have f2 : decide (mo < 1) = false := decide_eq_false n2
                have f3 : decide (mo > 12) = false := decide_eq_false n3
                have f4 : decide (d < 1) = false := decide_eq_false n4
                have hb0 : bb = false := by rw [hbb]; apply decide_eq_false; intro hh; omega
                have t5 : decide (d > (L : Int)) = true := decide_eq_true n5
                subst hb0
                clear hbb
                have hl := hlen.out n0 n2 n3
                replace hlen := Lib.hid hlen
                replace hV1 := Lib.hid hV1
                replace hV3 := Lib.hid hV3
                go_quiet ((go_at_call 60; exact Calls.quiet_of_same (hl _)))
                go_wp2_with fail
                go_meet
                exact ⟨rfl, _, rfl⟩
              · have f0 : decide (y < 1) = false := decide_eq_false n0
                have f1 : decide (y > 9999) = false := decide_eq_false n1
                have f2 : decide (mo < 1) = false := decide_eq_false n2
                have f3 : decide (mo > 12) = false := decide_eq_false n3
                have f4 : decide (d < 1) = false := decide_eq_false n4
                have f5 : decide (d > (L : Int)) = false := decide_eq_false n5
                have hb0 : bb = true := by rw [hbb]; apply decide_eq_true; omega
                subst hb0
                clear hbb
                have hl := hlen.out n0 n2 n3
                replace hlen := Lib.hid hlen
                replace hV1 := Lib.hid hV1
                replace hV3 := Lib.hid hV3
                go_quiet ((go_at_call 60; exact Calls.quiet_of_same (hl _)))
                go_wp2_with fail
                go_meet
                exact ⟨rfl, _, rfl⟩
  case rest =>
  obtain ⟨rfl, kn, hw⟩ := hcut
  clear c0 c1 c2 c3 c4 c5 c6 c7
  have hb2 : Hid (Below W.heap.size W wc) := Lib.hid (by rw [hw]; exact below_drewN hb1.out kn)
  have hM2 : Hid (MomAt wc q y mo d h mi s z has) := Lib.hid (by rw [hw]; exact hM1.out.drewN kn)
  clear hw hbb
  cases bb with
  | false =>
    have hv : Hid (V = false) := Lib.hid (hV1.out rfl)
    go_wp2_with fail
    go_ret
    exact ⟨by rw [hv.out]; rfl, hb2.out⟩
  | true =>
  obtain ⟨c0, c1, c2, c3, c4, c5, c6, c7⟩ := hM2.out
  by_cases m0 : h < 0
  · have hv : Hid (V = false) := Lib.hid (hV2.out (by omega))
    have t0 : decide (h < 0) = true := decide_eq_true m0
    clear hV2 hV3 hlen
    go_wp2_with fail
    go_ret
    exact ⟨by rw [hv.out]; rfl, hb2.out⟩
  by_cases m1 : h > 23
  · have hv : Hid (V = false) := Lib.hid (hV2.out (by omega))
    have f0 : decide (h < 0) = false := decide_eq_false m0
    have t1 : decide (h > 23) = true := decide_eq_true m1
    clear hV2 hV3 hlen
    go_wp2_with fail
    go_ret
    exact ⟨by rw [hv.out]; rfl, hb2.out⟩
  by_cases m2 : mi < 0
  · have hv : Hid (V = false) := Lib.hid (hV2.out (by omega))
    have f0 : decide (h < 0) = false := decide_eq_false m0
    have f1 : decide (h > 23) = false := decide_eq_false m1
    have t2 : decide (mi < 0) = true := decide_eq_true m2
    clear hV2 hV3 hlen
    go_wp2_with fail
    go_ret
    exact ⟨by rw [hv.out]; rfl, hb2.out⟩
  by_cases m3 : mi > 59
  · have hv : Hid (V = false) := Lib.hid (hV2.out (by omega))
    have f0 : decide (h < 0) = false := decide_eq_false m0
    have f1 : decide (h > 23) = false := decide_eq_false m1
    have f2 : decide (mi < 0) = false := decide_eq_false m2
    have t3 : decide (mi > 59) = true := decide_eq_true m3
    clear hV2 hV3 hlen
    go_wp2_with fail
    go_ret
    exact ⟨by rw [hv.out]; rfl, hb2.out⟩
  replace hV3 := Lib.hid (hV3.out rfl m0 m1 m2 m3)
  have f0 : decide (h < 0) = false := decide_eq_false m0
  have f1 : decide (h > 23) = false := decide_eq_false m1
  have f2 : decide (mi < 0) = false := decide_eq_false m2
  have f3 : decide (mi > 59) = false := decide_eq_false m3
  clear hV2 hlen hV1
  go_wp2_with fail
  refine (hmic.out wc).mono ?_
  rintro e w3 ⟨rfl, hb3⟩
  clear c0 c1 c2 c3 c4 c5 c6 c7
  have hB := Lib.hid (hb2.out.trans (hb3.mono hb2.out.size))
  have hM3 := Lib.hid (hM2.out.below hb3)
  clear hb3
  obtain ⟨-, -, -, -, -, -, c6, c7⟩ := hM3.out
  cases mb with
  | false =>
    have hv : Hid (V = false) := Lib.hid (by rw [hV3.out]; simp)
    go_wp2_with fail
    go_ret
    exact ⟨by rw [hv.out]; rfl, hB.out⟩
  | true =>
    cases has with
    | true =>
      by_cases h1 : z ≥ -840
      · by_cases h2 : z ≤ 840
        · have hv : Hid (V = true) := Lib.hid (by rw [hV3.out]; simp; omega)
          go_wp2_with fail
          go_ret
          exact ⟨by rw [hv.out]; rfl, hB.out⟩
        · have hv : Hid (V = decide (z ≤ 840)) := Lib.hid (by rw [decide_eq_false h2, hV3.out]; simp; omega)
          go_wp2_with fail
          go_ret
          exact ⟨by rw [hv.out]; rfl, hB.out⟩
      · have hv : Hid (V = false) := Lib.hid (by rw [hV3.out]; simp; omega)
        go_wp2_with fail
        go_ret
        exact ⟨by rw [hv.out]; rfl, hB.out⟩
    | false =>
      by_cases h3 : z = 0
      · have g3 : (z == 0) = true := by simpa using h3
        have hv : Hid (V = true) := Lib.hid (by rw [hV3.out]; simp; omega)
        replace h3 := Lib.hid h3
        go_wp2_with fail
        go_ret
        exact ⟨by rw [hv.out]; rfl, hB.out⟩
      · have g3 : (z == 0) = false := by simpa using h3
        have hv : Hid (V = false) := Lib.hid (by rw [hV3.out]; simp; omega)
        replace h3 := Lib.hid h3
        go_wp2_with fail
        go_ret
        exact ⟨by rw [hv.out]; rfl, hB.out⟩
end Go.Proofs.YtgobpoeccdgeiaaGreatDoor
