/- Package chiselref07: fits. (Printed by genfits7.py.) -/
import Derived.Test.YtgobpoeccdgeiaaGreatDoorR7p
import Derived.Deep.QuietTactic
import Derived.BigQuiet
import Derived.Deep.Cut
namespace Go.Proofs.YtgobpoeccdgeiaaGreatDoor
open Go.RowKit NumP DigP DurP TimeP Go.Proofs.YtgobpoeccdgeiaaGreatDoorW.PrintWords
set_option linter.unusedVariables false

theorem fitsL_len : ∀ (s g : List UInt8), fitsL s g = true → s.length = g.length
  | [], [], _ => rfl
  | [], _ :: _, h => by cases h
  | _ :: _, [], h => by cases h
  | c :: s, f :: g, h => by
    have h : (fitB c f && fitsL s g) = true := h
    rw [Bool.and_eq_true] at h
    rw [List.length_cons, List.length_cons, fitsL_len s g h.2]
theorem fitsL_drop {s g : List UInt8} {i : Nat} (h1 : i < s.length) (h2 : i < g.length) : fitsL (s.drop i) (g.drop i) = (fitB s[i] g[i] && fitsL (s.drop (i + 1)) (g.drop (i + 1))) := by
  rw [List.drop_eq_getElem_cons h1, List.drop_eq_getElem_cons h2]
  rfl
theorem byte_ne (a : UInt8) (k : Nat) (h : k < 256) : ((a.toNat : Int) == (k : Int)) = (a == UInt8.ofNat k) := by
  have e : (UInt8.ofNat k).toNat = k := by simp; omega
  by_cases h1 : a = UInt8.ofNat k
  · rw [h1, e]; simp
  · have : a.toNat ≠ k := fun h2 => h1 (UInt8.toNat_inj.1 (by rw [h2, e]))
    rw [beq_eq_false_iff_ne.2 h1, beq_eq_false_iff_ne.2 (by omega)]
set_option maxRecDepth 100000 in
set_option maxHeartbeats 8000000 in
theorem fits7_r (s f : ByteArray) (W : World) (hs : s.size ≤ 1000) : Calls Tryz.prog 82 #[.string s, .string f] W fun e w' => e = .returned (.bool (fitsL s.data.toList f.data.toList)) ∧ ∃ m, w' = W.drewN m := by
  by_cases hsz : s.size = f.size
  · have g0 : (((s.size : Nat) : Int) != (f.size : Int)) = false := by rw [hsz]; simp
    obtain ⟨R, hR⟩ : ∃ R, R = fitsL s.data.toList f.data.toList := ⟨_, rfl⟩
    rw [← hR]
    have hst : Hid (∀ i (h1 : i < s.size) (h2 : i < f.size), fitsL (s.data.toList.drop i) (f.data.toList.drop i) = (fitB s[i] f[i] && fitsL (s.data.toList.drop (i + 1)) (f.data.toList.drop (i + 1)))) := Lib.hid (fun i h1 h2 => by
      have := fitsL_drop (s := s.data.toList) (g := f.data.toList) (i := i) (by rw [list_len]; exact h1) (by rw [list_len]; exact h2)
      exact this)
    have hend : Hid (fitsL (s.data.toList.drop s.size) (f.data.toList.drop s.size) = true) := Lib.hid (by
      rw [List.drop_of_length_le (by rw [list_len]; omega), List.drop_of_length_le (by rw [list_len]; omega)]; rfl)
    have h0 : Hid (R = fitsL (s.data.toList.drop 0) (f.data.toList.drop 0)) := Lib.hid (by rw [hR]; rfl)
    clear hR
    replace hsz := Lib.hid hsz
    go_enter Tryz.func82, Tryz.ntmps82
    go_wp2_with fail
    go_loopw [5] (fun iv wr => ∃ i : Nat, iv = .int .i64 (i : Int) ∧ i ≤ s.size ∧ Hid (R = fitsL (s.data.toList.drop i) (f.data.toList.drop i)) ∧ Hid (∃ m, wr = W.drewN m)) (fun iv _ => s.size - (intOf iv).toNat)
    case atStart => exact ⟨0, rfl, by omega, h0, Lib.hid ⟨0, rfl⟩⟩
    case round =>
      obtain ⟨i, rfl, hi, hRi, hbw⟩ := hrel
      clear h0
      by_cases hlt : i < s.size
      · have hlf : i < f.size := by rw [← hsz.out]; exact hlt
        have gi : (i : Int) < (s.size : Int) := by omega
        have gf : (i : Int) < (f.size : Int) := by omega
        have hs1 := hst.out i hlt hlf
        rw [← hRi.out] at hs1
        obtain ⟨dg, hdg⟩ : ∃ b, b = isDig s[i] := ⟨_, rfl⟩
        obtain ⟨sg, hsg⟩ : ∃ b, b = (s[i] == 43 || s[i] == 45) := ⟨_, rfl⟩
        obtain ⟨B, hB⟩ : ∃ b, b = fitB s[i] f[i] := ⟨_, rfl⟩
        rw [← hB] at hs1
        have hBd : B = if f[i] = 68 then dg else if f[i] = 83 then sg else s[i] == f[i] := by rw [hB, hdg, hsg]; rfl
        replace hs1 := Lib.hid hs1
        replace hB := Lib.hid hB
        replace hBd := Lib.hid hBd
        clear hRi
        go_upto_region 6 with fail
        go_cut [6] from 19 to 28 (fun v wx => v = .bool dg ∧ wx = wr)
        case first =>
          unfold isDig at hdg
          by_cases q1 : 48 ≤ s[i].toNat
          · have g1 : ((s[i].toNat : Int) ≥ 48) := by omega
            by_cases q2 : s[i].toNat ≤ 57
            · rw [decide_eq_true q1, decide_eq_true q2] at hdg
              have g2 : ((s[i].toNat : Int) ≤ 57) := by omega
              subst hdg
              go_wp2_with fail
              go_meet
              exact ⟨rfl, rfl⟩
            · rw [decide_eq_true q1, decide_eq_false q2] at hdg
              have g2 : ¬ ((s[i].toNat : Int) ≤ 57) := by omega
              subst hdg
              go_wp2_with fail
              go_meet
              exact ⟨rfl, rfl⟩
          · have g1 : ¬ ((s[i].toNat : Int) ≥ 48) := by omega
            rw [decide_eq_false q1, Bool.false_and] at hdg
            subst hdg
            go_wp2_with fail
            go_meet
            exact ⟨rfl, rfl⟩
        case rest =>
        obtain ⟨rfl, hw⟩ := hcut
        have hw := hw.symm
        subst hw
        clear hdg
        go_upto_region 7 with fail
        go_cut [7] from 29 to 38 (fun v wx => v = .bool sg ∧ wx = wr)
        case first =>
          have b43 : ((s[i].toNat : Int) == 43) = (s[i] == 43) := byte_ne s[i] 43 (by decide)
          have b45 : ((s[i].toNat : Int) == 45) = (s[i] == 45) := byte_ne s[i] 45 (by decide)
          cases q1 : s[i] == 43 with
          | true =>
            rw [q1] at b43 hsg
            replace hsg : sg = true := hsg
            subst hsg
            replace b45 := Lib.hid b45
            replace q1 := Lib.hid q1
            go_wp2_with fail
            go_meet
            exact ⟨rfl, rfl⟩
          | false =>
            rw [q1] at b43 hsg
            replace hsg : sg = (s[i] == 45) := hsg
            rw [← hsg] at b45
            replace hsg := Lib.hid hsg
            replace q1 := Lib.hid q1
            cases sg with
            | true =>
              go_wp2_with fail
              go_meet
              exact ⟨rfl, rfl⟩
            | false =>
              go_wp2_with fail
              go_meet
              exact ⟨rfl, rfl⟩
        case rest =>
        obtain ⟨rfl, hw⟩ := hcut
        have hw := hw.symm
        subst hw
        clear hsg
        go_upto_region 8 with fail
        go_cut [77] from 39 to 76 (fun v wx => v = .bool (!B) ∧ ∃ n, wx = wr.drewN n)
        case first =>
          have b68 : ((f[i].toNat : Int) == 68) = (f[i] == 68) := byte_ne f[i] 68 (by decide)
          have b83 : ((f[i].toNat : Int) == 83) = (f[i] == 83) := byte_ne f[i] 83 (by decide)
          have n68 : ((f[i].toNat : Int) != 68) = !(f[i] == 68) := congrArg Bool.not b68
          have n83 : ((f[i].toNat : Int) != 83) = !(f[i] == 83) := congrArg Bool.not b83
          have ncc : ((f[i].toNat : Int) != (s[i].toNat : Int)) = !(s[i] == f[i]) := by
            by_cases e : s[i] = f[i]
            · rw [e]; simp
            · have : f[i].toNat ≠ s[i].toNat := fun h => e (UInt8.toNat_inj.1 h.symm)
              rw [beq_eq_false_iff_ne.2 e]
              simp
              omega
          by_cases e1 : f[i] = 68
          · have hBe : B = dg := by rw [hBd.out, if_pos e1]
            have e3 : (f[i] == 83) = false := by rw [e1]; decide
            rw [beq_iff_eq.2 e1] at b68 n68
            rw [e3] at b83 n83
            clear ncc
            replace e1 := Lib.hid e1
            replace e3 := Lib.hid e3
            subst hBe
            cases B with
            | true =>
              go_quiet (fail)
              go_wp2_with fail
              go_meet
              exact ⟨rfl, _, rfl⟩
            | false =>
              go_quiet (fail)
              go_wp2_with fail
              go_meet
              exact ⟨rfl, _, rfl⟩
          · by_cases e2 : f[i] = 83
            · have hBe : B = sg := by rw [hBd.out, if_neg e1, if_pos e2]
              rw [beq_eq_false_iff_ne.2 e1] at b68 n68
              rw [beq_iff_eq.2 e2] at b83 n83
              clear ncc
              replace e1 := Lib.hid e1
              replace e2 := Lib.hid e2
              subst hBe
              cases B with
              | true =>
                go_quiet (fail)
                go_wp2_with fail
                go_meet
                exact ⟨rfl, _, rfl⟩
              | false =>
                go_quiet (fail)
                go_wp2_with fail
                go_meet
                exact ⟨rfl, _, rfl⟩
            · have hBe : B = (s[i] == f[i]) := by rw [hBd.out, if_neg e1, if_neg e2]
              rw [beq_eq_false_iff_ne.2 e1] at b68 n68
              rw [beq_eq_false_iff_ne.2 e2] at b83 n83
              rw [← hBe] at ncc
              replace e1 := Lib.hid e1
              replace e2 := Lib.hid e2
              replace hBe := Lib.hid hBe
              cases B with
              | true =>
                go_quiet (fail)
                go_wp2_with fail
                go_meet
                exact ⟨rfl, _, rfl⟩
              | false =>
                go_quiet (fail)
                go_wp2_with fail
                go_meet
                exact ⟨rfl, _, rfl⟩
        case rest =>
        obtain ⟨rfl, kn, hw⟩ := hcut
        have hb2 : Hid (∃ m, wc = W.drewN m) := Lib.hid (by obtain ⟨m0, hm0⟩ := hbw.out; exact ⟨m0 + kn, by rw [hw, hm0, World.drewN_drewN]⟩)
        clear hw hbw
        cases B with
        | false =>
          have hF : Hid (R = false) := Lib.hid (by rw [hs1.out]; rfl)
          go_wp2_with fail
          go_ret
          exact ⟨by rw [hF.out]; rfl, hb2.out⟩
        | true =>
          have hF : Hid (R = fitsL (s.data.toList.drop (i + 1)) (f.data.toList.drop (i + 1))) := Lib.hid (by rw [hs1.out, Bool.true_and])
          go_wp2_with fail
          go_roundw
          case rel => exact ⟨i + 1, by go_num, by omega, hF, hb2⟩
          case measure => simp [intOf]; omega
      · obtain rfl : i = s.size := by omega
        have hF : Hid (R = true) := Lib.hid (by rw [hRi.out]; exact hend.out)
        clear hRi
        go_wp2_with fail
        go_ret
        exact ⟨by rw [hF.out]; rfl, hbw.out⟩
  · have g0 : (((s.size : Nat) : Int) != (f.size : Int)) = true := by simp; omega
    have hR : Hid (fitsL s.data.toList f.data.toList = false) := Lib.hid (by
      cases h : fitsL s.data.toList f.data.toList with
      | false => rfl
      | true =>
        have := fitsL_len _ _ h
        rw [list_len, list_len] at this
        exact absurd this hsz)
    replace hsz := Lib.hid hsz
    go_enter Tryz.func82, Tryz.ntmps82
    go_wp2_with fail
    go_ret
    exact ⟨by rw [hR.out]; rfl, 0, rfl⟩
end Go.Proofs.YtgobpoeccdgeiaaGreatDoor
