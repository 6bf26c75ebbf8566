/- Package chiselref07: kinds, decimal, integer. -/
import Derived.Test.YtgobpoeccdgeiaaGreatDoorR7a
namespace Go.Proofs.YtgobpoeccdgeiaaGreatDoor
open Go.RowKit NumP DurP TimeP Go.Proofs.YtgobpoeccdgeiaaGreatDoorW.PrintWords
set_option linter.unusedVariables false

theorem fixD_top : ∀ k n, fixD (k + 1) n = UInt8.ofNat (48 + n / 10 ^ k % 10) :: fixD k n
  | 0, n => by simp [fixD]
  | k + 1, n => by
    rw [fixD, fixD_top k (n / 10)]
    conv => rhs; rw [fixD]
    rw [Nat.div_div_eq_div_mul, Nat.pow_succ, Nat.mul_comm 10]
    rfl
theorem lenD_ten {n : Nat} (h : 10 ≤ n) : lenD n = lenD (n / 10) + 1 := by
  have h1 : ∀ K, lenD n ≤ K + 1 ↔ lenD (n / 10) ≤ K := fun K => by
    rw [lenD_le, lenD_le, Nat.pow_succ, Nat.div_lt_iff_lt_mul (by decide)]
  have h0 : ¬ lenD n ≤ 0 := fun h2 => by have := (lenD_le n 0).1 h2; omega
  have a1 := (h1 (lenD n - 1)).1 (by omega)
  have a2 := (h1 (lenD (n / 10))).2 (Nat.le_refl _)
  omega
/-- A number's digits, two ways. -/
theorem decF_fix : ∀ (f n : Nat), n < 10 ^ (f + 1) → decF f n = fixD (max 1 (lenD n)) n
  | 0, n, h => by
    have hn : n < 10 := by simpa using h
    have := (lenD_le n 1).2 (by omega)
    rw [show max 1 (lenD n) = 1 by omega, decF, fixD, fixD, Nat.mod_eq_of_lt hn]; rfl
  | f + 1, n, h => by
    rw [decF]
    by_cases hn : n < 10
    · have := (lenD_le n 1).2 (by omega)
      rw [if_pos hn, show max 1 (lenD n) = 1 by omega, fixD, fixD, Nat.mod_eq_of_lt hn]; rfl
    · have h1 := lenD_ten (n := n) (by omega)
      have h2 : 1 ≤ lenD (n / 10) := by
        rcases Nat.eq_zero_or_pos (lenD (n / 10)) with h3 | h3
        · have := (lenD_le (n / 10) 0).1 (by omega); omega
        · exact h3
      rw [if_neg hn, decF_fix f (n / 10) (by rw [Nat.pow_succ] at h; omega), show max 1 (lenD n) = max 1 (lenD (n / 10)) + 1 by omega, fixD]
theorem decP_fix {n : Nat} (h : n < 10 ^ 21) : decP n = fixD (max 1 (lenD n)) n := decF_fix 20 n h
theorem fixD_ahead : ∀ (j k n : Nat), n < 10 ^ k → fixD (j + k) n = List.replicate j 48 ++ fixD k n
  | 0, k, n, _ => by simp
  | j + 1, k, n, h => by
    rw [show j + 1 + k = (j + k) + 1 by omega, fixD_top, fixD_ahead j k n h, Nat.div_eq_of_lt (Nat.lt_of_lt_of_le h (Nat.pow_le_pow_right (by decide) (by omega))), List.replicate_succ]
    rfl
theorem padP_fix {n w : Nat} (h : n < 10 ^ 21) (hw : 1 ≤ w) : padP n w = fixD (max w (lenD n)) n := by
  unfold padP
  have hd := decP_fix h
  have hl : (decP n).length = max 1 (lenD n) := by rw [hd, fixD_len]
  rw [hl, hd, ← fixD_ahead]
  · congr 1; omega
  · have := (lenD_le n (max 1 (lenD n))).1 (by omega)
    exact this
set_option maxRecDepth 100000 in
set_option maxHeartbeats 2000000 in
theorem kinds_r (k : Int) (W : World) : Calls Tryz.prog 38 #[.int .i64 k] W fun e w' => e = .returned (.bool (TimeP.kindOk k)) ∧ W = w' := by
  by_cases h6 : k = 6
  · subst h6
    go_enter Tryz.func38, Tryz.ntmps38
    go_wp2_with fail
    go_ret
    exact ⟨rfl, rfl⟩
  · by_cases h7 : k = 7
    · subst h7
      go_enter Tryz.func38, Tryz.ntmps38
      go_wp2_with fail
      go_ret
      exact ⟨rfl, rfl⟩
    · by_cases h8 : k = 8
      · subst h8
        go_enter Tryz.func38, Tryz.ntmps38
        go_wp2_with fail
        go_ret
        exact ⟨rfl, rfl⟩
      · have g6 : (k == 6) = false := by simpa using h6
        have g7 : (k == 7) = false := by simpa using h7
        have g8 : (k == 8) = false := by simpa using h8
        have hV : Hid (TimeP.kindOk k = false) := Lib.hid (by unfold TimeP.kindOk; simp; omega)
        replace h6 := Lib.hid h6
        replace h7 := Lib.hid h7
        replace h8 := Lib.hid h8
        go_enter Tryz.func38, Tryz.ntmps38
        go_wp2_with fail
        go_ret
        exact ⟨by rw [hV.out]; rfl, rfl⟩
/-- A string of one byte, out of a slice that was just made. -/
theorem one_string (w : World) (d : Nat) (h : d < 10) : (convert 116 9 (.slice (some ⟨w.heap.size, 0, none⟩) 1 1)).run Tryz.prog (w.alloc (.cells #[.int .u8 (48 + (d : Int))] 5)) = .ok (.string ⟨#[UInt8.ofNat (48 + d)]⟩) (w.alloc (.cells #[.int .u8 (48 + (d : Int))] 5)) := by
  have hx : (48 : Int) + (d : Int) = ((UInt8.ofNat (48 + d)).toNat : Int) := by
    have : (UInt8.ofNat (48 + d)).toNat = (48 + d) % 256 := UInt8.toNat_ofNat'
    omega
  exact str_own (own_byte w (UInt8.ofNat (48 + d)) (48 + (d : Int)) hx)
set_option maxRecDepth 100000 in
set_option maxHeartbeats 4000000 in
theorem decimal7_r (n w : Nat) (W : World) (hn : n < 10 ^ 18) (hw : w ≤ 20) : Calls Tryz.prog 48 #[.int .i64 (n : Int), .int .i64 (w : Int)] W fun e w' => e = .returned (.string ⟨(fixD (max w (lenD n)) n).toArray⟩) ∧ Below W.heap.size W w' := by
  obtain ⟨K, hK⟩ : ∃ K, K = max w (lenD n) := ⟨_, rfl⟩
  rw [← hK]
  have hl18 := (lenD_le n 18).2 hn
  have hK20 : K ≤ 20 := by omega
  have hwK : w ≤ K := by omega
  obtain ⟨N, hN⟩ : ∃ N : Int, N = (n : Int) := ⟨_, rfl⟩
  have hN0 : 0 ≤ N := by omega
  have hN1 : N ≤ 1000000000000000000 := by omega
  rw [← hN]
  replace hn := Lib.hid hn
  replace hN := Lib.hid hN
  replace hK := Lib.hid hK
  replace hl18 := Lib.hid hl18
  go_enter Tryz.func48, Tryz.ntmps48
  go_wp2_with fail
  go_loopw [0, 1, 5] (fun nv wv sv wr => ∃ (j : Nat) (S : ByteArray) (m v : Int), j ≤ K ∧ nv = .int .i64 m ∧ 0 ≤ m ∧ m ≤ 1000000000000000000 ∧ wv = .int .i64 v ∧ v = (w : Int) - (j : Int) ∧ sv = .string S ∧ Hid (S.data.toList = fixD j n ∧ m = ((n / 10 ^ j : Nat) : Int) ∧ Below W.heap.size W wr)) (fun _ wv _ _ => K - ((w : Int) - intOf wv).toNat)
  case atStart => exact ⟨0, ⟨#[]⟩, N, (w : Int), Nat.zero_le _, rfl, hN0, hN1, rfl, by omega, rfl, Lib.hid ⟨rfl, by rw [hN.out]; simp, Below.refl _ _⟩⟩
  case round =>
    obtain ⟨j, S, m, v, hj, rfl, hm0, hm1, rfl, hv, rfl, hr⟩ := hrel
    by_cases hlt : j < K
    · have hSs : S.size = j := by rw [← list_len, hr.out.1, fixD_len]
      obtain ⟨d, hd⟩ : ∃ d : Nat, d = (m % 10).toNat := ⟨_, rfl⟩
      have gd : m % 10 = (d : Int) := by omega
      have hd10 : d < 10 := by omega
      have gb : ((48 : Int) + (d : Int)) % 256 = 48 + (d : Int) := by omega
      have hcv := one_string wr d hd10
      obtain ⟨T, hT⟩ : ∃ T : ByteArray, T = ⟨#[UInt8.ofNat (48 + d)]⟩ := ⟨_, rfl⟩
      rw [← hT] at hcv
      have hTs : T.size = 1 := by rw [hT]; rfl
      obtain ⟨S2, hS2⟩ : ∃ S2, S2 = T ++ S := ⟨_, rfl⟩
      have q1 : T ++ S = S2 := hS2.symm
      have hdd : d = n / 10 ^ j % 10 := by
        have := hr.out.2.1
        omega
      have hS2l : Hid (S2.data.toList = fixD (j + 1) n) := Lib.hid (by
        rw [hS2, ByteArray.data_append, Array.toList_append, hT, hr.out.1, fixD_top, ← hdd]; rfl)
      have e1 : (9223372036854775807 < T.size + S.size) = False := eq_false (by omega)
      have hm2 : Hid (m / 10 = ((n / 10 ^ (j + 1) : Nat) : Int)) := Lib.hid (by
        rw [hr.out.2.1, Nat.pow_succ, ← Nat.div_div_eq_div_mul]; omega)
      have hB := Lib.hid (hr.out.2.2.alloc hr.out.2.2.size (.cells #[.int .u8 (48 + (d : Int))] 5))
      have hpos : ¬ (m > 0) → v > 0 := fun h => by
        have h1 := hr.out.2.1
        have h2 : n / 10 ^ j = 0 := by omega
        have h3 : n < 10 ^ j := by
          rcases Nat.div_eq_zero_iff.1 h2 with h4 | h4
          · exact absurd h4 (Nat.ne_of_gt (Nat.pow_pos (by decide)))
          · exact h4
        have h4 := (lenD_le n j).2 h3
        have h5 := hK.out
        omega
      replace hd := Lib.hid hd
      replace hdd := Lib.hid hdd
      replace hT := Lib.hid hT
      replace hS2 := Lib.hid hS2
      replace hSs := Lib.hid hSs
      replace hTs := Lib.hid hTs
      have hv2 : v - 1 = (w : Int) - ((j + 1 : Nat) : Int) := by omega
      have hv3 : -100 ≤ v := by omega
      have hv4 : v ≤ 100 := by omega
      replace hv2 := Lib.hid hv2
      replace hv := Lib.hid hv
      by_cases hmp : m > 0
      · clear hpos
        go_wp2_with fail
        go_roundw
        case rel => exact ⟨j + 1, S2, _, _, by omega, rfl, by omega, by omega, rfl, hv2.out, rfl, Lib.hid ⟨hS2l.out, hm2.out, hB.out⟩⟩
        case measure => have := hv.out; simp [intOf]; omega
      · have gv : v > 0 := hpos hmp
        clear hpos
        go_wp2_with fail
        go_roundw
        case rel => exact ⟨j + 1, S2, _, _, by omega, rfl, by omega, by omega, rfl, hv2.out, rfl, Lib.hid ⟨hS2l.out, hm2.out, hB.out⟩⟩
        case measure => have := hv.out; simp [intOf]; omega
    · obtain rfl : j = K := by omega
      have hz : m = 0 := by
        have h1 := hr.out.2.1
        have h2 := hK.out
        have h3 := (lenD_le n j).1 (by omega)
        rw [Nat.div_eq_of_lt h3] at h1
        exact h1
      subst hz
      have gv : ¬ (v > 0) := by omega
      have hS : Hid (S = ⟨(fixD j n).toArray⟩) := Lib.hid (data_inj (by rw [hr.out.1]))
      have hB := Lib.hid hr.out.2.2
      clear hr
      replace hv := Lib.hid hv
      go_wp2_with fail
      go_ret
      exact ⟨by rw [← hS.out]; rfl, hB.out⟩
theorem decimal_pad (n w : Nat) (W : World) (hn : n < 10 ^ 18) (hw1 : 1 ≤ w) (hw : w ≤ 20) : Calls Tryz.prog 48 #[.int .i64 (n : Int), .int .i64 (w : Int)] W fun e w' => e = .returned (.string ⟨(padP n w).toArray⟩) ∧ Below W.heap.size W w' := by
  rw [padP_fix (Nat.lt_of_lt_of_le hn (by decide)) hw1]
  exact decimal7_r n w W hn hw
/-- An integer's text. -/
def intP (n : Int) : List UInt8 := (if n < 0 then [45] else []) ++ decP n.natAbs
set_option maxRecDepth 100000 in
set_option maxHeartbeats 2000000 in
theorem integer_r (n : Int) (W : World) (h1 : -1000000000000000000 < n) (h2 : n < 1000000000000000000) : Calls Tryz.prog 53 #[.int .i64 n] W fun e w' => e = .returned (.string ⟨(intP n).toArray⟩) ∧ Below W.heap.size W w' := by
  have hdc := decimal7_r n.natAbs 1 W (by omega) (by decide)
  rw [← decP_fix (by omega)] at hdc
  obtain ⟨D, hD⟩ : ∃ D : ByteArray, D = ⟨(decP n.natAbs).toArray⟩ := ⟨_, rfl⟩
  have hDs : D.size ≤ 21 := by
    rw [hD, ← list_len]
    show (decP n.natAbs).length ≤ 21
    have := (lenD_le n.natAbs 18).2 (by omega)
    rw [decP_fix (by omega), fixD_len]; omega
  rw [← hD] at hdc
  by_cases hneg : n < 0
  · obtain ⟨S, hS⟩ : ∃ S : ByteArray, S = ⟨#[45]⟩ ++ D := ⟨_, rfl⟩
    have q1 : (⟨#[45]⟩ : ByteArray) ++ D = S := hS.symm
    have e1 : (9223372036854775807 < 1 + D.size) = False := eq_false (by omega)
    have hV : Hid (S = ⟨(intP n).toArray⟩) := Lib.hid (by
      rw [hS, hD]; unfold intP; rw [if_pos hneg]; rfl)
    have ga : ((n.natAbs : Nat) : Int) = -n := by omega
    rw [ga] at hdc
    replace ga := Lib.hid ga
    replace hS := Lib.hid hS
    replace hD := Lib.hid hD
    go_enter Tryz.func53, Tryz.ntmps53
    go_wp2_with fail
    refine hdc.mono ?_
    rintro e w ⟨rfl, hb⟩
    go_wp2_with fail
    go_ret
    exact ⟨by rw [← hV.out]; rfl, hb⟩
  · have hV : Hid (D = ⟨(intP n).toArray⟩) := Lib.hid (by
      rw [hD]; unfold intP; rw [if_neg hneg]; rfl)
    have ga : ((n.natAbs : Nat) : Int) = n := by omega
    rw [ga] at hdc
    replace ga := Lib.hid ga
    replace hD := Lib.hid hD
    go_enter Tryz.func53, Tryz.ntmps53
    go_wp2_with fail
    refine hdc.mono ?_
    rintro e w ⟨rfl, hb⟩
    go_wp2_with fail
    go_ret
    exact ⟨by rw [← hV.out]; rfl, hb⟩
end Go.Proofs.YtgobpoeccdgeiaaGreatDoor
