/- Package chiselref07: digits, whole. -/
import Derived.Test.YtgobpoeccdgeiaaGreatDoorR7k
namespace Go.Proofs.YtgobpoeccdgeiaaGreatDoor
open Go.RowKit NumP DigP DurP TimeP Go.Proofs.YtgobpoeccdgeiaaGreatDoorW.PrintWords
set_option linter.unusedVariables false

theorem valD_snoc7 (l : List UInt8) (c : UInt8) : valD (l ++ [c]) = 10 * valD l + (c.toNat - 48) := by
  unfold valD valF
  rw [List.foldl_append]; rfl
theorem valD_take {s : ByteArray} {i : Nat} (h : i < s.size) : valD (s.data.toList.take (i + 1)) = 10 * valD (s.data.toList.take i) + (s[i].toNat - 48) := by
  have hl : i < s.data.toList.length := by rw [list_len]; exact h
  have he : s.data.toList.take (i + 1) = s.data.toList.take i ++ [s[i]] := by
    rw [List.take_add_one, data_at s i h]; rfl
  rw [he, valD_snoc7]
theorem valD_max {l : List UInt8} (h : ∀ c ∈ l, isDig c = true) (hl : l.length ≤ 17) : valD l ≤ 99999999999999999 := by
  have := valD_lt l h
  have h2 : 10 ^ l.length ≤ 10 ^ 17 := Nat.pow_le_pow_right (by decide) hl
  omega
set_option maxRecDepth 100000 in
set_option maxHeartbeats 2000000 in
theorem digits7_r (s : ByteArray) (W : World) (hs : s.size ≤ 17) (hd : ∀ c ∈ s.data.toList, isDig c = true) : Calls Tryz.prog 83 #[.string s] W fun e w' => e = .returned (.int .i64 (valD s.data.toList : Nat)) ∧ W = w' := by
  have hm : Hid (∀ i, valD (s.data.toList.take i) ≤ 99999999999999999) := Lib.hid (fun i => valD_max (fun c hc => hd c (List.mem_of_mem_take hc)) (by rw [List.length_take, list_len]; omega))
  have hd2 : Hid (∀ i (h : i < s.size), 48 ≤ s[i].toNat ∧ s[i].toNat ≤ 57) := Lib.hid (fun i h => by
    have hm : s[i] ∈ s.data.toList := List.mem_of_getElem? (data_at s i h)
    have := hd _ hm
    simp only [isDig, Bool.and_eq_true, decide_eq_true_eq] at this
    exact this)
  replace hd := Lib.hid hd
  go_enter Tryz.func83, Tryz.ntmps83
  go_wp2_with fail
  go_loopw [3, 4] (fun nv iv wr => ∃ (n : Int) (i : Nat), nv = .int .i64 n ∧ iv = .int .i64 (i : Int) ∧ i ≤ s.size ∧ 0 ≤ n ∧ n ≤ 99999999999999999 ∧ Hid (n = ((valD (s.data.toList.take i) : Nat) : Int)) ∧ W = wr) (fun _ iv _ => s.size - (intOf iv).toNat)
  case atStart => exact ⟨0, 0, rfl, rfl, by omega, by omega, by omega, Lib.hid (by rfl), rfl⟩
  case round =>
    obtain ⟨n, i, rfl, rfl, hi, hn1, hn2, hn, hw⟩ := hrel
    subst hw
    by_cases hlt : i < s.size
    · have gi : (i : Int) < (s.size : Int) := by omega
      obtain ⟨h1, h2⟩ := hd2.out i hlt
      have hst := valD_take hlt
      have hmx := hm.out (i + 1)
      obtain ⟨v, hv⟩ : ∃ v : Int, v = (s[i].toNat : Int) - 48 := ⟨_, rfl⟩
      have gv : (s[i].toNat : Int) - 48 = v := hv.symm
      have gv0 : 0 ≤ v ∧ v ≤ 9 := by omega
      have gw : IntKind.u8.wrap ((s[i].toNat : Int) - 48) = v := by rw [gv]; exact IntWalk.u8_in _ (by omega)
      have hn3 : Hid (10 * n + v = ((valD (s.data.toList.take (i + 1)) : Nat) : Int)) := Lib.hid (by rw [hst, hv, hn.out]; omega)
      have hn4 : 10 * n + v ≤ 99999999999999999 := by rw [hn3.out]; omega
      clear hst hmx hv
      go_wp2_with fail
      go_roundw
      case rel => exact ⟨10 * n + v, i + 1, by first | rfl | go_num, by go_num, by omega, by omega, hn4, hn3, trivial⟩
      case measure => simp [intOf]; omega
    · have hv : Hid (n = ((valD s.data.toList : Nat) : Int)) := Lib.hid (by
        rw [hn.out, List.take_of_length_le (by rw [list_len]; omega)])
      go_wp2_with fail
      go_ret
      exact ⟨by rw [← hv.out]; rfl, rfl⟩
end Go.Proofs.YtgobpoeccdgeiaaGreatDoor
