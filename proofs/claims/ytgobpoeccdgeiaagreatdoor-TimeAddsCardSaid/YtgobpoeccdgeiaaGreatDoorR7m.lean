/- Package chiselref07: digits, whole. -/
import Derived.Test.YtgobpoeccdgeiaaGreatDoorR7k
import Derived.Test.YtgobpoeccdgeiaaGreatDoorR7l
namespace Go.Proofs.YtgobpoeccdgeiaaGreatDoor
open Go.RowKit NumP DigP DurP TimeP Go.Proofs.YtgobpoeccdgeiaaGreatDoorW.PrintWords
set_option linter.unusedVariables false

theorem valD_snoc7 (l : List UInt8) (c : UInt8) : valD (l ++ [c]) = 10 * valD l + (c.toNat - 48) := by
  unfold valD valF
  rw [List.foldl_append]; rfl
theorem valD_take {s : ByteArray} {i : Nat} (h : i < s.size) : valD (s.data.toList.take (i + 1)) = 10 * valD (s.data.toList.take i) + (s[i].toNat - 48) := by
  have hl : i < s.data.toList.length := by rw [list_len]; exact h
  have he : s.data.toList.take (i + 1) = s.data.toList.take i ++ [s[i]] := by
    rw [List.take_add_one, data_at s i h]; rfl
  rw [he, valD_snoc7]
theorem valD_max {l : List UInt8} (h : ∀ c ∈ l, isDig c = true) (hl : l.length ≤ 17) : valD l ≤ 99999999999999999 := by
  have := valD_lt l h
  have h2 : 10 ^ l.length ≤ 10 ^ 17 := Nat.pow_le_pow_right (by decide) hl
  omega
set_option maxRecDepth 100000 in
set_option maxHeartbeats 2000000 in
theorem digits7_r (s : ByteArray) (W : World) (hs : s.size ≤ 17) (hd : ∀ c ∈ s.data.toList, isDig c = true) : Calls Tryz.prog 83 #[.string s] W fun e w' => e = .returned (.int .i64 (valD s.data.toList : Nat)) ∧ W = w' := by
  have hm : Hid (∀ i, valD (s.data.toList.take i) ≤ 99999999999999999) := Lib.hid (fun i => valD_max (fun c hc => hd c (List.mem_of_mem_take hc)) (by rw [List.length_take, list_len]; omega))
  have hd2 : Hid (∀ i (h : i < s.size), 48 ≤ s[i].toNat ∧ s[i].toNat ≤ 57) := Lib.hid (fun i h => by
    have hm : s[i] ∈ s.data.toList := List.mem_of_getElem? (data_at s i h)
    have := hd _ hm
    simp only [isDig, Bool.and_eq_true, decide_eq_true_eq] at this
    exact this)
  replace hd := Lib.hid hd
  go_enter Tryz.func83, Tryz.ntmps83
  go_wp2_with fail
  go_loopw [3, 4] (fun nv iv wr => ∃ (n : Int) (i : Nat), nv = .int .i64 n ∧ iv = .int .i64 (i : Int) ∧ i ≤ s.size ∧ 0 ≤ n ∧ n ≤ 99999999999999999 ∧ Hid (n = ((valD (s.data.toList.take i) : Nat) : Int)) ∧ W = wr) (fun _ iv _ => s.size - (intOf iv).toNat)
  case atStart => exact ⟨0, 0, rfl, rfl, by omega, by omega, by omega, Lib.hid (by rfl), rfl⟩
  case round =>
    obtain ⟨n, i, rfl, rfl, hi, hn1, hn2, hn, hw⟩ := hrel
    subst hw
    by_cases hlt : i < s.size
    · have gi : (i : Int) < (s.size : Int) := by omega
      obtain ⟨h1, h2⟩ := hd2.out i hlt
      have hst := valD_take hlt
      have hmx := hm.out (i + 1)
      obtain ⟨v, hv⟩ : ∃ v : Int, v = (s[i].toNat : Int) - 48 := ⟨_, rfl⟩
      have gv : (s[i].toNat : Int) - 48 = v := hv.symm
      have gv0 : 0 ≤ v ∧ v ≤ 9 := by omega
      have gw : IntKind.u8.wrap ((s[i].toNat : Int) - 48) = v := by rw [gv]; exact IntWalk.u8_in _ (by omega)
      have hn3 : Hid (10 * n + v = ((valD (s.data.toList.take (i + 1)) : Nat) : Int)) := Lib.hid (by rw [hst, hv, hn.out]; omega)
      have hn4 : 10 * n + v ≤ 99999999999999999 := by rw [hn3.out]; omega
      clear hst hmx hv
      go_wp2_with fail
      go_roundw
      case rel => exact ⟨10 * n + v, i + 1, by first | rfl | go_num, by go_num, by omega, by omega, hn4, hn3, trivial⟩
      case measure => simp [intOf]; omega
    · have hv : Hid (n = ((valD s.data.toList : Nat) : Int)) := Lib.hid (by
        rw [hn.out, List.take_of_length_le (by rw [list_len]; omega)])
      go_wp2_with fail
      go_ret
      exact ⟨by rw [← hv.out]; rfl, rfl⟩
theorem int_parts {D : Int} (h : D.natAbs < 10 ^ 17) : (intP D = (if D < 0 then [45] else []) ++ decP D.natAbs) ∧ (∀ c ∈ decP D.natAbs, isDig c = true) ∧ decP D.natAbs ≠ [] ∧ valD (decP D.natAbs) = D.natAbs ∧ (decP D.natAbs).length ≤ 17 := by
  obtain ⟨hd, h0, hv⟩ := decP_dig (n := D.natAbs) (by omega)
  refine ⟨rfl, hd, h0, hv, ?_⟩
  have := (lenD_le D.natAbs 17).2 h
  rw [decP_fix (by omega), fixD_len]
  omega
set_option maxRecDepth 100000 in
set_option maxHeartbeats 2000000 in
theorem whole7_r (s : ByteArray) (D : Int) (W : World) (hD : D.natAbs < 10 ^ 17) (hs : s.data.toList = intP D) : Calls Tryz.prog 101 #[.string s] W fun e w' => e = .returned (.int .i64 D) ∧ W = w' := by
  obtain ⟨e, hdg, h0, hv, hl⟩ := int_parts hD
  rw [e] at hs
  by_cases hneg : D < 0
  · rw [if_pos hneg] at hs
    have hsz : s.size = (decP D.natAbs).length + 1 := by rw [← list_len, hs]; simp
    have hp : 0 < s.size := by omega
    have hat := data_at s 0 hp
    rw [hs] at hat
    have h45 : (s[0]'hp) = 45 := (Option.some.inj hat).symm
    have g2 : (((s[0]'hp).toNat : Int) == 45) = true := by rw [h45]; rfl
    have hex : (s.extract 1 s.size).data.toList = decP D.natAbs := by
      have := drop_mk s 1
      have h3 := congrArg (fun b : ByteArray => b.data.toList) this
      simp only at h3
      rw [← h3, hs]; rfl
    have hdi := Lib.hid (fun w => digits7_r (s.extract 1 s.size) w (by rw [← list_len, hex]; exact hl) (by rw [hex]; exact hdg))
    rw [hex, hv] at hdi
    have g3 : (1 : Int) ≤ (s.size : Int) := by omega
    have g4 : 1 ≤ s.size := by omega
    obtain ⟨m, hm⟩ : ∃ m : Nat, m = D.natAbs := ⟨_, rfl⟩
    rw [← hm] at hdi
    have g5 : -(m : Int) = D := by omega
    have g6 : (m : Int) ≤ 99999999999999999 := by omega
    replace h45 := Lib.hid h45
    clear hat hs e hdg h0 hv hl hex hm hD hneg hsz
    go_enter Tryz.func101, Tryz.ntmps101
    go_wp2_with fail
    refine (hdi.out _).mono ?_
    rintro e w ⟨rfl, rfl⟩
    go_wp2_with fail
    go_ret
    exact ⟨rfl, rfl⟩
  · rw [if_neg hneg, List.nil_append] at hs
    have hp : 0 < s.size := by rw [← list_len, hs]; exact List.length_pos_iff.2 h0
    have hat := data_at s 0 hp
    have hm0 : (s[0]'hp) ∈ s.data.toList := List.mem_of_getElem? hat
    have h45 : (s[0]'hp) ≠ 45 := dig_ne (hdg _ (hs ▸ hm0)) (by decide)
    have g2 : (((s[0]'hp).toNat : Int) == 45) = false := by rw [show (45 : Int) = ((45 : UInt8).toNat : Int) from rfl, byte_eq]; simpa using h45
    have hdi := Lib.hid (fun w => digits7_r s w (by rw [← list_len, hs]; exact hl) (by rw [hs]; exact hdg))
    rw [hs, hv, show ((D.natAbs : Nat) : Int) = D by omega] at hdi
    replace h45 := Lib.hid h45
    clear hat hs e hdg h0 hv hl hD hneg hm0
    go_enter Tryz.func101, Tryz.ntmps101
    go_wp2_with fail
    refine (hdi.out _).mono ?_
    rintro e w ⟨rfl, rfl⟩
    go_wp2_with fail
    go_ret
    exact ⟨rfl, rfl⟩
end Go.Proofs.YtgobpoeccdgeiaaGreatDoor
