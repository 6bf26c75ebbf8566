/- Package chiselref07: local, Seconds, Weekday (printed by genloc7.py). -/
import Derived.Test.YtgobpoeccdgeiaaGreatDoorR7g
import Derived.Deep.RegionHeld3
namespace Go.Proofs.YtgobpoeccdgeiaaGreatDoor.TimeP
open NumP DurP
set_option linter.unusedVariables false

theorem lenD_shift {k : Nat} (hk : 0 < k) : lenD (k * P20) = lenD k + 20 := by
  have h1 : lenD (k * P20) ≤ lenD k + 20 := by
    rw [lenD_le, Nat.pow_add]
    exact Nat.mul_lt_mul_of_pos_right ((lenD_le k (lenD k)).1 (Nat.le_refl _)) (by decide)
  have h2 : lenD k + 20 ≤ lenD (k * P20) := by
    obtain ⟨m, hm⟩ : ∃ m, m = lenD (k * P20) := ⟨_, rfl⟩
    have h3 := (lenD_le (k * P20) m).1 (by omega)
    rw [← hm]
    by_cases h : m < 20
    · have h5 : 10 ^ m ≤ P20 := Nat.pow_le_pow_right (by decide) (by omega)
      have h6 : 1 * P20 ≤ k * P20 := Nat.mul_le_mul_right _ hk
      omega
    · obtain ⟨j, rfl⟩ : ∃ j, m = j + 20 := ⟨m - 20, by omega⟩
      rw [Nat.pow_add] at h3
      have h4 : k < 10 ^ j := Nat.lt_of_mul_lt_mul_right h3
      have := (lenD_le k j).2 h4
      omega
  omega
theorem trimZ_all (j : Nat) : trimZ (List.replicate j 48) = [] := by
  have := trimZ_zeros j []
  rw [List.nil_append] at this
  rw [this]; rfl
theorem textN_sign (x : NumP.Num) : textN x = (if x.neg then [45] else []) ++ tx x.d := by
  unfold tx textN
  simp
theorem tx_int (k : Nat) (h : k < 10 ^ 21) : tx (k * P20) = decP k := by
  rw [decP_fix h]
  have hK : max 21 (lenD (k * P20)) = max 1 (lenD k) + 20 := by
    rcases Nat.eq_zero_or_pos k with rfl | hk
    · rw [Nat.zero_mul]; decide +kernel
    · rw [lenD_shift hk]; omega
  unfold tx textN
  simp only
  rw [hK, show k * P20 = k * 10 ^ 20 from rfl, fixD_zeros]
  have hl : (fixD (max 1 (lenD k)) k ++ List.replicate 20 48).length - 20 = (fixD (max 1 (lenD k)) k).length := by
    rw [List.length_append, List.length_replicate]; omega
  rw [hl, List.take_left, List.drop_left, trimZ_all]
  simp
theorem intP_num {n : Int} (h : n.natAbs < 10 ^ 18) : intP n = textN (numU (n * 1000000)) := by
  rw [textN_sign]
  unfold intP numU
  have h1 : (n * 1000000).natAbs * P14 = n.natAbs * P20 := by
    rw [Int.natAbs_mul, show P20 = (1000000 : Int).natAbs * P14 from rfl, Nat.mul_assoc]
  show _ = (if decide (n * 1000000 < 0) = true then [45] else []) ++ tx ((n * 1000000).natAbs * P14)
  rw [h1, tx_int _ (by omega)]
  congr 1
  by_cases hn : n < 0
  · rw [if_pos hn, if_pos (decide_eq_true (by omega))]
  · rw [if_neg hn, if_neg (fun e => by have := of_decide_eq_true e; omega)]
end Go.Proofs.YtgobpoeccdgeiaaGreatDoor.TimeP
namespace Go.Proofs.YtgobpoeccdgeiaaGreatDoor
open Go.RowKit NumP DigP DurP TimeP Go.Proofs.YtgobpoeccdgeiaaGreatDoorW.PrintWords
set_option linter.unusedVariables false

theorem subT_U {a b : Int} (ha : a.natAbs < 10 ^ 29) (hb : b.natAbs < 10 ^ 29) : subT (textN (numU a)) (textN (numU b)) = (textN (numU (a - b)), 0) := by
  have ga := numU_good (a := a) (by omega)
  have gb := numU_good (a := b) (by omega)
  have gc := numU_good (a := a - b) (by omega)
  have hs := subT_val ga gb
  have e : toI (numU a) - toI (numU b) = toI (numU (a - b)) := by rw [toI_numU, toI_numU, toI_numU, Int.sub_mul]
  rw [e, toI_abs, if_pos gc.1, ofI_toI gc] at hs
  exact hs
theorem mom_later {V : World} {q : Nat} {y mo d h mi : Int} {s : ByteArray} {z : Int} {has : Bool} (hq : Hid (q < V.heap.size)) {w w2 : World}
    (e : w.cell? ⟨q, 0, none⟩ = some (.int .i64 (y : Int)) ∧ w.cell? ⟨q, 1, none⟩ = some (.int .i64 (mo : Int)) ∧ w.cell? ⟨q, 2, none⟩ = some (.int .i64 (d : Int)) ∧ w.cell? ⟨q, 3, none⟩ = some (.int .i64 (h : Int)) ∧ w.cell? ⟨q, 4, none⟩ = some (.int .i64 (mi : Int)) ∧ w.cell? ⟨q, 5, none⟩ = some (.string s) ∧ w.cell? ⟨q, 6, none⟩ = some (.int .i64 (z : Int)) ∧ w.cell? ⟨q, 7, none⟩ = some (.bool has) ∧ Hid (Below V.heap.size V w)) (hb : Below w.heap.size w w2) : w2.cell? ⟨q, 0, none⟩ = some (.int .i64 (y : Int)) ∧ w2.cell? ⟨q, 1, none⟩ = some (.int .i64 (mo : Int)) ∧ w2.cell? ⟨q, 2, none⟩ = some (.int .i64 (d : Int)) ∧ w2.cell? ⟨q, 3, none⟩ = some (.int .i64 (h : Int)) ∧ w2.cell? ⟨q, 4, none⟩ = some (.int .i64 (mi : Int)) ∧ w2.cell? ⟨q, 5, none⟩ = some (.string s) ∧ w2.cell? ⟨q, 6, none⟩ = some (.int .i64 (z : Int)) ∧ w2.cell? ⟨q, 7, none⟩ = some (.bool has) ∧ Hid (Below V.heap.size V w2) := by
  obtain ⟨c0, c1, c2, c3, c4, c5, c6, c7, h⟩ := e
  have hl := Nat.lt_of_lt_of_le hq.out h.out.size
  have hb2 := h.out.trans (hb.mono h.out.size)
  refine ⟨?_, ?_, ?_, ?_, ?_, ?_, ?_, ?_, Lib.hid hb2⟩ <;> (rw [hb.cell (p := ⟨q, _, none⟩) hl]; assumption)
theorem day_epoch (w : World) : Calls Tryz.prog 55 #[.int .i64 1970, .int .i64 1, .int .i64 1] w fun e w' => e = .returned (.int .i64 719162) ∧ w = w' := by
  have := Number_r 1970 1 1 w (by decide) (by decide) (by decide) (by decide) (by decide) (by decide)
  rw [show dayN 1970 1 1 = 719162 by decide +kernel] at this
  exact this
theorem numU_short {T : Int} (h : T.natAbs < 10 ^ 29) : (textN (numU T)).length ≤ 60 := by
  exact textN_len (numU_good (a := T) (by omega)).1
theorem u_small {T z : Int} (h : -62135596800000000 ≤ T ∧ T < 315537897600000000) (h1 : -840 ≤ z) (h2 : z ≤ 840) : (T - z * 60000000).natAbs < 10 ^ 20 := by omega
theorem t_small {T : Int} (h : -62135596800000000 ≤ T ∧ T < 315537897600000000) : T.natAbs < 10 ^ 29 := by omega
theorem lenM_le31 (y m : Nat) : lenM y m ≤ 31 := by
  unfold lenM
  split
  · split <;> omega
  · split <;> omega
theorem int_short {n : Int} (h : n.natAbs < 10 ^ 18) : (intP n).length ≤ 20 := by
  unfold intP
  have := (lenD_le n.natAbs 18).2 h
  rw [List.length_append, decP_fix (by omega), fixD_len]
  split <;> simp <;> omega
set_option maxRecDepth 100000 in
set_option maxHeartbeats 4000000 in
theorem local7_r (y mo d h mi n : Nat) (s : ByteArray) (z : Int) (has : Bool) (W : World) (hp : Parts y mo d h mi n) (hs : s.data.toList = tx (n * P14)) (hsl : s.size ≤ maxLen) : Calls Tryz.prog 52 #[.agg #[.int .i64 y, .int .i64 mo, .int .i64 d, .int .i64 h, .int .i64 mi, .string s, .int .i64 z, .bool has]] W fun e w' => e = .returned (.string ⟨(textN (numU ((micU y mo d h mi n : Int) - epoch))).toArray⟩) ∧ Below W.heap.size W w' := by
  have hmu := micU_lt hp
  obtain ⟨⟨y1, m1, m2, d1, d2⟩, y2, h2, i2, n2⟩ := hp
  have hd31 := lenM_le31 y mo
  have hN := fun w => Number_r y mo d w y1 (by omega) m1 m2 d1 (by omega)
  obtain ⟨D, hD⟩ : ∃ D, D = dayN y mo d := ⟨_, rfl⟩
  have hDl : D < 3652059 := by unfold micU at hmu; rw [← hD] at hmu; omega
  rw [← hD] at hN
  obtain ⟨T, hT⟩ : ∃ T, T = (D : Int) - 719162 := ⟨_, rfl⟩
  obtain ⟨E1, hE1⟩ : ∃ T', T' = 86400 * T := ⟨_, rfl⟩
  obtain ⟨E2, hE2⟩ : ∃ T', T' = 3600 * (h : Int) := ⟨_, rfl⟩
  obtain ⟨E3, hE3⟩ : ∃ T', T' = E1 + E2 := ⟨_, rfl⟩
  obtain ⟨E4, hE4⟩ : ∃ T', T' = 60 * (mi : Int) := ⟨_, rfl⟩
  obtain ⟨N, hNe⟩ : ∃ T', T' = E3 + E4 := ⟨_, rfl⟩
  have hNb : -100000000000 < N ∧ N < 1000000000000 := by omega
  have hmic : ((micU y mo d h mi n : Nat) : Int) - epoch = N * 1000000 + (n : Int) := by
    unfold micU epoch
    rw [← hD]
    omega
  obtain ⟨R, hR⟩ : ∃ R : ByteArray, R = ⟨(textN (numU ((micU y mo d h mi n : Int) - epoch))).toArray⟩ := ⟨_, rfl⟩
  rw [← hR]
  obtain ⟨sI, hsI⟩ : ∃ R : ByteArray, R = ⟨(intP N).toArray⟩ := ⟨_, rfl⟩
  have hsIl : sI.size ≤ maxLen := by
    rw [hsI, ← list_len]
    have := int_short (n := N) (by omega)
    exact Nat.le_trans this (by decide)
  have ci := Lib.hid (fun (w : World) => (show Calls Tryz.prog 53 #[.int .i64 N] w fun e w' => e = .returned (.string sI) ∧ Below w.heap.size w w' by
    rw [hsI]; exact integer_r N w (by omega) (by omega)))
  have ca := Lib.hid (fun (w : World) => (show Calls Tryz.prog 58 #[.string sI, .string s] w fun e w' => e = .returned (.tuple #[.string R, .int .i64 0]) ∧ Below w.heap.size w w' by
    have := Add_r sI s w hsIl hsl
    unfold OutE at this
    rw [hsI] at this
    show Calls _ _ #[.string sI, .string s] w _
    rw [hsI]
    rw [show (⟨(intP N).toArray⟩ : ByteArray).data.toList = intP N from rfl, intP_num (by omega), hs, ← numU_nat, addT_U (by omega) (by omega), ← hmic, ← hR, ← intP_num (by omega)] at this
    exact this))
  have g1 : IntKind.i64.wrap (86400 * T) = E1 := by rw [hE1]; exact IntWalk.i64_in _ (by omega)
  have g1' : IntKind.i64.wrap E1 = E1 := IntWalk.i64_in _ (by omega)
  have g2 : IntKind.i64.wrap (3600 * (h : Int)) = E2 := by rw [hE2]; exact IntWalk.i64_in _ (by omega)
  have g2' : IntKind.i64.wrap E2 = E2 := IntWalk.i64_in _ (by omega)
  have g3 : IntKind.i64.wrap (E1 + E2) = E3 := by rw [hE3]; exact IntWalk.i64_in _ (by omega)
  have g3' : IntKind.i64.wrap E3 = E3 := IntWalk.i64_in _ (by omega)
  have g4 : IntKind.i64.wrap (60 * (mi : Int)) = E4 := by rw [hE4]; exact IntWalk.i64_in _ (by omega)
  have g4' : IntKind.i64.wrap E4 = E4 := IntWalk.i64_in _ (by omega)
  have g5 : IntKind.i64.wrap (E3 + E4) = N := by rw [hNe]; exact IntWalk.i64_in _ (by omega)
  have g5' : IntKind.i64.wrap N = N := IntWalk.i64_in _ (by omega)
  have g0 : (D : Int) - 719162 = T := hT.symm
  have hTb : -800000 < T ∧ T < 4000000 := by omega
  replace hN := Lib.hid hN
  replace hR := Lib.hid hR
  replace hsI := Lib.hid hsI
  replace hs := Lib.hid hs
  replace hD := Lib.hid hD
  replace hmic := Lib.hid hmic
  clear hmu hT hE1 hE2 hE3 hE4 hNe hd31 d2
  obtain ⟨W1, hW1⟩ : ∃ w, w = W.alloc (.cells #[.int .i64 y, .int .i64 mo, .int .i64 d, .int .i64 h, .int .i64 mi, .string s, .int .i64 z, .bool has] 28) := ⟨_, rfl⟩
  obtain ⟨q, hq⟩ : ∃ q, q = W.heap.size := ⟨_, rfl⟩
  have hx1 : W1.heap[q]? = some (.cells #[.int .i64 y, .int .i64 mo, .int .i64 d, .int .i64 h, .int .i64 mi, .string s, .int .i64 z, .bool has] 28 (0, 0)) := by rw [hW1, hq]; exact (MapKept.heap_alloc _ _).1
  have hb1 : Hid (Below W.heap.size W W1) := Lib.hid (by rw [hW1]; exact (Below.refl _ _).alloc (Nat.le_refl _) _)
  have hM1 := Lib.hid (MomAt.of_heap hx1)
  have hqlt : Hid (q < W1.heap.size) := Lib.hid (heap_lt hx1)
  obtain ⟨c0, c1, c2, c3, c4, c5, c6, c7⟩ := hM1.out
  clear hx1
  go_enter Tryz.func52, Tryz.ntmps52
  go_upto_region 1 with fail
  rw [← hW1, ← hq]
  replace hW1 := Lib.hid hW1
  replace hq := Lib.hid hq
  go_wp2_with fail
  refine (hN.out W1).mono ?_
  rintro e w ⟨rfl, rfl⟩
  go_wp2_with fail
  refine (day_epoch W1).mono ?_
  rintro e w ⟨rfl, rfl⟩
  have hS := Lib.hid (show W1.drew.cell? ⟨q, 0, none⟩ = some (.int .i64 (y : Int)) ∧ W1.drew.cell? ⟨q, 1, none⟩ = some (.int .i64 (mo : Int)) ∧ W1.drew.cell? ⟨q, 2, none⟩ = some (.int .i64 (d : Int)) ∧ W1.drew.cell? ⟨q, 3, none⟩ = some (.int .i64 (h : Int)) ∧ W1.drew.cell? ⟨q, 4, none⟩ = some (.int .i64 (mi : Int)) ∧ W1.drew.cell? ⟨q, 5, none⟩ = some (.string s) ∧ W1.drew.cell? ⟨q, 6, none⟩ = some (.int .i64 (z : Int)) ∧ W1.drew.cell? ⟨q, 7, none⟩ = some (.bool has) ∧ Hid (Below W1.heap.size W1 W1.drew) from ⟨c0, c1, c2, c3, c4, c5, c6, c7, Lib.hid (Below.refl _ _).drew⟩)
  go_upto_region 2 with fail
  clear c0 c1 c2 c3 c4 c5 c6 c7
  go_region_held3 (fun w' => w'.cell? ⟨q, 0, none⟩ = some (.int .i64 (y : Int)) ∧ w'.cell? ⟨q, 1, none⟩ = some (.int .i64 (mo : Int)) ∧ w'.cell? ⟨q, 2, none⟩ = some (.int .i64 (d : Int)) ∧ w'.cell? ⟨q, 3, none⟩ = some (.int .i64 (h : Int)) ∧ w'.cell? ⟨q, 4, none⟩ = some (.int .i64 (mi : Int)) ∧ w'.cell? ⟨q, 5, none⟩ = some (.string s) ∧ w'.cell? ⟨q, 6, none⟩ = some (.int .i64 (z : Int)) ∧ w'.cell? ⟨q, 7, none⟩ = some (.bool has) ∧ Hid (Below W1.heap.size W1 w'))
    (first | exact hS.out | assumption | exact mom_later hqlt (by assumption) (by assumption))
    (first
      | (go_at_call 53; refine (ci.out _).mono ?_; rintro e w' ⟨rfl, hbb⟩)
      | (go_at_call 58; refine (ca.out _).mono ?_; rintro e w' ⟨rfl, hbb⟩))
  rename_i hH
  obtain ⟨-, -, -, -, -, -, -, -, hb2⟩ := hH
  go_wp2_with fail
  go_ret
  exact ⟨rfl, hb1.out.trans (hb2.out.mono hb1.out.size)⟩
theorem mom_nat {y mo d h mi : Int} {s : ByteArray} {z : Int} {has : Bool} (hv : validP ⟨y, mo, d, h, mi, s.data.toList, z, has⟩ = true) : ∃ y' mo' d' h' mi' n : Nat, y = y' ∧ mo = mo' ∧ d = d' ∧ h = h' ∧ mi = mi' ∧ s.data.toList = tx (n * P14) ∧ Parts y' mo' d' h' mi' n ∧ Zone z has ∧ (⟨y, mo, d, h, mi, s.data.toList, z, has⟩ : Mom) = mkM y' mo' d' h' mi' n z has := by
  obtain ⟨y', mo', d', h', mi', n, e, hp, hz⟩ := valid_of hv
  unfold mkM at e
  have e2 := e
  simp only [Mom.mk.injEq] at e2
  exact ⟨y', mo', d', h', mi', n, e2.1, e2.2.1, e2.2.2.1, e2.2.2.2.1, e2.2.2.2.2.1, e2.2.2.2.2.2.1, hp, hz, e⟩
set_option maxRecDepth 100000 in
set_option maxHeartbeats 4000000 in
theorem Seconds7_r (y mo d h mi : Int) (s : ByteArray) (z : Int) (has : Bool) (W : World) (hsl : s.size ≤ maxLen) : Calls Tryz.prog 21 #[.agg #[.int .i64 y, .int .i64 mo, .int .i64 d, .int .i64 h, .int .i64 mi, .string s, .int .i64 z, .bool has]] W fun e w' => e = .returned (.tuple #[.string ⟨(secondsT ⟨y, mo, d, h, mi, s.data.toList, z, has⟩).1.toArray⟩, .int .i64 (secondsT ⟨y, mo, d, h, mi, s.data.toList, z, has⟩).2]) ∧ Below W.heap.size W w' := by
  have hva := Lib.hid (fun w => Valid7_r y mo d h mi s z has w hsl)
  cases hv : validP ⟨y, mo, d, h, mi, s.data.toList, z, has⟩ with
  | false =>
    rw [show secondsT ⟨y, mo, d, h, mi, s.data.toList, z, has⟩ = ([], 1) by unfold secondsT; rw [hv]; rfl]
    rw [hv] at hva
    clear hv
    obtain ⟨W1, hW1⟩ : ∃ w, w = W.alloc (.cells #[.int .i64 y, .int .i64 mo, .int .i64 d, .int .i64 h, .int .i64 mi, .string s, .int .i64 z, .bool has] 28) := ⟨_, rfl⟩
    obtain ⟨q, hq⟩ : ∃ q, q = W.heap.size := ⟨_, rfl⟩
    have hx1 : W1.heap[q]? = some (.cells #[.int .i64 y, .int .i64 mo, .int .i64 d, .int .i64 h, .int .i64 mi, .string s, .int .i64 z, .bool has] 28 (0, 0)) := by rw [hW1, hq]; exact (MapKept.heap_alloc _ _).1
    have hb1 : Hid (Below W.heap.size W W1) := Lib.hid (by rw [hW1]; exact (Below.refl _ _).alloc (Nat.le_refl _) _)
    have hM1 := Lib.hid (MomAt.of_heap hx1)
    have hqlt : Hid (q < W1.heap.size) := Lib.hid (heap_lt hx1)
    obtain ⟨c0, c1, c2, c3, c4, c5, c6, c7⟩ := hM1.out
    clear hx1
    go_enter Tryz.func21, Tryz.ntmps21
    go_upto_region 1 with fail
    rw [← hW1, ← hq]
    replace hW1 := Lib.hid hW1
    replace hq := Lib.hid hq
    go_wp2_with fail
    refine (hva.out W1).mono ?_
    rintro e w2 ⟨rfl, hb2⟩
    clear c0 c1 c2 c3 c4 c5 c6 c7
    go_wp2_with fail
    go_ret2
    exact ⟨rfl, hb1.out.trans (hb2.mono hb1.out.size)⟩
  | true =>
    obtain ⟨y', mo', d', h', mi', n, ey, emo, ed, eh, emi, hs, hp, hz, em⟩ := mom_nat hv
    have ht := total_bounds hv
    obtain ⟨R, hR⟩ : ∃ R : ByteArray, R = ⟨(secondsT ⟨y, mo, d, h, mi, s.data.toList, z, has⟩).1.toArray⟩ := ⟨_, rfl⟩
    have hse : secondsT ⟨y, mo, d, h, mi, s.data.toList, z, has⟩ = (decU (totalP ⟨y, mo, d, h, mi, s.data.toList, z, has⟩ - z * 60000000), 0) := by unfold secondsT; rw [hv]; rfl
    rw [← hR, show (secondsT ⟨y, mo, d, h, mi, s.data.toList, z, has⟩).2 = 0 by rw [hse]]
    rw [hse] at hR
    rw [hv] at hva
    obtain ⟨T, hTe⟩ : ∃ T, T = totalP ⟨y, mo, d, h, mi, s.data.toList, z, has⟩ := ⟨_, rfl⟩
    have hT : T = (micU y' mo' d' h' mi' n : Int) - epoch := by rw [hTe, em, total_mk hp.n2]
    rw [← hTe] at hR ht
    have ht0 : -62135596800000000 ≤ T ∧ T < 315537897600000000 := by
      have e1 : epoch = 62135596800000000 := rfl
      rw [e1] at ht
      omega
    have hz1 := hz.lo
    have hz2 := hz.hi
    rw [decU_eq (u_small ht0 hz1 hz2)] at hR
    have hlo := Lib.hid (fun w => local7_r y' mo' d' h' mi' n s z has w hp hs hsl)
    rw [← hT] at hlo
    rw [← ey, ← emo, ← ed, ← eh, ← emi] at hlo
    obtain ⟨sL, hsL⟩ : ∃ R : ByteArray, R = ⟨(textN (numU T)).toArray⟩ := ⟨_, rfl⟩
    rw [← hsL] at hlo
    obtain ⟨Z, hZ⟩ : ∃ Z, Z = 60 * z := ⟨_, rfl⟩
    obtain ⟨sI, hsI⟩ : ∃ R : ByteArray, R = ⟨(intP Z).toArray⟩ := ⟨_, rfl⟩
    have ht1 : T.natAbs < 10 ^ 29 := t_small ht0
    have hsIl : sI.size ≤ maxLen := by
      rw [hsI, ← list_len]
      exact Nat.le_trans (int_short (n := Z) (by omega)) (by decide)
    have hsLl : sL.size ≤ maxLen := by
      rw [hsL, ← list_len]
      exact Nat.le_trans (numU_short ht1) (by decide)
    have ci := Lib.hid (fun (w : World) => (show Calls Tryz.prog 53 #[.int .i64 Z] w fun e w' => e = .returned (.string sI) ∧ Below w.heap.size w w' by
      rw [hsI]; exact integer_r Z w (by omega) (by omega)))
    have ca := Lib.hid (fun (w : World) => (show Calls Tryz.prog 51 #[.string sL, .string sI] w fun e w' => e = .returned (.tuple #[.string R, .int .i64 0]) ∧ Below w.heap.size w w' by
      have := Sub_r sL sI w hsLl hsIl
      unfold OutE at this
      rw [show sL.data.toList = textN (numU T) by rw [hsL], show sI.data.toList = textN (numU (Z * 1000000)) by rw [hsI]; exact intP_num (by omega), subT_U ht1 (by omega), show T - Z * 1000000 = T - z * 60000000 by omega, ← hR] at this
      exact this))
    have g1 : IntKind.i64.wrap (60 * z) = Z := by rw [hZ]; exact IntWalk.i64_in _ (by omega)
    have g1' : IntKind.i64.wrap Z = Z := IntWalk.i64_in _ (by omega)
    clear hv hse ht hT hTe hs hsL hsI em ey emo ed eh emi hp hz hR
    replace hZ := Lib.hid hZ
    clear ht1 hsIl hsLl
    obtain ⟨W1, hW1⟩ : ∃ w, w = W.alloc (.cells #[.int .i64 y, .int .i64 mo, .int .i64 d, .int .i64 h, .int .i64 mi, .string s, .int .i64 z, .bool has] 28) := ⟨_, rfl⟩
    obtain ⟨q, hq⟩ : ∃ q, q = W.heap.size := ⟨_, rfl⟩
    have hx1 : W1.heap[q]? = some (.cells #[.int .i64 y, .int .i64 mo, .int .i64 d, .int .i64 h, .int .i64 mi, .string s, .int .i64 z, .bool has] 28 (0, 0)) := by rw [hW1, hq]; exact (MapKept.heap_alloc _ _).1
    have hb1 : Hid (Below W.heap.size W W1) := Lib.hid (by rw [hW1]; exact (Below.refl _ _).alloc (Nat.le_refl _) _)
    have hM1 := Lib.hid (MomAt.of_heap hx1)
    have hqlt : Hid (q < W1.heap.size) := Lib.hid (heap_lt hx1)
    obtain ⟨c0, c1, c2, c3, c4, c5, c6, c7⟩ := hM1.out
    clear hx1
    go_enter Tryz.func21, Tryz.ntmps21
    go_upto_region 1 with fail
    rw [← hW1, ← hq]
    replace hW1 := Lib.hid hW1
    replace hq := Lib.hid hq
    go_wp2_with fail
    refine (hva.out W1).mono ?_
    rintro e w2 ⟨rfl, hb2⟩
    clear c0 c1 c2 c3 c4 c5 c6 c7
    have hM2 := Lib.hid (hM1.out.below hb2)
    have hB2 := Lib.hid (hb1.out.trans (hb2.mono hb1.out.size))
    have hqlt2 : Hid (q < w2.heap.size) := Lib.hid (Nat.lt_of_lt_of_le hqlt.out hb2.size)
    clear hb2 hqlt
    have hqlt := hqlt2
    obtain ⟨c0, c1, c2, c3, c4, c5, c6, c7⟩ := hM2.out
    have hS := Lib.hid (show w2.drew.cell? ⟨q, 0, none⟩ = some (.int .i64 (y : Int)) ∧ w2.drew.cell? ⟨q, 1, none⟩ = some (.int .i64 (mo : Int)) ∧ w2.drew.cell? ⟨q, 2, none⟩ = some (.int .i64 (d : Int)) ∧ w2.drew.cell? ⟨q, 3, none⟩ = some (.int .i64 (h : Int)) ∧ w2.drew.cell? ⟨q, 4, none⟩ = some (.int .i64 (mi : Int)) ∧ w2.drew.cell? ⟨q, 5, none⟩ = some (.string s) ∧ w2.drew.cell? ⟨q, 6, none⟩ = some (.int .i64 (z : Int)) ∧ w2.drew.cell? ⟨q, 7, none⟩ = some (.bool has) ∧ Hid (Below w2.heap.size w2 w2.drew) from ⟨c0, c1, c2, c3, c4, c5, c6, c7, Lib.hid (Below.refl _ _).drew⟩)
    go_upto_region 3 with fail
    clear c0 c1 c2 c3 c4 c5 c6 c7
    go_region_held3 (fun w' => w'.cell? ⟨q, 0, none⟩ = some (.int .i64 (y : Int)) ∧ w'.cell? ⟨q, 1, none⟩ = some (.int .i64 (mo : Int)) ∧ w'.cell? ⟨q, 2, none⟩ = some (.int .i64 (d : Int)) ∧ w'.cell? ⟨q, 3, none⟩ = some (.int .i64 (h : Int)) ∧ w'.cell? ⟨q, 4, none⟩ = some (.int .i64 (mi : Int)) ∧ w'.cell? ⟨q, 5, none⟩ = some (.string s) ∧ w'.cell? ⟨q, 6, none⟩ = some (.int .i64 (z : Int)) ∧ w'.cell? ⟨q, 7, none⟩ = some (.bool has) ∧ Hid (Below w2.heap.size w2 w'))
      (first | exact hS.out | assumption | exact mom_later hqlt (by assumption) (by assumption))
      (first
        | (go_at_call 53; refine (ci.out _).mono ?_; rintro e w' ⟨rfl, hbb⟩)
        | (go_at_call 51; refine (ca.out _).mono ?_; rintro e w' ⟨rfl, hbb⟩)
        | (go_at_call 52; refine (hlo.out _).mono ?_; rintro e w' ⟨rfl, hbb⟩))
    rename_i hH
    obtain ⟨-, -, -, -, -, -, -, -, hb3⟩ := hH
    go_wp2_with fail
    go_ret2
    exact ⟨rfl, hB2.out.trans (hb3.out.mono hB2.out.size)⟩
set_option maxRecDepth 100000 in
set_option maxHeartbeats 4000000 in
theorem Weekday7_r (y mo d h mi : Int) (s : ByteArray) (z : Int) (has : Bool) (W : World) (hsl : s.size ≤ maxLen) : Calls Tryz.prog 23 #[.agg #[.int .i64 y, .int .i64 mo, .int .i64 d, .int .i64 h, .int .i64 mi, .string s, .int .i64 z, .bool has]] W fun e w' => e = .returned (.int .i64 (weekdayP ⟨y, mo, d, h, mi, s.data.toList, z, has⟩)) ∧ Below W.heap.size W w' := by
  have hva := Lib.hid (fun w => Valid7_r y mo d h mi s z has w hsl)
  cases hv : validP ⟨y, mo, d, h, mi, s.data.toList, z, has⟩ with
  | false =>
    rw [show weekdayP ⟨y, mo, d, h, mi, s.data.toList, z, has⟩ = 0 by unfold weekdayP; rw [hv]; rfl]
    rw [hv] at hva
    clear hv
    obtain ⟨W1, hW1⟩ : ∃ w, w = W.alloc (.cells #[.int .i64 y, .int .i64 mo, .int .i64 d, .int .i64 h, .int .i64 mi, .string s, .int .i64 z, .bool has] 28) := ⟨_, rfl⟩
    obtain ⟨q, hq⟩ : ∃ q, q = W.heap.size := ⟨_, rfl⟩
    have hx1 : W1.heap[q]? = some (.cells #[.int .i64 y, .int .i64 mo, .int .i64 d, .int .i64 h, .int .i64 mi, .string s, .int .i64 z, .bool has] 28 (0, 0)) := by rw [hW1, hq]; exact (MapKept.heap_alloc _ _).1
    have hb1 : Hid (Below W.heap.size W W1) := Lib.hid (by rw [hW1]; exact (Below.refl _ _).alloc (Nat.le_refl _) _)
    have hM1 := Lib.hid (MomAt.of_heap hx1)
    have hqlt : Hid (q < W1.heap.size) := Lib.hid (heap_lt hx1)
    obtain ⟨c0, c1, c2, c3, c4, c5, c6, c7⟩ := hM1.out
    clear hx1
    go_enter Tryz.func23, Tryz.ntmps23
    go_upto_region 1 with fail
    rw [← hW1, ← hq]
    replace hW1 := Lib.hid hW1
    replace hq := Lib.hid hq
    go_wp2_with fail
    refine (hva.out W1).mono ?_
    rintro e w2 ⟨rfl, hb2⟩
    clear c0 c1 c2 c3 c4 c5 c6 c7
    go_wp2_with fail
    go_ret
    exact ⟨rfl, hb1.out.trans (hb2.mono hb1.out.size)⟩
  | true =>
    obtain ⟨y', mo', d', h', mi', n, ey, emo, ed, eh, emi, hs, hp, hz, em⟩ := mom_nat hv
    obtain ⟨D, hD⟩ : ∃ D, D = dayN y' mo' d' := ⟨_, rfl⟩
    have hDl : D < 3652059 := by
      have h1 := micU_lt hp
      unfold micU at h1
      rw [← hD] at h1
      omega
    have hN := Lib.hid (fun w => (show Calls Tryz.prog 55 #[.int .i64 y, .int .i64 mo, .int .i64 d] w fun e w' => e = .returned (.int .i64 (D : Int)) ∧ w = w' by
      have hd31 := lenM_le31 y' mo'
      obtain ⟨⟨y1, m1, m2, d1, d2⟩, y2, h2, i2, n2⟩ := hp
      rw [ey, emo, ed, hD]
      exact Number_r y' mo' d' w y1 (by omega) m1 m2 d1 (by omega)))
    have hR : Hid (weekdayP ⟨y, mo, d, h, mi, s.data.toList, z, has⟩ = (D : Int) % 7 + 1) := Lib.hid (by
      unfold weekdayP
      rw [hv, if_pos rfl, hD]
      show ((dayN y.toNat mo.toNat d.toNat : Nat) : Int) % 7 + 1 = _
      rw [ey, emo, ed]
      simp only [Int.toNat_natCast])
    rw [hv] at hva
    clear hv hs em ey emo ed eh emi hp hz hD
    obtain ⟨W1, hW1⟩ : ∃ w, w = W.alloc (.cells #[.int .i64 y, .int .i64 mo, .int .i64 d, .int .i64 h, .int .i64 mi, .string s, .int .i64 z, .bool has] 28) := ⟨_, rfl⟩
    obtain ⟨q, hq⟩ : ∃ q, q = W.heap.size := ⟨_, rfl⟩
    have hx1 : W1.heap[q]? = some (.cells #[.int .i64 y, .int .i64 mo, .int .i64 d, .int .i64 h, .int .i64 mi, .string s, .int .i64 z, .bool has] 28 (0, 0)) := by rw [hW1, hq]; exact (MapKept.heap_alloc _ _).1
    have hb1 : Hid (Below W.heap.size W W1) := Lib.hid (by rw [hW1]; exact (Below.refl _ _).alloc (Nat.le_refl _) _)
    have hM1 := Lib.hid (MomAt.of_heap hx1)
    have hqlt : Hid (q < W1.heap.size) := Lib.hid (heap_lt hx1)
    obtain ⟨c0, c1, c2, c3, c4, c5, c6, c7⟩ := hM1.out
    clear hx1
    go_enter Tryz.func23, Tryz.ntmps23
    go_upto_region 1 with fail
    rw [← hW1, ← hq]
    replace hW1 := Lib.hid hW1
    replace hq := Lib.hid hq
    go_wp2_with fail
    refine (hva.out W1).mono ?_
    rintro e w2 ⟨rfl, hb2⟩
    clear c0 c1 c2 c3 c4 c5 c6 c7
    have hM2 := Lib.hid (hM1.out.below hb2)
    have hB2 := Lib.hid (hb1.out.trans (hb2.mono hb1.out.size))
    clear hb2 hqlt
    obtain ⟨c0, c1, c2, c3, c4, c5, c6, c7⟩ := hM2.out
    go_wp2_with fail
    refine (hN.out _).mono ?_
    rintro e w ⟨rfl, rfl⟩
    go_wp2_with fail
    go_ret
    exact ⟨by rw [hR.out]; rfl, hB2.out⟩
end Go.Proofs.YtgobpoeccdgeiaaGreatDoor
