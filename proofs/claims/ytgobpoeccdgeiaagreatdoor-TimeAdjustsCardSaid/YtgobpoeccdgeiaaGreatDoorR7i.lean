/- Package chiselref07: Text (printed by gentxt7.py). -/
import Derived.Test.YtgobpoeccdgeiaaGreatDoorR7h
import Derived.Test.YtgobpoeccdgeiaaGreatDoorOc
namespace Go.Proofs.YtgobpoeccdgeiaaGreatDoor
open Go.RowKit NumP DigP DurP TimeP Go.Proofs.YtgobpoeccdgeiaaGreatDoorW.PrintWords
set_option linter.unusedVariables false

theorem sec_pad {n : Nat} (hn : n < 60000000) {s : List UInt8} (hs : s = tx (n * P14)) : (List.replicate (2 - (before 46 s).length) 48 ++ before 46 s ++ (if s.contains 46 then 46 :: behind 46 s else [])) = if s.length = 1 ∨ s[1]? = some 46 then 48 :: s else s := by
  obtain ⟨w, f, e, hb, hf, hw, hff, h0, h20, hv, hl, -⟩ := tx_split (n * P14)
  have h2 : w.length ≤ 2 := by
    have := (lenD_le (n * P14) 22).2 (mic_small hn)
    omega
  have h1 : 1 ≤ w.length := by omega
  rw [hs, hb, hf, e]
  match w, h1, h2, hw with
  | [c], _, _, hw =>
    have hc : c ≠ 46 := dig_ne (hw c (List.mem_cons_self ..)) (by decide)
    cases f with
    | nil => simp [dot, Ne.symm hc]
    | cons a f => simp [dot]
  | [c1, c2], _, _, hw =>
    have hc1 : c1 ≠ 46 := dig_ne (hw c1 (List.mem_cons_self ..)) (by decide)
    have hc2 : c2 ≠ 46 := dig_ne (hw c2 (List.mem_cons_of_mem _ (List.mem_cons_self ..))) (by decide)
    cases f with
    | nil => simp [dot, hc2, Ne.symm hc1, Ne.symm hc2]
    | cons a f => simp [dot, hc2]
def TxOk7 (n : Nat) (m : Int) : Prop := n < 1000000000 ∧ 1 ≤ m ∧ m ≤ 9
theorem decimal_x (n : Nat) (m : Int) (W : World) (ho : Hid (TxOk7 n m)) : Calls Tryz.prog 48 #[.int .i64 (n : Int), .int .i64 m] W fun e w' => e = .returned (.string (tb n m)) ∧ Below W.heap.size W w' := by
  have ho := ho.out
  obtain ⟨k, rfl⟩ : ∃ k : Nat, m = (k : Int) := ⟨m.toNat, by have := ho.2.1; omega⟩
  exact decimal_pad n k W (by have := ho.1; omega) (by have := ho.2.1; omega) (by have := ho.2.2; omega)
set_option maxRecDepth 100000 in
set_option maxHeartbeats 8000000 in
theorem Text7_ok (k : Int) (y mo d h mi n : Nat) (s : ByteArray) (z : Int) (has : Bool) (W : World) (hsl : s.size ≤ maxLen) (hk : k = 6 ∨ k = 7 ∨ k = 8) (hv : validP ⟨y, mo, d, h, mi, s.data.toList, z, has⟩ = true) (hp : Parts y mo d h mi n) (hsd : s.data.toList = tx (n * P14)) (hz : Zone z has) : Calls Tryz.prog 19 #[.int .i64 k, .agg #[.int .i64 (y : Int), .int .i64 (mo : Int), .int .i64 (d : Int), .int .i64 (h : Int), .int .i64 (mi : Int), .string s, .int .i64 z, .bool has]] W fun e w' => e = .returned (.tuple #[.string ⟨(textMom k ⟨y, mo, d, h, mi, s.data.toList, z, has⟩).1.toArray⟩, .int .i64 (textMom k ⟨y, mo, d, h, mi, s.data.toList, z, has⟩).2]) ∧ Below W.heap.size W w' := by
  rw [textMom_ok hk hv]
  have hva := Lib.hid (fun w => Valid7_r y mo d h mi s z has w hsl)
  rw [hv] at hva
  have hki := Lib.hid (fun w => kinds_r k w)
  rw [show TimeP.kindOk k = true by unfold TimeP.kindOk; simpa using hk] at hki
  have hTx := Lib.hid (fun n m w ho => decimal_x n m w ho)
  have p1 := hp.y2
  have p2 := hp.date.m2
  have p3 := hp.date.d2
  have p4 := lenM_le31 y mo
  have p5 := hp.h2
  have p6 := hp.mi2
  have z1 := hz.lo
  have z2 := hz.hi
  obtain ⟨qa, hqa⟩ : ∃ qa, qa = z.natAbs / 60 := ⟨_, rfl⟩
  obtain ⟨qb, hqb⟩ : ∃ qb, qb = z.natAbs % 60 := ⟨_, rfl⟩
  have p7 : qa < 100 := by omega
  have p8 : qb < 100 := by omega
  have hs60 : s.size ≤ 60 := by
    rw [← list_len, hsd]
    exact textN_len (x := ⟨false, n * P14⟩) (Nat.lt_trans (mic_small hp.n2) (by decide))
  have hsz : 1 ≤ s.size := by
    rw [← list_len, hsd]
    obtain ⟨w, f, e, -, -, -, -, h0, -⟩ := tx_split (n * P14)
    rw [e, List.length_append]
    have := List.length_pos_iff.2 h0
    omega
  have zY4 : (tb y 4).size = 4 := tb_size (show y < 10 ^ 4 by omega) (by decide) (by decide)
  have oY4 : Hid (TxOk7 y 4) := Lib.hid ⟨by omega, by decide, by decide⟩
  have zM2 : (tb mo 2).size = 2 := tb_size (show mo < 10 ^ 2 by omega) (by decide) (by decide)
  have oM2 : Hid (TxOk7 mo 2) := Lib.hid ⟨by omega, by decide, by decide⟩
  have zD2 : (tb d 2).size = 2 := tb_size (show d < 10 ^ 2 by omega) (by decide) (by decide)
  have oD2 : Hid (TxOk7 d 2) := Lib.hid ⟨by omega, by decide, by decide⟩
  have zH2 : (tb h 2).size = 2 := tb_size (show h < 10 ^ 2 by omega) (by decide) (by decide)
  have oH2 : Hid (TxOk7 h 2) := Lib.hid ⟨by omega, by decide, by decide⟩
  have zI2 : (tb mi 2).size = 2 := tb_size (show mi < 10 ^ 2 by omega) (by decide) (by decide)
  have oI2 : Hid (TxOk7 mi 2) := Lib.hid ⟨by omega, by decide, by decide⟩
  have zQ1 : (tb qa 2).size = 2 := tb_size (show qa < 10 ^ 2 by omega) (by decide) (by decide)
  have oQ1 : Hid (TxOk7 qa 2) := Lib.hid ⟨by omega, by decide, by decide⟩
  have zQ2 : (tb qb 2).size = 2 := tb_size (show qb < 10 ^ 2 by omega) (by decide) (by decide)
  have oQ2 : Hid (TxOk7 qb 2) := Lib.hid ⟨by omega, by decide, by decide⟩
  obtain ⟨A1, hA1⟩ : ∃ b : ByteArray, b = (tb y 4) ++ ⟨#[45]⟩ := ⟨_, rfl⟩
  have zA1 : A1.size = (tb y 4).size + 1 := by rw [hA1, ByteArray.size_append]; rfl
  have eA1 : (9223372036854775807 < (tb y 4).size + 1) = False := eq_false (by omega)
  have qA1 : (tb y 4) ++ ⟨#[45]⟩ = A1 := hA1.symm
  obtain ⟨A2, hA2⟩ : ∃ b : ByteArray, b = A1 ++ (tb mo 2) := ⟨_, rfl⟩
  have zA2 : A2.size = A1.size + (tb mo 2).size := by rw [hA2, ByteArray.size_append]
  have eA2 : (9223372036854775807 < A1.size + (tb mo 2).size) = False := eq_false (by omega)
  have qA2 : A1 ++ (tb mo 2) = A2 := hA2.symm
  obtain ⟨A3, hA3⟩ : ∃ b : ByteArray, b = A2 ++ ⟨#[45]⟩ := ⟨_, rfl⟩
  have zA3 : A3.size = A2.size + 1 := by rw [hA3, ByteArray.size_append]; rfl
  have eA3 : (9223372036854775807 < A2.size + 1) = False := eq_false (by omega)
  have qA3 : A2 ++ ⟨#[45]⟩ = A3 := hA3.symm
  obtain ⟨A4, hA4⟩ : ∃ b : ByteArray, b = A3 ++ (tb d 2) := ⟨_, rfl⟩
  have zA4 : A4.size = A3.size + (tb d 2).size := by rw [hA4, ByteArray.size_append]
  have eA4 : (9223372036854775807 < A3.size + (tb d 2).size) = False := eq_false (by omega)
  have qA4 : A3 ++ (tb d 2) = A4 := hA4.symm
  obtain ⟨B1, hB1⟩ : ∃ b : ByteArray, b = (tb h 2) ++ ⟨#[58]⟩ := ⟨_, rfl⟩
  have zB1 : B1.size = (tb h 2).size + 1 := by rw [hB1, ByteArray.size_append]; rfl
  have eB1 : (9223372036854775807 < (tb h 2).size + 1) = False := eq_false (by omega)
  have qB1 : (tb h 2) ++ ⟨#[58]⟩ = B1 := hB1.symm
  obtain ⟨B2, hB2⟩ : ∃ b : ByteArray, b = B1 ++ (tb mi 2) := ⟨_, rfl⟩
  have zB2 : B2.size = B1.size + (tb mi 2).size := by rw [hB2, ByteArray.size_append]
  have eB2 : (9223372036854775807 < B1.size + (tb mi 2).size) = False := eq_false (by omega)
  have qB2 : B1 ++ (tb mi 2) = B2 := hB2.symm
  obtain ⟨B3, hB3⟩ : ∃ b : ByteArray, b = B2 ++ ⟨#[58]⟩ := ⟨_, rfl⟩
  have zB3 : B3.size = B2.size + 1 := by rw [hB3, ByteArray.size_append]; rfl
  have eB3 : (9223372036854775807 < B2.size + 1) = False := eq_false (by omega)
  have qB3 : B2 ++ ⟨#[58]⟩ = B3 := hB3.symm
  obtain ⟨Z0, hZ0⟩ : ∃ b : ByteArray, b = (⟨#[48]⟩ : ByteArray) ++ s := ⟨_, rfl⟩
  have zZ0 : Z0.size = 1 + s.size := by rw [hZ0, ByteArray.size_append]; rfl
  have eZ0 : (9223372036854775807 < 1 + s.size) = False := eq_false (by omega)
  have qZ0 : (⟨#[48]⟩ : ByteArray) ++ s = Z0 := hZ0.symm
  obtain ⟨S0, hS0⟩ : ∃ b : ByteArray, b = if s.data.toList.length = 1 ∨ s.data.toList[1]? = some 46 then Z0 else s := ⟨_, rfl⟩
  have zS0 : S0.size ≤ 61 := by rw [hS0]; split <;> omega
  have hpad : (List.replicate (2 - (before 46 s.data.toList).length) 48 ++ before 46 s.data.toList ++ (if s.data.toList.contains 46 then 46 :: behind 46 s.data.toList else [])) = S0.data.toList := by
    rw [sec_pad hp.n2 hsd, hS0]
    split
    · rw [hZ0, ByteArray.data_append]; simp
    · rfl
  obtain ⟨B4, hB4⟩ : ∃ b : ByteArray, b = B3 ++ S0 := ⟨_, rfl⟩
  have zB4 : B4.size = B3.size + S0.size := by rw [hB4, ByteArray.size_append]
  have eB4 : (9223372036854775807 < B3.size + S0.size) = False := eq_false (by omega)
  have qB4 : B3 ++ S0 = B4 := hB4.symm
  obtain ⟨T1, hT1⟩ : ∃ b : ByteArray, b = A4 ++ ⟨#[84]⟩ := ⟨_, rfl⟩
  have zT1 : T1.size = A4.size + 1 := by rw [hT1, ByteArray.size_append]; rfl
  have eT1 : (9223372036854775807 < A4.size + 1) = False := eq_false (by omega)
  have qT1 : A4 ++ ⟨#[84]⟩ = T1 := hT1.symm
  obtain ⟨T2, hT2⟩ : ∃ b : ByteArray, b = T1 ++ B4 := ⟨_, rfl⟩
  have zT2 : T2.size = T1.size + B4.size := by rw [hT2, ByteArray.size_append]
  have eT2 : (9223372036854775807 < T1.size + B4.size) = False := eq_false (by omega)
  have qT2 : T1 ++ B4 = T2 := hT2.symm
  obtain ⟨O, hO⟩ : ∃ b : ByteArray, b = if k = 6 then A4 else if k = 7 then B4 else T2 := ⟨_, rfl⟩
  have zO : O.size ≤ 100 := by rw [hO]; split; omega; split <;> omega
  have hOl : txDate k y mo d ++ (if k = 8 then [84] else []) ++ txClock k h mi s.data.toList = O.data.toList := by
    unfold txDate txClock
    rw [hpad, hO]
    rcases hk with rfl | rfl | rfl
    · rw [if_pos (by decide), if_neg (by decide), if_neg (by decide), if_pos rfl, hA4, hA3, hA2, hA1]
      simp only [ByteArray.data_append, tb_data]
      simp
    · rw [if_neg (by decide), if_neg (by decide), if_pos (by decide), if_neg (by decide), if_pos rfl, hB4, hB3, hB2, hB1]
      simp only [ByteArray.data_append, tb_data]
      simp
    · rw [if_pos (by decide), if_pos rfl, if_pos (by decide), if_neg (by decide), if_neg (by decide), hT2, hT1, hB4, hB3, hB2, hB1, hA4, hA3, hA2, hA1]
      simp only [ByteArray.data_append, tb_data]
      simp
  rw [hOl]
  obtain ⟨U1, hU1⟩ : ∃ b : ByteArray, b = O ++ ⟨#[90]⟩ := ⟨_, rfl⟩
  have zU1 : U1.size = O.size + 1 := by rw [hU1, ByteArray.size_append]; rfl
  have eU1 : (9223372036854775807 < O.size + 1) = False := eq_false (by omega)
  have qU1 : O ++ ⟨#[90]⟩ = U1 := hU1.symm
  obtain ⟨P1, hP1⟩ : ∃ b : ByteArray, b = O ++ ⟨#[43]⟩ := ⟨_, rfl⟩
  have zP1 : P1.size = O.size + 1 := by rw [hP1, ByteArray.size_append]; rfl
  have eP1 : (9223372036854775807 < O.size + 1) = False := eq_false (by omega)
  have qP1 : O ++ ⟨#[43]⟩ = P1 := hP1.symm
  obtain ⟨P2, hP2⟩ : ∃ b : ByteArray, b = P1 ++ (tb qa 2) := ⟨_, rfl⟩
  have zP2 : P2.size = P1.size + (tb qa 2).size := by rw [hP2, ByteArray.size_append]
  have eP2 : (9223372036854775807 < P1.size + (tb qa 2).size) = False := eq_false (by omega)
  have qP2 : P1 ++ (tb qa 2) = P2 := hP2.symm
  obtain ⟨P3, hP3⟩ : ∃ b : ByteArray, b = P2 ++ ⟨#[58]⟩ := ⟨_, rfl⟩
  have zP3 : P3.size = P2.size + 1 := by rw [hP3, ByteArray.size_append]; rfl
  have eP3 : (9223372036854775807 < P2.size + 1) = False := eq_false (by omega)
  have qP3 : P2 ++ ⟨#[58]⟩ = P3 := hP3.symm
  obtain ⟨P4, hP4⟩ : ∃ b : ByteArray, b = P3 ++ (tb qb 2) := ⟨_, rfl⟩
  have zP4 : P4.size = P3.size + (tb qb 2).size := by rw [hP4, ByteArray.size_append]
  have eP4 : (9223372036854775807 < P3.size + (tb qb 2).size) = False := eq_false (by omega)
  have qP4 : P3 ++ (tb qb 2) = P4 := hP4.symm
  obtain ⟨N1, hN1⟩ : ∃ b : ByteArray, b = O ++ ⟨#[45]⟩ := ⟨_, rfl⟩
  have zN1 : N1.size = O.size + 1 := by rw [hN1, ByteArray.size_append]; rfl
  have eN1 : (9223372036854775807 < O.size + 1) = False := eq_false (by omega)
  have qN1 : O ++ ⟨#[45]⟩ = N1 := hN1.symm
  obtain ⟨N2, hN2⟩ : ∃ b : ByteArray, b = N1 ++ (tb qa 2) := ⟨_, rfl⟩
  have zN2 : N2.size = N1.size + (tb qa 2).size := by rw [hN2, ByteArray.size_append]
  have eN2 : (9223372036854775807 < N1.size + (tb qa 2).size) = False := eq_false (by omega)
  have qN2 : N1 ++ (tb qa 2) = N2 := hN2.symm
  obtain ⟨N3, hN3⟩ : ∃ b : ByteArray, b = N2 ++ ⟨#[58]⟩ := ⟨_, rfl⟩
  have zN3 : N3.size = N2.size + 1 := by rw [hN3, ByteArray.size_append]; rfl
  have eN3 : (9223372036854775807 < N2.size + 1) = False := eq_false (by omega)
  have qN3 : N2 ++ ⟨#[58]⟩ = N3 := hN3.symm
  obtain ⟨N4, hN4⟩ : ∃ b : ByteArray, b = N3 ++ (tb qb 2) := ⟨_, rfl⟩
  have zN4 : N4.size = N3.size + (tb qb 2).size := by rw [hN4, ByteArray.size_append]
  have eN4 : (9223372036854775807 < N3.size + (tb qb 2).size) = False := eq_false (by omega)
  have qN4 : N3 ++ (tb qb 2) = N4 := hN4.symm
  obtain ⟨R, hR⟩ : ∃ b : ByteArray, b = ⟨(O.data.toList ++ txZone z has).toArray⟩ := ⟨_, rfl⟩
  have hRc : R = if has = false then O else if z = 0 then U1 else if z < 0 then N4 else P4 := by
    rw [hR]; unfold txZone
    rw [← hqa, ← hqb]
    split
    · apply data_inj; simp
    · split
      · apply data_inj
        rw [hU1, ByteArray.data_append]
        simp
      · split
        · apply data_inj
          rw [hN4, hN3, hN2, hN1]
          simp only [ByteArray.data_append, tb_data]
          simp
        · apply data_inj
          rw [hP4, hP3, hP2, hP1]
          simp only [ByteArray.data_append, tb_data]
          simp
  rw [← hR]
  replace hRc := Lib.hid hRc
  replace hS0 := Lib.hid hS0
  replace hO := Lib.hid hO
  clear hOl hpad hR
  clear hA1 zA1
  clear hA2 zA2
  clear hA3 zA3
  clear hA4 zA4
  clear hB1 zB1
  clear hB2 zB2
  clear hB3 zB3
  clear hB4 zB4
  clear hT1 zT1
  clear hT2 zT2
  clear hU1 zU1
  clear hP1 zP1
  clear hP2 zP2
  clear hP3 zP3
  clear hP4 zP4
  clear hN1 zN1
  clear hN2 zN2
  clear hN3 zN3
  clear hN4 zN4
  clear zY4 zM2 zD2 zH2 zI2 zQ1 zQ2 zZ0 zS0 zO
  clear hZ0 hv hp hsd hz
  obtain ⟨W1, hW1⟩ : ∃ w, w = W.alloc (.cells #[.int .i64 (y : Int), .int .i64 (mo : Int), .int .i64 (d : Int), .int .i64 (h : Int), .int .i64 (mi : Int), .string s, .int .i64 z, .bool has] 28) := ⟨_, rfl⟩
  obtain ⟨q, hq⟩ : ∃ q, q = W.heap.size := ⟨_, rfl⟩
  have hx1 : W1.heap[q]? = some (.cells #[.int .i64 (y : Int), .int .i64 (mo : Int), .int .i64 (d : Int), .int .i64 (h : Int), .int .i64 (mi : Int), .string s, .int .i64 z, .bool has] 28 (0, 0)) := by rw [hW1, hq]; exact (MapKept.heap_alloc _ _).1
  have hb1 : Hid (Below W.heap.size W W1) := Lib.hid (by rw [hW1]; exact (Below.refl _ _).alloc (Nat.le_refl _) _)
  have hM1 := Lib.hid (MomAt.of_heap hx1)
  clear hx1
  go_enter Tryz.func19, Tryz.ntmps19
  go_upto_region 1 with fail
  rw [← hW1, ← hq]
  replace hW1 := Lib.hid hW1
  replace hq := Lib.hid hq
  have hMA : Hid (∀ w, Below W1.heap.size W1 w → MomAt w q y mo d h mi s z has) := Lib.hid (fun w hw => hM1.out.below hw)
  go_cut [17] from 10 to 17 (fun v wx => v = .bool false ∧ Hid (Below W1.heap.size W1 wx))
  case first =>
    obtain ⟨c0, c1, c2, c3, c4, c5, c6, c7⟩ := hM1.out
    go_wp2_with fail
    refine (hki.out _).mono ?_
    rintro e w3 ⟨rfl, rfl⟩
    go_wp2_with fail
    refine (hva.out _).mono ?_
    rintro e w3 ⟨rfl, hb3⟩
    go_wp2_with fail
    go_meet
    exact ⟨rfl, Lib.hid hb3⟩
  obtain ⟨rfl, hbW⟩ := hcut
  clear hva hki
  go_upto_region 3 with fail
  obtain ⟨c0, c1, c2, c3, c4, c5, c6, c7⟩ := (hMA.out _ hbW.out.drew)
  have hS := Lib.hid (And.intro c0 (And.intro c1 (And.intro c2 (And.intro c3 (And.intro c4 (And.intro c5 (And.intro c6 (And.intro c7 (Lib.hid hbW.out.drew)))))))))
  clear c0 c1 c2 c3 c4 c5 c6 c7
  go_region_held3 (fun w' => w'.cell? ⟨q, 0, none⟩ = some (.int .i64 (y : Int)) ∧ w'.cell? ⟨q, 1, none⟩ = some (.int .i64 (mo : Int)) ∧ w'.cell? ⟨q, 2, none⟩ = some (.int .i64 (d : Int)) ∧ w'.cell? ⟨q, 3, none⟩ = some (.int .i64 (h : Int)) ∧ w'.cell? ⟨q, 4, none⟩ = some (.int .i64 (mi : Int)) ∧ w'.cell? ⟨q, 5, none⟩ = some (.string s) ∧ w'.cell? ⟨q, 6, none⟩ = some (.int .i64 z) ∧ w'.cell? ⟨q, 7, none⟩ = some (.bool has) ∧ Hid (Below W1.heap.size W1 w'))
    (first | exact hS.out | assumption | exact eight_later (by assumption) (by assumption))
    (first | (go_at_call 48; refine (hTx.out _ _ _ (by assumption)).mono ?_; rintro e w' ⟨rfl, hbb⟩))
  rename_i hH
  obtain ⟨w4, hw4⟩ : ∃ w, w = w' := ⟨_, rfl⟩
  rw [← hw4] at hH ⊢
  have hbA := Lib.hid (eight_out hH)
  clear hH hbW hS hw4
  go_upto_region 4 with fail
  obtain ⟨c0, c1, c2, c3, c4, c5, c6, c7⟩ := hMA.out _ hbA.out
  obtain ⟨B, hB⟩ : ∃ B : Bool, B = decide (s.data.toList.length = 1 ∨ s.data.toList[1]? = some 46) := ⟨_, rfl⟩
  replace hB := Lib.hid hB
  go_upto_region 5 with fail
  clear c0 c1 c2 c3 c4 c5 c6 c7
  go_cut [40] from 33 to 40 (fun v wx => v = .bool B ∧ wx = w4)
  case first =>
    by_cases h1 : s.size = 1
    · have g1 : ((s.size : Int) == 1) = true := by simp; omega
      have hv : Hid (B = true) := Lib.hid (by rw [hB.out, decide_eq_true (Or.inl (by rw [list_len]; exact h1))])
      replace h1 := Lib.hid h1
      go_wp2_with fail
      go_meet
      exact ⟨by rw [hv.out], rfl⟩
    · have g1 : ((s.size : Int) == 1) = false := by simp; omega
      have h2 : 1 < s.size := by omega
      have hat := data_at s 1 h2
      by_cases h46 : s[1] = 46
      · have g2 : ((s[1].toNat : Int) == 46) = true := by rw [h46]; rfl
        have hv : Hid (B = true) := Lib.hid (by rw [hB.out, decide_eq_true (Or.inr (by rw [hat, h46]))])
        replace h46 := Lib.hid h46
        clear h1 hat
        go_wp2_with fail
        go_meet
        exact ⟨by rw [hv.out], rfl⟩
      · have g2 : ((s[1].toNat : Int) == 46) = false := by rw [show (46 : Int) = ((46 : UInt8).toNat : Int) from rfl, byte_eq]; simpa using h46
        have hv : Hid (B = false) := Lib.hid (by
          rw [hB.out]
          apply decide_eq_false
          rintro (e | e)
          · rw [list_len] at e; exact h1 e
          · rw [hat] at e; exact h46 (Option.some.inj e))
        replace h46 := Lib.hid h46
        clear h1 hat
        go_wp2_with fail
        go_meet
        exact ⟨by rw [hv.out], rfl⟩
  obtain ⟨rfl, hw⟩ := hcut
  have hw := hw.symm
  subst hw
  go_upto_if 40 with fail
  go_cut [7] from 41 to 42 (fun v wx => v = .string S0 ∧ wx = w4)
  case first =>
    cases B with
    | true =>
      have hv : Hid (S0 = Z0) := Lib.hid (by rw [hS0.out, if_pos (of_decide_eq_true hB.out.symm)])
      go_wp2_with fail
      go_meet
      exact ⟨by rw [hv.out], rfl⟩
    | false =>
      have hv : Hid (S0 = s) := Lib.hid (by rw [hS0.out, if_neg (of_decide_eq_false hB.out.symm)])
      go_wp2_with fail
      go_meet
      exact ⟨by rw [hv.out], rfl⟩
  obtain ⟨rfl, hw⟩ := hcut
  have hw := hw.symm
  subst hw
  go_upto_region 7 with fail
  obtain ⟨c0, c1, c2, c3, c4, c5, c6, c7⟩ := (hMA.out _ hbA.out.drew)
  have hS := Lib.hid (And.intro c0 (And.intro c1 (And.intro c2 (And.intro c3 (And.intro c4 (And.intro c5 (And.intro c6 (And.intro c7 (Lib.hid hbA.out.drew)))))))))
  clear c0 c1 c2 c3 c4 c5 c6 c7
  go_region_held3 (fun w' => w'.cell? ⟨q, 0, none⟩ = some (.int .i64 (y : Int)) ∧ w'.cell? ⟨q, 1, none⟩ = some (.int .i64 (mo : Int)) ∧ w'.cell? ⟨q, 2, none⟩ = some (.int .i64 (d : Int)) ∧ w'.cell? ⟨q, 3, none⟩ = some (.int .i64 (h : Int)) ∧ w'.cell? ⟨q, 4, none⟩ = some (.int .i64 (mi : Int)) ∧ w'.cell? ⟨q, 5, none⟩ = some (.string s) ∧ w'.cell? ⟨q, 6, none⟩ = some (.int .i64 z) ∧ w'.cell? ⟨q, 7, none⟩ = some (.bool has) ∧ Hid (Below W1.heap.size W1 w'))
    (first | exact hS.out | assumption | exact eight_later (by assumption) (by assumption))
    (first | (go_at_call 48; refine (hTx.out _ _ _ (by assumption)).mono ?_; rintro e w' ⟨rfl, hbb⟩))
  rename_i hH
  obtain ⟨w5, hw5⟩ : ∃ w, w = w' := ⟨_, rfl⟩
  rw [← hw5] at hH ⊢
  have hbB := Lib.hid (eight_out hH)
  clear hH hbA hS hw5
  obtain ⟨b6, hb6⟩ : ∃ b, (k == 6) = b := ⟨_, rfl⟩
  obtain ⟨b7, hb7⟩ : ∃ b, (k == 7) = b := ⟨_, rfl⟩
  obtain ⟨O1, hO1⟩ : ∃ b, b = if b6 then A4 else T2 := ⟨_, rfl⟩
  have hO2 : O = if b7 then B4 else O1 := by
    rw [hO.out, hO1, ← hb6, ← hb7]
    rcases hk with rfl | rfl | rfl <;> rfl
  replace hO1 := Lib.hid hO1
  replace hO2 := Lib.hid hO2
  go_upto_if 59 with fail
  go_cut [9] from 60 to 60 (fun v wx => v = .string O1 ∧ wx = w5)
  case first =>
    clear hb6 hb7
    cases b6 with
    | true =>
      go_wp2_with fail
      go_meet
      exact ⟨by rw [hO1.out]; rfl, rfl⟩
    | false =>
      go_wp2_with fail
      go_meet
      exact ⟨by rw [hO1.out]; rfl, rfl⟩
  obtain ⟨rfl, hw⟩ := hcut
  have hw := hw.symm
  subst hw
  go_upto_if 62 with fail
  go_cut [9] from 63 to 63 (fun v wx => v = .string O ∧ wx = w5)
  case first =>
    clear hb6 hb7
    cases b7 with
    | true =>
      go_wp2_with fail
      go_meet
      exact ⟨by rw [hO2.out]; rfl, rfl⟩
    | false =>
      go_wp2_with fail
      go_meet
      exact ⟨by rw [hO2.out]; rfl, rfl⟩
  obtain ⟨rfl, hw⟩ := hcut
  have hw := hw.symm
  subst hw
  obtain ⟨c0, c1, c2, c3, c4, c5, c6, c7⟩ := hMA.out _ hbB.out
  have hBW := Lib.hid (hb1.out.trans (hbB.out.mono hb1.out.size))
  cases has with
  | false =>
    have hv : Hid (R = O) := Lib.hid (by rw [hRc.out, if_pos rfl])
    go_wp2_with fail
    go_ret2
    exact ⟨by rw [hv.out]; rfl, hBW.out⟩
  | true =>
    by_cases hz0 : z = 0
    · have g0 : (z == 0) = true := by simpa using hz0
      have hv : Hid (R = U1) := Lib.hid (by rw [hRc.out, if_neg (by decide), if_pos hz0])
      replace hz0 := Lib.hid hz0
      go_wp2_with fail
      go_ret2
      exact ⟨by rw [hv.out]; rfl, hBW.out⟩
    · have g0 : (z == 0) = false := by simpa using hz0
      by_cases hzp : z > 0
      · have hv : Hid (R = P4) := Lib.hid (by rw [hRc.out, if_neg (by decide), if_neg hz0, if_neg (by omega)])
        have d1 : z / 60 = (qa : Int) := by omega
        have d2 : z % 60 = (qb : Int) := by omega
        have d3 : Int.tdiv z 60 = (qa : Int) := by rw [Int.tdiv_eq_ediv_of_nonneg (by omega)]; exact d1
        have d4 : Int.tmod z 60 = (qb : Int) := by rw [Int.tmod_eq_emod_of_nonneg (by omega)]; exact d2
        have d5 : IntKind.i64.wrap (qa : Int) = (qa : Int) := IntWalk.i64_in _ (by omega)
        have d6 : IntKind.i64.wrap (qb : Int) = (qb : Int) := IntWalk.i64_in _ (by omega)
        replace hz0 := Lib.hid hz0
        clear hqa hqb d1 d2
        clear c0 c1 c2 c3 c4 c5 c6 c7
        obtain ⟨c0, c1, c2, c3, c4, c5, c6, c7⟩ := (hMA.out _ hbB.out.drew)
        have hS := Lib.hid (And.intro c0 (And.intro c1 (And.intro c2 (And.intro c3 (And.intro c4 (And.intro c5 (And.intro c6 (And.intro c7 (Lib.hid hbB.out.drew)))))))))
        clear c0 c1 c2 c3 c4 c5 c6 c7
        obtain ⟨c0, c1, c2, c3, c4, c5, c6, c7⟩ := hMA.out _ hbB.out
        go_upto_region 16 with fail
        clear c0 c1 c2 c3 c4 c5 c6 c7
        go_region_held3 (fun w' => w'.cell? ⟨q, 0, none⟩ = some (.int .i64 (y : Int)) ∧ w'.cell? ⟨q, 1, none⟩ = some (.int .i64 (mo : Int)) ∧ w'.cell? ⟨q, 2, none⟩ = some (.int .i64 (d : Int)) ∧ w'.cell? ⟨q, 3, none⟩ = some (.int .i64 (h : Int)) ∧ w'.cell? ⟨q, 4, none⟩ = some (.int .i64 (mi : Int)) ∧ w'.cell? ⟨q, 5, none⟩ = some (.string s) ∧ w'.cell? ⟨q, 6, none⟩ = some (.int .i64 z) ∧ w'.cell? ⟨q, 7, none⟩ = some (.bool true) ∧ Hid (Below W1.heap.size W1 w'))
          (first | exact hS.out | assumption | exact eight_later (by assumption) (by assumption))
          (first | (go_at_call 48; refine (hTx.out _ _ _ (by assumption)).mono ?_; rintro e w' ⟨rfl, hbb⟩))
        rename_i hH
        have hbC := eight_out hH
        go_wp2_with fail
        go_ret2
        exact ⟨by rw [hv.out]; rfl, hb1.out.trans (hbC.mono hb1.out.size)⟩
      · have hv : Hid (R = N4) := Lib.hid (by rw [hRc.out, if_neg (by decide), if_neg hz0, if_pos (by omega)])
        obtain ⟨zz, hzz⟩ : ∃ m : Nat, m = z.natAbs := ⟨_, rfl⟩
        have d0 : IntKind.i64.wrap (-z) = (zz : Int) := by rw [IntWalk.i64_in _ (by omega)]; omega
        have d7 : IntKind.i64.wrap (zz : Int) = (zz : Int) := IntWalk.i64_in _ (by omega)
        have d1 : (zz : Int) / 60 = (qa : Int) := by omega
        have d2 : (zz : Int) % 60 = (qb : Int) := by omega
        have d3 : Int.tdiv (zz : Int) 60 = (qa : Int) := by rw [Int.tdiv_eq_ediv_of_nonneg (by omega)]; exact d1
        have d4 : Int.tmod (zz : Int) 60 = (qb : Int) := by rw [Int.tmod_eq_emod_of_nonneg (by omega)]; exact d2
        have d5 : IntKind.i64.wrap (qa : Int) = (qa : Int) := IntWalk.i64_in _ (by omega)
        have d6 : IntKind.i64.wrap (qb : Int) = (qb : Int) := IntWalk.i64_in _ (by omega)
        replace hz0 := Lib.hid hz0
        clear hqa hqb hzz d1 d2
        clear c0 c1 c2 c3 c4 c5 c6 c7
        obtain ⟨c0, c1, c2, c3, c4, c5, c6, c7⟩ := (hMA.out _ hbB.out.drew)
        have hS := Lib.hid (And.intro c0 (And.intro c1 (And.intro c2 (And.intro c3 (And.intro c4 (And.intro c5 (And.intro c6 (And.intro c7 (Lib.hid hbB.out.drew)))))))))
        clear c0 c1 c2 c3 c4 c5 c6 c7
        obtain ⟨c0, c1, c2, c3, c4, c5, c6, c7⟩ := hMA.out _ hbB.out
        go_upto_region 18 with fail
        clear c0 c1 c2 c3 c4 c5 c6 c7
        go_region_held3 (fun w' => w'.cell? ⟨q, 0, none⟩ = some (.int .i64 (y : Int)) ∧ w'.cell? ⟨q, 1, none⟩ = some (.int .i64 (mo : Int)) ∧ w'.cell? ⟨q, 2, none⟩ = some (.int .i64 (d : Int)) ∧ w'.cell? ⟨q, 3, none⟩ = some (.int .i64 (h : Int)) ∧ w'.cell? ⟨q, 4, none⟩ = some (.int .i64 (mi : Int)) ∧ w'.cell? ⟨q, 5, none⟩ = some (.string s) ∧ w'.cell? ⟨q, 6, none⟩ = some (.int .i64 z) ∧ w'.cell? ⟨q, 7, none⟩ = some (.bool true) ∧ Hid (Below W1.heap.size W1 w'))
          (first | exact hS.out | assumption | exact eight_later (by assumption) (by assumption))
          (first | (go_at_call 48; refine (hTx.out _ _ _ (by assumption)).mono ?_; rintro e w' ⟨rfl, hbb⟩))
        rename_i hH
        have hbC := eight_out hH
        go_wp2_with fail
        go_ret2
        exact ⟨by rw [hv.out]; rfl, hb1.out.trans (hbC.mono hb1.out.size)⟩
end Go.Proofs.YtgobpoeccdgeiaaGreatDoor
