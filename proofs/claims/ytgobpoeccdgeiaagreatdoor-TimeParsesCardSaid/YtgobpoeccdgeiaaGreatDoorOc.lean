/- Package time: Text's digits. Package time: Text (printed by gentxt.py). Package time: Text, whole. Package time: the reader's sign. Package time: the reader's digits. Package time: the reader's zone. Package time: Parse, around read. Package time: the reader's fraction. Package time: the reader's second. -/
import Derived.Test.YtgobpoeccdgeiaaGreatDoorOb
import Derived.Test.YtgobpoeccdgeiaaGreatDoorOa
import Derived.Deep.Cut
import Derived.Deep.RegionHeld3
import Derived.WalkLawsBesides
import Derived.Defers
import Derived.Recover
import Derived.Laws.Pointers
import Derived.Test.YtgobpoeccdgeiaaGreatDoorQb

namespace Go.Proofs.YtgobpoeccdgeiaaGreatDoor
open Go.RowKit NumP DurP TimeP Go.Proofs.YtgobpoeccdgeiaaGreatDoorW.PrintWords
set_option linter.unusedVariables false

set_option maxRecDepth 100000 in
set_option maxHeartbeats 4000000 in
theorem text1_t (n m : Nat) (W : World) (hL : LaidT W) (hn : n < 1000000000) (hm : m ≤ 9) : Calls Tryz.prog 44 #[.int .i64 (n : Int), .int .i64 (m : Int)] W fun e w' => e = .returned (.string ⟨(padP n m).toArray⟩) ∧ Below W.heap.size W w' := by
  have hit := itoa_t (n : Int) W hL (by omega)
  rw [if_neg (by omega), Int.natAbs_natCast, List.nil_append] at hit
  obtain ⟨D, hD⟩ : ∃ D : ByteArray, D = ⟨(decP n).toArray⟩ := ⟨_, rfl⟩
  rw [← hD] at hit
  have hDl : D.data.toList = decP n := by rw [hD]
  have hDs : D.size ≤ 18 := by rw [← list_len, hDl]; exact decF_short 20 n 17 (by omega)
  obtain ⟨k, hk⟩ : ∃ k : Nat, k = m - D.size := ⟨_, rfl⟩
  have gk : max (0 : Int) ((m : Int) - (D.size : Int)) = (k : Int) := by omega
  obtain ⟨Z, hZ⟩ : ∃ Z : ByteArray, Z = ⟨(List.replicate k 48).toArray⟩ := ⟨_, rfl⟩
  have hZs : Z.size = k := by rw [← list_len, hZ]; simp
  have hze : Hid (∀ w, Calls Tryz.prog 46 #[.string ⟨#[48]⟩, .int .i64 (k : Int)] w fun e w' => e = .returned (.string Z) ∧ Below w.heap.size w w') := Lib.hid (fun w => by rw [hZ]; exact zeros_t k w (by omega))
  have e1 : (9223372036854775807 < Z.size + D.size) = False := eq_false (by omega)
  have hR : Hid ((⟨(padP n m).toArray⟩ : ByteArray) = Z ++ D) := Lib.hid (by
    apply data_inj
    rw [ByteArray.data_append, hZ, hk, ← list_len, hDl, hD]
    unfold padP
    simp)
  clear hDl hD hZ hk hZs hn
  go_enter Tryz.func44, Tryz.ntmps44
  go_wp2_with fail
  refine hit.mono ?_
  rintro e w1 ⟨rfl, hb1⟩
  clear hit
  go_wp2_with fail
  refine (hze.out _).mono ?_
  rintro e w2 ⟨rfl, hb2⟩
  clear gk
  go_wp2_with fail
  go_ret
  exact ⟨by rw [hR.out]; rfl, hb1.trans (hb2.mono hb1.size)⟩
end Go.Proofs.YtgobpoeccdgeiaaGreatDoor

namespace Go.Proofs.YtgobpoeccdgeiaaGreatDoor
open Go.RowKit NumP DurP TimeP Go.Proofs.YtgobpoeccdgeiaaGreatDoorW.PrintWords
set_option linter.unusedVariables false

/-- The texts of Text's steps. -/
def txDate (k : Int) (y mo d : Nat) : List UInt8 := if k ≠ 7 then padP y 4 ++ 45 :: padP mo 2 ++ 45 :: padP d 2 else []
def txClock (k : Int) (h mi : Nat) (s : List UInt8) : List UInt8 := if k ≠ 6 then padP h 2 ++ 58 :: padP mi 2 ++ 58 :: (List.replicate (2 - (before 46 s).length) 48 ++ before 46 s ++ (if s.contains 46 then 46 :: behind 46 s else [])) else []
def txZone (z : Int) (has : Bool) : List UInt8 := if has = false then [] else if z = 0 then [90] else (if z < 0 then 45 else 43) :: padP (z.natAbs / 60) 2 ++ 58 :: padP (z.natAbs % 60) 2
theorem textMom_ok {k : Int} (hk : k = 6 ∨ k = 7 ∨ k = 8) {y mo d h mi : Nat} {s : List UInt8} {z : Int} {has : Bool} (hv : validP ⟨y, mo, d, h, mi, s, z, has⟩ = true) :
    textMom k ⟨y, mo, d, h, mi, s, z, has⟩ = (txDate k y mo d ++ (if k = 8 then [84] else []) ++ txClock k h mi s ++ txZone z has, 0) := by
  unfold textMom
  rw [if_neg (by rw [hv]; unfold TimeP.kindOk; simp; omega)]
  rfl
theorem textMom_bad {k : Int} {m : Mom} (hb : TimeP.kindOk k = false ∨ validP m = false) : textMom k m = ([], 1) := by
  unfold textMom
  rw [if_pos hb]
/-- The digits of a number, as bytes. -/
def tb (n : Nat) (m : Int) : ByteArray := ⟨(padP n m.toNat).toArray⟩
def TxOk (n : Nat) (m : Int) : Prop := n < 1000000000 ∧ 0 ≤ m ∧ m ≤ 9
theorem text1_x (n : Nat) (m : Int) (W : World) (hL : LaidT W) (ho : TxOk n m) : Calls Tryz.prog 44 #[.int .i64 (n : Int), .int .i64 m] W fun e w' => e = .returned (.string (tb n m)) ∧ Below W.heap.size W w' := by
  obtain ⟨k, rfl⟩ : ∃ k : Nat, m = (k : Int) := ⟨m.toNat, by have := ho.2.1; omega⟩
  exact text1_t n k W hL ho.1 (by have := ho.2.2; omega)
theorem tb_size {n : Nat} {m : Int} (h : n < 10 ^ m.toNat) (h1 : 1 ≤ m.toNat) (h2 : m.toNat ≤ 9) : (tb n m).size = m.toNat := by
  rw [← list_len]; exact (padP_is h h1 h2).2.1
theorem tb_data (n : Nat) (m : Int) : (tb n m).data = (padP n m.toNat).toArray := rfl
set_option maxRecDepth 100000 in
set_option maxHeartbeats 8000000 in
theorem Text_ok (k : Int) (y mo d h mi n : Nat) (s : ByteArray) (z : Int) (has : Bool) (W : World) (hL : LaidT W) (hs : s.size ≤ 1000) (hk : k = 6 ∨ k = 7 ∨ k = 8) (hv : validP ⟨y, mo, d, h, mi, s.data.toList, z, has⟩ = true) (hp : Parts y mo d h mi n) (hsd : s.data.toList = tx (n * P14)) (hz : Zone z has) : Calls Tryz.prog 18 #[.int .i64 k, .agg #[.int .i64 (y : Int), .int .i64 (mo : Int), .int .i64 (d : Int), .int .i64 (h : Int), .int .i64 (mi : Int), .string s, .int .i64 z, .bool has]] W fun e w' => e = .returned (.tuple #[.string ⟨(textMom k ⟨y, mo, d, h, mi, s.data.toList, z, has⟩).1.toArray⟩, .int .i64 (textMom k ⟨y, mo, d, h, mi, s.data.toList, z, has⟩).2]) ∧ Below W.heap.size W w' := by
  rw [textMom_ok hk hv]
  obtain ⟨W1, hW1⟩ : ∃ w, w = W.alloc (.cells #[.int .i64 (y : Int), .int .i64 (mo : Int), .int .i64 (d : Int), .int .i64 (h : Int), .int .i64 (mi : Int), .string s, .int .i64 z, .bool has] 24) := ⟨_, rfl⟩
  obtain ⟨q, hq⟩ : ∃ q, q = W.heap.size := ⟨_, rfl⟩
  have hx1 : W1.heap[q]? = some (.cells #[.int .i64 (y : Int), .int .i64 (mo : Int), .int .i64 (d : Int), .int .i64 (h : Int), .int .i64 (mi : Int), .string s, .int .i64 z, .bool has] 24 (0, 0)) := by rw [hW1, hq]; exact (MapKept.heap_alloc _ _).1
  have hb1 : Hid (Below W.heap.size W W1) := Lib.hid (by rw [hW1]; exact (Below.refl _ _).alloc (Nat.le_refl _) _)
  have hM1 := Lib.hid (MomAt.of_heap hx1)
  have hva := valid_t y mo d h mi s z has W1 (hL.below hb1.out hL.size) hs
  rw [hv] at hva
  replace hL := Lib.hid hL
  have p1 := hp.y2
  have p2 := hp.date.m2
  have p3 := hp.date.d2
  have p4 := (lenM_pos y mo).2
  have p5 := hp.h2
  have p6 := hp.mi2
  have z1 := hz.lo
  have z2 := hz.hi
  obtain ⟨qa, hqa⟩ : ∃ qa, qa = z.natAbs / 60 := ⟨_, rfl⟩
  obtain ⟨qb, hqb⟩ : ∃ qb, qb = z.natAbs % 60 := ⟨_, rfl⟩
  have p7 : qa < 100 := by omega
  have p8 : qb < 100 := by omega
  have zY4 : (tb y 4).size = 4 := tb_size (show y < 10 ^ 4 by omega) (by decide) (by decide)
  have oY4 : Hid (TxOk y 4) := Lib.hid ⟨by omega, by decide, by decide⟩
  have zM2 : (tb mo 2).size = 2 := tb_size (show mo < 10 ^ 2 by omega) (by decide) (by decide)
  have oM2 : Hid (TxOk mo 2) := Lib.hid ⟨by omega, by decide, by decide⟩
  have zD2 : (tb d 2).size = 2 := tb_size (show d < 10 ^ 2 by omega) (by decide) (by decide)
  have oD2 : Hid (TxOk d 2) := Lib.hid ⟨by omega, by decide, by decide⟩
  have zH2 : (tb h 2).size = 2 := tb_size (show h < 10 ^ 2 by omega) (by decide) (by decide)
  have oH2 : Hid (TxOk h 2) := Lib.hid ⟨by omega, by decide, by decide⟩
  have zI2 : (tb mi 2).size = 2 := tb_size (show mi < 10 ^ 2 by omega) (by decide) (by decide)
  have oI2 : Hid (TxOk mi 2) := Lib.hid ⟨by omega, by decide, by decide⟩
  have zQ1 : (tb qa 2).size = 2 := tb_size (show qa < 10 ^ 2 by omega) (by decide) (by decide)
  have oQ1 : Hid (TxOk qa 2) := Lib.hid ⟨by omega, by decide, by decide⟩
  have zQ2 : (tb qb 2).size = 2 := tb_size (show qb < 10 ^ 2 by omega) (by decide) (by decide)
  have oQ2 : Hid (TxOk qb 2) := Lib.hid ⟨by omega, by decide, by decide⟩
  have hTx : Hid (∀ (n : Nat) (m : Int) w, Hid (TxOk n m) → LaidT w → Calls Tryz.prog 44 #[.int .i64 (n : Int), .int .i64 m] w fun e w' => e = .returned (.string (tb n m)) ∧ Below w.heap.size w w') := Lib.hid (fun n m w ho hw => text1_x n m w hw ho.out)
  have hmic := micP_text hp.n2
  rw [← hsd] at hmic
  have hw2 : (before 46 s.data.toList).length ≤ 2 ∧ (behind 46 s.data.toList).length ≤ 6 := by
    unfold micP at hmic
    split at hmic
    · cases hmic
    · split at hmic
      · cases hmic
      · omega
  obtain ⟨wb, hwb⟩ : ∃ b : ByteArray, b = ⟨(before 46 s.data.toList).toArray⟩ := ⟨_, rfl⟩
  obtain ⟨fb, hfb⟩ : ∃ b : ByteArray, b = ⟨(behind 46 s.data.toList).toArray⟩ := ⟨_, rfl⟩
  have zwb : wb.size ≤ 2 := by rw [← list_len, hwb]; exact hw2.1
  have zfb : fb.size ≤ 6 := by rw [← list_len, hfb]; exact hw2.2
  obtain ⟨cc, hcc⟩ : ∃ c, c = s.data.toList.contains 46 := ⟨_, rfl⟩
  have hcu : Hid (∀ w, LaidT w → Calls Tryz.prog 47 #[.string s, .string ⟨#[46]⟩] w fun e w' => e = .returned (.tuple #[.string wb, .string fb, .bool cc]) ∧ Below w.heap.size w w') := Lib.hid (fun w hw => (cut_t s w hw (by omega)).mono fun e w' h => ⟨by rw [h.1, hwb, hfb, hcc], h.2⟩)
  obtain ⟨zk, hzk⟩ : ∃ zk : Nat, zk = 2 - wb.size := ⟨_, rfl⟩
  have g2 : (2 : Int) - (wb.size : Int) = (zk : Int) := by omega
  have g3 : IntKind.i64.wrap ((2 : Int) - (wb.size : Int)) = (zk : Int) := by rw [g2]; exact IntWalk.i64_in _ (by omega)
  have g4 : IntKind.i64.wrap (zk : Int) = (zk : Int) := IntWalk.i64_in _ (by omega)
  obtain ⟨Z, hZ⟩ : ∃ Z : ByteArray, Z = ⟨(List.replicate zk 48).toArray⟩ := ⟨_, rfl⟩
  have zZ : Z.size = zk := by rw [← list_len, hZ]; simp
  have hze : Hid (∀ w, Calls Tryz.prog 46 #[.string ⟨#[48]⟩, .int .i64 (zk : Int)] w fun e w' => e = .returned (.string Z) ∧ Below w.heap.size w w') := Lib.hid (fun w => by rw [hZ]; exact zeros_t zk w (by omega))
  obtain ⟨A1, hA1⟩ : ∃ b : ByteArray, b = (tb y 4) ++ ⟨#[45]⟩ := ⟨_, rfl⟩
  have zA1 : A1.size = (tb y 4).size + 1 := by rw [hA1, ByteArray.size_append]; rfl
  have eA1 : (9223372036854775807 < (tb y 4).size + 1) = False := eq_false (by omega)
  have qA1 : (tb y 4) ++ ⟨#[45]⟩ = A1 := hA1.symm
  obtain ⟨A2, hA2⟩ : ∃ b : ByteArray, b = A1 ++ (tb mo 2) := ⟨_, rfl⟩
  have zA2 : A2.size = A1.size + (tb mo 2).size := by rw [hA2, ByteArray.size_append]
  have eA2 : (9223372036854775807 < A1.size + (tb mo 2).size) = False := eq_false (by omega)
  have qA2 : A1 ++ (tb mo 2) = A2 := hA2.symm
  obtain ⟨A3, hA3⟩ : ∃ b : ByteArray, b = A2 ++ ⟨#[45]⟩ := ⟨_, rfl⟩
  have zA3 : A3.size = A2.size + 1 := by rw [hA3, ByteArray.size_append]; rfl
  have eA3 : (9223372036854775807 < A2.size + 1) = False := eq_false (by omega)
  have qA3 : A2 ++ ⟨#[45]⟩ = A3 := hA3.symm
  obtain ⟨A4, hA4⟩ : ∃ b : ByteArray, b = A3 ++ (tb d 2) := ⟨_, rfl⟩
  have zA4 : A4.size = A3.size + (tb d 2).size := by rw [hA4, ByteArray.size_append]
  have eA4 : (9223372036854775807 < A3.size + (tb d 2).size) = False := eq_false (by omega)
  have qA4 : A3 ++ (tb d 2) = A4 := hA4.symm
  obtain ⟨l1, hl1⟩ : ∃ l, l = txDate k y mo d := ⟨_, rfl⟩
  obtain ⟨l2, hl2⟩ : ∃ l, l = l1 ++ (if k = 8 then [84] else []) := ⟨_, rfl⟩
  obtain ⟨l3, hl3⟩ : ∃ l, l = l2 ++ txClock k h mi s.data.toList := ⟨_, rfl⟩
  rw [← hl1, ← hl2, ← hl3]
  obtain ⟨S1, hS1⟩ : ∃ b : ByteArray, b = ⟨l1.toArray⟩ := ⟨_, rfl⟩
  obtain ⟨b7, hb7⟩ : ∃ b, (k != 7) = b := ⟨_, rfl⟩
  obtain ⟨b8, hb8⟩ : ∃ b, (k == 8) = b := ⟨_, rfl⟩
  obtain ⟨b6, hb6⟩ : ∃ b, (k != 6) = b := ⟨_, rfl⟩
  have hS1c : S1 = if b7 then A4 else ⟨#[]⟩ := by
    have e7 : k ≠ 7 ↔ b7 = true := by rw [← hb7]; simp
    rw [hS1, hl1]; unfold txDate
    simp only [e7]
    split
    · apply data_inj
      rw [hA4, hA3, hA2, hA1]
      simp only [ByteArray.data_append, tb_data]
      simp
    · rfl
  have zS1 : S1.size ≤ 20 := by rw [hS1c]; split; omega; decide
  obtain ⟨T1, hT1⟩ : ∃ b : ByteArray, b = S1 ++ ⟨#[84]⟩ := ⟨_, rfl⟩
  have zT1 : T1.size = S1.size + 1 := by rw [hT1, ByteArray.size_append]; rfl
  have eT1 : (9223372036854775807 < S1.size + 1) = False := eq_false (by omega)
  have qT1 : S1 ++ ⟨#[84]⟩ = T1 := hT1.symm
  obtain ⟨S2, hS2⟩ : ∃ b : ByteArray, b = ⟨l2.toArray⟩ := ⟨_, rfl⟩
  have hS2c : S2 = if b8 then T1 else S1 := by
    have e8 : k = 8 ↔ b8 = true := by rw [← hb8]; simp
    rw [hS2, hl2]
    simp only [e8]
    split
    · apply data_inj
      rw [hT1, ByteArray.data_append, hS1]
      simp
    · rw [hS1, List.append_nil]
  have zS2 : S2.size ≤ 21 := by rw [hS2c]; split <;> omega
  obtain ⟨B1, hB1⟩ : ∃ b : ByteArray, b = (tb h 2) ++ ⟨#[58]⟩ := ⟨_, rfl⟩
  have zB1 : B1.size = (tb h 2).size + 1 := by rw [hB1, ByteArray.size_append]; rfl
  have eB1 : (9223372036854775807 < (tb h 2).size + 1) = False := eq_false (by omega)
  have qB1 : (tb h 2) ++ ⟨#[58]⟩ = B1 := hB1.symm
  obtain ⟨B2, hB2⟩ : ∃ b : ByteArray, b = B1 ++ (tb mi 2) := ⟨_, rfl⟩
  have zB2 : B2.size = B1.size + (tb mi 2).size := by rw [hB2, ByteArray.size_append]
  have eB2 : (9223372036854775807 < B1.size + (tb mi 2).size) = False := eq_false (by omega)
  have qB2 : B1 ++ (tb mi 2) = B2 := hB2.symm
  obtain ⟨B3, hB3⟩ : ∃ b : ByteArray, b = B2 ++ ⟨#[58]⟩ := ⟨_, rfl⟩
  have zB3 : B3.size = B2.size + 1 := by rw [hB3, ByteArray.size_append]; rfl
  have eB3 : (9223372036854775807 < B2.size + 1) = False := eq_false (by omega)
  have qB3 : B2 ++ ⟨#[58]⟩ = B3 := hB3.symm
  obtain ⟨B4, hB4⟩ : ∃ b : ByteArray, b = B3 ++ Z := ⟨_, rfl⟩
  have zB4 : B4.size = B3.size + Z.size := by rw [hB4, ByteArray.size_append]
  have eB4 : (9223372036854775807 < B3.size + Z.size) = False := eq_false (by omega)
  have qB4 : B3 ++ Z = B4 := hB4.symm
  obtain ⟨B5, hB5⟩ : ∃ b : ByteArray, b = B4 ++ wb := ⟨_, rfl⟩
  have zB5 : B5.size = B4.size + wb.size := by rw [hB5, ByteArray.size_append]
  have eB5 : (9223372036854775807 < B4.size + wb.size) = False := eq_false (by omega)
  have qB5 : B4 ++ wb = B5 := hB5.symm
  obtain ⟨B6, hB6⟩ : ∃ b : ByteArray, b = S2 ++ B5 := ⟨_, rfl⟩
  have zB6 : B6.size = S2.size + B5.size := by rw [hB6, ByteArray.size_append]
  have eB6 : (9223372036854775807 < S2.size + B5.size) = False := eq_false (by omega)
  have qB6 : S2 ++ B5 = B6 := hB6.symm
  obtain ⟨C1, hC1⟩ : ∃ b : ByteArray, b = (⟨#[46]⟩ : ByteArray) ++ fb := ⟨_, rfl⟩
  have zC1 : C1.size = 1 + fb.size := by rw [hC1, ByteArray.size_append]; rfl
  have eC1 : (9223372036854775807 < 1 + fb.size) = False := eq_false (by omega)
  have qC1 : (⟨#[46]⟩ : ByteArray) ++ fb = C1 := hC1.symm
  obtain ⟨C2, hC2⟩ : ∃ b : ByteArray, b = B6 ++ C1 := ⟨_, rfl⟩
  have zC2 : C2.size = B6.size + C1.size := by rw [hC2, ByteArray.size_append]
  have eC2 : (9223372036854775807 < B6.size + C1.size) = False := eq_false (by omega)
  have qC2 : B6 ++ C1 = C2 := hC2.symm
  obtain ⟨S3, hS3⟩ : ∃ b : ByteArray, b = ⟨l3.toArray⟩ := ⟨_, rfl⟩
  have hS3c : S3 = if b6 then (if cc then C2 else B6) else S2 := by
    have e6 : k ≠ 6 ↔ b6 = true := by rw [← hb6]; simp
    rw [hS3, hl3]; unfold txClock
    simp only [e6, ← hcc]
    split
    · have hz2 : List.replicate (2 - (before 46 s.data.toList).length) (48 : UInt8) = Z.data.toList := by rw [hZ, hzk, ← list_len, hwb]
      rw [hz2]
      split
      · apply data_inj
        rw [hC2, hC1, hB6, hB5, hB4, hB3, hB2, hB1]
        simp only [ByteArray.data_append, tb_data, hS2, hwb, hfb]
        simp
      · apply data_inj
        rw [hB6, hB5, hB4, hB3, hB2, hB1]
        simp only [ByteArray.data_append, tb_data, hS2, hwb]
        simp
    · rw [hS2, List.append_nil]
  have zS3 : S3.size ≤ 60 := by rw [hS3c]; split; (split <;> omega); omega
  obtain ⟨U1, hU1⟩ : ∃ b : ByteArray, b = S3 ++ ⟨#[90]⟩ := ⟨_, rfl⟩
  have zU1 : U1.size = S3.size + 1 := by rw [hU1, ByteArray.size_append]; rfl
  have eU1 : (9223372036854775807 < S3.size + 1) = False := eq_false (by omega)
  have qU1 : S3 ++ ⟨#[90]⟩ = U1 := hU1.symm
  obtain ⟨E1, hE1⟩ : ∃ b : ByteArray, b = (⟨#[45]⟩ : ByteArray) ++ (tb qa 2) := ⟨_, rfl⟩
  have zE1 : E1.size = 1 + (tb qa 2).size := by rw [hE1, ByteArray.size_append]; rfl
  have eE1 : (9223372036854775807 < 1 + (tb qa 2).size) = False := eq_false (by omega)
  have qE1 : (⟨#[45]⟩ : ByteArray) ++ (tb qa 2) = E1 := hE1.symm
  obtain ⟨E2, hE2⟩ : ∃ b : ByteArray, b = E1 ++ ⟨#[58]⟩ := ⟨_, rfl⟩
  have zE2 : E2.size = E1.size + 1 := by rw [hE2, ByteArray.size_append]; rfl
  have eE2 : (9223372036854775807 < E1.size + 1) = False := eq_false (by omega)
  have qE2 : E1 ++ ⟨#[58]⟩ = E2 := hE2.symm
  obtain ⟨E3, hE3⟩ : ∃ b : ByteArray, b = E2 ++ (tb qb 2) := ⟨_, rfl⟩
  have zE3 : E3.size = E2.size + (tb qb 2).size := by rw [hE3, ByteArray.size_append]
  have eE3 : (9223372036854775807 < E2.size + (tb qb 2).size) = False := eq_false (by omega)
  have qE3 : E2 ++ (tb qb 2) = E3 := hE3.symm
  obtain ⟨E4, hE4⟩ : ∃ b : ByteArray, b = S3 ++ E3 := ⟨_, rfl⟩
  have zE4 : E4.size = S3.size + E3.size := by rw [hE4, ByteArray.size_append]
  have eE4 : (9223372036854775807 < S3.size + E3.size) = False := eq_false (by omega)
  have qE4 : S3 ++ E3 = E4 := hE4.symm
  obtain ⟨F1, hF1⟩ : ∃ b : ByteArray, b = (⟨#[43]⟩ : ByteArray) ++ (tb qa 2) := ⟨_, rfl⟩
  have zF1 : F1.size = 1 + (tb qa 2).size := by rw [hF1, ByteArray.size_append]; rfl
  have eF1 : (9223372036854775807 < 1 + (tb qa 2).size) = False := eq_false (by omega)
  have qF1 : (⟨#[43]⟩ : ByteArray) ++ (tb qa 2) = F1 := hF1.symm
  obtain ⟨F2, hF2⟩ : ∃ b : ByteArray, b = F1 ++ ⟨#[58]⟩ := ⟨_, rfl⟩
  have zF2 : F2.size = F1.size + 1 := by rw [hF2, ByteArray.size_append]; rfl
  have eF2 : (9223372036854775807 < F1.size + 1) = False := eq_false (by omega)
  have qF2 : F1 ++ ⟨#[58]⟩ = F2 := hF2.symm
  obtain ⟨F3, hF3⟩ : ∃ b : ByteArray, b = F2 ++ (tb qb 2) := ⟨_, rfl⟩
  have zF3 : F3.size = F2.size + (tb qb 2).size := by rw [hF3, ByteArray.size_append]
  have eF3 : (9223372036854775807 < F2.size + (tb qb 2).size) = False := eq_false (by omega)
  have qF3 : F2 ++ (tb qb 2) = F3 := hF3.symm
  obtain ⟨F4, hF4⟩ : ∃ b : ByteArray, b = S3 ++ F3 := ⟨_, rfl⟩
  have zF4 : F4.size = S3.size + F3.size := by rw [hF4, ByteArray.size_append]
  have eF4 : (9223372036854775807 < S3.size + F3.size) = False := eq_false (by omega)
  have qF4 : S3 ++ F3 = F4 := hF4.symm
  obtain ⟨S4, hS4⟩ : ∃ b : ByteArray, b = ⟨(l3 ++ txZone z has).toArray⟩ := ⟨_, rfl⟩
  have hS4c : S4 = if has = false then S3 else if z = 0 then U1 else if z < 0 then E4 else F4 := by
    rw [hS4]; unfold txZone
    rw [← hqa, ← hqb]
    split
    · rw [hS3, List.append_nil]
    · split
      · apply data_inj
        rw [hU1, ByteArray.data_append, hS3]
        simp
      · split
        · apply data_inj
          rw [hE4, hE3, hE2, hE1]
          simp only [ByteArray.data_append, tb_data, hS3]
          simp
        · apply data_inj
          rw [hF4, hF3, hF2, hF1]
          simp only [ByteArray.data_append, tb_data, hS3]
          simp
  rw [← hS4]
  clear hl1 hl2 hl3
  replace hS1c := Lib.hid hS1c
  replace hS2c := Lib.hid hS2c
  replace hS3c := Lib.hid hS3c
  replace hS4c := Lib.hid hS4c
  have a1 : max z (-z) = (z.natAbs : Int) := by omega
  have a2 : (z.natAbs : Int) / 60 = (qa : Int) := by omega
  have a3 : (z.natAbs : Int) % 60 = (qb : Int) := by omega
  have a4 : (z.natAbs : Int) ≤ 840 := by omega
  replace zZ := Lib.hid zZ
  clear hS1 hS2 hS3 hS4 hp hsd hv hs hx1 hmic hw2 hwb hfb hcc hzk hZ hqa hqb p1 p2 p3 p4 p5 p6 p7 p8 hA1 hA2 hA3 hA4 hT1 hB1 hB2 hB3 hB4 hB5 hB6 hC1 hC2 hU1 hE1 hE2 hE3 hE4 hF1 hF2 hF3 hF4 zY4 zM2 zD2 zH2 zI2 zQ1 zQ2 zA1 zA2 zA3 zA4 zT1 zB1 zB2 zB3 zB4 zB5 zB6 zC1 zC2 zU1 zE1 zE2 zE3 zE4 zF1 zF2 zF3 zF4 zS1 zS2 zS3
  go_enter Tryz.func18, Tryz.ntmps18
  go_upto_region 1 with fail
  rw [← hW1, ← hq]
  clear hW1
  replace hq := Lib.hid hq
  go_cut [26] from 12 to 25 (fun v wx => v = .bool false ∧ Hid (Below W1.heap.size W1 wx))
  case first =>
    obtain ⟨c0, c1, c2, c3, c4, c5, c6, c7⟩ := hM1.out
    clear hb7 hb8 hb6
    rcases hk with rfl | rfl | rfl
    · go_wp2_with fail
      refine hva.mono ?_
      rintro e w3 ⟨rfl, hb3⟩
      go_wp2_with fail
      go_meet
      exact ⟨rfl, Lib.hid hb3⟩
    · go_wp2_with fail
      refine hva.mono ?_
      rintro e w3 ⟨rfl, hb3⟩
      go_wp2_with fail
      go_meet
      exact ⟨rfl, Lib.hid hb3⟩
    · go_wp2_with fail
      refine hva.mono ?_
      rintro e w3 ⟨rfl, hb3⟩
      go_wp2_with fail
      go_meet
      exact ⟨rfl, Lib.hid hb3⟩
  obtain ⟨rfl, hbW⟩ := hcut
  clear hva
  have hMW := Lib.hid (hM1.out.below hbW.out)
  have hLW : Hid (∀ w, Below W1.heap.size W1 w → LaidT w) := Lib.hid (fun w hw => hL.out.below (hb1.out.trans (hw.mono hb1.out.size)) hL.out.size)
  have hMA : Hid (∀ w, Below W1.heap.size W1 w → MomAt w q y mo d h mi s z has) := Lib.hid (fun w hw => hM1.out.below hw)
  go_upto_if 28 with fail
  go_cut [7] from 29 to 44 (fun v wx => v = .string S1 ∧ Hid (Below W1.heap.size W1 wx))
  case first =>
    cases b7 with
    | true =>
      obtain ⟨c0, c1, c2, c3, c4, c5, c6, c7⟩ := (hMA.out _ hbW.out.drew)
      have hS := Lib.hid (And.intro c0 (And.intro c1 (And.intro c2 (And.intro c3 (And.intro c4 (And.intro c5 (And.intro c6 (And.intro c7 (Lib.hid hbW.out.drew)))))))))
      clear c0 c1 c2 c3 c4 c5 c6 c7
      go_wp2_with fail
      go_region_held3 (fun w' => w'.cell? ⟨q, 0, none⟩ = some (.int .i64 (y : Int)) ∧ w'.cell? ⟨q, 1, none⟩ = some (.int .i64 (mo : Int)) ∧ w'.cell? ⟨q, 2, none⟩ = some (.int .i64 (d : Int)) ∧ w'.cell? ⟨q, 3, none⟩ = some (.int .i64 (h : Int)) ∧ w'.cell? ⟨q, 4, none⟩ = some (.int .i64 (mi : Int)) ∧ w'.cell? ⟨q, 5, none⟩ = some (.string s) ∧ w'.cell? ⟨q, 6, none⟩ = some (.int .i64 z) ∧ w'.cell? ⟨q, 7, none⟩ = some (.bool has) ∧ Hid (Below W1.heap.size W1 w'))
        (first | exact hS.out | assumption | exact eight_later (by assumption) (by assumption))
        (first | (go_at_call 44; refine (hTx.out _ _ _ (by assumption) (hLW.out _ (eight_out (by assumption)))).mono ?_; rintro e w' ⟨rfl, hbb⟩))
      rename_i hH
      have hbb := Lib.hid (eight_out hH)
      clear hH
      go_wp2_with fail
      go_meet
      exact ⟨by rw [hS1c.out]; rfl, hbb⟩
    | false =>
      go_wp2_with fail
      go_meet
      exact ⟨by rw [hS1c.out]; rfl, hbW⟩
  obtain ⟨rfl, hbA⟩ := hcut
  clear hbW hMW
  go_upto_if 46 with fail
  go_cut [7] from 47 to 48 (fun v wx => v = .string S2 ∧ Hid (Below W1.heap.size W1 wx))
  case first =>
    cases b8 with
    | true =>
      go_wp2_with fail
      go_meet
      exact ⟨by rw [hS2c.out]; rfl, hbA⟩
    | false =>
      go_wp2_with fail
      go_meet
      exact ⟨by rw [hS2c.out]; rfl, hbA⟩
  obtain ⟨rfl, hbB⟩ := hcut
  clear hbA
  go_upto_if 50 with fail
  go_cut [7, 8, 9, 10] from 51 to 82 (fun v v8 v9 v10 wx => v = .string S3 ∧ Hid (Below W1.heap.size W1 wx))
  case first =>
    cases b6 with
    | true =>
      obtain ⟨c0, c1, c2, c3, c4, c5, c6, c7⟩ := (hMA.out _ hbB.out)
      go_wp2_with fail
      refine (hcu.out _ (hLW.out _ hbB.out)).mono ?_
      rintro e w5 ⟨rfl, hb5⟩
      have hbC := bel_later hbB hb5
      clear c0 c1 c2 c3 c4 c5 c6 c7 hb5
      obtain ⟨c0, c1, c2, c3, c4, c5, c6, c7⟩ := (hMA.out _ hbC.out.drew)
      have hS := Lib.hid (And.intro c0 (And.intro c1 (And.intro c2 (And.intro c3 (And.intro c4 (And.intro c5 (And.intro c6 (And.intro c7 (Lib.hid hbC.out.drew)))))))))
      clear c0 c1 c2 c3 c4 c5 c6 c7
      go_wp2_with fail
      go_region_held3 (fun w' => w'.cell? ⟨q, 0, none⟩ = some (.int .i64 (y : Int)) ∧ w'.cell? ⟨q, 1, none⟩ = some (.int .i64 (mo : Int)) ∧ w'.cell? ⟨q, 2, none⟩ = some (.int .i64 (d : Int)) ∧ w'.cell? ⟨q, 3, none⟩ = some (.int .i64 (h : Int)) ∧ w'.cell? ⟨q, 4, none⟩ = some (.int .i64 (mi : Int)) ∧ w'.cell? ⟨q, 5, none⟩ = some (.string s) ∧ w'.cell? ⟨q, 6, none⟩ = some (.int .i64 z) ∧ w'.cell? ⟨q, 7, none⟩ = some (.bool has) ∧ Hid (Below W1.heap.size W1 w'))
        (first | exact hS.out | assumption | exact eight_later (by assumption) (by assumption))
        (first
          | (go_at_call 44; refine (hTx.out _ _ _ (by assumption) (hLW.out _ (eight_out (by assumption)))).mono ?_; rintro e w' ⟨rfl, hbb⟩)
          | (go_at_call 46; refine (hze.out _).mono ?_; rintro e w' ⟨rfl, hbb⟩))
      rename_i hH
      have hbb := Lib.hid (eight_out hH)
      clear hH
      cases cc with
      | true =>
        go_wp2_with fail
        go_meet
        exact ⟨by rw [hS3c.out]; rfl, hbb⟩
      | false =>
        go_wp2_with fail
        go_meet
        exact ⟨by rw [hS3c.out]; rfl, hbb⟩
    | false =>
      go_wp2_with fail
      go_meet
      exact ⟨by rw [hS3c.out]; rfl, hbB⟩
  obtain ⟨rfl, hbC⟩ := hcut
  clear hbB
  obtain ⟨c0, c1, c2, c3, c4, c5, c6, c7⟩ := (hMA.out _ hbC.out)
  cases has with
  | false =>
    go_wp2_with fail
    go_ret2
    exact ⟨by rw [hS4c.out]; rfl, hb1.out.trans (hbC.out.mono hb1.out.size)⟩
  | true =>
    by_cases hz0 : z = 0
    · have g0 : ((z.natAbs : Int) == 0) = true := by simp; omega
      have hSv : Hid (S4 = U1) := Lib.hid (by rw [hS4c.out, if_neg (by decide), if_pos hz0])
      replace hz0 := Lib.hid hz0
      go_wp2_with fail
      go_ret2
      exact ⟨by rw [hSv.out]; rfl, hb1.out.trans (hbC.out.mono hb1.out.size)⟩
    · have g0 : ((z.natAbs : Int) == 0) = false := by simp; omega
      by_cases hzn : z < 0
      · have hSv : Hid (S4 = E4) := Lib.hid (by rw [hS4c.out, if_neg (by decide), if_neg hz0, if_pos hzn])
        replace hz0 := Lib.hid hz0
        go_wp2_with fail
        refine (hTx.out _ _ _ (by assumption) (hLW.out _ hbC.out)).mono ?_
        rintro e w6 ⟨rfl, hb6⟩
        have hbD := bel_later hbC hb6
        clear hb6
        go_wp2_with fail
        refine (hTx.out _ _ _ (by assumption) (hLW.out _ hbD.out)).mono ?_
        rintro e w7 ⟨rfl, hb7⟩
        have hbE := bel_later hbD hb7
        clear hb7
        go_wp2_with fail
        go_ret2
        exact ⟨by rw [hSv.out]; rfl, hb1.out.trans (hbE.out.mono hb1.out.size)⟩
      · have hSv : Hid (S4 = F4) := Lib.hid (by rw [hS4c.out, if_neg (by decide), if_neg hz0, if_neg hzn])
        replace hz0 := Lib.hid hz0
        go_wp2_with fail
        refine (hTx.out _ _ _ (by assumption) (hLW.out _ hbC.out)).mono ?_
        rintro e w6 ⟨rfl, hb6⟩
        have hbD := bel_later hbC hb6
        clear hb6
        go_wp2_with fail
        refine (hTx.out _ _ _ (by assumption) (hLW.out _ hbD.out)).mono ?_
        rintro e w7 ⟨rfl, hb7⟩
        have hbE := bel_later hbD hb7
        clear hb7
        go_wp2_with fail
        go_ret2
        exact ⟨by rw [hSv.out]; rfl, hb1.out.trans (hbE.out.mono hb1.out.size)⟩
end Go.Proofs.YtgobpoeccdgeiaaGreatDoor

namespace Go.Proofs.YtgobpoeccdgeiaaGreatDoor
open Go.RowKit NumP DurP TimeP Go.Proofs.YtgobpoeccdgeiaaGreatDoorW.PrintWords
set_option linter.unusedVariables false

set_option maxRecDepth 100000 in
set_option maxHeartbeats 4000000 in
theorem Text_t (k y mo d h mi : Int) (s : ByteArray) (z : Int) (has : Bool) (W : World) (hL : LaidT W) (hs : s.size ≤ 1000) : Calls Tryz.prog 18 #[.int .i64 k, .agg #[.int .i64 y, .int .i64 mo, .int .i64 d, .int .i64 h, .int .i64 mi, .string s, .int .i64 z, .bool has]] W fun e w' => e = .returned (.tuple #[.string ⟨(textMom k ⟨y, mo, d, h, mi, s.data.toList, z, has⟩).1.toArray⟩, .int .i64 (textMom k ⟨y, mo, d, h, mi, s.data.toList, z, has⟩).2]) ∧ Below W.heap.size W w' := by
  obtain ⟨W1, hW1⟩ : ∃ w, w = W.alloc (.cells #[.int .i64 y, .int .i64 mo, .int .i64 d, .int .i64 h, .int .i64 mi, .string s, .int .i64 z, .bool has] 24) := ⟨_, rfl⟩
  obtain ⟨q, hq⟩ : ∃ q, q = W.heap.size := ⟨_, rfl⟩
  have hx1 : W1.heap[q]? = some (.cells #[.int .i64 y, .int .i64 mo, .int .i64 d, .int .i64 h, .int .i64 mi, .string s, .int .i64 z, .bool has] 24 (0, 0)) := by rw [hW1, hq]; exact (MapKept.heap_alloc _ _).1
  have hb1 : Hid (Below W.heap.size W W1) := Lib.hid (by rw [hW1]; exact (Below.refl _ _).alloc (Nat.le_refl _) _)
  have hM1 := Lib.hid (MomAt.of_heap hx1)
  have hva := valid_t y mo d h mi s z has W1 (hL.below hb1.out hL.size) hs
  by_cases hk : k = 6 ∨ k = 7 ∨ k = 8
  · by_cases hv : validP ⟨y, mo, d, h, mi, s.data.toList, z, has⟩ = true
    · obtain ⟨y', mo', d', h', mi', n, rfl, rfl, rfl, rfl, rfl, hsd, hp, hz⟩ := val_cases hv
      exact Text_ok k y' mo' d' h' mi' n s z has W hL hs hk hv hp hsd hz
    · rw [Bool.not_eq_true] at hv
      rw [hv] at hva
      have hR : Hid (textMom k ⟨y, mo, d, h, mi, s.data.toList, z, has⟩ = ([], 1)) := Lib.hid (textMom_bad (Or.inr hv))
      clear hx1 hs hv hL
      go_enter Tryz.func18, Tryz.ntmps18
      go_upto_region 1 with fail
      rw [← hW1, ← hq]
      clear hW1
      replace hq := Lib.hid hq
      go_cut [26] from 12 to 25 (fun v wx => v = .bool true ∧ Hid (Below W1.heap.size W1 wx))
      case first =>
        obtain ⟨c0, c1, c2, c3, c4, c5, c6, c7⟩ := hM1.out
        replace hR := Lib.hid hR
        rcases hk with rfl | rfl | rfl
        · go_wp2_with fail
          refine hva.mono ?_
          rintro e w3 ⟨rfl, hb3⟩
          go_wp2_with fail
          go_meet
          exact ⟨rfl, Lib.hid hb3⟩
        · go_wp2_with fail
          refine hva.mono ?_
          rintro e w3 ⟨rfl, hb3⟩
          go_wp2_with fail
          go_meet
          exact ⟨rfl, Lib.hid hb3⟩
        · go_wp2_with fail
          refine hva.mono ?_
          rintro e w3 ⟨rfl, hb3⟩
          go_wp2_with fail
          go_meet
          exact ⟨rfl, Lib.hid hb3⟩
      obtain ⟨rfl, hbW⟩ := hcut
      go_wp2_with fail
      go_ret2
      exact ⟨by rw [hR.out]; rfl, hb1.out.trans (hbW.out.mono hb1.out.size)⟩
  · have hR : Hid (textMom k ⟨y, mo, d, h, mi, s.data.toList, z, has⟩ = ([], 1)) := Lib.hid (textMom_bad (Or.inl (by unfold TimeP.kindOk; simp; omega)))
    have g6 : (k != 6) = true := by simp; omega
    have g7 : (k != 7) = true := by simp; omega
    have g8 : (k != 8) = true := by simp; omega
    have h6 : (k == 6) = false := by simp; omega
    have h7 : (k == 7) = false := by simp; omega
    have h8 : (k == 8) = false := by simp; omega
    clear hx1 hs hL hva hk
    go_enter Tryz.func18, Tryz.ntmps18
    go_upto_region 1 with fail
    rw [← hW1, ← hq]
    clear hW1
    replace hq := Lib.hid hq
    go_wp2_with fail
    go_ret2
    exact ⟨by rw [hR.out]; rfl, hb1.out⟩
end Go.Proofs.YtgobpoeccdgeiaaGreatDoor

namespace Go.Proofs.YtgobpoeccdgeiaaGreatDoor
open Go.RowKit NumP DurP TimeP Go.Proofs.YtgobpoeccdgeiaaGreatDoorW.PrintWords
set_option linter.unusedVariables false

/-- What a reader's step turns: its own block alone. -/
structure Stp (r : Nat) (W w' : World) : Prop where
  below : Below r W w'
  rest : ∀ k, k < W.heap.size → k ≠ r → w'.heap[k]? = W.heap[k]?
theorem Stp.refl (r : Nat) (W : World) : Stp r W W := ⟨Below.refl _ _, fun _ _ _ => rfl⟩
theorem Stp.trans {r : Nat} {a b c : World} (h : Stp r a b) (k : Stp r b c) : Stp r a c :=
  ⟨h.below.trans k.below, fun i h1 h2 => (k.rest i (Nat.lt_of_lt_of_le h1 h.below.size) h2).trans (h.rest i h1 h2)⟩
theorem Stp.of_below {r : Nat} {W w' : World} (h : Below W.heap.size W w') (hr : r < W.heap.size) : Stp r W w' := ⟨h.mono (Nat.le_of_lt hr), fun k h1 _ => h.block k h1⟩
/-- A reader with what is left. -/
def RdAt (w : World) (r : Nat) (s : ByteArray) : Prop := w.heap[r]? = some (.cells #[.string s] 102 (0, 0))
/-- What the reader panics with. -/
def wrongE : PanicEntry := { v := .iface 149 (.agg #[]), recovered := false }
theorem idx_any (c : UInt8) : ∀ (l : List UInt8), -1 ≤ Lib.indexByte l c ∧ (0 ≤ Lib.indexByte l c ↔ l.contains c = true)
  | [] => by simp [Lib.indexByte]
  | b :: l => by
    obtain ⟨h1, h2⟩ := idx_any c l
    by_cases hb : b = c
    · subst hb
      have e : Lib.indexByte (b :: l) b = 0 := by simp [Lib.indexByte]
      rw [e]; simp
    · have e : Lib.indexByte (b :: l) c = if Lib.indexByte l c == -1 then -1 else Lib.indexByte l c + 1 := by
        rw [Lib.indexByte, if_neg (by simpa using hb)]
      have e2 : (b :: l).contains c = l.contains c := by
        rw [List.contains_cons, show (c == b) = false by simpa using fun h => hb h.symm, Bool.false_or]
      rw [e, e2]
      by_cases h3 : Lib.indexByte l c = -1
      · rw [if_pos (by simpa using h3)]
        rw [h3] at h2
        exact ⟨by decide, ⟨fun h => absurd h (by decide), fun h => absurd (h2.2 h) (by decide)⟩⟩
      · rw [if_neg (by simpa using h3)]
        refine ⟨by omega, ?_⟩
        rw [← h2]
        constructor <;> intro <;> omega
/-- What a step of the reader leaves. -/
def SignPost (r : Nat) (W : World) (o : Option (UInt8 × List UInt8)) (e : Ending) (w' : World) : Prop := Stp r W w' ∧ match o with
  | none => e = .panicked [wrongE]
  | some (c, l) => e = .returned (.int .u8 (c.toNat : Int)) ∧ RdAt w' r ⟨l.toArray⟩
set_option maxRecDepth 100000 in
set_option maxHeartbeats 4000000 in
theorem sign_t (r : Nat) (s set : ByteArray) (W : World) (hr : RdAt W r s) (hs : s.size ≤ maxLen) (hset : set.size ≤ 100) : Calls Tryz.prog 79 #[.pointer (some ⟨r, 0, none⟩), .string set] W (SignPost r W (oneR set.data.toList s.data.toList)) := by
  obtain ⟨O, hO⟩ : ∃ O, O = oneR set.data.toList s.data.toList := ⟨_, rfl⟩
  rw [← hO]
  have hc : W.cell? ⟨r, 0, none⟩ = some (.string s) := by rw [Lib.cell_of_heap hr]; rfl
  have hz := Lib.frozen_of_heap hr 0
  have hrl : r < W.heap.size := heap_lt hr
  by_cases h0 : s.data.toList = []
  · have hv : Hid (O = none) := Lib.hid (by rw [hO, h0]; rfl)
    have hs0 : s = ⟨#[]⟩ := data_inj (by rw [h0])
    subst hs0
    clear hO
    go_enter Tryz.func79, Tryz.ntmps79
    go_wp2_with fail
    exact ⟨rfl, Stp.refl _ _, by rw [hv.out]; rfl⟩
  · obtain ⟨c, l, hcl⟩ : ∃ c l, s.data.toList = c :: l := by
      cases h : s.data.toList with
      | nil => exact absurd h h0
      | cons c l => exact ⟨c, l, rfl⟩
    have hz1 : 0 < s.size := by rw [← list_len, hcl]; simp
    have hz2 : (0 : Int) < (s.size : Int) := by omega
    have hc0 : s[0]'hz1 = c := by
      have h2 : s.data.toList[0]'(by rw [hcl]; simp) = c := by simp only [hcl]; rfl
      rw [← h2]; rfl
    have hrest : s.extract 1 s.size = ⟨l.toArray⟩ := by rw [← drop_mk, hcl]; rfl
    obtain ⟨R, hR⟩ : ∃ R : ByteArray, R = ⟨l.toArray⟩ := ⟨_, rfl⟩
    rw [← hR] at hrest
    have hz3 : (1 : Int) ≤ (s.size : Int) := by omega
    have hz4 : 1 ≤ s.size := by omega
    have hne : (s.toList == []) = false := by rw [ByteArray.toList_eq, hcl]; rfl
    have hi := idx_any c set.data.toList
    have hix : Hid (∀ w, Calls Tryz.prog 132 #[.string set, .int .u8 (c.toNat : Int)] w fun e w' => e = .returned (.int .i64 (Lib.indexByte set.data.toList c)) ∧ w = w') := Lib.hid (fun w => (Tryz.strings_IndexByte set c.toNat w).mono fun e w' h => ⟨by rw [h.1]; simp, h.2.symm⟩)
    obtain ⟨I, hI⟩ : ∃ I, I = Lib.indexByte set.data.toList c := ⟨_, rfl⟩
    rw [← hI] at hi hix
    replace hI := Lib.hid hI
    replace hcl := Lib.hid hcl
    replace hR := Lib.hid hR
    by_cases hm : set.data.toList.contains c = true
    · have g1 : ¬ (I < 0) := by have := hi.2.2 hm; omega
      have hv : Hid (O = some (c, l)) := Lib.hid (by rw [hO, hcl.out]; unfold oneR; simp only; rw [if_pos hm])
      clear hO hi hm
      go_enter Tryz.func79, Tryz.ntmps79
      go_wp2_with fail
      refine (hix.out _).mono ?_
      rintro e w2 ⟨rfl, rfl⟩
      go_wp2_with fail
      go_ret
      exact ⟨⟨(Below.refl _ _).setCell (p := ⟨r, 0, none⟩) (Nat.le_refl _) _, fun k h1 h2 => Below.heap_setCell _ _ _ _ h2⟩, by rw [hv.out]; exact ⟨rfl, by rw [← hR.out]; exact Lib.heap_setCell_same hr (.string R)⟩⟩
    · have g1 : I < 0 := by
        rcases Int.lt_or_le I 0 with h | h
        · exact h
        · exact absurd (hi.2.1 h) hm
      have hv : Hid (O = none) := Lib.hid (by rw [hO, hcl.out]; unfold oneR; simp only; rw [if_neg hm])
      clear hO hi hm
      go_enter Tryz.func79, Tryz.ntmps79
      go_wp2_with fail
      refine (hix.out _).mono ?_
      rintro e w2 ⟨rfl, rfl⟩
      go_wp2_with fail
      exact ⟨rfl, Stp.refl _ _, by rw [hv.out]; rfl⟩
end Go.Proofs.YtgobpoeccdgeiaaGreatDoor

namespace Go.Proofs.YtgobpoeccdgeiaaGreatDoor
open Go.RowKit NumP DurP TimeP Go.Proofs.YtgobpoeccdgeiaaGreatDoorW.PrintWords
set_option linter.unusedVariables false

def digsB : ByteArray := ⟨#[48, 49, 50, 51, 52, 53, 54, 55, 56, 57]⟩
theorem digs_is (c : UInt8) : digsB.data.toList.contains c = isDig c := by
  have h : ∀ n : Fin 256, digsB.data.toList.contains (UInt8.ofNat n.val) = isDig (UInt8.ofNat n.val) := by decide +kernel
  have := h ⟨c.toNat, c.toNat_lt⟩
  simpa using this
/-- What the reader's digits leave. -/
def DigPost (r : Nat) (W : World) (o : Option (Nat × List UInt8)) (e : Ending) (w' : World) : Prop := Stp r W w' ∧ match o with
  | none => e = .panicked [wrongE]
  | some (v, l) => e = .returned (.int .i64 (v : Int)) ∧ RdAt w' r ⟨l.toArray⟩
theorem oneR_le {set l r : List UInt8} {c : UInt8} (h : oneR set l = some (c, r)) : r.length ≤ l.length := by
  cases l with
  | nil => cases h
  | cons d l =>
    unfold oneR at h
    simp only at h
    split at h
    · injection h with h; injection h with h1 h2; rw [← h2]; simp
    · cases h
theorem numR_one (n a : Nat) (l : List UInt8) : numR (n + 1) a l = match oneR digsB.data.toList l with
  | none => none
  | some (c, r) => numR n (10 * a + (c.toNat - 48)) r := by
  cases l with
  | nil => rfl
  | cons c l =>
    show (if isDig c then numR n (10 * a + (c.toNat - 48)) l else none) = _
    unfold oneR
    simp only [digs_is]
    cases isDig c <;> rfl
theorem oneR_dig {l r : List UInt8} {c : UInt8} (h : oneR digsB.data.toList l = some (c, r)) : 48 ≤ c.toNat ∧ c.toNat ≤ 57 := by
  cases l with
  | nil => cases h
  | cons d l =>
    unfold oneR at h
    simp only [digs_is] at h
    split at h
    · rename_i hd
      injection h with h; injection h with h1 h2
      subst h1
      unfold isDig at hd
      simpa using hd
    · cases h
set_option maxRecDepth 100000 in
set_option maxHeartbeats 4000000 in
theorem digits_t (r n : Nat) (s : ByteArray) (W : World) (hr : RdAt W r s) (hs : s.size ≤ maxLen) (hn : n ≤ 9) : Calls Tryz.prog 78 #[.pointer (some ⟨r, 0, none⟩), .int .i64 (n : Int)] W (DigPost r W (numR n 0 s.data.toList)) := by
  obtain ⟨O, hO⟩ : ∃ O, O = numR n 0 s.data.toList := ⟨_, rfl⟩
  rw [← hO]
  have hsg : Hid (∀ w (s' : ByteArray), RdAt w r s' → s'.size ≤ maxLen → Calls Tryz.prog 79 #[.pointer (some ⟨r, 0, none⟩), .string ⟨#[48, 49, 50, 51, 52, 53, 54, 55, 56, 57]⟩] w (SignPost r w (oneR digsB.data.toList s'.data.toList))) := Lib.hid (fun w s' h1 h2 => sign_t r s' digsB w h1 h2 (by decide))
  replace hO := Lib.hid hO
  have hr' : Hid (RdAt W r s) := Lib.hid hr
  have hs' : Hid (s.size ≤ maxLen) := Lib.hid hs
  clear hr hs
  go_enter Tryz.func78, Tryz.ntmps78
  go_wp2_with fail
  go_loopw [5, 7] (fun ov iv wr => ∃ (a i : Nat) (s' : ByteArray), ov = .int .i64 (a : Int) ∧ iv = .int .i64 (i : Int) ∧ i ≤ n ∧ a < 1000000000000 ∧ Hid (a < 10 ^ i ∧ RdAt wr r s' ∧ Stp r W wr ∧ s'.size ≤ maxLen ∧ numR (n - i) a s'.data.toList = O)) (fun _ iv _ => n - (intOf iv).toNat)
  case atStart => exact ⟨0, 0, s, rfl, rfl, Nat.zero_le _, by decide, Lib.hid ⟨by decide, hr'.out, Stp.refl _ _, hs'.out, by rw [hO.out]; rfl⟩⟩
  case round =>
    obtain ⟨a, i, s', rfl, rfl, hi, ha, hrel⟩ := hrel
    by_cases hlt : i < n
    · have gk : ((i : Int) < (n : Int)) := by omega
      obtain ⟨h1, h2, h3, h4, h5⟩ := hrel.out
      have hcall := hsg.out _ s' h2 h4
      obtain ⟨m, hm⟩ : ∃ m, n - i = m + 1 := ⟨n - i - 1, by omega⟩
      rw [hm, numR_one] at h5
      replace hm := Lib.hid hm
      go_wp2_with fail
      refine hcall.mono ?_
      rintro e w2 ⟨hst, hp⟩
      cases ho : oneR digsB.data.toList s'.data.toList with
      | none =>
        rw [ho] at hp h5
        have hp : e = .panicked [wrongE] := hp
        subst hp
        have h5 : none = O := h5
        subst h5
        have hst2 := h3.trans hst
        go_wp2_with fail
        exact ⟨rfl, hst2, rfl⟩
      | some cl =>
        obtain ⟨c, l⟩ := cl
        rw [ho] at hp h5
        obtain ⟨rfl, hrd⟩ := hp
        have hcd := oneR_dig ho
        have hll := oneR_le ho
        have h5 : numR m (10 * a + (c.toNat - 48)) l = O := h5
        obtain ⟨v, hv⟩ : ∃ v, v = c.toNat := ⟨_, rfl⟩
        rw [← hv] at h5 hcd
        have v1 : (48 : Int) ≤ (v : Int) := by omega
        have v2 : (v : Int) ≤ 57 := by omega
        have h10 : 10 * a + (v - 48) < 10 ^ (i + 1) := by rw [Nat.pow_succ]; omega
        have hrel2 : Hid (10 * a + (v - 48) < 10 ^ (i + 1) ∧ RdAt w2 r ⟨l.toArray⟩ ∧ Stp r W w2 ∧ (⟨l.toArray⟩ : ByteArray).size ≤ maxLen ∧ numR (n - (i + 1)) (10 * a + (v - 48)) (⟨l.toArray⟩ : ByteArray).data.toList = O) := Lib.hid ⟨h10, hrd, h3.trans hst, by rw [← list_len]; show l.length ≤ _; rw [list_len] at hll; exact Nat.le_trans hll h4, by rw [show n - (i + 1) = m by have := hm.out; omega]; exact h5⟩
        have ha2 : 10 * a + (v - 48) < 1000000000000 := by
          have : (10 : Nat) ^ (i + 1) ≤ 10 ^ 9 := Nat.pow_le_pow_right (by decide) (by omega)
          omega
        have b1 : (a : Int) < 1000000000000 := by omega
        have hval : (10 : Int) * (a : Int) + ((v : Int) - 48) = ((10 * a + (v - 48) : Nat) : Int) := by omega
        clear hrel h1 h2 h3 h4 h5 hst hrd hcall ho hll h10
        replace hv := Lib.hid hv
        rw [show (c.toNat : Int) = (v : Int) by rw [hv.out]]
        go_wp2_with fail
        exact ⟨⟨10 * a + (v - 48), i + 1, ⟨l.toArray⟩, by simp, by simp, by omega, ha2, hrel2⟩, by simp [intOf]; omega⟩
    · have gk : ¬ ((i : Int) < (n : Int)) := by omega
      obtain ⟨h1, h2, h3, h4, h5⟩ := hrel.out
      have hi2 : n - i = 0 := by omega
      rw [hi2] at h5
      have h5 : some (a, s'.data.toList) = O := h5
      subst h5
      go_wp2_with fail
      go_ret
      exact ⟨h3, rfl, h2⟩
end Go.Proofs.YtgobpoeccdgeiaaGreatDoor

namespace Go.Proofs.YtgobpoeccdgeiaaGreatDoor
open Go.RowKit NumP DurP TimeP Go.Proofs.YtgobpoeccdgeiaaGreatDoorW.PrintWords
set_option linter.unusedVariables false

theorem numR_lt : ∀ (n a : Nat) (l r : List UInt8) (v : Nat), numR n a l = some (v, r) → v < (a + 1) * 10 ^ n ∧ r.length ≤ l.length
  | 0, a, l, r, v, h => by
    have h : some (a, l) = some (v, r) := h
    injection h with h; injection h with h1 h2
    rw [← h1, ← h2]; simp
  | n + 1, a, l, r, v, h => by
    rw [numR_one] at h
    cases ho : oneR digsB.data.toList l with
    | none => rw [ho] at h; cases h
    | some cl =>
      obtain ⟨c, l1⟩ := cl
      rw [ho] at h
      have hd := oneR_dig ho
      have hl := oneR_le ho
      obtain ⟨h1, h2⟩ := numR_lt n _ l1 r v h
      refine ⟨Nat.lt_of_lt_of_le h1 ?_, Nat.le_trans h2 hl⟩
      rw [Nat.pow_succ, Nat.mul_comm (10 ^ n) 10, ← Nat.mul_assoc]
      exact Nat.mul_le_mul_right _ (by omega)
/-- What zone turns: the reader's block and the moment's. -/
structure Stp2 (r m : Nat) (W w' : World) : Prop where
  below : Below r W w'
  rest : ∀ k, k < W.heap.size → k ≠ r → k ≠ m → w'.heap[k]? = W.heap[k]?
theorem Stp2.refl (r m : Nat) (W : World) : Stp2 r m W W := ⟨Below.refl _ _, fun _ _ _ _ => rfl⟩
theorem Stp2.trans {r m : Nat} {a b c : World} (h : Stp2 r m a b) (k : Stp2 r m b c) : Stp2 r m a c :=
  ⟨h.below.trans k.below, fun i h1 h2 h3 => (k.rest i (Nat.lt_of_lt_of_le h1 h.below.size) h2 h3).trans (h.rest i h1 h2 h3)⟩
theorem Stp.two {r m : Nat} {a b : World} (h : Stp r a b) : Stp2 r m a b := ⟨h.below, fun k h1 h2 _ => h.rest k h1 h2⟩
theorem Stp2.set {r m : Nat} {W w : World} (h : Stp2 r m W w) (hm : r < m) (i : Nat) (v : Value) : Stp2 r m W (w.setCell ⟨m, i, none⟩ v) :=
  ⟨h.below.setCell (p := ⟨m, i, none⟩) (Nat.le_of_lt hm) _, fun k h1 h2 h3 => (Below.heap_setCell _ _ _ _ h3).trans (h.rest k h1 h2 h3)⟩
/-- A moment's block. -/
def MoAt (w : World) (q : Nat) (y mo d h mi : Int) (s : ByteArray) (z : Int) (has : Bool) : Prop := w.heap[q]? = some (.cells #[.int .i64 y, .int .i64 mo, .int .i64 d, .int .i64 h, .int .i64 mi, .string s, .int .i64 z, .bool has] 24 (0, 0))
theorem MoAt.step {w w' : World} {r q : Nat} {y mo d h mi : Int} {s : ByteArray} {z : Int} {has : Bool} (a : MoAt w q y mo d h mi s z has) (hs : Stp r w w') (hne : q ≠ r) : MoAt w' q y mo d h mi s z has := (hs.rest q (heap_lt a) hne).trans a
def ZonePost (r m : Nat) (W : World) (y mo d h mi : Int) (ss : ByteArray) (o : Option (Bool × Int × Bool)) (e : Ending) (w' : World) : Prop := Stp2 r m W w' ∧ match o with
  | none => e = .panicked [wrongE]
  | some (has, z, inR) => e = .returned (.bool inR) ∧ MoAt w' m y mo d h mi ss z has
set_option maxRecDepth 100000 in
set_option maxHeartbeats 4000000 in
theorem zone_t (r m : Nat) (hrm : r < m) (s : ByteArray) (y mo d h mi : Int) (ss : ByteArray) (W : World) (hr : RdAt W r s) (hm : MoAt W m y mo d h mi ss 0 false) (hs : s.size ≤ maxLen) : Calls Tryz.prog 81 #[.pointer (some ⟨r, 0, none⟩), .pointer (some ⟨m, 0, none⟩)] W (ZonePost r m W y mo d h mi ss (zoneR s.data.toList)) := by
  obtain ⟨O, hO⟩ : ∃ O, O = zoneR s.data.toList := ⟨_, rfl⟩
  rw [← hO]
  have hc : W.cell? ⟨r, 0, none⟩ = some (.string s) := by rw [Lib.cell_of_heap hr]; rfl
  obtain ⟨c0, c1, c2, c3, c4, c5, c6, c7⟩ := MomAt.of_heap hm
  have hz := Lib.frozen_of_heap hm 7
  by_cases h0 : s.data.toList = []
  · have hs0 : s = ⟨#[]⟩ := data_inj (by rw [h0])
    subst hs0
    have hv : O = some (false, 0, true) := by rw [hO]; rfl
    subst hv
    replace hm := Lib.hid hm
    clear hO h0
    go_enter Tryz.func81, Tryz.ntmps81
    go_wp2_with fail
    go_ret
    exact ⟨Stp2.refl _ _ _, rfl, hm.out⟩
  · have hne : (s.toList == []) = false := by rw [ByteArray.toList_eq]; simpa using h0
    have hv : O = match oneR [90, 43, 45] s.data.toList with
        | none => none
        | some (c, r) => if c = 90 then (if r = [] then some (true, 0, true) else none) else
            match numR 2 0 r with
            | none => none
            | some (h, r1) => match oneR [58] r1 with
              | none => none
              | some (_, r2) => match numR 2 0 r2 with
                | none => none
                | some (n, r3) => if r3 = [] then some (true, if c = 45 then -((60 * h + n : Nat) : Int) else ((60 * h + n : Nat) : Int), decide (h ≤ 14) && decide (n ≤ 59)) else none := by
      rw [hO]; unfold zoneR; rw [if_neg h0]; rfl
    obtain ⟨W1, hW1⟩ : ∃ w, w = W.setCell ⟨m, 7, none⟩ (.bool true) := ⟨_, rfl⟩
    have hr1 : RdAt W1 r s := by rw [hW1]; exact (Below.heap_setCell _ _ _ _ (Nat.ne_of_lt hrm)).trans hr
    have hm1 : MoAt W1 m y mo d h mi ss 0 true := by rw [hW1]; exact Lib.heap_setCell_same (i := 7) hm (.bool true)
    have hst1 : Stp2 r m W W1 := by rw [hW1]; exact (Stp2.refl r m W).set hrm 7 _
    have hmr : m ≠ r := Nat.ne_of_gt hrm
    have hsg := sign_t r s ⟨#[90, 43, 45]⟩ W1 hr1 hs (by decide)
    rw [show (⟨#[90, 43, 45]⟩ : ByteArray).data.toList = [90, 43, 45] from rfl] at hsg
    replace hm := Lib.hid hm
    replace hr := Lib.hid hr
    replace hs := Lib.hid hs
    replace hm1 := Lib.hid hm1
    replace hst1 := Lib.hid hst1
    replace hmr := Lib.hid hmr
    replace hrm := Lib.hid hrm
    clear hO h0
    replace hv := Lib.hid hv
    clear hr1
    go_enter Tryz.func81, Tryz.ntmps81
    go_wp2_with fail
    rw [← hW1]
    clear hW1 c0 c1 c2 c3 c4 c5 c6 c7 hc
    refine hsg.mono ?_
    rintro e w2 ⟨hst, hp⟩
    clear hsg
    have hst2 := Lib.hid (hst1.out.trans hst.two)
    have hm2 := Lib.hid (hm1.out.step hst hmr.out)
    clear hst
    cases ho : oneR [90, 43, 45] s.data.toList with
    | none =>
      rw [ho] at hp
      have hv2 := hv.out
      rw [ho] at hv2
      have hv2 : O = none := hv2
      have hp : e = .panicked [wrongE] := hp
      subst hp hv2
      clear hv
      go_wp2_with fail
      exact ⟨rfl, hst2.out, rfl⟩
    | some cl =>
      obtain ⟨c, l1⟩ := cl
      rw [ho] at hp
      have hv2 := hv.out
      rw [ho] at hv2
      simp only at hv2
      obtain ⟨rfl, hr2⟩ := hp
      have hl1 := oneR_le ho
      clear hv
      obtain ⟨R1, hR1⟩ : ∃ b : ByteArray, b = ⟨l1.toArray⟩ := ⟨_, rfl⟩
      have hR1d : R1.data.toList = l1 := by rw [hR1]
      rw [← hR1] at hr2
      have hs1 : Hid (R1.size ≤ maxLen) := Lib.hid (by rw [← list_len, hR1d]; rw [list_len] at hl1; exact Nat.le_trans hl1 hs.out)
      have k2 : w2.cell? ⟨r, 0, none⟩ = some (.string R1) := by rw [Lib.cell_of_heap hr2]; rfl
      replace hr2 := Lib.hid hr2
      clear ho hl1 hR1
      by_cases hc90 : c = 90
      · subst hc90
        rw [if_pos rfl] at hv2
        by_cases hl0 : l1 = []
        · have hne2 : (R1.toList == []) = true := by rw [ByteArray.toList_eq, hR1d, hl0]; rfl
          have hne3 : (R1.toList != []) = false := by rw [ByteArray.toList_eq, hR1d, hl0]; rfl
          rw [if_pos hl0] at hv2
          subst hv2
          replace hR1d := Lib.hid hR1d
          clear hl0
          go_wp2_with fail
          go_ret
          exact ⟨hst2.out, rfl, hm2.out⟩
        · have hne2 : (R1.toList == []) = false := by rw [ByteArray.toList_eq, hR1d]; simpa using hl0
          have hne3 : (R1.toList != []) = true := by rw [bne, hne2]; rfl
          rw [if_neg hl0] at hv2
          subst hv2
          replace hR1d := Lib.hid hR1d
          clear hl0
          go_wp2_with fail
          exact ⟨rfl, hst2.out, rfl⟩
      · rw [if_neg hc90] at hv2
        have g90 : ((c.toNat : Int) != 90) = true := by
          simp only [bne_iff_ne, ne_eq]
          intro h
          exact hc90 (UInt8.toNat_inj.1 (by show c.toNat = 90; omega))
        have hsR1 := hs1
        have hrw2 := hr2
        have hstw2 := hst2
        have hmw2 := hm2
        clear hs1 hr2 hst2 hm2 k2
        have hd : Calls Tryz.prog 78 #[.pointer (some ⟨r, 0, none⟩), .int .i64 2] w2 (DigPost r w2 (numR 2 0 l1)) := by
          have := digits_t r 2 R1 w2 hrw2.out hsR1.out (by decide)
          rw [hR1d] at this
          exact this
        replace hv2 := Lib.hid hv2
        go_wp2_with fail
        refine hd.mono ?_
        rintro e w3 ⟨hst, hp⟩
        clear hd
        replace hv2 := hv2.out
        have hstw3 := Lib.hid (hstw2.out.trans hst.two)
        have hmw3 := Lib.hid (hmw2.out.step hst hmr.out)
        clear hst
        cases hn : numR 2 0 l1 with
        | none =>
          rw [hn] at hp hv2
          have hv2 : O = none := hv2
          have hp : e = .panicked [wrongE] := hp
          subst hp hv2
          go_wp2_with fail
          exact ⟨rfl, hstw3.out, rfl⟩
        | some vl =>
          obtain ⟨H, l2⟩ := vl
          rw [hn] at hp hv2
          simp only at hv2
          obtain ⟨rfl, hrw3⟩ := hp
          obtain ⟨hbH, hl⟩ := numR_lt _ _ _ _ _ hn
          have hbH : H < 100 := hbH
          obtain ⟨R2, hR2⟩ : ∃ b : ByteArray, b = ⟨l2.toArray⟩ := ⟨_, rfl⟩
          have hR2d : R2.data.toList = l2 := by rw [hR2]
          rw [← hR2] at hrw3
          have hsR2 : Hid (R2.size ≤ maxLen) := Lib.hid (by rw [← list_len, hR2d]; rw [← hR1d, list_len] at hl; exact Nat.le_trans hl hsR1.out)
          replace hrw3 := Lib.hid hrw3
          clear hn hl hR2
          have hd : Calls Tryz.prog 79 #[.pointer (some ⟨r, 0, none⟩), .string ⟨#[58]⟩] w3 (SignPost r w3 (oneR [58] l2)) := by
            have := sign_t r R2 ⟨#[58]⟩ w3 hrw3.out hsR2.out (by decide)
            rw [hR2d] at this
            exact this
          replace hv2 := Lib.hid hv2
          go_wp2_with fail
          refine hd.mono ?_
          rintro e w4 ⟨hst, hp⟩
          clear hd
          replace hv2 := hv2.out
          have hstw4 := Lib.hid (hstw3.out.trans hst.two)
          have hmw4 := Lib.hid (hmw3.out.step hst hmr.out)
          clear hst
          cases hn : oneR [58] l2 with
          | none =>
            rw [hn] at hp hv2
            have hv2 : O = none := hv2
            have hp : e = .panicked [wrongE] := hp
            subst hp hv2
            go_wp2_with fail
            exact ⟨rfl, hstw4.out, rfl⟩
          | some vl =>
            obtain ⟨cx, l3⟩ := vl
            rw [hn] at hp hv2
            simp only at hv2
            obtain ⟨rfl, hrw4⟩ := hp
            have hl := oneR_le hn
            obtain ⟨R3, hR3⟩ : ∃ b : ByteArray, b = ⟨l3.toArray⟩ := ⟨_, rfl⟩
            have hR3d : R3.data.toList = l3 := by rw [hR3]
            rw [← hR3] at hrw4
            have hsR3 : Hid (R3.size ≤ maxLen) := Lib.hid (by rw [← list_len, hR3d]; rw [← hR2d, list_len] at hl; exact Nat.le_trans hl hsR2.out)
            replace hrw4 := Lib.hid hrw4
            clear hn hl hR3
            have hd : Calls Tryz.prog 78 #[.pointer (some ⟨r, 0, none⟩), .int .i64 2] w4 (DigPost r w4 (numR 2 0 l3)) := by
              have := digits_t r 2 R3 w4 hrw4.out hsR3.out (by decide)
              rw [hR3d] at this
              exact this
            replace hv2 := Lib.hid hv2
            go_wp2_with fail
            refine hd.mono ?_
            rintro e w5 ⟨hst, hp⟩
            clear hd
            replace hv2 := hv2.out
            have hstw5 := Lib.hid (hstw4.out.trans hst.two)
            have hmw5 := Lib.hid (hmw4.out.step hst hmr.out)
            clear hst
            cases hn : numR 2 0 l3 with
            | none =>
              rw [hn] at hp hv2
              have hv2 : O = none := hv2
              have hp : e = .panicked [wrongE] := hp
              subst hp hv2
              go_wp2_with fail
              exact ⟨rfl, hstw5.out, rfl⟩
            | some vl =>
              obtain ⟨N, l4⟩ := vl
              rw [hn] at hp hv2
              simp only at hv2
              obtain ⟨rfl, hrw5⟩ := hp
              obtain ⟨hbN, hl⟩ := numR_lt _ _ _ _ _ hn
              have hbN : N < 100 := hbN
              obtain ⟨R4, hR4⟩ : ∃ b : ByteArray, b = ⟨l4.toArray⟩ := ⟨_, rfl⟩
              have hR4d : R4.data.toList = l4 := by rw [hR4]
              rw [← hR4] at hrw5
              have hsR4 : Hid (R4.size ≤ maxLen) := Lib.hid (by rw [← list_len, hR4d]; rw [← hR3d, list_len] at hl; exact Nat.le_trans hl hsR3.out)
              replace hrw5 := Lib.hid hrw5
              clear hn hl hR4
              have hx := hmw5.out
              obtain ⟨c0, c1, c2, c3, c4, c5, c6, c7⟩ := MomAt.of_heap hx
              have f6 := Lib.frozen_of_heap hx 6
              have k5 : w5.cell? ⟨r, 0, none⟩ = some (.string R4) := by rw [Lib.cell_of_heap hrw5.out]; rfl
              have x1 : (H : Int) < 100 := by omega
              have x2 : (N : Int) < 100 := by omega
              obtain ⟨ZZ, hZZ⟩ : ∃ ZZ : Int, 60 * (H : Int) + (N : Int) = ZZ := ⟨_, rfl⟩
              have x3 : 0 ≤ ZZ := by omega
              have x4 : ZZ ≤ 7000 := by omega
              rw [show ((60 * H + N : Nat) : Int) = ZZ by omega] at hv2
              have hA : MoAt (w5.setCell ⟨m, 6, none⟩ (.int .i64 ZZ)) m y mo d h mi ss ZZ true := Lib.heap_setCell_same (i := 6) hx (.int .i64 ZZ)
              have hB : MoAt ((w5.setCell ⟨m, 6, none⟩ (.int .i64 ZZ)).setCell ⟨m, 6, none⟩ (.int .i64 (-ZZ))) m y mo d h mi ss (-ZZ) true := Lib.heap_setCell_same (i := 6) hA (.int .i64 (-ZZ))
              have hsA := hstw5.out.set hrm.out 6 (.int .i64 ZZ)
              have hsB := hsA.set hrm.out 6 (.int .i64 (-ZZ))
              have hrmx : r ≠ m := Nat.ne_of_lt hrm.out
              replace hA := Lib.hid hA
              replace hB := Lib.hid hB
              replace hsA := Lib.hid hsA
              replace hsB := Lib.hid hsB
              clear hx
              obtain ⟨iR, hiR⟩ : ∃ b, b = (decide (H ≤ 14) && decide (N ≤ 59)) := ⟨_, rfl⟩
              rw [← hiR] at hv2
              by_cases hc45 : c = 45
              · subst hc45
                rw [if_pos rfl] at hv2
                by_cases hl0 : l4 = []
                · have hne2 : (R4.toList == []) = true := by rw [ByteArray.toList_eq, hR4d, hl0]; rfl
                  rw [if_pos hl0] at hv2
                  subst hv2
                  replace hR4d := Lib.hid hR4d
                  clear hl0 hR1d hR2d hR3d
                  by_cases hH : (H : Int) ≤ 14
                  · have hq : Hid (decide ((N : Int) ≤ 59) = iR) := Lib.hid (by rw [hiR, decide_eq_true (show H ≤ 14 by omega), Bool.true_and]; exact decide_eq_decide.2 (by omega))
                    clear hiR
                    go_wp2_with fail
                    go_ret
                    exact ⟨hsB.out, by rw [← hq.out]; rfl, hB.out⟩
                  · have hq : Hid (iR = false) := Lib.hid (by rw [hiR, decide_eq_false (show ¬ H ≤ 14 by omega), Bool.false_and])
                    clear hiR
                    go_wp2_with fail
                    go_ret
                    exact ⟨hsB.out, by rw [hq.out]; rfl, hB.out⟩
                · have hne2 : (R4.toList == []) = false := by rw [ByteArray.toList_eq, hR4d]; simpa using hl0
                  have hne3 : (R4.toList != []) = true := by rw [bne, hne2]; rfl
                  rw [if_neg hl0] at hv2
                  subst hv2
                  replace hR4d := Lib.hid hR4d
                  clear hl0 hR1d hR2d hR3d hiR
                  go_wp2_with fail
                  exact ⟨rfl, hsB.out, rfl⟩
              · rw [if_neg hc45] at hv2
                have g45 : ((c.toNat : Int) == 45) = false := by
                  simp only [beq_eq_false_iff_ne, ne_eq]
                  intro h
                  exact hc45 (UInt8.toNat_inj.1 (by show c.toNat = 45; omega))
                by_cases hl0 : l4 = []
                · have hne2 : (R4.toList == []) = true := by rw [ByteArray.toList_eq, hR4d, hl0]; rfl
                  rw [if_pos hl0] at hv2
                  subst hv2
                  replace hR4d := Lib.hid hR4d
                  clear hl0 hR1d hR2d hR3d
                  by_cases hH : (H : Int) ≤ 14
                  · have hq : Hid (decide ((N : Int) ≤ 59) = iR) := Lib.hid (by rw [hiR, decide_eq_true (show H ≤ 14 by omega), Bool.true_and]; exact decide_eq_decide.2 (by omega))
                    clear hiR
                    go_wp2_with fail
                    go_ret
                    exact ⟨hsA.out, by rw [← hq.out]; rfl, hA.out⟩
                  · have hq : Hid (iR = false) := Lib.hid (by rw [hiR, decide_eq_false (show ¬ H ≤ 14 by omega), Bool.false_and])
                    clear hiR
                    go_wp2_with fail
                    go_ret
                    exact ⟨hsA.out, by rw [hq.out]; rfl, hA.out⟩
                · have hne2 : (R4.toList == []) = false := by rw [ByteArray.toList_eq, hR4d]; simpa using hl0
                  have hne3 : (R4.toList != []) = true := by rw [bne, hne2]; rfl
                  rw [if_neg hl0] at hv2
                  subst hv2
                  replace hR4d := Lib.hid hR4d
                  clear hl0 hR1d hR2d hR3d hiR
                  go_wp2_with fail
                  exact ⟨rfl, hsA.out, rfl⟩
end Go.Proofs.YtgobpoeccdgeiaaGreatDoor

namespace Go.Proofs.YtgobpoeccdgeiaaGreatDoor
open Go.RowKit NumP DurP TimeP Go.Proofs.YtgobpoeccdgeiaaGreatDoorW.PrintWords
set_option linter.unusedVariables false

def ReadPost (W : World) (o : Option (Mom × Int)) (e : Ending) (w' : World) : Prop := Below W.heap.size W w' ∧ match o with
  | none => e = .panicked [wrongE]
  | some r => e = .returned (momE r)
/-- The world behind a store of no moment and of an error. -/
def zeroRes (w : World) (p : Nat) : World := ((((((((w.setCell ⟨p, 0, none⟩ (.int .i64 0)).setCell ⟨p, 1, none⟩ (.int .i64 0)).setCell ⟨p, 2, none⟩ (.int .i64 0)).setCell ⟨p, 3, none⟩ (.int .i64 0)).setCell ⟨p, 4, none⟩ (.int .i64 0)).setCell ⟨p, 5, none⟩ (.string ⟨#[]⟩)).setCell ⟨p, 6, none⟩ (.int .i64 0)).setCell ⟨p, 7, none⟩ (.bool false)).setCell ⟨p + 1, 0, none⟩ (.int .i64 5)
set_option maxRecDepth 100000 in
set_option maxHeartbeats 4000000 in
theorem catch_panicking (p : Nat) (y mo d h mi : Int) (s : ByteArray) (z : Int) (has : Bool) (k : Int) (w : World) (hm : MoAt w p y mo d h mi s z has) (he : w.heap[p + 1]? = some (.cells #[.int .i64 k] 25 (0, 0))) :
    CallsD Tryz.prog 36 #[.pointer (some ⟨p, 0, none⟩), .pointer (some ⟨p + 1, 0, none⟩)] (.panicking [wrongE]) w fun e u' w' =>
      e = .returned (.tuple #[]) ∧ u' = .panicking [{ wrongE with recovered := true }] ∧ w' = zeroRes w p := by
  obtain ⟨c0, c1, c2, c3, c4, c5, c6, c7⟩ := MomAt.of_heap hm
  obtain ⟨f0, f1, f2, f3, f4, f5, f6, f7⟩ := froz8 hm
  have d0 : w.cell? ⟨p + 1, 0, none⟩ = some (.int .i64 k) := by rw [Lib.cell_of_heap he]; rfl
  have g0 := Lib.frozen_of_heap he 0
  refine callsD_of_wpS Tryz.func36 rfl fun c₀ cs hu => ?_
  apply wpS_seq
  apply wpS_region
  simp [wpOpsS, go_sem, recoverD, hu, Tryz.ntmps36, Exit.thenS, wrongE]
  apply wpS_seq
  apply wpS_region
  simp [wpOpsS, go_sem, Exit.thenS]
  refine wpS_cond (t := true) (by simp [Act.eval]) ?_
  simp only [if_true]
  apply wpS_region
  simp [wpOpsS, go_sem, c0, c1, c2, c3, c4, c5, c6, c7, f0, f1, f2, f3, f4, f5, f6, f7, d0, g0, bodyPostS, results, Tryz.results36, zeroRes]
theorem catch_idle (p : Nat) (w : World) :
    CallsD Tryz.prog 36 #[.pointer (some ⟨p, 0, none⟩), .pointer (some ⟨p + 1, 0, none⟩)] .returning w fun e u' w' => e = .returned (.tuple #[]) ∧ u' = .returning ∧ w' = w := by
  refine callsD_of_wpS Tryz.func36 rfl fun c₀ cs hu => ?_
  apply wpS_seq
  apply wpS_region
  simp [wpOpsS, go_sem, recoverD, hu, Tryz.ntmps36, Exit.thenS]
  apply wpS_seq
  apply wpS_region
  simp [wpOpsS, go_sem, Exit.thenS]
  refine wpS_cond (t := false) (by simp [Act.eval]) ?_
  simp only [Bool.false_eq_true, if_false]
  refine wpS_of_wp (wp_skip ?_)
  cases c₀
  simp_all [bodyPostS, results, Tryz.results36]
set_option maxRecDepth 100000 in
set_option maxHeartbeats 4000000 in
theorem Parse_of (k : Int) (s : ByteArray) (W : World) (hL : LaidT W) (hrd : (k = 6 ∨ k = 7 ∨ k = 8) → ∀ w, LaidT w → Calls Tryz.prog 37 #[.int .i64 k, .string s] w (ReadPost w (readP k s.data.toList))) : Calls Tryz.prog 15 #[.int .i64 k, .string s] W fun e w' => e = .returned (momE (parseM k s.data.toList)) ∧ Below W.heap.size W w' := by
  have hmf : ∀ (fn : Fn) (first cap : Array Value) (w : World), (Instr.makeFunc fn first cap).run Tryz.prog w = .ok (.func fn first cap) w := fun _ _ _ _ => rfl
  obtain ⟨R, hR⟩ : ∃ R, R = parseM k s.data.toList := ⟨_, rfl⟩
  rw [← hR]
  by_cases hk : k = 6 ∨ k = 7 ∨ k = 8
  · obtain ⟨q, hq⟩ : ∃ q, q = W.heap.size := ⟨_, rfl⟩
    have hv : R = match readP k s.data.toList with
        | none => (mom0, 5)
        | some r => r := by rw [hR]; unfold parseM; rw [if_neg (by unfold TimeP.kindOk; simp; omega)]; rfl
    obtain ⟨O, hO⟩ : ∃ O, O = readP k s.data.toList := ⟨_, rfl⟩
    replace hrd := hrd hk
    rw [← hO] at hrd hv
    obtain ⟨W0, hW0⟩ : ∃ w, w = W.alloc (.cells #[.int .i64 0, .int .i64 0, .int .i64 0, .int .i64 0, .int .i64 0, .string ⟨#[]⟩, .int .i64 0, .bool false] 24) := ⟨_, rfl⟩
    obtain ⟨W1, hW1⟩ : ∃ w, w = W0.alloc (.cells #[.int .i64 0] 25) := ⟨_, rfl⟩
    have hs0 : W0.heap.size = q + 1 := by rw [hW0, hq]; simp
    have hm1 : Hid (MoAt W1 q 0 0 0 0 0 ⟨#[]⟩ 0 false) := Lib.hid (by
      unfold MoAt
      rw [hW1, (MapKept.heap_alloc _ _).2 q (by omega), hW0, hq]
      exact (MapKept.heap_alloc _ _).1)
    have he1 : Hid (W1.heap[q + 1]? = some (.cells #[.int .i64 0] 25 (0, 0))) := Lib.hid (by rw [hW1, ← hs0]; exact (MapKept.heap_alloc _ _).1)
    have hB1 : Hid (Below W.heap.size W W1) := Lib.hid (by rw [hW1, hW0]; exact ((Below.refl _ _).alloc (Nat.le_refl _) _).alloc (by simp) _)
    have hrd1 := hrd W1 (hL.below hB1.out hL.size)
    have hq' := Lib.hid hq
    subst hW0
    replace hv := Lib.hid hv
    replace hL := Lib.hid hL
    clear hO hR hrd hs0
    rcases hk with rfl | rfl | rfl
    · go_enter_defers Tryz.func15, Tryz.ntmps15
      go_wp2_with fail
      rw [← hW1, ← hq]
      clear hW1 hq
      refine hrd1.mono ?_
      rintro e w3 ⟨hb3, hp⟩
      clear hrd1
      have hm3 : MoAt w3 q 0 0 0 0 0 ⟨#[]⟩ 0 false := (hb3.block q (heap_lt hm1.out)).trans hm1.out
      have he3 : w3.heap[q + 1]? = some (.cells #[.int .i64 0] 25 (0, 0)) := (hb3.block (q + 1) (heap_lt he1.out)).trans he1.out
      have hB3 := hB1.out.trans (hb3.mono hB1.out.size)
      clear hb3
      cases O with
      | none =>
        have hp : e = .panicked [wrongE] := hp
        subst hp
        have hv : R = (mom0, 5) := hv.out
        subst hv
        replace hm3 := Lib.hid hm3
        replace he3 := Lib.hid he3
        go_wp2_with fail
        refine leaves_cons (f := 36) (args := #[.pointer (some ⟨q, 0, none⟩), .pointer (some ⟨q + 1, 0, none⟩)]) (by simp) (by simp [go_sem]) ?_
        refine (catch_panicking q 0 0 0 0 0 ⟨#[]⟩ 0 false 0 _ hm3.out he3.out).mono ?_
        rintro e u' w'' ⟨rfl, rfl, rfl⟩
        obtain ⟨W5, hW5, hp5, hb5⟩ := put8 hm3.out (.int .i64 0) (.int .i64 0) (.int .i64 0) (.int .i64 0) (.int .i64 0) (.string ⟨#[]⟩) (.int .i64 0) (.bool false) (B := W.heap.size) (by rw [hq'.out]; exact Nat.le_refl _)
        have he5 : W5.heap[q + 1]? = some (.cells #[.int .i64 0] 25 (0, 0)) := by
          rw [hW5]; iterate 8 rw [Below.heap_setCell _ _ _ _ (by simp)]
          exact he3.out
        have he6 := Lib.heap_setCell_same (i := 0) he5 (.int .i64 5)
        have hp6 : (W5.setCell ⟨q + 1, 0, none⟩ (.int .i64 5)).heap[q]? = _ := (Below.heap_setCell _ _ _ _ (show q ≠ q + 1 by omega)).trans hp5
        have hb6 := hb5.setCell (p := ⟨q + 1, 0, none⟩) (show W.heap.size ≤ q + 1 by rw [hq'.out]; omega) (.int .i64 5)
        unfold zeroRes
        rw [← hW5]
        obtain ⟨W6, hW6⟩ : ∃ w, w = W5.setCell ⟨q + 1, 0, none⟩ (.int .i64 5) := ⟨_, rfl⟩
        rw [← hW6] at he6 hp6 hb6 ⊢
        obtain ⟨c0, c1, c2, c3, c4, c5, c6, c7⟩ := MomAt.of_heap hp6
        have d0 : W6.cell? ⟨q + 1, 0, none⟩ = some (.int .i64 5) := by rw [Lib.cell_of_heap he6]; rfl
        clear hW5 hW6
        simp [Leaves, settle, results, Tryz.results15, go_sem, c0, c1, c2, c3, c4, c5, c6, c7, d0]
        exact ⟨rfl, hB3.trans hb6⟩
      | some rr =>
        obtain ⟨⟨ry, rmo, rd, rh, rmi, rs, rz, rhas⟩, rk⟩ := rr
        have hp : e = .returned (.tuple #[.agg #[.int .i64 ry, .int .i64 rmo, .int .i64 rd, .int .i64 rh, .int .i64 rmi, .string ⟨rs.toArray⟩, .int .i64 rz, .bool rhas], .int .i64 rk]) := hp
        subst hp
        have hv : R = (⟨ry, rmo, rd, rh, rmi, rs, rz, rhas⟩, rk) := hv.out
        subst hv
        obtain ⟨W5, hW5, hp5, hb5⟩ := put8 hm3 (.int .i64 ry) (.int .i64 rmo) (.int .i64 rd) (.int .i64 rh) (.int .i64 rmi) (.string ⟨rs.toArray⟩) (.int .i64 rz) (.bool rhas) (B := W.heap.size) (by rw [hq'.out]; exact Nat.le_refl _)
        have he5 : W5.heap[q + 1]? = some (.cells #[.int .i64 0] 25 (0, 0)) := by
          rw [hW5]; iterate 8 rw [Below.heap_setCell _ _ _ _ (by simp)]
          exact he3
        have he6 := Lib.heap_setCell_same (i := 0) he5 (.int .i64 rk)
        have hp6 : (W5.setCell ⟨q + 1, 0, none⟩ (.int .i64 rk)).heap[q]? = _ := (Below.heap_setCell _ _ _ _ (show q ≠ q + 1 by omega)).trans hp5
        have hb6 := hb5.setCell (p := ⟨q + 1, 0, none⟩) (show W.heap.size ≤ q + 1 by rw [hq'.out]; omega) (.int .i64 rk)
        obtain ⟨c0, c1, c2, c3, c4, c5, c6, c7⟩ := MomAt.of_heap hm3
        obtain ⟨f0, f1, f2, f3, f4, f5, f6, f7⟩ := froz8 hm3
        have d0 : w3.cell? ⟨q + 1, 0, none⟩ = some (.int .i64 0) := by rw [Lib.cell_of_heap he3]; rfl
        have g0 := Lib.frozen_of_heap he3 0
        replace hW5 := Lib.hid hW5
        replace hp6 := Lib.hid hp6
        replace he6 := Lib.hid he6
        clear hm3 he3 hp5 he5
        go_wp2_with fail
        rw [← hW5.out]
        clear hW5 c0 c1 c2 c3 c4 c5 c6 c7 f0 f1 f2 f3 f4 f5 f6 f7 d0 g0
        refine leaves_cons (f := 36) (args := #[.pointer (some ⟨q, 0, none⟩), .pointer (some ⟨q + 1, 0, none⟩)]) (by simp) (by simp [go_sem]) ?_
        refine (catch_idle q _).mono ?_
        rintro e u' w'' ⟨rfl, rfl, rfl⟩
        obtain ⟨W6, hW6⟩ : ∃ w, w = W5.setCell ⟨q + 1, 0, none⟩ (.int .i64 rk) := ⟨_, rfl⟩
        have he6 := he6.out
        have hp6 := hp6.out
        rw [← hW6] at he6 hp6 hb6 ⊢
        obtain ⟨c0, c1, c2, c3, c4, c5, c6, c7⟩ := MomAt.of_heap hp6
        have d0 : W6.cell? ⟨q + 1, 0, none⟩ = some (.int .i64 rk) := by rw [Lib.cell_of_heap he6]; rfl
        clear hW6
        simp [Leaves, settle, results, Tryz.results15, go_sem, c0, c1, c2, c3, c4, c5, c6, c7, d0]
        exact ⟨rfl, hB3.trans hb6⟩
    · go_enter_defers Tryz.func15, Tryz.ntmps15
      go_wp2_with fail
      rw [← hW1, ← hq]
      clear hW1 hq
      refine hrd1.mono ?_
      rintro e w3 ⟨hb3, hp⟩
      clear hrd1
      have hm3 : MoAt w3 q 0 0 0 0 0 ⟨#[]⟩ 0 false := (hb3.block q (heap_lt hm1.out)).trans hm1.out
      have he3 : w3.heap[q + 1]? = some (.cells #[.int .i64 0] 25 (0, 0)) := (hb3.block (q + 1) (heap_lt he1.out)).trans he1.out
      have hB3 := hB1.out.trans (hb3.mono hB1.out.size)
      clear hb3
      cases O with
      | none =>
        have hp : e = .panicked [wrongE] := hp
        subst hp
        have hv : R = (mom0, 5) := hv.out
        subst hv
        replace hm3 := Lib.hid hm3
        replace he3 := Lib.hid he3
        go_wp2_with fail
        refine leaves_cons (f := 36) (args := #[.pointer (some ⟨q, 0, none⟩), .pointer (some ⟨q + 1, 0, none⟩)]) (by simp) (by simp [go_sem]) ?_
        refine (catch_panicking q 0 0 0 0 0 ⟨#[]⟩ 0 false 0 _ hm3.out he3.out).mono ?_
        rintro e u' w'' ⟨rfl, rfl, rfl⟩
        obtain ⟨W5, hW5, hp5, hb5⟩ := put8 hm3.out (.int .i64 0) (.int .i64 0) (.int .i64 0) (.int .i64 0) (.int .i64 0) (.string ⟨#[]⟩) (.int .i64 0) (.bool false) (B := W.heap.size) (by rw [hq'.out]; exact Nat.le_refl _)
        have he5 : W5.heap[q + 1]? = some (.cells #[.int .i64 0] 25 (0, 0)) := by
          rw [hW5]; iterate 8 rw [Below.heap_setCell _ _ _ _ (by simp)]
          exact he3.out
        have he6 := Lib.heap_setCell_same (i := 0) he5 (.int .i64 5)
        have hp6 : (W5.setCell ⟨q + 1, 0, none⟩ (.int .i64 5)).heap[q]? = _ := (Below.heap_setCell _ _ _ _ (show q ≠ q + 1 by omega)).trans hp5
        have hb6 := hb5.setCell (p := ⟨q + 1, 0, none⟩) (show W.heap.size ≤ q + 1 by rw [hq'.out]; omega) (.int .i64 5)
        unfold zeroRes
        rw [← hW5]
        obtain ⟨W6, hW6⟩ : ∃ w, w = W5.setCell ⟨q + 1, 0, none⟩ (.int .i64 5) := ⟨_, rfl⟩
        rw [← hW6] at he6 hp6 hb6 ⊢
        obtain ⟨c0, c1, c2, c3, c4, c5, c6, c7⟩ := MomAt.of_heap hp6
        have d0 : W6.cell? ⟨q + 1, 0, none⟩ = some (.int .i64 5) := by rw [Lib.cell_of_heap he6]; rfl
        clear hW5 hW6
        simp [Leaves, settle, results, Tryz.results15, go_sem, c0, c1, c2, c3, c4, c5, c6, c7, d0]
        exact ⟨rfl, hB3.trans hb6⟩
      | some rr =>
        obtain ⟨⟨ry, rmo, rd, rh, rmi, rs, rz, rhas⟩, rk⟩ := rr
        have hp : e = .returned (.tuple #[.agg #[.int .i64 ry, .int .i64 rmo, .int .i64 rd, .int .i64 rh, .int .i64 rmi, .string ⟨rs.toArray⟩, .int .i64 rz, .bool rhas], .int .i64 rk]) := hp
        subst hp
        have hv : R = (⟨ry, rmo, rd, rh, rmi, rs, rz, rhas⟩, rk) := hv.out
        subst hv
        obtain ⟨W5, hW5, hp5, hb5⟩ := put8 hm3 (.int .i64 ry) (.int .i64 rmo) (.int .i64 rd) (.int .i64 rh) (.int .i64 rmi) (.string ⟨rs.toArray⟩) (.int .i64 rz) (.bool rhas) (B := W.heap.size) (by rw [hq'.out]; exact Nat.le_refl _)
        have he5 : W5.heap[q + 1]? = some (.cells #[.int .i64 0] 25 (0, 0)) := by
          rw [hW5]; iterate 8 rw [Below.heap_setCell _ _ _ _ (by simp)]
          exact he3
        have he6 := Lib.heap_setCell_same (i := 0) he5 (.int .i64 rk)
        have hp6 : (W5.setCell ⟨q + 1, 0, none⟩ (.int .i64 rk)).heap[q]? = _ := (Below.heap_setCell _ _ _ _ (show q ≠ q + 1 by omega)).trans hp5
        have hb6 := hb5.setCell (p := ⟨q + 1, 0, none⟩) (show W.heap.size ≤ q + 1 by rw [hq'.out]; omega) (.int .i64 rk)
        obtain ⟨c0, c1, c2, c3, c4, c5, c6, c7⟩ := MomAt.of_heap hm3
        obtain ⟨f0, f1, f2, f3, f4, f5, f6, f7⟩ := froz8 hm3
        have d0 : w3.cell? ⟨q + 1, 0, none⟩ = some (.int .i64 0) := by rw [Lib.cell_of_heap he3]; rfl
        have g0 := Lib.frozen_of_heap he3 0
        replace hW5 := Lib.hid hW5
        replace hp6 := Lib.hid hp6
        replace he6 := Lib.hid he6
        clear hm3 he3 hp5 he5
        go_wp2_with fail
        rw [← hW5.out]
        clear hW5 c0 c1 c2 c3 c4 c5 c6 c7 f0 f1 f2 f3 f4 f5 f6 f7 d0 g0
        refine leaves_cons (f := 36) (args := #[.pointer (some ⟨q, 0, none⟩), .pointer (some ⟨q + 1, 0, none⟩)]) (by simp) (by simp [go_sem]) ?_
        refine (catch_idle q _).mono ?_
        rintro e u' w'' ⟨rfl, rfl, rfl⟩
        obtain ⟨W6, hW6⟩ : ∃ w, w = W5.setCell ⟨q + 1, 0, none⟩ (.int .i64 rk) := ⟨_, rfl⟩
        have he6 := he6.out
        have hp6 := hp6.out
        rw [← hW6] at he6 hp6 hb6 ⊢
        obtain ⟨c0, c1, c2, c3, c4, c5, c6, c7⟩ := MomAt.of_heap hp6
        have d0 : W6.cell? ⟨q + 1, 0, none⟩ = some (.int .i64 rk) := by rw [Lib.cell_of_heap he6]; rfl
        clear hW6
        simp [Leaves, settle, results, Tryz.results15, go_sem, c0, c1, c2, c3, c4, c5, c6, c7, d0]
        exact ⟨rfl, hB3.trans hb6⟩
    · go_enter_defers Tryz.func15, Tryz.ntmps15
      go_wp2_with fail
      rw [← hW1, ← hq]
      clear hW1 hq
      refine hrd1.mono ?_
      rintro e w3 ⟨hb3, hp⟩
      clear hrd1
      have hm3 : MoAt w3 q 0 0 0 0 0 ⟨#[]⟩ 0 false := (hb3.block q (heap_lt hm1.out)).trans hm1.out
      have he3 : w3.heap[q + 1]? = some (.cells #[.int .i64 0] 25 (0, 0)) := (hb3.block (q + 1) (heap_lt he1.out)).trans he1.out
      have hB3 := hB1.out.trans (hb3.mono hB1.out.size)
      clear hb3
      cases O with
      | none =>
        have hp : e = .panicked [wrongE] := hp
        subst hp
        have hv : R = (mom0, 5) := hv.out
        subst hv
        replace hm3 := Lib.hid hm3
        replace he3 := Lib.hid he3
        go_wp2_with fail
        refine leaves_cons (f := 36) (args := #[.pointer (some ⟨q, 0, none⟩), .pointer (some ⟨q + 1, 0, none⟩)]) (by simp) (by simp [go_sem]) ?_
        refine (catch_panicking q 0 0 0 0 0 ⟨#[]⟩ 0 false 0 _ hm3.out he3.out).mono ?_
        rintro e u' w'' ⟨rfl, rfl, rfl⟩
        obtain ⟨W5, hW5, hp5, hb5⟩ := put8 hm3.out (.int .i64 0) (.int .i64 0) (.int .i64 0) (.int .i64 0) (.int .i64 0) (.string ⟨#[]⟩) (.int .i64 0) (.bool false) (B := W.heap.size) (by rw [hq'.out]; exact Nat.le_refl _)
        have he5 : W5.heap[q + 1]? = some (.cells #[.int .i64 0] 25 (0, 0)) := by
          rw [hW5]; iterate 8 rw [Below.heap_setCell _ _ _ _ (by simp)]
          exact he3.out
        have he6 := Lib.heap_setCell_same (i := 0) he5 (.int .i64 5)
        have hp6 : (W5.setCell ⟨q + 1, 0, none⟩ (.int .i64 5)).heap[q]? = _ := (Below.heap_setCell _ _ _ _ (show q ≠ q + 1 by omega)).trans hp5
        have hb6 := hb5.setCell (p := ⟨q + 1, 0, none⟩) (show W.heap.size ≤ q + 1 by rw [hq'.out]; omega) (.int .i64 5)
        unfold zeroRes
        rw [← hW5]
        obtain ⟨W6, hW6⟩ : ∃ w, w = W5.setCell ⟨q + 1, 0, none⟩ (.int .i64 5) := ⟨_, rfl⟩
        rw [← hW6] at he6 hp6 hb6 ⊢
        obtain ⟨c0, c1, c2, c3, c4, c5, c6, c7⟩ := MomAt.of_heap hp6
        have d0 : W6.cell? ⟨q + 1, 0, none⟩ = some (.int .i64 5) := by rw [Lib.cell_of_heap he6]; rfl
        clear hW5 hW6
        simp [Leaves, settle, results, Tryz.results15, go_sem, c0, c1, c2, c3, c4, c5, c6, c7, d0]
        exact ⟨rfl, hB3.trans hb6⟩
      | some rr =>
        obtain ⟨⟨ry, rmo, rd, rh, rmi, rs, rz, rhas⟩, rk⟩ := rr
        have hp : e = .returned (.tuple #[.agg #[.int .i64 ry, .int .i64 rmo, .int .i64 rd, .int .i64 rh, .int .i64 rmi, .string ⟨rs.toArray⟩, .int .i64 rz, .bool rhas], .int .i64 rk]) := hp
        subst hp
        have hv : R = (⟨ry, rmo, rd, rh, rmi, rs, rz, rhas⟩, rk) := hv.out
        subst hv
        obtain ⟨W5, hW5, hp5, hb5⟩ := put8 hm3 (.int .i64 ry) (.int .i64 rmo) (.int .i64 rd) (.int .i64 rh) (.int .i64 rmi) (.string ⟨rs.toArray⟩) (.int .i64 rz) (.bool rhas) (B := W.heap.size) (by rw [hq'.out]; exact Nat.le_refl _)
        have he5 : W5.heap[q + 1]? = some (.cells #[.int .i64 0] 25 (0, 0)) := by
          rw [hW5]; iterate 8 rw [Below.heap_setCell _ _ _ _ (by simp)]
          exact he3
        have he6 := Lib.heap_setCell_same (i := 0) he5 (.int .i64 rk)
        have hp6 : (W5.setCell ⟨q + 1, 0, none⟩ (.int .i64 rk)).heap[q]? = _ := (Below.heap_setCell _ _ _ _ (show q ≠ q + 1 by omega)).trans hp5
        have hb6 := hb5.setCell (p := ⟨q + 1, 0, none⟩) (show W.heap.size ≤ q + 1 by rw [hq'.out]; omega) (.int .i64 rk)
        obtain ⟨c0, c1, c2, c3, c4, c5, c6, c7⟩ := MomAt.of_heap hm3
        obtain ⟨f0, f1, f2, f3, f4, f5, f6, f7⟩ := froz8 hm3
        have d0 : w3.cell? ⟨q + 1, 0, none⟩ = some (.int .i64 0) := by rw [Lib.cell_of_heap he3]; rfl
        have g0 := Lib.frozen_of_heap he3 0
        replace hW5 := Lib.hid hW5
        replace hp6 := Lib.hid hp6
        replace he6 := Lib.hid he6
        clear hm3 he3 hp5 he5
        go_wp2_with fail
        rw [← hW5.out]
        clear hW5 c0 c1 c2 c3 c4 c5 c6 c7 f0 f1 f2 f3 f4 f5 f6 f7 d0 g0
        refine leaves_cons (f := 36) (args := #[.pointer (some ⟨q, 0, none⟩), .pointer (some ⟨q + 1, 0, none⟩)]) (by simp) (by simp [go_sem]) ?_
        refine (catch_idle q _).mono ?_
        rintro e u' w'' ⟨rfl, rfl, rfl⟩
        obtain ⟨W6, hW6⟩ : ∃ w, w = W5.setCell ⟨q + 1, 0, none⟩ (.int .i64 rk) := ⟨_, rfl⟩
        have he6 := he6.out
        have hp6 := hp6.out
        rw [← hW6] at he6 hp6 hb6 ⊢
        obtain ⟨c0, c1, c2, c3, c4, c5, c6, c7⟩ := MomAt.of_heap hp6
        have d0 : W6.cell? ⟨q + 1, 0, none⟩ = some (.int .i64 rk) := by rw [Lib.cell_of_heap he6]; rfl
        clear hW6
        simp [Leaves, settle, results, Tryz.results15, go_sem, c0, c1, c2, c3, c4, c5, c6, c7, d0]
        exact ⟨rfl, hB3.trans hb6⟩
  · have hv : Hid (R = (mom0, 1)) := Lib.hid (by rw [hR]; unfold parseM; rw [if_pos (by unfold TimeP.kindOk; simp; omega)])
    have g6 : (k != 6) = true := by simp; omega
    have g7 : (k != 7) = true := by simp; omega
    have g8 : (k != 8) = true := by simp; omega
    clear hR hk hrd
    replace hL := Lib.hid hL
    go_enter_defers Tryz.func15, Tryz.ntmps15
    go_wp2_with fail
    show Leaves _ _ _ _ _ _ _
    simp [Leaves, results, Tryz.results15, go_sem]
    exact ⟨by rw [hv.out]; rfl, ((Below.refl _ _).alloc (Nat.le_refl _) _).alloc (by simp) _⟩
end Go.Proofs.YtgobpoeccdgeiaaGreatDoor

namespace Go.Proofs.YtgobpoeccdgeiaaGreatDoor
open Go.RowKit NumP DurP TimeP Go.Proofs.YtgobpoeccdgeiaaGreatDoorW.PrintWords
set_option linter.unusedVariables false

theorem Stp.andThen {r : Nat} {W w w' : World} (h : Stp r W w) (hb : Below W.heap.size w w') (hr : r ≤ W.heap.size) : Stp r W w' :=
  ⟨h.below.trans (hb.mono hr), fun k h1 h2 => (hb.block k h1).trans (h.rest k h1 h2)⟩
theorem own_step {r : Nat} {w w' : World} {base : Nat} {e : TypeId} {size : Nat} {v : Value} {n : Nat} {xs : List Value} (h : w.ownsRow base e size v n xs) (hs : Stp r w w') (hr : r < base) : w'.ownsRow base e size v n xs := by
  obtain ⟨h1, h2⟩ := h
  refine ⟨h1, ?_⟩
  rcases h2 with h2 | ⟨g, cap, cur, e1, e2, e3, e4, e5, e6, e7⟩
  · exact .inl h2
  · exact .inr ⟨g, cap, cur, e1, e2, (hs.rest g (heap_lt e3) (by omega)).trans e3, e4, e5, e6, e7⟩
theorem own_base {w : World} {base base' : Nat} {e : TypeId} {size : Nat} {v : Value} {n : Nat} {xs : List Value} (h : w.ownsRow base e size v n xs) (hb : base' ≤ base) : w.ownsRow base' e size v n xs := by
  obtain ⟨h1, h2⟩ := h
  refine ⟨h1, ?_⟩
  rcases h2 with h2 | ⟨g, cap, cur, e1, e2, e3⟩
  · exact .inl h2
  · exact .inr ⟨g, cap, cur, e1, Nat.le_trans hb e2, e3⟩
/-- What fraction leaves. -/
def FracPost (r : Nat) (W : World) (l : List UInt8) (e : Ending) (w' : World) : Prop := Stp r W w' ∧
  if digN l = 0 ∨ 6 < digN l then e = .panicked [wrongE] else
    ∃ A c, e = .returned (.slice A (digN l) c) ∧ w'.ownsRow W.heap.size 5 1 (.slice A (digN l) c) (digN l) (byts (l.take (digN l))) ∧ RdAt w' r ⟨(l.drop (digN l)).toArray⟩
set_option maxRecDepth 100000 in
set_option maxHeartbeats 4000000 in
theorem fraction_t (r : Nat) (s : ByteArray) (l : List UInt8) (hsl : s.data.toList = 46 :: l) (W : World) (hr : RdAt W r s) (hs : s.size ≤ 1000) : Calls Tryz.prog 133 #[.pointer (some ⟨r, 0, none⟩)] W (FracPost r W l) := by
  have hrW : r < W.heap.size := heap_lt hr
  have hll : l.length ≤ 999 := by rw [← list_len, hsl] at hs; simpa using hs
  have hsg : Hid (∀ w (s' : ByteArray), RdAt w r s' → s'.size ≤ 1000 → Calls Tryz.prog 79 #[.pointer (some ⟨r, 0, none⟩), .string ⟨#[48, 49, 50, 51, 52, 53, 54, 55, 56, 57]⟩] w (SignPost r w (oneR digsB.data.toList s'.data.toList))) := Lib.hid (fun w s' h1 h2 => sign_t r s' digsB w h1 (by unfold maxLen; omega) (by decide))
  have hpt : Calls Tryz.prog 79 #[.pointer (some ⟨r, 0, none⟩), .string ⟨#[46]⟩] W (SignPost r W (some (46, l))) := by
    have := sign_t r s ⟨#[46]⟩ W hr (by unfold maxLen; omega) (by decide)
    rw [hsl] at this
    exact this
  obtain ⟨jj0, hjj, hy0, hy1, hy2⟩ := info_parts info_byte
  obtain ⟨L, hL⟩ : ∃ b : ByteArray, b = ⟨l.toArray⟩ := ⟨_, rfl⟩
  have hLd : L.data.toList = l := by rw [hL]
  have hLs : L.size ≤ 1000 := by rw [← list_len, hLd]; omega
  replace hL := Lib.hid hL
  replace hr := Lib.hid hr
  replace hs := Lib.hid hs
  replace hsl := Lib.hid hsl
  go_enter Tryz.func133, Tryz.ntmps133
  go_wp2_with fail
  refine hpt.mono ?_
  rintro e w1 ⟨hst1, rfl, hr1⟩
  clear hpt
  rw [← hL.out] at hr1
  have hd1 := hsg.out w1 L hr1 hLs
  rw [hLd] at hd1
  replace hr1 := Lib.hid hr1
  go_wp2_with fail
  refine hd1.mono ?_
  rintro e w2 ⟨hst2, hp⟩
  clear hd1
  have hst := Lib.hid (hst1.trans hst2)
  clear hst1 hst2
  cases ho : oneR digsB.data.toList l with
  | none =>
    rw [ho] at hp
    have hp : e = .panicked [wrongE] := hp
    have hd0 : digN l = 0 := by
      cases l with
      | nil => rfl
      | cons c l =>
        unfold oneR at ho
        simp only [digs_is] at ho
        split at ho
        · cases ho
        · rename_i h; unfold digN; simp [h]
    subst hp
    clear ho hLd
    go_wp2_with fail
    exact ⟨rfl, hst.out, by rw [if_pos (.inl hd0)]⟩
  | some cl =>
    obtain ⟨c, l1⟩ := cl
    rw [ho] at hp
    obtain ⟨rfl, hr2⟩ := hp
    -- LOOP
    have hcd := oneR_dig ho
    have hlc : l = c :: l1 := by
      cases l with
      | nil => cases ho
      | cons d l =>
        unfold oneR at ho
        simp only [digs_is] at ho
        split at ho
        · injection ho with ho; injection ho with h1 h2; rw [h1, h2]
        · cases ho
    have hdc : Dig [c] := fun x hx => by
      rw [List.mem_singleton.1 hx]; unfold isDig; simp; exact hcd
    have hst0 := hst.out
    obtain ⟨W3, hW3⟩ : ∃ w, w = w2.alloc (.cells #[.int .u8 (c.toNat : Int)] 5) := ⟨_, rfl⟩
    have hgw : W.heap.size ≤ w2.heap.size := hst0.below.size
    have hbel : Below w2.heap.size w2 W3 := by rw [hW3]; exact (Below.refl _ _).alloc (Nat.le_refl _) _
    have hstart : Hid (1 = [c].length ∧ W3.ownsRow W.heap.size 5 1 (.slice (some ⟨w2.heap.size, 0, none⟩) 1 1) 1 (byts [c]) ∧ RdAt W3 r ⟨l1.toArray⟩ ∧ Stp r W W3 ∧ l = [c] ++ (⟨l1.toArray⟩ : ByteArray).data.toList ∧ Dig [c]) := Lib.hid ⟨rfl, by
      have h := own_byte w2 c _ rfl
      rw [← hW3] at h
      exact own_base h hgw, (hbel.block r (Nat.lt_of_lt_of_le hrW hgw)).trans hr2, hst0.trans (Stp.of_below hbel (Nat.lt_of_lt_of_le hrW hgw)), hlc, hdc⟩
    have hl1s : 1 + (⟨l1.toArray⟩ : ByteArray).size ≤ 1000 := by
      rw [← list_len]; show 1 + l1.length ≤ 1000
      rw [hlc] at hll; simp at hll; omega
    clear hr2 ho hcd hlc hdc hst0 hgw hbel hLd
    replace hst := Lib.hid hst
    replace hll := Lib.hid hll
    go_wp2_with fail
    rw [← hW3]
    clear hW3
    go_loopw [3] (fun dv wr => ∃ (ds : List UInt8) (A : Option Addr) (c : Nat) (s' : ByteArray) (n : Nat), dv = .slice A n c ∧ 1 ≤ n ∧ n + s'.size ≤ 1000 ∧ Hid (n = ds.length ∧ wr.ownsRow W.heap.size 5 1 (.slice A n c) n (byts ds) ∧ RdAt wr r s' ∧ Stp r W wr ∧ l = ds ++ s'.data.toList ∧ Dig ds)) (fun dv _ => 2000 - lenS dv)
    case atStart => exact ⟨[c], _, _, ⟨l1.toArray⟩, 1, rfl, Nat.le_refl _, hl1s, hstart⟩
    case round =>
      obtain ⟨ds, A, cp, s', n, rfl, hn1, hns, hrel⟩ := hrel
      obtain ⟨h1, h2, h3, h4, h5, h6⟩ := hrel.out
      have k0 : wr.cell? ⟨r, 0, none⟩ = some (.string s') := by rw [Lib.cell_of_heap h3]; rfl
      by_cases he : s'.data.toList = []
      · have hne : (s'.toList != []) = false := by rw [ByteArray.toList_eq, he]; rfl
        have hne2 : (s'.toList == []) = true := by rw [ByteArray.toList_eq, he]; rfl
        have hhead : ∀ c, (s'.data.toList).head? = some c → isDig c = false := fun c h => by rw [he] at h; cases h
        replace h2 := Lib.hid h2
        replace h3 := Lib.hid h3
        replace h4 := Lib.hid h4
        clear hrel he
        have hdn : Hid (digN l = n ∧ l.take n = ds ∧ l.drop n = s'.data.toList) := Lib.hid (by
          rw [h5, h1]
          exact ⟨digN_app h6 hhead, by simp, by simp⟩)
        clear h1 h5 h6 hhead
        by_cases h7 : 6 < n
        · have g7 : (n : Int) > 6 := by omega
          clear h2 h3
          go_wp2_with fail
          exact ⟨rfl, h4.out, by rw [hdn.out.1, if_pos (.inr h7)]; rfl⟩
        · have g7 : ¬ ((n : Int) > 6) := by omega
          go_wp2_with fail
          go_ret
          refine ⟨h4.out, ?_⟩
          rw [hdn.out.1, if_neg (by omega)]
          refine ⟨_, _, rfl, ?_, ?_⟩
          · rw [hdn.out.2.1]; exact h2.out
          · rw [hdn.out.2.2]; exact h3.out
      · obtain ⟨x, t, hxt⟩ : ∃ c l, s'.data.toList = c :: l := by
          cases h : s'.data.toList with
          | nil => exact absurd h he
          | cons c l => exact ⟨c, l, rfl⟩
        have hz1 : 0 < s'.size := by rw [← list_len, hxt]; simp
        have hz2 : (0 : Int) < (s'.size : Int) := by omega
        have hx0 : s'[0]'hz1 = x := by
          have h2 : s'.data.toList[0]'(by rw [hxt]; simp) = x := by simp only [hxt]; rfl
          rw [← h2]; rfl
        have hne : (s'.toList != []) = true := by rw [ByteArray.toList_eq, hxt]; rfl
        have hne2 : (s'.toList == []) = false := by rw [ByteArray.toList_eq, hxt]; rfl
        by_cases hd : isDig x = true
        · have hxd : 48 ≤ x.toNat ∧ x.toNat ≤ 57 := by unfold isDig at hd; simpa using hd
          have q1 : (x.toNat : Int) ≥ 48 := by omega
          have q2 : (x.toNat : Int) ≤ 57 := by omega
          have hcall := hsg.out wr s' h3 (by omega)
          rw [hxt, show oneR digsB.data.toList (x :: t) = some (x, t) by unfold oneR; simp only [digs_is]; rw [if_pos hd]] at hcall
          obtain ⟨T, hT⟩ : ∃ b : ByteArray, b = ⟨t.toArray⟩ := ⟨_, rfl⟩
          have hTd : T.data.toList = t := by rw [hT]
          have hTs : T.size + 1 = s'.size := by rw [← list_len, ← list_len, hTd, hxt]; rfl
          have hds2 : Hid (n + 1 = (ds ++ [x]).length ∧ l = (ds ++ [x]) ++ T.data.toList ∧ Dig (ds ++ [x])) := Lib.hid ⟨by simp [h1], by rw [h5, hxt, hTd]; simp, fun c hc => by
            rcases List.mem_append.1 hc with hc | hc
            · exact h6 c hc
            · rw [List.mem_singleton.1 hc]; exact hd⟩
          replace h1 := Lib.hid h1
          replace h2 := Lib.hid h2
          replace h3 := Lib.hid h3
          replace h4 := Lib.hid h4
          replace hT := Lib.hid hT
          clear hrel he hxt hd h5 h6 hTd hxd
          go_wp2_with fail
          refine hcall.mono ?_
          rintro e w4 ⟨hst4, rfl, hr4⟩
          clear hcall
          have hgw4 : W.heap.size ≤ w4.heap.size := (h4.out.trans hst4).below.size
          have hown4 : Hid (w4.ownsRow W.heap.size 5 1 (.slice A n cp) n (byts ds)) := Lib.hid (own_step h2.out hst4 hrW)
          have hb5 : Hid (Below w4.heap.size w4 (w4.alloc (.cells #[.int .u8 (x.toNat : Int)] 5))) := Lib.hid ((Below.refl _ _).alloc (Nat.le_refl _) _)
          have hbs : W.heap.size ≤ (w4.alloc (.cells #[.int .u8 (x.toNat : Int)] 5)).heap.size := Nat.le_trans hgw4 hb5.out.size
          have hB5 := Lib.hid (hb5.out.mono hgw4)
          have hstw := Lib.hid (h4.out.trans hst4)
          have hr4' := Lib.hid hr4
          clear hst4 hr4 h2 h3 k0
          go_wp2_with (at_builtin; refine wpList_append_own _ rfl _ _ 116 rfl W.heap.size 5 jj0 (.int .u8 0) 1 1 Tryz.underlying116 hjj hy0 hy1 hy2 rfl (by decide) _ _ _ rfl (own_below hown4.out hb5.out) ⟨w4.heap.size, 0, none⟩ 1 1 (byts [x]) rfl rfl (byte_news (c := x) rfl) (byts_one [x]) (by unfold maxLen; omega) (by omega) hbs ?_; intro v2 w5 hv2 hgrow2 hnil2; rw [← byts_app] at hv2; have hbw2 := Lib.hid (Below.grown hB5.out hgrow2 hbs (fun j hj => ((own_below hown4.out hb5.out).lt _ hj).1)); obtain ⟨A8, c8, rfl⟩ := own_lit hv2 (by omega); replace hv2 := Lib.hid hv2; clear hgrow2 hnil2)
          exact ⟨⟨ds ++ [x], A8, c8, T, n + 1, rfl, by omega, by omega, Lib.hid ⟨hds2.out.1, hv2.out, by rw [hT.out]; exact (hbw2.out.block r hrW).trans hr4'.out, hstw.out.andThen hbw2.out (Nat.le_of_lt hrW), hds2.out.2.1, hds2.out.2.2⟩⟩, by simp [lenS]; omega⟩
        · have hhead : ∀ c, (s'.data.toList).head? = some c → isDig c = false := fun c h => by rw [hxt] at h; injection h with h; rw [← h]; simpa using hd
          replace h2 := Lib.hid h2
          replace h3 := Lib.hid h3
          replace h4 := Lib.hid h4
          by_cases hlo : (x.toNat : Int) ≥ 48
          · have hhi : ¬ ((x.toNat : Int) ≤ 57) := fun h => hd (by unfold isDig; simp; omega)
            clear hrel he hxt hd
            have hdn : Hid (digN l = n ∧ l.take n = ds ∧ l.drop n = s'.data.toList) := Lib.hid (by
              rw [h5, h1]
              exact ⟨digN_app h6 hhead, by simp, by simp⟩)
            clear h1 h5 h6 hhead
            by_cases h7 : 6 < n
            · have g7 : (n : Int) > 6 := by omega
              clear h2 h3
              go_wp2_with fail
              exact ⟨rfl, h4.out, by rw [hdn.out.1, if_pos (.inr h7)]; rfl⟩
            · have g7 : ¬ ((n : Int) > 6) := by omega
              go_wp2_with fail
              go_ret
              refine ⟨h4.out, ?_⟩
              rw [hdn.out.1, if_neg (by omega)]
              refine ⟨_, _, rfl, ?_, ?_⟩
              · rw [hdn.out.2.1]; exact h2.out
              · rw [hdn.out.2.2]; exact h3.out
          · clear hrel he hxt hd
            have hdn : Hid (digN l = n ∧ l.take n = ds ∧ l.drop n = s'.data.toList) := Lib.hid (by
              rw [h5, h1]
              exact ⟨digN_app h6 hhead, by simp, by simp⟩)
            clear h1 h5 h6 hhead
            by_cases h7 : 6 < n
            · have g7 : (n : Int) > 6 := by omega
              clear h2 h3
              go_wp2_with fail
              exact ⟨rfl, h4.out, by rw [hdn.out.1, if_pos (.inr h7)]; rfl⟩
            · have g7 : ¬ ((n : Int) > 6) := by omega
              go_wp2_with fail
              go_ret
              refine ⟨h4.out, ?_⟩
              rw [hdn.out.1, if_neg (by omega)]
              refine ⟨_, _, rfl, ?_, ?_⟩
              · rw [hdn.out.2.1]; exact h2.out
              · rw [hdn.out.2.2]; exact h3.out
end Go.Proofs.YtgobpoeccdgeiaaGreatDoor

namespace Go.Proofs.YtgobpoeccdgeiaaGreatDoor
open Go.RowKit NumP DurP TimeP Go.Proofs.YtgobpoeccdgeiaaGreatDoorW.PrintWords
set_option linter.unusedVariables false

def SecPost (r : Nat) (W : World) (o : Option (List UInt8 × List UInt8)) (e : Ending) (w' : World) : Prop := Stp r W w' ∧ match o with
  | none => e = .panicked [wrongE]
  | some (t, l) => e = .returned (.string ⟨t.toArray⟩) ∧ RdAt w' r ⟨l.toArray⟩
theorem has_pt (s : ByteArray) (W : World) : Calls Tryz.prog 67 #[.string s, .string ⟨#[46]⟩] W fun e w' => e = .returned (.bool (s.data.toList.head? == some 46)) ∧ W = w' :=
  (Tryz.strings_HasPrefix s ⟨#[46]⟩ W).mono (fun e w' h => ⟨by rw [h.1, show (⟨#[46]⟩ : ByteArray).data.toList = [46] from rfl, has_one], h.2.symm⟩)
set_option maxRecDepth 100000 in
set_option maxHeartbeats 4000000 in
theorem second_t (r : Nat) (hr8 : 8 ≤ r) (s : ByteArray) (W : World) (hL : LaidT W) (hr : RdAt W r s) (hs : s.size ≤ 1000) : Calls Tryz.prog 80 #[.pointer (some ⟨r, 0, none⟩)] W (SecPost r W (secR s.data.toList)) := by
  obtain ⟨O, hO⟩ : ∃ O, O = secR s.data.toList := ⟨_, rfl⟩
  rw [← hO]
  have hrW : r < W.heap.size := heap_lt hr
  have hd : Calls Tryz.prog 78 #[.pointer (some ⟨r, 0, none⟩), .int .i64 2] W (DigPost r W (numR 2 0 s.data.toList)) := digits_t r 2 s W hr (by unfold maxLen; omega) (by decide)
  have hLw : Hid (∀ w, Stp r W w → LaidT w) := Lib.hid (fun w h => hL.below h.below hr8)
  replace hr := Lib.hid hr
  unfold secR at hO
  replace hO := Lib.hid hO
  clear hL
  go_enter Tryz.func80, Tryz.ntmps80
  go_wp2_with fail
  refine hd.mono ?_
  rintro e w2 ⟨hst2, hp⟩
  clear hd
  have hO := hO.out
  cases hn : numR 2 0 s.data.toList with
  | none =>
    rw [hn] at hp hO
    have hp : e = .panicked [wrongE] := hp
    have hO : O = none := hO
    subst hp hO
    replace hst2 := Lib.hid hst2
    clear hn
    go_wp2_with fail
    exact ⟨rfl, hst2.out, rfl⟩
  | some nl =>
    obtain ⟨n, l1⟩ := nl
    rw [hn] at hp hO
    simp only at hO
    obtain ⟨rfl, hr2⟩ := hp
    obtain ⟨hn1, hl1⟩ := numR_lt _ _ _ _ _ hn
    have hn1 : n < 100 := hn1
    obtain ⟨L, hLe⟩ : ∃ b : ByteArray, b = ⟨l1.toArray⟩ := ⟨_, rfl⟩
    have hLd : L.data.toList = l1 := by rw [hLe]
    have hLs : L.size ≤ 1000 := by rw [← list_len, hLd]; rw [list_len] at hl1; omega
    rw [← hLe] at hr2
    have hit := itoa_t (n : Int) w2 (hLw.out _ hst2) (by omega)
    rw [if_neg (by omega), Int.natAbs_natCast, List.nil_append] at hit
    obtain ⟨D, hD⟩ : ∃ D : ByteArray, D = ⟨(decP n).toArray⟩ := ⟨_, rfl⟩
    have hDd : D.data.toList = decP n := by rw [hD]
    have hDs : D.size ≤ 18 := by rw [← list_len, hDd]; exact decF_short 20 n 17 (by omega)
    rw [← hD] at hit
    replace hst2 := Lib.hid hst2
    replace hr2 := Lib.hid hr2
    replace hLe := Lib.hid hLe
    replace hD := Lib.hid hD
    replace hO := Lib.hid hO
    clear hn hl1
    go_wp2_with fail
    refine hit.mono ?_
    rintro e w3 ⟨rfl, hb3⟩
    clear hit
    have hst3 := Lib.hid (hst2.out.trans (Stp.of_below hb3 (heap_lt hr2.out)))
    have hr3 : Hid (RdAt w3 r L) := Lib.hid ((hb3.block r (heap_lt hr2.out)).trans hr2.out)
    clear hb3
    have k3 : w3.cell? ⟨r, 0, none⟩ = some (.string L) := by rw [Lib.cell_of_heap hr3.out]; rfl
    have hpt := has_pt L w3
    rw [hLd] at hpt
    by_cases hh : l1.head? = some 46
    · have hb : (l1.head? == some 46) = true := by rw [hh]; rfl
      rw [hb] at hpt
      have hO := hO.out
      rw [if_pos hh] at hO
      obtain ⟨l2, hl2⟩ : ∃ l2, l1 = 46 :: l2 := by
        cases l1 with
        | nil => cases hh
        | cons c l => injection hh with hh; exact ⟨l, by rw [hh]⟩
      rw [hl2, List.drop_one, List.tail_cons] at hO
      have hfr := fraction_t r L l2 (by rw [hLd, hl2]) w3 hr3.out hLs
      replace hO := Lib.hid hO
      clear hh hb hLd hl2
      go_wp2_with fail
      refine hpt.mono ?_
      rintro e w4 ⟨rfl, rfl⟩
      clear hpt
      go_wp2_with fail
      refine hfr.mono ?_
      rintro e w5 ⟨hst5, hp⟩
      clear hfr
      have hO := hO.out
      by_cases hk : digN l2 = 0 ∨ 6 < digN l2
      · rw [if_pos hk] at hp hO
        subst hp hO
        have hstt := Lib.hid (hst3.out.trans hst5)
        clear hst5 hk
        go_wp2_with fail
        exact ⟨rfl, hstt.out, rfl⟩
      · rw [if_neg hk] at hp hO
        obtain ⟨A, cp, rfl, hown, hr5⟩ := hp
        have hcv := str_own hown
        have hstt := Lib.hid (hst3.out.trans hst5)
        obtain ⟨F, hF⟩ : ∃ F : ByteArray, F = ⟨(l2.take (digN l2)).toArray⟩ := ⟨_, rfl⟩
        have hFs : F.size ≤ 6 := by rw [hF, ← list_len]; show (l2.take (digN l2)).length ≤ 6; rw [List.length_take]; omega
        rw [← hF] at hcv
        obtain ⟨G, hG⟩ : ∃ G : ByteArray, G = ⟨#[46]⟩ ++ F := ⟨_, rfl⟩
        obtain ⟨Q, hQ⟩ : ∃ Q : ByteArray, Q = D ++ G := ⟨_, rfl⟩
        have hGs : G.size = 1 + F.size := by rw [hG, ByteArray.size_append]; rfl
        have hQs : Q.size = D.size + G.size := by rw [hQ, ByteArray.size_append]
        have e1 : (9223372036854775807 < 1 + F.size) = False := eq_false (by omega)
        have e2 : (9223372036854775807 < D.size + G.size) = False := eq_false (by omega)
        have q1 : (⟨#[46]⟩ : ByteArray) ++ F = G := hG.symm
        have q2 : D ++ G = Q := hQ.symm
        have hQd : Q.data.toList = decP n ++ 46 :: l2.take (digN l2) := by
          rw [hQ, ByteArray.data_append, hG, ByteArray.data_append, hF]; simp [hDd]
        have hpar := Parse_b Q w5 (hLw.out _ hstt.out).base.num (by unfold maxLen; omega)
        rw [hQd] at hpar
        replace hr5 := Lib.hid hr5
        replace hO := Lib.hid hO
        clear hst5 hown hk hG hQ hGs hQs hQd hF hDd
        go_wp2_with fail
        refine hpar.mono ?_
        rintro e w6 ⟨rfl, hb6⟩
        clear hpar
        have hst6 := Lib.hid (hstt.out.trans (Stp.of_below hb6 (heap_lt hr5.out)))
        have hr6 := Lib.hid ((hb6.block r (heap_lt hr5.out)).trans hr5.out)
        clear hb6
        go_wp2_with fail
        go_ret
        exact ⟨hst6.out, by rw [hO.out]; exact ⟨rfl, hr6.out⟩⟩
    · have hb : (l1.head? == some 46) = false := by simpa using hh
      rw [hb] at hpt
      have hO := hO.out
      rw [if_neg hh] at hO
      have hpar := Parse_b D w3 (hLw.out _ hst3.out).base.num (by unfold maxLen; omega)
      rw [hDd] at hpar
      replace hO := Lib.hid hO
      clear hh hb hLd hDd
      go_wp2_with fail
      refine hpt.mono ?_
      rintro e w4 ⟨rfl, rfl⟩
      clear hpt
      go_wp2_with fail
      refine hpar.mono ?_
      rintro e w6 ⟨rfl, hb6⟩
      clear hpar
      have hst6 := Lib.hid (hst3.out.trans (Stp.of_below hb6 (heap_lt hr3.out)))
      have hr6 := Lib.hid ((hb6.block r (heap_lt hr3.out)).trans hr3.out)
      clear hb6
      go_wp2_with fail
      go_ret
      exact ⟨hst6.out, by rw [hO.out]; exact ⟨rfl, by rw [← hLe.out]; exact hr6.out⟩⟩
end Go.Proofs.YtgobpoeccdgeiaaGreatDoor
