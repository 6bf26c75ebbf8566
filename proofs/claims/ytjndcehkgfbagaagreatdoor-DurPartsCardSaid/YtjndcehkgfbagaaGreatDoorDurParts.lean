/- DurParts: the parts of forms add up; the walk of the statement. -/
import Derived.Test.YtjndcehkgfbagaaGreatDoorDurPartsP
import Derived.Deep.CutRange
import Derived.Deep.RegionHeld3
namespace Go.Proofs.YtjndcehkgfbagaaGreatDoor
open Go.RowKit NumP DurP Go.Proofs.YtjndcehkgfbagaaGreatDoorW.PrintWords
set_option linter.unusedVariables false

set_option maxRecDepth 100000 in
set_option maxHeartbeats 8000000 in
theorem parts_walk (n0 n1 n2 n3 n4 n5 n6 v z : Nat) (W : World) (hL : LaidD W) (hv : v < 256) (hz : z < 256) (h0 : n0 < 65536) (h1 : n1 < 65536) (h2 : n2 < 65536) (h3 : n3 < 65536) (h4 : n4 < 65536) (h5 : n5 < 65536) (h6 : n6 < 65536) :
    Calls Tryz.prog 12 #[.agg #[.int .u16 n0, .int .u16 n1, .int .u16 n2, .int .u16 n3, .int .u16 n4, .int .u16 n5, .int .u16 n6], .int .u8 v, .int .u8 z] W fun e w' => e = .returned (.bool true) ∧ Below W.heap.size W w' := by
  obtain ⟨least, hl⟩ : ∃ least, least = 1 + z % 6 := ⟨_, rfl⟩
  have hl6 : least ≤ 6 := by omega
  have hl1 : 1 ≤ least := by omega
  have hli : (1 : Int) + (z : Int) % 6 = (least : Int) := by omega
  replace hl := Lib.hid hl
  obtain ⟨b0, gb0⟩ : ∃ b, (bits .and .u8 (v : Int) 1 != 0) = b := ⟨_, rfl⟩
  obtain ⟨b1, gb1⟩ : ∃ b, (bits .and .u8 (v : Int) 2 != 0) = b := ⟨_, rfl⟩
  obtain ⟨b2, gb2⟩ : ∃ b, (bits .and .u8 (v : Int) 4 != 0) = b := ⟨_, rfl⟩
  obtain ⟨b3, gb3⟩ : ∃ b, (bits .and .u8 (v : Int) 8 != 0) = b := ⟨_, rfl⟩
  obtain ⟨b4, gb4⟩ : ∃ b, (bits .and .u8 (v : Int) 16 != 0) = b := ⟨_, rfl⟩
  obtain ⟨b5, gb5⟩ : ∃ b, (bits .and .u8 (v : Int) 32 != 0) = b := ⟨_, rfl⟩
  obtain ⟨m3, m3', m56, m60⟩ := bits_all ⟨v, hv⟩
  unfold bit at m3 m3' m56 m60
  simp only [gb0, gb1, gb2, gb3, gb4, gb5] at m3 m3' m56 m60
  obtain ⟨q0, Q0⟩ := digs_of W n0 least (by omega) hl6
  obtain ⟨q1, Q1⟩ := digs_of W n1 least (by omega) hl6
  obtain ⟨q2, Q2⟩ := digs_of W n2 least (by omega) hl6
  obtain ⟨q3, Q3⟩ := digs_of W n3 least (by omega) hl6
  obtain ⟨q4, Q4⟩ := digs_of W n4 least (by omega) hl6
  obtain ⟨q5, Q5⟩ := digs_of W n5 least (by omega) hl6
  obtain ⟨q6, Q6⟩ := digs_of W (n6 % 1000) 3 (by omega) (by decide)
  obtain ⟨bT, hbT⟩ : ∃ b, b = (b3 || b4 || b5) := ⟨_, rfl⟩
  rw [← hbT] at m56
  obtain ⟨M0, hM0⟩ : ∃ s, s = more ⟨#[80]⟩ b0 q0 89 := ⟨_, rfl⟩
  obtain ⟨M1, hM1⟩ : ∃ s, s = more M0 b1 q1 77 := ⟨_, rfl⟩
  obtain ⟨S0, hS0⟩ : ∃ s, s = more ⟨#[80]⟩ b2 q2 68 := ⟨_, rfl⟩
  obtain ⟨S1, hS1⟩ : ∃ s, s = (if bT then S0 ++ ⟨#[84]⟩ else S0) := ⟨_, rfl⟩
  obtain ⟨S2, hS2⟩ : ∃ s, s = more S1 b3 q3 72 := ⟨_, rfl⟩
  obtain ⟨S3, hS3⟩ : ∃ s, s = more S2 b4 q4 77 := ⟨_, rfl⟩
  obtain ⟨S4, hS4⟩ : ∃ s, s = (if b5 then S3 ++ q5 ++ ⟨#[46]⟩ ++ q6 ++ ⟨#[83]⟩ else S3) := ⟨_, rfl⟩
  obtain ⟨T0, hT0⟩ : ∃ n : Nat, n = (if b0 then 12 * n0 else 0) := ⟨_, rfl⟩
  obtain ⟨T1, hT1⟩ : ∃ n : Nat, n = T0 + (if b1 then n1 else 0) := ⟨_, rfl⟩
  obtain ⟨A0, hA0⟩ : ∃ n : Nat, n = (if b2 then 86400000 * n2 else 0) := ⟨_, rfl⟩
  obtain ⟨A1, hA1⟩ : ∃ n : Nat, n = A0 + (if b3 then 3600000 * n3 else 0) := ⟨_, rfl⟩
  obtain ⟨A2, hA2⟩ : ∃ n : Nat, n = A1 + (if b4 then 60000 * n4 else 0) := ⟨_, rfl⟩
  obtain ⟨A3, hA3⟩ : ∃ n : Nat, n = A2 + (if b5 then 1000 * n5 + n6 % 1000 else 0) := ⟨_, rfl⟩
  have zq : q0.size ≤ 20 ∧ q1.size ≤ 20 ∧ q2.size ≤ 20 ∧ q3.size ≤ 20 ∧ q4.size ≤ 20 ∧ q5.size ≤ 20 ∧ q6.size ≤ 20 := ⟨Q0.size, Q1.size, Q2.size, Q3.size, Q4.size, Q5.size, Q6.size⟩
  have z1 : M0.size ≤ 22 := by have := more_size ⟨#[80]⟩ b0 q0 89; rw [← hM0] at this; have e : (⟨#[80]⟩ : ByteArray).size = 1 := rfl; omega
  have z2 : M1.size ≤ 43 := by have := more_size M0 b1 q1 77; rw [← hM1] at this; omega
  have z3 : S0.size ≤ 22 := by have := more_size ⟨#[80]⟩ b2 q2 68; rw [← hS0] at this; have e : (⟨#[80]⟩ : ByteArray).size = 1 := rfl; omega
  have z4 : S1.size ≤ 23 := by
    rw [hS1]; split
    · rw [size_app]; show S0.size + 1 ≤ 23; omega
    · omega
  have z5 : S2.size ≤ 44 := by have := more_size S1 b3 q3 72; rw [← hS2] at this; omega
  have z6 : S3.size ≤ 65 := by have := more_size S2 b4 q4 77; rw [← hS3] at this; omega
  have z7 : S4.size ≤ 107 := by
    rw [hS4]; split
    · rw [size_app, size_app, size_app, size_app]; show S3.size + q5.size + 1 + q6.size + 1 ≤ 107; omega
    · omega
  have y1 : T0 ≤ 786420 := by rw [hT0]; split <;> omega
  have y2 : T1 ≤ 851955 := by rw [hT1]; split <;> omega
  have y3 : A0 ≤ 5662224000000 := by rw [hA0]; split <;> omega
  have y4 : A1 ≤ 5898150000000 := by rw [hA1]; split <;> omega
  have y5 : A2 ≤ 5902082100000 := by rw [hA2]; split <;> omega
  have y6 : A3 ≤ 5902147700000 := by rw [hA3]; split <;> omega
  replace hM0 := Lib.hid hM0
  replace hM1 := Lib.hid hM1
  replace hS0 := Lib.hid hS0
  replace hS1 := Lib.hid hS1
  replace hS2 := Lib.hid hS2
  replace hS3 := Lib.hid hS3
  replace hS4 := Lib.hid hS4
  replace hT0 := Lib.hid hT0
  replace hT1 := Lib.hid hT1
  replace hA0 := Lib.hid hA0
  replace hA1 := Lib.hid hA1
  replace hA2 := Lib.hid hA2
  replace hA3 := Lib.hid hA3
  replace hbT := Lib.hid hbT
  obtain ⟨W1, hW1⟩ : ∃ W1, W1 = W.alloc (.cells #[.int .u16 n0, .int .u16 n1, .int .u16 n2, .int .u16 n3, .int .u16 n4, .int .u16 n5, .int .u16 n6] 36) := ⟨_, rfl⟩
  obtain ⟨g, hg⟩ : ∃ g, g = W.heap.size := ⟨_, rfl⟩
  have hB1 : Hid (Below W.heap.size W W1) := Lib.hid (by rw [hW1]; exact (Below.refl _ _).alloc (Nat.le_refl _) _)
  have hx1 : W1.heap[g]? = some (.cells #[.int .u16 n0, .int .u16 n1, .int .u16 n2, .int .u16 n3, .int .u16 n4, .int .u16 n5, .int .u16 n6] 36 (0, 0)) := by rw [hW1, hg]; exact (MapKept.heap_alloc _ _).1
  have hc : Hid (∀ w, Below W1.heap.size W1 w → w.cell? ⟨g, 0, none⟩ = some (.int .u16 n0) ∧ w.cell? ⟨g, 1, none⟩ = some (.int .u16 n1) ∧ w.cell? ⟨g, 2, none⟩ = some (.int .u16 n2) ∧ w.cell? ⟨g, 3, none⟩ = some (.int .u16 n3) ∧ w.cell? ⟨g, 4, none⟩ = some (.int .u16 n4) ∧ w.cell? ⟨g, 5, none⟩ = some (.int .u16 n5) ∧ w.cell? ⟨g, 6, none⟩ = some (.int .u16 n6)) := Lib.hid (fun w hb => by
    have e : w.heap[g]? = W1.heap[g]? := hb.block g (heap_lt hx1)
    rw [hx1] at e
    refine ⟨?_, ?_, ?_, ?_, ?_, ?_, ?_⟩ <;> (rw [Lib.cell_of_heap e]; rfl))
  replace hx1 := Lib.hid hx1
  replace Q0 := Lib.hid Q0
  replace Q1 := Lib.hid Q1
  replace Q2 := Lib.hid Q2
  replace Q3 := Lib.hid Q3
  replace Q4 := Lib.hid Q4
  replace Q5 := Lib.hid Q5
  replace Q6 := Lib.hid Q6
  replace m3 := Lib.hid m3
  replace m3' := Lib.hid m3'
  replace m56 := Lib.hid m56
  replace m60 := Lib.hid m60
  replace hL := Lib.hid hL
  go_enter Tryz.func12, Tryz.ntmps12
  go_upto_region 4 with fail
  rw [← hW1, ← hg]
  replace hW1 := Lib.hid hW1
  replace hg := Lib.hid hg
  have hbs : Hid (Below W1.heap.size W1 W1) := Lib.hid (Below.refl _ _)
  have hgl : Hid (g < W1.heap.size) := Lib.hid (heap_lt hx1.out)
  go_upto_if 26 with fail
  go_cut [8, 10] from 27 to 40 (fun s x wx => s = .string M0 ∧ x = .int .i64 (T0 : Int) ∧ Hid (Below W1.heap.size W1 wx))
  case first =>
    cases b0
    · go_wp2_with fail
      go_meet
      exact ⟨by rw [hM0.out]; rfl, by rw [hT0.out]; simp, hbs⟩
    · obtain ⟨e0, e1, e2, e3, e4, e5, e6⟩ := hc.out W1 hbs.out
      have j1 : (9223372036854775807 < (⟨#[80]⟩ : ByteArray).size + q0.size) = False := eq_false (by have e : (⟨#[80]⟩ : ByteArray).size = 1 := rfl; omega)
      have j2 : (9223372036854775807 < (⟨#[80]⟩ : ByteArray).size + q0.size + 1) = False := eq_false (by have e : (⟨#[80]⟩ : ByteArray).size = 1 := rfl; omega)
      have j3 : (9223372036854775807 < ((⟨#[80]⟩ : ByteArray) ++ q0).size + 1) = False := eq_false (by rw [size_app]; have e : (⟨#[80]⟩ : ByteArray).size = 1 := rfl; omega)
      go_wp2_with fail
      refine (Q0.out.gives _).mono ?_
      rintro e w2 ⟨rfl, hb2⟩
      have hb2' := hbs.out.trans (hb2.mono hbs.out.size)
      obtain ⟨f0, f1, f2, f3, f4, f5, f6⟩ := hc.out w2 hb2'
      replace hb2' := Lib.hid hb2'
      clear hb2 e0 e1 e2 e3 e4 e5 e6
      go_wp2_with fail
      go_meet
      exact ⟨by rw [hM0.out]; rfl, by rw [hT0.out]; simp, hb2'⟩
  case rest =>
  obtain ⟨rfl, rfl, hb1⟩ := hcut
  obtain ⟨x1, hx1'⟩ : ∃ x, x = wc := ⟨_, rfl⟩
  rw [← hx1'] at hb1 ⊢
  clear hx1'
  go_upto_if 43 with fail
  go_cut [8, 10] from 44 to 56 (fun s x wx => s = .string M1 ∧ x = .int .i64 (T1 : Int) ∧ Hid (Below W1.heap.size W1 wx))
  case first =>
    cases b1
    · go_wp2_with fail
      go_meet
      exact ⟨by rw [hM1.out]; rfl, by rw [hT1.out]; simp, hb1⟩
    · obtain ⟨e0, e1, e2, e3, e4, e5, e6⟩ := hc.out x1 hb1.out
      have j1 : (9223372036854775807 < M0.size + q1.size) = False := eq_false (by omega)
      have j2 : (9223372036854775807 < M0.size + q1.size + 1) = False := eq_false (by omega)
      have j3 : (9223372036854775807 < (M0 ++ q1).size + 1) = False := eq_false (by rw [size_app]; omega)
      go_wp2_with fail
      refine (Q1.out.gives _).mono ?_
      rintro e w2 ⟨rfl, hb2⟩
      have hb2' := hb1.out.trans (hb2.mono hb1.out.size)
      obtain ⟨f0, f1, f2, f3, f4, f5, f6⟩ := hc.out w2 hb2'
      replace hb2' := Lib.hid hb2'
      clear hb2 e0 e1 e2 e3 e4 e5 e6
      go_wp2_with fail
      go_meet
      exact ⟨by rw [hM1.out]; rfl, by rw [hT1.out]; simp, hb2'⟩
  case rest =>
  obtain ⟨rfl, rfl, hb2⟩ := hcut
  obtain ⟨x2, hx2'⟩ : ∃ x, x = wc := ⟨_, rfl⟩
  rw [← hx2'] at hb2 ⊢
  clear hx2'
  go_upto_if 59 with fail
  go_cut [9, 11] from 60 to 73 (fun s x wx => s = .string S0 ∧ x = .int .i64 (A0 : Int) ∧ Hid (Below W1.heap.size W1 wx))
  case first =>
    cases b2
    · go_wp2_with fail
      go_meet
      exact ⟨by rw [hS0.out]; rfl, by rw [hA0.out]; simp, hb2⟩
    · obtain ⟨e0, e1, e2, e3, e4, e5, e6⟩ := hc.out x2 hb2.out
      have j1 : (9223372036854775807 < (⟨#[80]⟩ : ByteArray).size + q2.size) = False := eq_false (by have e : (⟨#[80]⟩ : ByteArray).size = 1 := rfl; omega)
      have j2 : (9223372036854775807 < (⟨#[80]⟩ : ByteArray).size + q2.size + 1) = False := eq_false (by have e : (⟨#[80]⟩ : ByteArray).size = 1 := rfl; omega)
      have j3 : (9223372036854775807 < ((⟨#[80]⟩ : ByteArray) ++ q2).size + 1) = False := eq_false (by rw [size_app]; have e : (⟨#[80]⟩ : ByteArray).size = 1 := rfl; omega)
      go_wp2_with fail
      refine (Q2.out.gives _).mono ?_
      rintro e w2 ⟨rfl, hbw⟩
      have hb2' := hb2.out.trans (hbw.mono hb2.out.size)
      obtain ⟨f0, f1, f2, f3, f4, f5, f6⟩ := hc.out w2 hb2'
      replace hb2' := Lib.hid hb2'
      clear hbw e0 e1 e2 e3 e4 e5 e6
      go_wp2_with fail
      go_meet
      exact ⟨by rw [hS0.out]; rfl, by rw [hA0.out]; simp, hb2'⟩
  case rest =>
  obtain ⟨rfl, rfl, hb3⟩ := hcut
  obtain ⟨x3, hx3'⟩ : ∃ x, x = wc := ⟨_, rfl⟩
  rw [← hx3'] at hb3 ⊢
  clear hx3'
  have m56' := m56.out
  go_upto_if 76 with fail
  go_cut [9] from 77 to 78 (fun s wx => s = .string S1 ∧ Hid (Below W1.heap.size W1 wx))
  case first =>
    have j1 : (9223372036854775807 < S0.size + 1) = False := eq_false (by omega)
    cases bT
    · go_wp2_with fail
      go_meet
      exact ⟨by rw [hS1.out]; rfl, hb3⟩
    · go_wp2_with fail
      go_meet
      exact ⟨by rw [hS1.out]; rfl, hb3⟩
  case rest =>
  obtain ⟨rfl, hb4⟩ := hcut
  obtain ⟨x4, hx4'⟩ : ∃ x, x = wc := ⟨_, rfl⟩
  rw [← hx4'] at hb4 ⊢
  clear hx4'
  go_upto_if 81 with fail
  go_cut [9, 11] from 82 to 95 (fun s x wx => s = .string S2 ∧ x = .int .i64 (A1 : Int) ∧ Hid (Below W1.heap.size W1 wx))
  case first =>
    cases b3
    · go_wp2_with fail
      go_meet
      exact ⟨by rw [hS2.out]; rfl, by rw [hA1.out]; simp, hb4⟩
    · obtain ⟨e0, e1, e2, e3, e4, e5, e6⟩ := hc.out x4 hb4.out
      have j1 : (9223372036854775807 < S1.size + q3.size) = False := eq_false (by omega)
      have j2 : (9223372036854775807 < S1.size + q3.size + 1) = False := eq_false (by omega)
      have j3 : (9223372036854775807 < (S1 ++ q3).size + 1) = False := eq_false (by rw [size_app]; omega)
      go_wp2_with fail
      refine (Q3.out.gives _).mono ?_
      rintro e w2 ⟨rfl, hb2⟩
      have hb2' := hb4.out.trans (hb2.mono hb4.out.size)
      obtain ⟨f0, f1, f2, f3, f4, f5, f6⟩ := hc.out w2 hb2'
      replace hb2' := Lib.hid hb2'
      clear hb2 e0 e1 e2 e3 e4 e5 e6
      go_wp2_with fail
      go_meet
      exact ⟨by rw [hS2.out]; rfl, by rw [hA1.out]; simp, hb2'⟩
  case rest =>
  obtain ⟨rfl, rfl, hb5⟩ := hcut
  obtain ⟨x5, hx5'⟩ : ∃ x, x = wc := ⟨_, rfl⟩
  rw [← hx5'] at hb5 ⊢
  clear hx5'
  go_upto_if 98 with fail
  go_cut [9, 11] from 99 to 112 (fun s x wx => s = .string S3 ∧ x = .int .i64 (A2 : Int) ∧ Hid (Below W1.heap.size W1 wx))
  case first =>
    cases b4
    · go_wp2_with fail
      go_meet
      exact ⟨by rw [hS3.out]; rfl, by rw [hA2.out]; simp, hb5⟩
    · obtain ⟨e0, e1, e2, e3, e4, e5, e6⟩ := hc.out x5 hb5.out
      have j1 : (9223372036854775807 < S2.size + q4.size) = False := eq_false (by omega)
      have j2 : (9223372036854775807 < S2.size + q4.size + 1) = False := eq_false (by omega)
      have j3 : (9223372036854775807 < (S2 ++ q4).size + 1) = False := eq_false (by rw [size_app]; omega)
      go_wp2_with fail
      refine (Q4.out.gives _).mono ?_
      rintro e w2 ⟨rfl, hb2⟩
      have hb2' := hb5.out.trans (hb2.mono hb5.out.size)
      obtain ⟨f0, f1, f2, f3, f4, f5, f6⟩ := hc.out w2 hb2'
      replace hb2' := Lib.hid hb2'
      clear hb2 e0 e1 e2 e3 e4 e5 e6
      go_wp2_with fail
      go_meet
      exact ⟨by rw [hS3.out]; rfl, by rw [hA2.out]; simp, hb2'⟩
  case rest =>
  obtain ⟨rfl, rfl, hb6⟩ := hcut
  obtain ⟨x6, hx6'⟩ : ∃ x, x = wc := ⟨_, rfl⟩
  rw [← hx6'] at hb6 ⊢
  clear hx6'
  go_upto_if 115 with fail
  go_cut [9, 11] from 116 to 141 (fun s x wx => s = .string S4 ∧ x = .int .i64 (A3 : Int) ∧ Hid (Below W1.heap.size W1 wx))
  case first =>
    cases b5
    · go_wp2_with fail
      go_meet
      exact ⟨by rw [hS4.out]; rfl, by rw [hA3.out]; simp, hb6⟩
    · obtain ⟨e0, e1, e2, e3, e4, e5, e6⟩ := hc.out x6 hb6.out
      have i1 : (9223372036854775807 < S3.size + q5.size) = False := eq_false (by omega)
      have i2 : (9223372036854775807 < S3.size + q5.size + 1) = False := eq_false (by omega)
      have i3 : (9223372036854775807 < S3.size + q5.size + 1 + q6.size) = False := eq_false (by omega)
      have i4 : (9223372036854775807 < S3.size + q5.size + 1 + q6.size + 1) = False := eq_false (by omega)
      have hwr : IntKind.i64.wrap (n5 : Int) = n5 := IntWalk.i64_in _ (by omega)
      have c5 : Hid (∀ w, Calls Tryz.prog 24 #[.int .i64 (IntKind.i64.wrap (n5 : Int)), .int .i64 (least : Int)] w fun e w' => e = .returned (.string q5) ∧ Below w.heap.size w w') := Lib.hid (fun w => by rw [hwr]; exact Q5.out.gives w)
      clear hwr
      have hw6 : (IntKind.i64.wrap (n6 : Int)).tmod 1000 = ((n6 % 1000 : Nat) : Int) := by rw [IntWalk.i64_in _ (by omega)]; rfl
      have c6 : Hid (∀ w, Calls Tryz.prog 24 #[.int .i64 ((IntKind.i64.wrap (n6 : Int)).tmod 1000), .int .i64 3] w fun e w' => e = .returned (.string q6) ∧ Below w.heap.size w w') := Lib.hid (fun w => by rw [hw6]; exact Q6.out.gives w)
      clear hw6
      clear hv hz h0 h1 h2 h3 h4 hl6 hl1 hli hl gb0 gb1 gb2 gb3 gb4 gb5 Q0 Q1 Q2 Q3 Q4 Q6 m3 m3' m56 m56' m60 hM0 hM1 hS0 hS1 hS2 hS3 hT0 hT1 hA0 hA1 hA2 zq z1 z2 z3 z4 z5 z6 z7 y1 y2 y3 y4 y6 hbT hB1 hc hx1 hW1 hg hL hb1 hb2 hb3 hb4 hb5 hbs
      go_upto_region 22 with fail
      clear e0 e1 e2 e3 e4
      replace e5 := Lib.hid e5
      replace e6 := Lib.hid e6
      go_region_held3 (fun w' => w'.cell? ⟨g, 5, none⟩ = some (.int .u16 n5) ∧ w'.cell? ⟨g, 6, none⟩ = some (.int .u16 n6) ∧ Hid (Below W1.heap.size W1 w'))
        (first | exact ⟨e5.out, e6.out, Lib.hid hb6.out.drew⟩ | exact parts_later hgl (by assumption) (by assumption))
        (first
          | (go_at_call_of 24 (Value.int .i64 (IntKind.i64.wrap (n5 : Int))); refine (c5.out _).mono ?_; rintro e w' ⟨rfl, hbb⟩)
          | (go_at_call 24; refine (c6.out _).mono ?_; rintro e w' ⟨rfl, hbb⟩))
      rename_i hH
      obtain ⟨f5, f6, hB⟩ := hH
      clear hbb e5 e6 i1 i2 i3 i4 c5 c6
      go_wp2_with fail
      go_meet
      exact ⟨by rw [hS4.out]; simp, by rw [hA3.out]; simp; omega, hB⟩
  case rest =>
  obtain ⟨rfl, rfl, hb7⟩ := hcut
  obtain ⟨x7, hx7'⟩ : ∃ x, x = wc := ⟨_, rfl⟩
  rw [← hx7'] at hb7 ⊢
  clear hx7'
  have hBW := Lib.hid (hB1.out.trans (hb7.out.mono hB1.out.size))
  have hL0 := Lib.hid (hL.out.below hBW.out hL.out.num.size)
  clear hc hx1 hb1 hb2 hb3 hb4 hb5 hb6 hbs hgl
  have dm : Hid (M1.data.toList = [80] ++ (if b0 then dgP n0 least ++ [89] else []) ++ (if b1 then dgP n1 least ++ [77] else [])) := Lib.hid (by
    rw [hM1.out, more_data, hM0.out, more_data, Q0.out.is, Q1.out.is])
  have ds : Hid (S4.data.toList = [80] ++ (if b2 then dgP n2 least ++ [68] else []) ++ (if (b3 || b4 || b5) then [84] else []) ++ (if b3 then dgP n3 least ++ [72] else []) ++ (if b4 then dgP n4 least ++ [77] else []) ++ (if b5 then dgP n5 least ++ [46] ++ dgP (n6 % 1000) 3 ++ [83] else [])) := Lib.hid (by
    have e1 : S1.data.toList = S0.data.toList ++ (if (b3 || b4 || b5) then [84] else []) := by
      rw [hS1.out, ← hbT.out]; cases bT
      · simp
      · simp [ByteArray.data_append]
    have e4 : S4.data.toList = S3.data.toList ++ (if b5 then dgP n5 least ++ [46] ++ dgP (n6 % 1000) 3 ++ [83] else []) := by
      rw [hS4.out, ← Q5.out.is, ← Q6.out.is]; cases b5
      · simp
      · simp [ByteArray.data_append]
    rw [e4, hS3.out, more_data, hS2.out, more_data, e1, hS0.out, more_data, Q2.out.is, Q3.out.is, Q4.out.is])
  have ln : ∀ n, n < 65536 → (dgP n least).length ≤ 11 := fun n hn => Nat.le_trans (dgP_short (k := 5) (by omega) hl6) (by decide)
  have pm := parts_months b0 b1 (dgP_dig n0 least) (dgP_dig n1 least) (dgP_ne hl1) (dgP_ne hl1) (ln n0 h0) (ln n1 h1) dgP_val dgP_val h0 h1 dm.out
  rw [← hT0.out, ← hT1.out] at pm
  have l63 : (dgP (n6 % 1000) 3).length = 3 := by
    rw [dgP_len]
    have := (lenD_le (n6 % 1000) 3).2 (by omega)
    omega
  have psec := parts_seconds b2 b3 b4 b5 (dgP_dig n2 least) (dgP_dig n3 least) (dgP_dig n4 least) (dgP_dig n5 least) (dgP_dig (n6 % 1000) 3) (dgP_ne hl1) (dgP_ne hl1) (dgP_ne hl1) (dgP_ne hl1) (ln n2 h2) (ln n3 h3) (ln n4 h4) (ln n5 h5) l63 dgP_val dgP_val dgP_val dgP_val dgP_val h2 h3 h4 h5 (by omega) (A := A3) (by rw [hA3.out, hA2.out, hA1.out, hA0.out]) ds.out
  obtain ⟨cM, hcM⟩ : ∃ c, c = (b0 || b1) := ⟨_, rfl⟩
  obtain ⟨cS, hcS⟩ : ∃ c, c = (b2 || b3 || b4 || b5) := ⟨_, rfl⟩
  rw [← hcM] at pm m3 m3'
  rw [← hcS] at psec m60
  have hdiv := parts_div (A := A3) (by omega)
  obtain ⟨q7, Q7⟩ := digs_of W A3 1 (by omega) (by decide)
  obtain ⟨R, hR⟩ : ∃ R : ByteArray, R.data.toList = tx (A3 * 100000000000000000) := ⟨⟨(tx (A3 * 100000000000000000)).toArray⟩, rfl⟩
  obtain ⟨X, hX⟩ : ∃ X : ByteArray, X.data.toList = tx (A3 * P20) := ⟨⟨(tx (A3 * P20)).toArray⟩, rfl⟩
  have hXs : X.size ≤ maxLen := by
    rw [← list_len, hX]
    have := textN_len (x := ⟨false, A3 * P20⟩) (by show A3 * P20 < P50; rw [show P20 = 100000000000000000000 by decide, show P50 = 100000000000000000000000000000000000000000000000000 by decide]; omega)
    show (textN _).length ≤ 2 ^ 63 - 1
    omega
  have kP : Hid (∀ W, LaidD W → Calls Tryz.prog 25 #[.string q7] W (StrAt W X 0)) := Lib.hid (fun W hL => by
    have := Parse_b q7 W hL.num (by have := Q7.size; show _ ≤ 2 ^ 63 - 1; omega)
    rw [Q7.is, hdiv.1, ← hX] at this
    rw [show X = ⟨X.data.toList.toArray⟩ by simp]
    exact this)
  have kD : Hid (∀ W, LaidD W → Calls Tryz.prog 26 #[.string X, .string ⟨#[49, 48, 48, 48]⟩] W (StrAt W R 0)) := Lib.hid (fun W hL => by
    have := div_b X ⟨#[49, 48, 48, 48]⟩ W hL.num hXs (by decide)
    rw [hX, show (⟨#[49, 48, 48, 48]⟩ : ByteArray).data.toList = [49, 48, 48, 48] from rfl, hdiv.2, ← hR] at this
    rw [show R = ⟨R.data.toList.toArray⟩ by simp]
    exact this)
  have hM1s : M1.size ≤ maxLen := by show _ ≤ 2 ^ 63 - 1; omega
  have hS4s : S4.size ≤ maxLen := by show _ ≤ 2 ^ 63 - 1; omega
  replace Q7 := Lib.hid Q7
  have mm3 := m3.out
  have mm3' := m3'.out
  have mm60 := m60.out
  clear hdiv dm l63 ln hcM hcS Q0 Q1 Q2 Q3 Q4 Q5 Q6 m3 m3' m56 m60 hM0 hM1 hS0 hS1 hS2 hS3 hS4 hT0 hT1 hA0 hA1 hA2 hA3 zq z1 z2 z3 z4 z5 z6 z7 y1 hbT gb0 gb1 gb2 gb3 gb4 gb5 m56' hX
  cases cM
  · have c24 := fun W => ParseMonths_at (s := M1) rfl pm W hM1s
    cases cS
    · have c25 := fun W hL => ParseSeconds_at (s := S4) (t := ⟨#[]⟩) rfl rfl psec W hL hS4s
      replace c24 := Lib.hid c24
      replace c25 := Lib.hid c25
      clear pm psec hR
      go_wp2_with fail
      refine (c24.out x7).mono ?_
      rintro e w1 ⟨rfl, hc1⟩
      have hB2 := Lib.hid (hBW.out.trans (hc1.mono hBW.out.size))
      have hL2 := Lib.hid (hL.out.below hB2.out hL.out.num.size)
      clear hc1
      go_wp2_with fail
      refine (c25.out w1 hL2.out).mono ?_
      rintro e w2 ⟨rfl, hc1⟩
      have hB3 := Lib.hid (hB2.out.trans (hc1.mono hB2.out.size))
      have hL3 := Lib.hid (hL.out.below hB3.out hL.out.num.size)
      clear hc1
      go_wp2_with fail
      refine (works_calls w2 hL3.out).mono ?_
      rintro e w3 ⟨rfl, hc1⟩
      go_wp2_with fail
      go_ret
      exact ⟨rfl, hB3.out.trans (hc1.mono hB3.out.size)⟩
    · have c25 := fun W hL => ParseSeconds_at (s := S4) (t := R) rfl hR psec W hL hS4s
      replace c24 := Lib.hid c24
      replace c25 := Lib.hid c25
      clear pm psec hR
      go_wp2_with fail
      refine (c24.out x7).mono ?_
      rintro e w1 ⟨rfl, hc1⟩
      have hB2 := Lib.hid (hBW.out.trans (hc1.mono hBW.out.size))
      have hL2 := Lib.hid (hL.out.below hB2.out hL.out.num.size)
      clear hc1
      go_wp2_with fail
      refine (c25.out w1 hL2.out).mono ?_
      rintro e w2 ⟨rfl, hc1⟩
      have hB3 := Lib.hid (hB2.out.trans (hc1.mono hB2.out.size))
      have hL3 := Lib.hid (hL.out.below hB3.out hL.out.num.size)
      clear hc1
      go_wp2_with fail
      refine (Q7.out.gives w2).mono ?_
      rintro e w3 ⟨rfl, hc1⟩
      have hB4 := Lib.hid (hB3.out.trans (hc1.mono hB3.out.size))
      have hL4 := Lib.hid (hL.out.below hB4.out hL.out.num.size)
      clear hc1
      go_wp2_with fail
      refine (kP.out w3 hL4.out).mono ?_
      rintro e w4 ⟨rfl, hc1⟩
      have hB5 := Lib.hid (hB4.out.trans (hc1.mono hB4.out.size))
      have hL5 := Lib.hid (hL.out.below hB5.out hL.out.num.size)
      clear hc1
      go_wp2_with fail
      refine (kD.out w4 hL5.out).mono ?_
      rintro e w5 ⟨rfl, hc1⟩
      have hB6 := Lib.hid (hB5.out.trans (hc1.mono hB5.out.size))
      have hL6 := Lib.hid (hL.out.below hB6.out hL.out.num.size)
      clear hc1
      go_wp2_with fail
      refine (works_calls w5 hL6.out).mono ?_
      rintro e w6 ⟨rfl, hc1⟩
      go_wp2_with fail
      go_ret
      exact ⟨rfl, hB6.out.trans (hc1.mono hB6.out.size)⟩
  · have c24 := fun W => ParseMonths_at (s := M1) rfl pm W hM1s
    cases cS
    · have c25 := fun W hL => ParseSeconds_at (s := S4) (t := ⟨#[]⟩) rfl rfl psec W hL hS4s
      replace c24 := Lib.hid c24
      replace c25 := Lib.hid c25
      clear pm psec hR
      go_wp2_with fail
      refine (c24.out x7).mono ?_
      rintro e w1 ⟨rfl, hc1⟩
      have hB2 := Lib.hid (hBW.out.trans (hc1.mono hBW.out.size))
      have hL2 := Lib.hid (hL.out.below hB2.out hL.out.num.size)
      clear hc1
      go_wp2_with fail
      refine (c25.out w1 hL2.out).mono ?_
      rintro e w2 ⟨rfl, hc1⟩
      have hB3 := Lib.hid (hB2.out.trans (hc1.mono hB2.out.size))
      have hL3 := Lib.hid (hL.out.below hB3.out hL.out.num.size)
      clear hc1
      go_wp2_with fail
      refine (works_calls w2 hL3.out).mono ?_
      rintro e w3 ⟨rfl, hc1⟩
      go_wp2_with fail
      go_ret
      exact ⟨rfl, hB3.out.trans (hc1.mono hB3.out.size)⟩
    · have c25 := fun W hL => ParseSeconds_at (s := S4) (t := R) rfl hR psec W hL hS4s
      replace c24 := Lib.hid c24
      replace c25 := Lib.hid c25
      clear pm psec hR
      go_wp2_with fail
      refine (c24.out x7).mono ?_
      rintro e w1 ⟨rfl, hc1⟩
      have hB2 := Lib.hid (hBW.out.trans (hc1.mono hBW.out.size))
      have hL2 := Lib.hid (hL.out.below hB2.out hL.out.num.size)
      clear hc1
      go_wp2_with fail
      refine (c25.out w1 hL2.out).mono ?_
      rintro e w2 ⟨rfl, hc1⟩
      have hB3 := Lib.hid (hB2.out.trans (hc1.mono hB2.out.size))
      have hL3 := Lib.hid (hL.out.below hB3.out hL.out.num.size)
      clear hc1
      go_wp2_with fail
      refine (Q7.out.gives w2).mono ?_
      rintro e w3 ⟨rfl, hc1⟩
      have hB4 := Lib.hid (hB3.out.trans (hc1.mono hB3.out.size))
      have hL4 := Lib.hid (hL.out.below hB4.out hL.out.num.size)
      clear hc1
      go_wp2_with fail
      refine (kP.out w3 hL4.out).mono ?_
      rintro e w4 ⟨rfl, hc1⟩
      have hB5 := Lib.hid (hB4.out.trans (hc1.mono hB4.out.size))
      have hL5 := Lib.hid (hL.out.below hB5.out hL.out.num.size)
      clear hc1
      go_wp2_with fail
      refine (kD.out w4 hL5.out).mono ?_
      rintro e w5 ⟨rfl, hc1⟩
      have hB6 := Lib.hid (hB5.out.trans (hc1.mono hB5.out.size))
      have hL6 := Lib.hid (hL.out.below hB6.out hL.out.num.size)
      clear hc1
      go_wp2_with fail
      refine (works_calls w5 hL6.out).mono ?_
      rintro e w6 ⟨rfl, hc1⟩
      go_wp2_with fail
      go_ret
      exact ⟨rfl, hB6.out.trans (hc1.mono hB6.out.size)⟩
end Go.Proofs.YtjndcehkgfbagaaGreatDoor
