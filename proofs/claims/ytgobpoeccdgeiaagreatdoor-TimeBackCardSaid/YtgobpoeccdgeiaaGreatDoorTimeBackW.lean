/- TimeBack: the canonical text of a moment is read as this moment: the walk. (Printed by genback.py.) -/
import Derived.Test.YtgobpoeccdgeiaaGreatDoorOe
import Derived.Deep.CutRange
namespace Go.Proofs.YtgobpoeccdgeiaaGreatDoor
open Go.RowKit NumP DurP TimeP Go.Proofs.YtgobpoeccdgeiaaGreatDoorW.PrintWords
set_option linter.unusedVariables false

theorem padP_len {n w : Nat} (h : n < 10 ^ w) (hw : 1 ≤ w) (hw2 : w ≤ 9) : (padP n w).length = w := (padP_is h hw hw2).2.1
theorem secX_len {n : Nat} (hn : n < 60000000) : (secX n).length ≤ 200 := by
  have h0 : (tx (n * P14)).length ≤ 22 + 1 := tx_len (mic_small hn) (by decide)
  have h1 := before_le 46 (tx (n * P14))
  have h2 := behind_le 46 (tx (n * P14))
  unfold secX
  rw [List.length_append, List.length_append, List.length_replicate]
  split
  · rw [List.length_cons]; omega
  · rw [List.length_nil]; omega
theorem three_len {A B C : List UInt8} (h1 : A.length = 4) (h2 : B.length = 2) (h3 : C.length = 2) : (A ++ 45 :: B ++ 45 :: C).length = 10 := by
  simp only [List.length_append, List.length_cons]; omega
theorem clock_len {A B C : List UInt8} (h1 : A.length = 2) (h2 : B.length = 2) (h3 : C.length ≤ 200) : (A ++ 58 :: B ++ 58 :: C).length ≤ 206 := by
  simp only [List.length_append, List.length_cons]; omega
theorem four_len {A B C D : List UInt8} (h1 : A.length ≤ 10) (h2 : B.length ≤ 1) (h3 : C.length ≤ 206) (h4 : D.length ≤ 6) : (A ++ B ++ C ++ D).length ≤ 1000 := by
  simp only [List.length_append]; omega
theorem text_len {m : Mom} (hv : validP m = true) {k : Int} (hk : TimeP.kindOk k = true) : (textMom k m).1.length ≤ 1000 := by
  obtain ⟨y, mo, d, hh, mi, n, e, hp, hz⟩ := valid_of hv
  have a1 := padP_len (n := y) (w := 4) (by have := hp.y2; omega) (by decide) (by decide)
  have a2 := padP_len (n := mo) (w := 2) (by have := hp.date.m2; omega) (by decide) (by decide)
  have a3 := padP_len (n := d) (w := 2) (by have := hp.date.d2; have := (lenM_pos y mo).2; omega) (by decide) (by decide)
  have a4 := padP_len (n := hh) (w := 2) (by have := hp.h2; omega) (by decide) (by decide)
  have a5 := padP_len (n := mi) (w := 2) (by have := hp.mi2; omega) (by decide) (by decide)
  have a6 := secX_len hp.n2
  have b1 := hz.lo
  have b2 := hz.hi
  have a7 := padP_len (n := m.z.natAbs / 60) (w := 2) (by omega) (by decide) (by decide)
  have a8 := padP_len (n := m.z.natAbs % 60) (w := 2) (by omega) (by decide) (by decide)
  have c1 : (dateT y mo d).length = 10 := three_len a1 a2 a3
  have c2 : (clockT hh mi n).length ≤ 206 := clock_len a4 a5 a6
  have c3 : (zoneT m.z m.has).length ≤ 6 := by
    unfold zoneT
    split
    · exact Nat.zero_le _
    · split
      · exact (by decide)
      · simp only [List.length_append, List.length_cons]; omega
  clear a1 a2 a3 a4 a5 a6 a7 a8 b1 b2
  rw [e, text_mk hp hz hk]
  exact four_len (by split; exact Nat.le_of_eq c1; exact Nat.zero_le _) (by split; exact Nat.le_refl _; exact Nat.zero_le _) (by split; exact c2; exact Nat.zero_le _) c3
set_option maxRecDepth 100000 in
set_option maxHeartbeats 4000000 in
theorem timeBack_e (m : MB) (kind : Int) (s : ByteArray) (W : World) (hL : LaidT W) (T : ByteArray) (k : Int) (hk : k ≠ 0) (eT : textMom kind m.P = (T.data.toList, k)) (hsm : m.s.size ≤ 1000) (hss : s.size ≤ 1000) (hs : ¬ ((m.s.size : Int) > 300)) (hs2 : ¬ ((s.size : Int) > 300)) : Calls Tryz.prog 4 #[.agg #[.int .i64 m.y, .int .i64 m.mo, .int .i64 m.d, .int .i64 m.h, .int .i64 m.mi, .string m.s, .int .i64 m.z, .bool m.has], .int .i64 kind, .string s] W (fun e w' => e = .returned (.bool true) ∧ Below W.heap.size W w') := by
  have hT : T = ⟨#[]⟩ := by
    have := text_bad (m := m.P) (k := kind) (by rw [eT]; exact hk)
    rw [eT] at this
    exact data_inj this
  subst hT
  have gk : (k == 0) = false := by simpa using hk
  replace hk := Lib.hid hk
  have c1 : Hid (∀ w, LaidT w → Calls Tryz.prog 18 #[.int .i64 kind, .agg #[.int .i64 m.y, .int .i64 m.mo, .int .i64 m.d, .int .i64 m.h, .int .i64 m.mi, .string m.s, .int .i64 m.z, .bool m.has]] w (fun e w' => e = .returned (.tuple #[.string ⟨#[]⟩, .int .i64 k]) ∧ Below w.heap.size w w')) := Lib.hid (fun w hw => Text_c m kind ⟨#[]⟩ k eT hsm w hw)
  clear eT
  rcases parse_cases kind s.data.toList with ⟨b', eb, hkb, hvb, hnb⟩ | ⟨g, hg, eb⟩
  · obtain ⟨b, hb⟩ : ∃ b : MB, b.P = b' := ⟨MB.of b', rfl⟩
    subst hb
    have hsb : b.s.size ≤ 1000 := by rw [← list_len]; have : b.s.data.toList.length ≤ 60 := valid_short hvb; omega
    obtain ⟨U, k4, eU⟩ := SB.ex (textMom kind b.P)
    have hk4 := text_good (m := b.P) hkb hvb
    have hUl := text_len (m := b.P) hvb hkb
    have e5 := back_text (m := b.P) hvb hkb
    rw [eU] at hk4 hUl e5
    rw [hnb] at e5
    replace hk4 : k4 = 0 := hk4
    subst hk4
    have hUs : U.size ≤ 1000 := by rw [← list_len]; exact hUl
    have c3 : Hid (∀ w, LaidT w → Calls Tryz.prog 15 #[.int .i64 kind, .string s] w (fun e w' => e = .returned (.tuple #[.agg #[.int .i64 b.y, .int .i64 b.mo, .int .i64 b.d, .int .i64 b.h, .int .i64 b.mi, .string b.s, .int .i64 b.z, .bool b.has], .int .i64 0]) ∧ Below w.heap.size w w')) := Lib.hid (fun w hw => Parse_c kind s b 0 eb hss w hw)
    have c4 : Hid (∀ w, LaidT w → Calls Tryz.prog 18 #[.int .i64 kind, .agg #[.int .i64 b.y, .int .i64 b.mo, .int .i64 b.d, .int .i64 b.h, .int .i64 b.mi, .string b.s, .int .i64 b.z, .bool b.has]] w (fun e w' => e = .returned (.tuple #[.string U, .int .i64 0]) ∧ Below w.heap.size w w')) := Lib.hid (fun w hw => Text_c b kind U 0 eU hsb w hw)
    have c5 : Hid (∀ w, LaidT w → Calls Tryz.prog 15 #[.int .i64 kind, .string U] w (fun e w' => e = .returned (.tuple #[.agg #[.int .i64 b.y, .int .i64 b.mo, .int .i64 b.d, .int .i64 b.h, .int .i64 b.mi, .string b.s, .int .i64 b.z, .bool b.has], .int .i64 0]) ∧ Below w.heap.size w w')) := Lib.hid (fun w hw => Parse_c kind U b 0 e5 hUs w hw)
    clear eb hkb hvb hnb hsb eU hUl e5 hUs
    obtain ⟨q, hq⟩ : ∃ q, q = W.heap.size := ⟨_, rfl⟩
    obtain ⟨w1, hw⟩ : ∃ w, w = W.alloc (.cells #[.int .i64 m.y, .int .i64 m.mo, .int .i64 m.d, .int .i64 m.h, .int .i64 m.mi, .string m.s, .int .i64 m.z, .bool m.has] 24) := ⟨_, rfl⟩
    have hB1 : Hid (Below W.heap.size W w1) := Lib.hid (by rw [hw]; exact (Below.refl _ _).alloc (Nat.le_refl _) _)
    have hL1 := Lib.hid (hL.below hB1.out hL.size)
    have hMq1 : Hid (MoAt w1 q m.y m.mo m.d m.h m.mi m.s m.z m.has) := Lib.hid (by rw [hw, hq]; exact (MapKept.heap_alloc _ _).1)
    have hgeq : Hid (W.heap.size ≤ q) := Lib.hid (by rw [hq]; exact Nat.le_refl _)
    replace hq := Lib.hid hq
    replace hw := Lib.hid hw
    replace hL := Lib.hid hL
    go_enter Tryz.func4, Tryz.ntmps4
    go_upto_region 1 with fail
    rw [← hw.out, ← hq.out]
    clear hw
    obtain ⟨cq0, cq1, cq2, cq3, cq4, cq5, cq6, cq7⟩ := MomAt.of_heap hMq1.out
    go_wp2_with fail
    refine (c1.out w1 hL1.out).mono ?_
    rintro e w2 ⟨rfl, hb⟩
    have hB2 := Lib.hid (hB1.out.trans (hb.mono hB1.out.size))
    have hL2 := Lib.hid (hL.out.below hB2.out hL.out.size)
    have hMq2 : Hid (MoAt w2 q m.y m.mo m.d m.h m.mi m.s m.z m.has) := Lib.hid ((hb.block q (heap_lt hMq1.out)).trans hMq1.out)
    clear hb hB1 hL1 hMq1
    clear cq0 cq1 cq2 cq3 cq4 cq5 cq6 cq7
    go_upto_if 35 with fail
    go_cut [9, 10, 11] from 36 to 62 (fun v9 v10 v11 wx => Hid (Below W.heap.size W wx))
    case first =>
      go_wp2_with fail
      go_meet
      exact hB2
    have hB := hcut
    clear hcut
    obtain ⟨w22, hw⟩ : ∃ w, w = wc := ⟨_, rfl⟩
    rw [← hw] at hB ⊢
    clear hw hB2 hL2 hMq2
    have hB22 := hB
    have hL22 := Lib.hid (hL.out.below hB.out hL.out.size)
    clear hB
    go_wp2_with fail
    refine (c3.out w22 hL22.out).mono ?_
    rintro e w23 ⟨rfl, hb⟩
    have hB23 := Lib.hid (hB22.out.trans (hb.mono hB22.out.size))
    have hL23 := Lib.hid (hL.out.below hB23.out hL.out.size)
    clear hb hB22 hL22
    obtain ⟨p3, hp3⟩ : ∃ q, q = w23.heap.size := ⟨_, rfl⟩
    obtain ⟨w24, hw⟩ : ∃ w, w = w23.alloc (.cells #[.int .i64 b.y, .int .i64 b.mo, .int .i64 b.d, .int .i64 b.h, .int .i64 b.mi, .string b.s, .int .i64 b.z, .bool b.has] 24) := ⟨_, rfl⟩
    have hb : Below w23.heap.size w23 w24 := by rw [hw]; exact (Below.refl _ _).alloc (Nat.le_refl _) _
    have hMp324 : Hid (MoAt w24 p3 b.y b.mo b.d b.h b.mi b.s b.z b.has) := Lib.hid (by rw [hw, hp3]; exact (MapKept.heap_alloc _ _).1)
    have hgep3 : Hid (W.heap.size ≤ p3) := Lib.hid (by rw [hp3]; exact hB23.out.size)
    replace hp3 := Lib.hid hp3
    replace hw := Lib.hid hw
    have hB24 := Lib.hid (hB23.out.trans (hb.mono hB23.out.size))
    have hL24 := Lib.hid (hL.out.below hB24.out hL.out.size)
    clear hb hB23 hL23
    go_upto_region 17 with fail
    rw [← hw.out, ← hp3.out]
    clear hw hp3
    obtain ⟨cp30, cp31, cp32, cp33, cp34, cp35, cp36, cp37⟩ := MomAt.of_heap hMp324.out
    go_wp2_with fail
    refine (c4.out w24 hL24.out).mono ?_
    rintro e w25 ⟨rfl, hb⟩
    have hB25 := Lib.hid (hB24.out.trans (hb.mono hB24.out.size))
    have hL25 := Lib.hid (hL.out.below hB25.out hL.out.size)
    have hMp325 : Hid (MoAt w25 p3 b.y b.mo b.d b.h b.mi b.s b.z b.has) := Lib.hid ((hb.block p3 (heap_lt hMp324.out)).trans hMp324.out)
    clear hb hB24 hL24 hMp324
    clear cp30 cp31 cp32 cp33 cp34 cp35 cp36 cp37
    go_wp2_with fail
    refine (c5.out w25 hL25.out).mono ?_
    rintro e w26 ⟨rfl, hb⟩
    have hB26 := Lib.hid (hB25.out.trans (hb.mono hB25.out.size))
    have hL26 := Lib.hid (hL.out.below hB26.out hL.out.size)
    have hMp326 : Hid (MoAt w26 p3 b.y b.mo b.d b.h b.mi b.s b.z b.has) := Lib.hid ((hb.block p3 (heap_lt hMp325.out)).trans hMp325.out)
    clear hb hB25 hL25 hMp325
    obtain ⟨p4, hp4⟩ : ∃ q, q = w26.heap.size := ⟨_, rfl⟩
    obtain ⟨w27, hw⟩ : ∃ w, w = w26.alloc (.cells #[.int .i64 b.y, .int .i64 b.mo, .int .i64 b.d, .int .i64 b.h, .int .i64 b.mi, .string b.s, .int .i64 b.z, .bool b.has] 24) := ⟨_, rfl⟩
    have hb : Below w26.heap.size w26 w27 := by rw [hw]; exact (Below.refl _ _).alloc (Nat.le_refl _) _
    have hMp427 : Hid (MoAt w27 p4 b.y b.mo b.d b.h b.mi b.s b.z b.has) := Lib.hid (by rw [hw, hp4]; exact (MapKept.heap_alloc _ _).1)
    have hgep4 : Hid (W.heap.size ≤ p4) := Lib.hid (by rw [hp4]; exact hB26.out.size)
    have hnp3p4 : Hid (p3 ≠ p4) := Lib.hid (by rw [hp4]; exact Nat.ne_of_lt (heap_lt hMp326.out))
    have hnp4p3 : Hid (p4 ≠ p3) := Lib.hid (fun e => hnp3p4.out e.symm)
    replace hp4 := Lib.hid hp4
    replace hw := Lib.hid hw
    have hB27 := Lib.hid (hB26.out.trans (hb.mono hB26.out.size))
    have hL27 := Lib.hid (hL.out.below hB27.out hL.out.size)
    have hMp327 : Hid (MoAt w27 p3 b.y b.mo b.d b.h b.mi b.s b.z b.has) := Lib.hid ((hb.block p3 (heap_lt hMp326.out)).trans hMp326.out)
    clear hb hB26 hL26 hMp326
    go_upto_region 21 with fail
    rw [← hw.out, ← hp4.out]
    clear hw hp4
    obtain ⟨cp30, cp31, cp32, cp33, cp34, cp35, cp36, cp37⟩ := MomAt.of_heap hMp327.out
    obtain ⟨cp40, cp41, cp42, cp43, cp44, cp45, cp46, cp47⟩ := MomAt.of_heap hMp427.out
    go_wp2_with fail
    refine (works_c w27 hL27.out).mono ?_
    rintro e w ⟨rfl, hb⟩
    go_wp2_with fail
    go_ret
    exact ⟨rfl, hB27.out.trans (hb.mono hB27.out.size)⟩
  · have gg : (g != 0) = true := by simpa using hg
    replace hg := Lib.hid hg
    have c3 : Hid (∀ w, LaidT w → Calls Tryz.prog 15 #[.int .i64 kind, .string s] w (fun e w' => e = .returned (.tuple #[.agg #[.int .i64 0, .int .i64 0, .int .i64 0, .int .i64 0, .int .i64 0, .string ⟨#[]⟩, .int .i64 0, .bool false], .int .i64 g]) ∧ Below w.heap.size w w')) := Lib.hid (fun w hw => Parse_c kind s ⟨0, 0, 0, 0, 0, ⟨#[]⟩, 0, false⟩ g eb hss w hw)
    clear eb
    obtain ⟨q, hq⟩ : ∃ q, q = W.heap.size := ⟨_, rfl⟩
    obtain ⟨w1, hw⟩ : ∃ w, w = W.alloc (.cells #[.int .i64 m.y, .int .i64 m.mo, .int .i64 m.d, .int .i64 m.h, .int .i64 m.mi, .string m.s, .int .i64 m.z, .bool m.has] 24) := ⟨_, rfl⟩
    have hB1 : Hid (Below W.heap.size W w1) := Lib.hid (by rw [hw]; exact (Below.refl _ _).alloc (Nat.le_refl _) _)
    have hL1 := Lib.hid (hL.below hB1.out hL.size)
    have hMq1 : Hid (MoAt w1 q m.y m.mo m.d m.h m.mi m.s m.z m.has) := Lib.hid (by rw [hw, hq]; exact (MapKept.heap_alloc _ _).1)
    have hgeq : Hid (W.heap.size ≤ q) := Lib.hid (by rw [hq]; exact Nat.le_refl _)
    replace hq := Lib.hid hq
    replace hw := Lib.hid hw
    replace hL := Lib.hid hL
    go_enter Tryz.func4, Tryz.ntmps4
    go_upto_region 1 with fail
    rw [← hw.out, ← hq.out]
    clear hw
    obtain ⟨cq0, cq1, cq2, cq3, cq4, cq5, cq6, cq7⟩ := MomAt.of_heap hMq1.out
    go_wp2_with fail
    refine (c1.out w1 hL1.out).mono ?_
    rintro e w2 ⟨rfl, hb⟩
    have hB2 := Lib.hid (hB1.out.trans (hb.mono hB1.out.size))
    have hL2 := Lib.hid (hL.out.below hB2.out hL.out.size)
    have hMq2 : Hid (MoAt w2 q m.y m.mo m.d m.h m.mi m.s m.z m.has) := Lib.hid ((hb.block q (heap_lt hMq1.out)).trans hMq1.out)
    clear hb hB1 hL1 hMq1
    clear cq0 cq1 cq2 cq3 cq4 cq5 cq6 cq7
    go_upto_if 35 with fail
    go_cut [9, 10, 11] from 36 to 62 (fun v9 v10 v11 wx => Hid (Below W.heap.size W wx))
    case first =>
      go_wp2_with fail
      go_meet
      exact hB2
    have hB := hcut
    clear hcut
    obtain ⟨w22, hw⟩ : ∃ w, w = wc := ⟨_, rfl⟩
    rw [← hw] at hB ⊢
    clear hw hB2 hL2 hMq2
    have hB22 := hB
    have hL22 := Lib.hid (hL.out.below hB.out hL.out.size)
    clear hB
    go_wp2_with fail
    refine (c3.out w22 hL22.out).mono ?_
    rintro e w23 ⟨rfl, hb⟩
    have hB23 := Lib.hid (hB22.out.trans (hb.mono hB22.out.size))
    have hL23 := Lib.hid (hL.out.below hB23.out hL.out.size)
    clear hb hB22 hL22
    obtain ⟨p3, hp3⟩ : ∃ q, q = w23.heap.size := ⟨_, rfl⟩
    obtain ⟨w24, hw⟩ : ∃ w, w = w23.alloc (.cells #[.int .i64 0, .int .i64 0, .int .i64 0, .int .i64 0, .int .i64 0, .string ⟨#[]⟩, .int .i64 0, .bool false] 24) := ⟨_, rfl⟩
    have hb : Below w23.heap.size w23 w24 := by rw [hw]; exact (Below.refl _ _).alloc (Nat.le_refl _) _
    have hMp324 : Hid (MoAt w24 p3 0 0 0 0 0 ⟨#[]⟩ 0 false) := Lib.hid (by rw [hw, hp3]; exact (MapKept.heap_alloc _ _).1)
    have hgep3 : Hid (W.heap.size ≤ p3) := Lib.hid (by rw [hp3]; exact hB23.out.size)
    replace hp3 := Lib.hid hp3
    replace hw := Lib.hid hw
    have hB24 := Lib.hid (hB23.out.trans (hb.mono hB23.out.size))
    have hL24 := Lib.hid (hL.out.below hB24.out hL.out.size)
    clear hb hB23 hL23
    go_upto_region 17 with fail
    rw [← hw.out, ← hp3.out]
    clear hw hp3
    obtain ⟨cp30, cp31, cp32, cp33, cp34, cp35, cp36, cp37⟩ := MomAt.of_heap hMp324.out
    go_wp2_with fail
    refine (works_c w24 hL24.out).mono ?_
    rintro e w ⟨rfl, hb⟩
    go_wp2_with fail
    go_ret
    exact ⟨rfl, hB24.out.trans (hb.mono hB24.out.size)⟩
set_option maxRecDepth 100000 in
set_option maxHeartbeats 4000000 in
theorem timeBack_6 (m : MB) (kind : Int) (s : ByteArray) (W : World) (hL : LaidT W) (hkk : kind = 6) (T : ByteArray) (hv : validP m.P = true) (eT : textMom kind m.P = (T.data.toList, 0)) (hsm : m.s.size ≤ 1000) (hss : s.size ≤ 1000) (hs : ¬ ((m.s.size : Int) > 300)) (hs2 : ¬ ((s.size : Int) > 300)) : Calls Tryz.prog 4 #[.agg #[.int .i64 m.y, .int .i64 m.mo, .int .i64 m.d, .int .i64 m.h, .int .i64 m.mi, .string m.s, .int .i64 m.z, .bool m.has], .int .i64 kind, .string s] W (fun e w' => e = .returned (.bool true) ∧ Below W.heap.size W w') := by
  have hok : TimeP.kindOk kind = true := by rw [hkk]; rfl
  have hTl := text_len (m := m.P) hv hok
  have e2 := back_text (m := m.P) hv hok
  rw [eT] at hTl e2
  have hTs : T.size ≤ 1000 := by rw [← list_len]; exact hTl
  have e2 : parseM kind T.data.toList = (MB.P ⟨m.y, m.mo, m.d, 0, 0, ⟨#[48]⟩, m.z, m.has⟩, 0) := by rw [e2, hkk]; rfl
  have j6 : (kind == 6) = true := by rw [hkk]; rfl
  have j7 : (kind == 7) = false := by rw [hkk]; rfl
  have c1 : Hid (∀ w, LaidT w → Calls Tryz.prog 18 #[.int .i64 kind, .agg #[.int .i64 m.y, .int .i64 m.mo, .int .i64 m.d, .int .i64 m.h, .int .i64 m.mi, .string m.s, .int .i64 m.z, .bool m.has]] w (fun e w' => e = .returned (.tuple #[.string T, .int .i64 0]) ∧ Below w.heap.size w w')) := Lib.hid (fun w hw => Text_c m kind T 0 eT hsm w hw)
  have c2 : Hid (∀ w, LaidT w → Calls Tryz.prog 15 #[.int .i64 kind, .string T] w (fun e w' => e = .returned (.tuple #[.agg #[.int .i64 m.y, .int .i64 m.mo, .int .i64 m.d, .int .i64 0, .int .i64 0, .string ⟨#[48]⟩, .int .i64 m.z, .bool m.has], .int .i64 0]) ∧ Below w.heap.size w w')) := Lib.hid (fun w hw => Parse_c kind T ⟨m.y, m.mo, m.d, 0, 0, ⟨#[48]⟩, m.z, m.has⟩ 0 e2 hTs w hw)
  clear eT hTl e2 hTs hok
  replace hv := Lib.hid hv
  replace hkk := Lib.hid hkk
  rcases parse_cases kind s.data.toList with ⟨b', eb, hkb, hvb, hnb⟩ | ⟨g, hg, eb⟩
  · obtain ⟨b, hb⟩ : ∃ b : MB, b.P = b' := ⟨MB.of b', rfl⟩
    subst hb
    have hsb : b.s.size ≤ 1000 := by rw [← list_len]; have : b.s.data.toList.length ≤ 60 := valid_short hvb; omega
    obtain ⟨U, k4, eU⟩ := SB.ex (textMom kind b.P)
    have hk4 := text_good (m := b.P) hkb hvb
    have hUl := text_len (m := b.P) hvb hkb
    have e5 := back_text (m := b.P) hvb hkb
    rw [eU] at hk4 hUl e5
    rw [hnb] at e5
    replace hk4 : k4 = 0 := hk4
    subst hk4
    have hUs : U.size ≤ 1000 := by rw [← list_len]; exact hUl
    have c3 : Hid (∀ w, LaidT w → Calls Tryz.prog 15 #[.int .i64 kind, .string s] w (fun e w' => e = .returned (.tuple #[.agg #[.int .i64 b.y, .int .i64 b.mo, .int .i64 b.d, .int .i64 b.h, .int .i64 b.mi, .string b.s, .int .i64 b.z, .bool b.has], .int .i64 0]) ∧ Below w.heap.size w w')) := Lib.hid (fun w hw => Parse_c kind s b 0 eb hss w hw)
    have c4 : Hid (∀ w, LaidT w → Calls Tryz.prog 18 #[.int .i64 kind, .agg #[.int .i64 b.y, .int .i64 b.mo, .int .i64 b.d, .int .i64 b.h, .int .i64 b.mi, .string b.s, .int .i64 b.z, .bool b.has]] w (fun e w' => e = .returned (.tuple #[.string U, .int .i64 0]) ∧ Below w.heap.size w w')) := Lib.hid (fun w hw => Text_c b kind U 0 eU hsb w hw)
    have c5 : Hid (∀ w, LaidT w → Calls Tryz.prog 15 #[.int .i64 kind, .string U] w (fun e w' => e = .returned (.tuple #[.agg #[.int .i64 b.y, .int .i64 b.mo, .int .i64 b.d, .int .i64 b.h, .int .i64 b.mi, .string b.s, .int .i64 b.z, .bool b.has], .int .i64 0]) ∧ Below w.heap.size w w')) := Lib.hid (fun w hw => Parse_c kind U b 0 e5 hUs w hw)
    clear eb hkb hvb hnb hsb eU hUl e5 hUs
    obtain ⟨q, hq⟩ : ∃ q, q = W.heap.size := ⟨_, rfl⟩
    obtain ⟨w1, hw⟩ : ∃ w, w = W.alloc (.cells #[.int .i64 m.y, .int .i64 m.mo, .int .i64 m.d, .int .i64 m.h, .int .i64 m.mi, .string m.s, .int .i64 m.z, .bool m.has] 24) := ⟨_, rfl⟩
    have hB1 : Hid (Below W.heap.size W w1) := Lib.hid (by rw [hw]; exact (Below.refl _ _).alloc (Nat.le_refl _) _)
    have hL1 := Lib.hid (hL.below hB1.out hL.size)
    have hMq1 : Hid (MoAt w1 q m.y m.mo m.d m.h m.mi m.s m.z m.has) := Lib.hid (by rw [hw, hq]; exact (MapKept.heap_alloc _ _).1)
    have hgeq : Hid (W.heap.size ≤ q) := Lib.hid (by rw [hq]; exact Nat.le_refl _)
    replace hq := Lib.hid hq
    replace hw := Lib.hid hw
    replace hL := Lib.hid hL
    go_enter Tryz.func4, Tryz.ntmps4
    go_upto_region 1 with fail
    rw [← hw.out, ← hq.out]
    clear hw
    obtain ⟨cq0, cq1, cq2, cq3, cq4, cq5, cq6, cq7⟩ := MomAt.of_heap hMq1.out
    go_wp2_with fail
    refine (c1.out w1 hL1.out).mono ?_
    rintro e w2 ⟨rfl, hb⟩
    have hB2 := Lib.hid (hB1.out.trans (hb.mono hB1.out.size))
    have hL2 := Lib.hid (hL.out.below hB2.out hL.out.size)
    have hMq2 : Hid (MoAt w2 q m.y m.mo m.d m.h m.mi m.s m.z m.has) := Lib.hid ((hb.block q (heap_lt hMq1.out)).trans hMq1.out)
    clear hb hB1 hL1 hMq1
    clear cq0 cq1 cq2 cq3 cq4 cq5 cq6 cq7
    go_upto_if 35 with fail
    go_cut [9, 10, 11] from 36 to 62 (fun v9 v10 v11 wx => Hid (Below W.heap.size W wx))
    case first =>
      obtain ⟨cq0, cq1, cq2, cq3, cq4, cq5, cq6, cq7⟩ := MomAt.of_heap hMq2.out
      obtain ⟨p1, hp1⟩ : ∃ q, q = w2.heap.size := ⟨_, rfl⟩
      obtain ⟨w3, hw⟩ : ∃ w, w = w2.alloc (.cells #[.int .i64 m.y, .int .i64 m.mo, .int .i64 m.d, .int .i64 m.h, .int .i64 m.mi, .string m.s, .int .i64 m.z, .bool m.has] 24) := ⟨_, rfl⟩
      have hb : Below w2.heap.size w2 w3 := by rw [hw]; exact (Below.refl _ _).alloc (Nat.le_refl _) _
      have hMp13 : Hid (MoAt w3 p1 m.y m.mo m.d m.h m.mi m.s m.z m.has) := Lib.hid (by rw [hw, hp1]; exact (MapKept.heap_alloc _ _).1)
      have hgep1 : Hid (W.heap.size ≤ p1) := Lib.hid (by rw [hp1]; exact hB2.out.size)
      have hnqp1 : Hid (q ≠ p1) := Lib.hid (by rw [hp1]; exact Nat.ne_of_lt (heap_lt hMq2.out))
      have hnp1q : Hid (p1 ≠ q) := Lib.hid (fun e => hnqp1.out e.symm)
      replace hp1 := Lib.hid hp1
      replace hw := Lib.hid hw
      have hB3 := Lib.hid (hB2.out.trans (hb.mono hB2.out.size))
      have hL3 := Lib.hid (hL.out.below hB3.out hL.out.size)
      have hMq3 : Hid (MoAt w3 q m.y m.mo m.d m.h m.mi m.s m.z m.has) := Lib.hid ((hb.block q (heap_lt hMq2.out)).trans hMq2.out)
      clear hb hB2 hL2 hMq2
      go_upto_region 6 with fail
      rw [← hw.out, ← hp1.out]
      clear hw hp1
      clear cq0 cq1 cq2 cq3 cq4 cq5 cq6 cq7
      obtain ⟨cp10, cp11, cp12, cp13, cp14, cp15, cp16, cp17⟩ := MomAt.of_heap hMp13.out
      have ff3 := Lib.frozen_of_heap hMp13.out 3
      have ff4 := Lib.frozen_of_heap hMp13.out 4
      have ff5 := Lib.frozen_of_heap hMp13.out 5
      obtain ⟨w4, hw⟩ : ∃ w, w = (((w3.setCell ⟨p1, 3, none⟩ (.int .i64 0)).setCell ⟨p1, 4, none⟩ (.int .i64 0)).setCell ⟨p1, 5, none⟩ (.string ⟨#[48]⟩)) := ⟨_, rfl⟩
      have hB4 : Hid (Below W.heap.size W w4) := Lib.hid (by rw [hw]; exact hB3.out.trans ((((Below.refl _ _).setCell (p := ⟨p1, 3, none⟩) hgep1.out _).setCell (p := ⟨p1, 4, none⟩) hgep1.out _).setCell (p := ⟨p1, 5, none⟩) hgep1.out _))
      have hL4 := Lib.hid (hL.out.below hB4.out hL.out.size)
      have hMp14 : Hid (MoAt w4 p1 m.y m.mo m.d 0 0 ⟨#[48]⟩ m.z m.has) := Lib.hid (by rw [hw]; exact (Lib.heap_setCell_same (i := 5) (Lib.heap_setCell_same (i := 4) (Lib.heap_setCell_same (i := 3) hMp13.out _) _) _))
      have hMq4 : Hid (MoAt w4 q m.y m.mo m.d m.h m.mi m.s m.z m.has) := Lib.hid (by rw [hw]; exact ((Below.heap_setCell _ _ _ _ hnqp1.out).trans ((Below.heap_setCell _ _ _ _ hnqp1.out).trans ((Below.heap_setCell _ _ _ _ hnqp1.out).trans hMq3.out))))
      replace hw := Lib.hid hw
      go_upto_region 11 with fail
      rw [← hw.out]
      clear hw ff3 ff4 ff5
      clear cp10 cp11 cp12 cp13 cp14 cp15 cp16 cp17
      clear hB3 hL3 hMq3 hMp13
      go_wp2_with fail
      refine (c2.out w4 hL4.out).mono ?_
      rintro e w5 ⟨rfl, hb⟩
      have hB5 := Lib.hid (hB4.out.trans (hb.mono hB4.out.size))
      have hL5 := Lib.hid (hL.out.below hB5.out hL.out.size)
      have hMq5 : Hid (MoAt w5 q m.y m.mo m.d m.h m.mi m.s m.z m.has) := Lib.hid ((hb.block q (heap_lt hMq4.out)).trans hMq4.out)
      have hMp15 : Hid (MoAt w5 p1 m.y m.mo m.d 0 0 ⟨#[48]⟩ m.z m.has) := Lib.hid ((hb.block p1 (heap_lt hMp14.out)).trans hMp14.out)
      clear hb hB4 hL4 hMq4 hMp14
      obtain ⟨p2, hp2⟩ : ∃ q, q = w5.heap.size := ⟨_, rfl⟩
      obtain ⟨w6, hw⟩ : ∃ w, w = w5.alloc (.cells #[.int .i64 m.y, .int .i64 m.mo, .int .i64 m.d, .int .i64 0, .int .i64 0, .string ⟨#[48]⟩, .int .i64 m.z, .bool m.has] 24) := ⟨_, rfl⟩
      have hb : Below w5.heap.size w5 w6 := by rw [hw]; exact (Below.refl _ _).alloc (Nat.le_refl _) _
      have hMp26 : Hid (MoAt w6 p2 m.y m.mo m.d 0 0 ⟨#[48]⟩ m.z m.has) := Lib.hid (by rw [hw, hp2]; exact (MapKept.heap_alloc _ _).1)
      have hgep2 : Hid (W.heap.size ≤ p2) := Lib.hid (by rw [hp2]; exact hB5.out.size)
      have hnqp2 : Hid (q ≠ p2) := Lib.hid (by rw [hp2]; exact Nat.ne_of_lt (heap_lt hMq5.out))
      have hnp2q : Hid (p2 ≠ q) := Lib.hid (fun e => hnqp2.out e.symm)
      have hnp1p2 : Hid (p1 ≠ p2) := Lib.hid (by rw [hp2]; exact Nat.ne_of_lt (heap_lt hMp15.out))
      have hnp2p1 : Hid (p2 ≠ p1) := Lib.hid (fun e => hnp1p2.out e.symm)
      replace hp2 := Lib.hid hp2
      replace hw := Lib.hid hw
      have hB6 := Lib.hid (hB5.out.trans (hb.mono hB5.out.size))
      have hL6 := Lib.hid (hL.out.below hB6.out hL.out.size)
      have hMq6 : Hid (MoAt w6 q m.y m.mo m.d m.h m.mi m.s m.z m.has) := Lib.hid ((hb.block q (heap_lt hMq5.out)).trans hMq5.out)
      have hMp16 : Hid (MoAt w6 p1 m.y m.mo m.d 0 0 ⟨#[48]⟩ m.z m.has) := Lib.hid ((hb.block p1 (heap_lt hMp15.out)).trans hMp15.out)
      clear hb hB5 hL5 hMq5 hMp15
      go_upto_region 12 with fail
      rw [← hw.out, ← hp2.out]
      clear hw hp2
      obtain ⟨cp10, cp11, cp12, cp13, cp14, cp15, cp16, cp17⟩ := MomAt.of_heap hMp16.out
      obtain ⟨cp20, cp21, cp22, cp23, cp24, cp25, cp26, cp27⟩ := MomAt.of_heap hMp26.out
      go_wp2_with fail
      go_meet
      exact hB6
    have hB := hcut
    clear hcut
    obtain ⟨w22, hw⟩ : ∃ w, w = wc := ⟨_, rfl⟩
    rw [← hw] at hB ⊢
    clear hw hB2 hL2 hMq2
    have hB22 := hB
    have hL22 := Lib.hid (hL.out.below hB.out hL.out.size)
    clear hB
    go_wp2_with fail
    refine (c3.out w22 hL22.out).mono ?_
    rintro e w23 ⟨rfl, hb⟩
    have hB23 := Lib.hid (hB22.out.trans (hb.mono hB22.out.size))
    have hL23 := Lib.hid (hL.out.below hB23.out hL.out.size)
    clear hb hB22 hL22
    obtain ⟨p3, hp3⟩ : ∃ q, q = w23.heap.size := ⟨_, rfl⟩
    obtain ⟨w24, hw⟩ : ∃ w, w = w23.alloc (.cells #[.int .i64 b.y, .int .i64 b.mo, .int .i64 b.d, .int .i64 b.h, .int .i64 b.mi, .string b.s, .int .i64 b.z, .bool b.has] 24) := ⟨_, rfl⟩
    have hb : Below w23.heap.size w23 w24 := by rw [hw]; exact (Below.refl _ _).alloc (Nat.le_refl _) _
    have hMp324 : Hid (MoAt w24 p3 b.y b.mo b.d b.h b.mi b.s b.z b.has) := Lib.hid (by rw [hw, hp3]; exact (MapKept.heap_alloc _ _).1)
    have hgep3 : Hid (W.heap.size ≤ p3) := Lib.hid (by rw [hp3]; exact hB23.out.size)
    replace hp3 := Lib.hid hp3
    replace hw := Lib.hid hw
    have hB24 := Lib.hid (hB23.out.trans (hb.mono hB23.out.size))
    have hL24 := Lib.hid (hL.out.below hB24.out hL.out.size)
    clear hb hB23 hL23
    go_upto_region 17 with fail
    rw [← hw.out, ← hp3.out]
    clear hw hp3
    obtain ⟨cp30, cp31, cp32, cp33, cp34, cp35, cp36, cp37⟩ := MomAt.of_heap hMp324.out
    go_wp2_with fail
    refine (c4.out w24 hL24.out).mono ?_
    rintro e w25 ⟨rfl, hb⟩
    have hB25 := Lib.hid (hB24.out.trans (hb.mono hB24.out.size))
    have hL25 := Lib.hid (hL.out.below hB25.out hL.out.size)
    have hMp325 : Hid (MoAt w25 p3 b.y b.mo b.d b.h b.mi b.s b.z b.has) := Lib.hid ((hb.block p3 (heap_lt hMp324.out)).trans hMp324.out)
    clear hb hB24 hL24 hMp324
    clear cp30 cp31 cp32 cp33 cp34 cp35 cp36 cp37
    go_wp2_with fail
    refine (c5.out w25 hL25.out).mono ?_
    rintro e w26 ⟨rfl, hb⟩
    have hB26 := Lib.hid (hB25.out.trans (hb.mono hB25.out.size))
    have hL26 := Lib.hid (hL.out.below hB26.out hL.out.size)
    have hMp326 : Hid (MoAt w26 p3 b.y b.mo b.d b.h b.mi b.s b.z b.has) := Lib.hid ((hb.block p3 (heap_lt hMp325.out)).trans hMp325.out)
    clear hb hB25 hL25 hMp325
    obtain ⟨p4, hp4⟩ : ∃ q, q = w26.heap.size := ⟨_, rfl⟩
    obtain ⟨w27, hw⟩ : ∃ w, w = w26.alloc (.cells #[.int .i64 b.y, .int .i64 b.mo, .int .i64 b.d, .int .i64 b.h, .int .i64 b.mi, .string b.s, .int .i64 b.z, .bool b.has] 24) := ⟨_, rfl⟩
    have hb : Below w26.heap.size w26 w27 := by rw [hw]; exact (Below.refl _ _).alloc (Nat.le_refl _) _
    have hMp427 : Hid (MoAt w27 p4 b.y b.mo b.d b.h b.mi b.s b.z b.has) := Lib.hid (by rw [hw, hp4]; exact (MapKept.heap_alloc _ _).1)
    have hgep4 : Hid (W.heap.size ≤ p4) := Lib.hid (by rw [hp4]; exact hB26.out.size)
    have hnp3p4 : Hid (p3 ≠ p4) := Lib.hid (by rw [hp4]; exact Nat.ne_of_lt (heap_lt hMp326.out))
    have hnp4p3 : Hid (p4 ≠ p3) := Lib.hid (fun e => hnp3p4.out e.symm)
    replace hp4 := Lib.hid hp4
    replace hw := Lib.hid hw
    have hB27 := Lib.hid (hB26.out.trans (hb.mono hB26.out.size))
    have hL27 := Lib.hid (hL.out.below hB27.out hL.out.size)
    have hMp327 : Hid (MoAt w27 p3 b.y b.mo b.d b.h b.mi b.s b.z b.has) := Lib.hid ((hb.block p3 (heap_lt hMp326.out)).trans hMp326.out)
    clear hb hB26 hL26 hMp326
    go_upto_region 21 with fail
    rw [← hw.out, ← hp4.out]
    clear hw hp4
    obtain ⟨cp30, cp31, cp32, cp33, cp34, cp35, cp36, cp37⟩ := MomAt.of_heap hMp327.out
    obtain ⟨cp40, cp41, cp42, cp43, cp44, cp45, cp46, cp47⟩ := MomAt.of_heap hMp427.out
    go_wp2_with fail
    refine (works_c w27 hL27.out).mono ?_
    rintro e w ⟨rfl, hb⟩
    go_wp2_with fail
    go_ret
    exact ⟨rfl, hB27.out.trans (hb.mono hB27.out.size)⟩
  · have gg : (g != 0) = true := by simpa using hg
    replace hg := Lib.hid hg
    have c3 : Hid (∀ w, LaidT w → Calls Tryz.prog 15 #[.int .i64 kind, .string s] w (fun e w' => e = .returned (.tuple #[.agg #[.int .i64 0, .int .i64 0, .int .i64 0, .int .i64 0, .int .i64 0, .string ⟨#[]⟩, .int .i64 0, .bool false], .int .i64 g]) ∧ Below w.heap.size w w')) := Lib.hid (fun w hw => Parse_c kind s ⟨0, 0, 0, 0, 0, ⟨#[]⟩, 0, false⟩ g eb hss w hw)
    clear eb
    obtain ⟨q, hq⟩ : ∃ q, q = W.heap.size := ⟨_, rfl⟩
    obtain ⟨w1, hw⟩ : ∃ w, w = W.alloc (.cells #[.int .i64 m.y, .int .i64 m.mo, .int .i64 m.d, .int .i64 m.h, .int .i64 m.mi, .string m.s, .int .i64 m.z, .bool m.has] 24) := ⟨_, rfl⟩
    have hB1 : Hid (Below W.heap.size W w1) := Lib.hid (by rw [hw]; exact (Below.refl _ _).alloc (Nat.le_refl _) _)
    have hL1 := Lib.hid (hL.below hB1.out hL.size)
    have hMq1 : Hid (MoAt w1 q m.y m.mo m.d m.h m.mi m.s m.z m.has) := Lib.hid (by rw [hw, hq]; exact (MapKept.heap_alloc _ _).1)
    have hgeq : Hid (W.heap.size ≤ q) := Lib.hid (by rw [hq]; exact Nat.le_refl _)
    replace hq := Lib.hid hq
    replace hw := Lib.hid hw
    replace hL := Lib.hid hL
    go_enter Tryz.func4, Tryz.ntmps4
    go_upto_region 1 with fail
    rw [← hw.out, ← hq.out]
    clear hw
    obtain ⟨cq0, cq1, cq2, cq3, cq4, cq5, cq6, cq7⟩ := MomAt.of_heap hMq1.out
    go_wp2_with fail
    refine (c1.out w1 hL1.out).mono ?_
    rintro e w2 ⟨rfl, hb⟩
    have hB2 := Lib.hid (hB1.out.trans (hb.mono hB1.out.size))
    have hL2 := Lib.hid (hL.out.below hB2.out hL.out.size)
    have hMq2 : Hid (MoAt w2 q m.y m.mo m.d m.h m.mi m.s m.z m.has) := Lib.hid ((hb.block q (heap_lt hMq1.out)).trans hMq1.out)
    clear hb hB1 hL1 hMq1
    clear cq0 cq1 cq2 cq3 cq4 cq5 cq6 cq7
    go_upto_if 35 with fail
    go_cut [9, 10, 11] from 36 to 62 (fun v9 v10 v11 wx => Hid (Below W.heap.size W wx))
    case first =>
      obtain ⟨cq0, cq1, cq2, cq3, cq4, cq5, cq6, cq7⟩ := MomAt.of_heap hMq2.out
      obtain ⟨p1, hp1⟩ : ∃ q, q = w2.heap.size := ⟨_, rfl⟩
      obtain ⟨w3, hw⟩ : ∃ w, w = w2.alloc (.cells #[.int .i64 m.y, .int .i64 m.mo, .int .i64 m.d, .int .i64 m.h, .int .i64 m.mi, .string m.s, .int .i64 m.z, .bool m.has] 24) := ⟨_, rfl⟩
      have hb : Below w2.heap.size w2 w3 := by rw [hw]; exact (Below.refl _ _).alloc (Nat.le_refl _) _
      have hMp13 : Hid (MoAt w3 p1 m.y m.mo m.d m.h m.mi m.s m.z m.has) := Lib.hid (by rw [hw, hp1]; exact (MapKept.heap_alloc _ _).1)
      have hgep1 : Hid (W.heap.size ≤ p1) := Lib.hid (by rw [hp1]; exact hB2.out.size)
      have hnqp1 : Hid (q ≠ p1) := Lib.hid (by rw [hp1]; exact Nat.ne_of_lt (heap_lt hMq2.out))
      have hnp1q : Hid (p1 ≠ q) := Lib.hid (fun e => hnqp1.out e.symm)
      replace hp1 := Lib.hid hp1
      replace hw := Lib.hid hw
      have hB3 := Lib.hid (hB2.out.trans (hb.mono hB2.out.size))
      have hL3 := Lib.hid (hL.out.below hB3.out hL.out.size)
      have hMq3 : Hid (MoAt w3 q m.y m.mo m.d m.h m.mi m.s m.z m.has) := Lib.hid ((hb.block q (heap_lt hMq2.out)).trans hMq2.out)
      clear hb hB2 hL2 hMq2
      go_upto_region 6 with fail
      rw [← hw.out, ← hp1.out]
      clear hw hp1
      clear cq0 cq1 cq2 cq3 cq4 cq5 cq6 cq7
      obtain ⟨cp10, cp11, cp12, cp13, cp14, cp15, cp16, cp17⟩ := MomAt.of_heap hMp13.out
      have ff3 := Lib.frozen_of_heap hMp13.out 3
      have ff4 := Lib.frozen_of_heap hMp13.out 4
      have ff5 := Lib.frozen_of_heap hMp13.out 5
      obtain ⟨w4, hw⟩ : ∃ w, w = (((w3.setCell ⟨p1, 3, none⟩ (.int .i64 0)).setCell ⟨p1, 4, none⟩ (.int .i64 0)).setCell ⟨p1, 5, none⟩ (.string ⟨#[48]⟩)) := ⟨_, rfl⟩
      have hB4 : Hid (Below W.heap.size W w4) := Lib.hid (by rw [hw]; exact hB3.out.trans ((((Below.refl _ _).setCell (p := ⟨p1, 3, none⟩) hgep1.out _).setCell (p := ⟨p1, 4, none⟩) hgep1.out _).setCell (p := ⟨p1, 5, none⟩) hgep1.out _))
      have hL4 := Lib.hid (hL.out.below hB4.out hL.out.size)
      have hMp14 : Hid (MoAt w4 p1 m.y m.mo m.d 0 0 ⟨#[48]⟩ m.z m.has) := Lib.hid (by rw [hw]; exact (Lib.heap_setCell_same (i := 5) (Lib.heap_setCell_same (i := 4) (Lib.heap_setCell_same (i := 3) hMp13.out _) _) _))
      have hMq4 : Hid (MoAt w4 q m.y m.mo m.d m.h m.mi m.s m.z m.has) := Lib.hid (by rw [hw]; exact ((Below.heap_setCell _ _ _ _ hnqp1.out).trans ((Below.heap_setCell _ _ _ _ hnqp1.out).trans ((Below.heap_setCell _ _ _ _ hnqp1.out).trans hMq3.out))))
      replace hw := Lib.hid hw
      go_upto_region 11 with fail
      rw [← hw.out]
      clear hw ff3 ff4 ff5
      clear cp10 cp11 cp12 cp13 cp14 cp15 cp16 cp17
      clear hB3 hL3 hMq3 hMp13
      go_wp2_with fail
      refine (c2.out w4 hL4.out).mono ?_
      rintro e w5 ⟨rfl, hb⟩
      have hB5 := Lib.hid (hB4.out.trans (hb.mono hB4.out.size))
      have hL5 := Lib.hid (hL.out.below hB5.out hL.out.size)
      have hMq5 : Hid (MoAt w5 q m.y m.mo m.d m.h m.mi m.s m.z m.has) := Lib.hid ((hb.block q (heap_lt hMq4.out)).trans hMq4.out)
      have hMp15 : Hid (MoAt w5 p1 m.y m.mo m.d 0 0 ⟨#[48]⟩ m.z m.has) := Lib.hid ((hb.block p1 (heap_lt hMp14.out)).trans hMp14.out)
      clear hb hB4 hL4 hMq4 hMp14
      obtain ⟨p2, hp2⟩ : ∃ q, q = w5.heap.size := ⟨_, rfl⟩
      obtain ⟨w6, hw⟩ : ∃ w, w = w5.alloc (.cells #[.int .i64 m.y, .int .i64 m.mo, .int .i64 m.d, .int .i64 0, .int .i64 0, .string ⟨#[48]⟩, .int .i64 m.z, .bool m.has] 24) := ⟨_, rfl⟩
      have hb : Below w5.heap.size w5 w6 := by rw [hw]; exact (Below.refl _ _).alloc (Nat.le_refl _) _
      have hMp26 : Hid (MoAt w6 p2 m.y m.mo m.d 0 0 ⟨#[48]⟩ m.z m.has) := Lib.hid (by rw [hw, hp2]; exact (MapKept.heap_alloc _ _).1)
      have hgep2 : Hid (W.heap.size ≤ p2) := Lib.hid (by rw [hp2]; exact hB5.out.size)
      have hnqp2 : Hid (q ≠ p2) := Lib.hid (by rw [hp2]; exact Nat.ne_of_lt (heap_lt hMq5.out))
      have hnp2q : Hid (p2 ≠ q) := Lib.hid (fun e => hnqp2.out e.symm)
      have hnp1p2 : Hid (p1 ≠ p2) := Lib.hid (by rw [hp2]; exact Nat.ne_of_lt (heap_lt hMp15.out))
      have hnp2p1 : Hid (p2 ≠ p1) := Lib.hid (fun e => hnp1p2.out e.symm)
      replace hp2 := Lib.hid hp2
      replace hw := Lib.hid hw
      have hB6 := Lib.hid (hB5.out.trans (hb.mono hB5.out.size))
      have hL6 := Lib.hid (hL.out.below hB6.out hL.out.size)
      have hMq6 : Hid (MoAt w6 q m.y m.mo m.d m.h m.mi m.s m.z m.has) := Lib.hid ((hb.block q (heap_lt hMq5.out)).trans hMq5.out)
      have hMp16 : Hid (MoAt w6 p1 m.y m.mo m.d 0 0 ⟨#[48]⟩ m.z m.has) := Lib.hid ((hb.block p1 (heap_lt hMp15.out)).trans hMp15.out)
      clear hb hB5 hL5 hMq5 hMp15
      go_upto_region 12 with fail
      rw [← hw.out, ← hp2.out]
      clear hw hp2
      obtain ⟨cp10, cp11, cp12, cp13, cp14, cp15, cp16, cp17⟩ := MomAt.of_heap hMp16.out
      obtain ⟨cp20, cp21, cp22, cp23, cp24, cp25, cp26, cp27⟩ := MomAt.of_heap hMp26.out
      go_wp2_with fail
      go_meet
      exact hB6
    have hB := hcut
    clear hcut
    obtain ⟨w22, hw⟩ : ∃ w, w = wc := ⟨_, rfl⟩
    rw [← hw] at hB ⊢
    clear hw hB2 hL2 hMq2
    have hB22 := hB
    have hL22 := Lib.hid (hL.out.below hB.out hL.out.size)
    clear hB
    go_wp2_with fail
    refine (c3.out w22 hL22.out).mono ?_
    rintro e w23 ⟨rfl, hb⟩
    have hB23 := Lib.hid (hB22.out.trans (hb.mono hB22.out.size))
    have hL23 := Lib.hid (hL.out.below hB23.out hL.out.size)
    clear hb hB22 hL22
    obtain ⟨p3, hp3⟩ : ∃ q, q = w23.heap.size := ⟨_, rfl⟩
    obtain ⟨w24, hw⟩ : ∃ w, w = w23.alloc (.cells #[.int .i64 0, .int .i64 0, .int .i64 0, .int .i64 0, .int .i64 0, .string ⟨#[]⟩, .int .i64 0, .bool false] 24) := ⟨_, rfl⟩
    have hb : Below w23.heap.size w23 w24 := by rw [hw]; exact (Below.refl _ _).alloc (Nat.le_refl _) _
    have hMp324 : Hid (MoAt w24 p3 0 0 0 0 0 ⟨#[]⟩ 0 false) := Lib.hid (by rw [hw, hp3]; exact (MapKept.heap_alloc _ _).1)
    have hgep3 : Hid (W.heap.size ≤ p3) := Lib.hid (by rw [hp3]; exact hB23.out.size)
    replace hp3 := Lib.hid hp3
    replace hw := Lib.hid hw
    have hB24 := Lib.hid (hB23.out.trans (hb.mono hB23.out.size))
    have hL24 := Lib.hid (hL.out.below hB24.out hL.out.size)
    clear hb hB23 hL23
    go_upto_region 17 with fail
    rw [← hw.out, ← hp3.out]
    clear hw hp3
    obtain ⟨cp30, cp31, cp32, cp33, cp34, cp35, cp36, cp37⟩ := MomAt.of_heap hMp324.out
    go_wp2_with fail
    refine (works_c w24 hL24.out).mono ?_
    rintro e w ⟨rfl, hb⟩
    go_wp2_with fail
    go_ret
    exact ⟨rfl, hB24.out.trans (hb.mono hB24.out.size)⟩
set_option maxRecDepth 100000 in
set_option maxHeartbeats 4000000 in
theorem timeBack_7 (m : MB) (kind : Int) (s : ByteArray) (W : World) (hL : LaidT W) (hkk : kind = 7) (T : ByteArray) (hv : validP m.P = true) (eT : textMom kind m.P = (T.data.toList, 0)) (hsm : m.s.size ≤ 1000) (hss : s.size ≤ 1000) (hs : ¬ ((m.s.size : Int) > 300)) (hs2 : ¬ ((s.size : Int) > 300)) : Calls Tryz.prog 4 #[.agg #[.int .i64 m.y, .int .i64 m.mo, .int .i64 m.d, .int .i64 m.h, .int .i64 m.mi, .string m.s, .int .i64 m.z, .bool m.has], .int .i64 kind, .string s] W (fun e w' => e = .returned (.bool true) ∧ Below W.heap.size W w') := by
  have hok : TimeP.kindOk kind = true := by rw [hkk]; rfl
  have hTl := text_len (m := m.P) hv hok
  have e2 := back_text (m := m.P) hv hok
  rw [eT] at hTl e2
  have hTs : T.size ≤ 1000 := by rw [← list_len]; exact hTl
  have e2 : parseM kind T.data.toList = (MB.P ⟨1972, 12, 31, m.h, m.mi, m.s, m.z, m.has⟩, 0) := by rw [e2, hkk]; rfl
  have j6 : (kind == 6) = false := by rw [hkk]; rfl
  have j7 : (kind == 7) = true := by rw [hkk]; rfl
  have c1 : Hid (∀ w, LaidT w → Calls Tryz.prog 18 #[.int .i64 kind, .agg #[.int .i64 m.y, .int .i64 m.mo, .int .i64 m.d, .int .i64 m.h, .int .i64 m.mi, .string m.s, .int .i64 m.z, .bool m.has]] w (fun e w' => e = .returned (.tuple #[.string T, .int .i64 0]) ∧ Below w.heap.size w w')) := Lib.hid (fun w hw => Text_c m kind T 0 eT hsm w hw)
  have c2 : Hid (∀ w, LaidT w → Calls Tryz.prog 15 #[.int .i64 kind, .string T] w (fun e w' => e = .returned (.tuple #[.agg #[.int .i64 1972, .int .i64 12, .int .i64 31, .int .i64 m.h, .int .i64 m.mi, .string m.s, .int .i64 m.z, .bool m.has], .int .i64 0]) ∧ Below w.heap.size w w')) := Lib.hid (fun w hw => Parse_c kind T ⟨1972, 12, 31, m.h, m.mi, m.s, m.z, m.has⟩ 0 e2 hTs w hw)
  clear eT hTl e2 hTs hok
  replace hv := Lib.hid hv
  replace hkk := Lib.hid hkk
  rcases parse_cases kind s.data.toList with ⟨b', eb, hkb, hvb, hnb⟩ | ⟨g, hg, eb⟩
  · obtain ⟨b, hb⟩ : ∃ b : MB, b.P = b' := ⟨MB.of b', rfl⟩
    subst hb
    have hsb : b.s.size ≤ 1000 := by rw [← list_len]; have : b.s.data.toList.length ≤ 60 := valid_short hvb; omega
    obtain ⟨U, k4, eU⟩ := SB.ex (textMom kind b.P)
    have hk4 := text_good (m := b.P) hkb hvb
    have hUl := text_len (m := b.P) hvb hkb
    have e5 := back_text (m := b.P) hvb hkb
    rw [eU] at hk4 hUl e5
    rw [hnb] at e5
    replace hk4 : k4 = 0 := hk4
    subst hk4
    have hUs : U.size ≤ 1000 := by rw [← list_len]; exact hUl
    have c3 : Hid (∀ w, LaidT w → Calls Tryz.prog 15 #[.int .i64 kind, .string s] w (fun e w' => e = .returned (.tuple #[.agg #[.int .i64 b.y, .int .i64 b.mo, .int .i64 b.d, .int .i64 b.h, .int .i64 b.mi, .string b.s, .int .i64 b.z, .bool b.has], .int .i64 0]) ∧ Below w.heap.size w w')) := Lib.hid (fun w hw => Parse_c kind s b 0 eb hss w hw)
    have c4 : Hid (∀ w, LaidT w → Calls Tryz.prog 18 #[.int .i64 kind, .agg #[.int .i64 b.y, .int .i64 b.mo, .int .i64 b.d, .int .i64 b.h, .int .i64 b.mi, .string b.s, .int .i64 b.z, .bool b.has]] w (fun e w' => e = .returned (.tuple #[.string U, .int .i64 0]) ∧ Below w.heap.size w w')) := Lib.hid (fun w hw => Text_c b kind U 0 eU hsb w hw)
    have c5 : Hid (∀ w, LaidT w → Calls Tryz.prog 15 #[.int .i64 kind, .string U] w (fun e w' => e = .returned (.tuple #[.agg #[.int .i64 b.y, .int .i64 b.mo, .int .i64 b.d, .int .i64 b.h, .int .i64 b.mi, .string b.s, .int .i64 b.z, .bool b.has], .int .i64 0]) ∧ Below w.heap.size w w')) := Lib.hid (fun w hw => Parse_c kind U b 0 e5 hUs w hw)
    clear eb hkb hvb hnb hsb eU hUl e5 hUs
    obtain ⟨q, hq⟩ : ∃ q, q = W.heap.size := ⟨_, rfl⟩
    obtain ⟨w1, hw⟩ : ∃ w, w = W.alloc (.cells #[.int .i64 m.y, .int .i64 m.mo, .int .i64 m.d, .int .i64 m.h, .int .i64 m.mi, .string m.s, .int .i64 m.z, .bool m.has] 24) := ⟨_, rfl⟩
    have hB1 : Hid (Below W.heap.size W w1) := Lib.hid (by rw [hw]; exact (Below.refl _ _).alloc (Nat.le_refl _) _)
    have hL1 := Lib.hid (hL.below hB1.out hL.size)
    have hMq1 : Hid (MoAt w1 q m.y m.mo m.d m.h m.mi m.s m.z m.has) := Lib.hid (by rw [hw, hq]; exact (MapKept.heap_alloc _ _).1)
    have hgeq : Hid (W.heap.size ≤ q) := Lib.hid (by rw [hq]; exact Nat.le_refl _)
    replace hq := Lib.hid hq
    replace hw := Lib.hid hw
    replace hL := Lib.hid hL
    go_enter Tryz.func4, Tryz.ntmps4
    go_upto_region 1 with fail
    rw [← hw.out, ← hq.out]
    clear hw
    obtain ⟨cq0, cq1, cq2, cq3, cq4, cq5, cq6, cq7⟩ := MomAt.of_heap hMq1.out
    go_wp2_with fail
    refine (c1.out w1 hL1.out).mono ?_
    rintro e w2 ⟨rfl, hb⟩
    have hB2 := Lib.hid (hB1.out.trans (hb.mono hB1.out.size))
    have hL2 := Lib.hid (hL.out.below hB2.out hL.out.size)
    have hMq2 : Hid (MoAt w2 q m.y m.mo m.d m.h m.mi m.s m.z m.has) := Lib.hid ((hb.block q (heap_lt hMq1.out)).trans hMq1.out)
    clear hb hB1 hL1 hMq1
    clear cq0 cq1 cq2 cq3 cq4 cq5 cq6 cq7
    go_upto_if 35 with fail
    go_cut [9, 10, 11] from 36 to 62 (fun v9 v10 v11 wx => Hid (Below W.heap.size W wx))
    case first =>
      obtain ⟨cq0, cq1, cq2, cq3, cq4, cq5, cq6, cq7⟩ := MomAt.of_heap hMq2.out
      obtain ⟨p1, hp1⟩ : ∃ q, q = w2.heap.size := ⟨_, rfl⟩
      obtain ⟨w3, hw⟩ : ∃ w, w = w2.alloc (.cells #[.int .i64 m.y, .int .i64 m.mo, .int .i64 m.d, .int .i64 m.h, .int .i64 m.mi, .string m.s, .int .i64 m.z, .bool m.has] 24) := ⟨_, rfl⟩
      have hb : Below w2.heap.size w2 w3 := by rw [hw]; exact (Below.refl _ _).alloc (Nat.le_refl _) _
      have hMp13 : Hid (MoAt w3 p1 m.y m.mo m.d m.h m.mi m.s m.z m.has) := Lib.hid (by rw [hw, hp1]; exact (MapKept.heap_alloc _ _).1)
      have hgep1 : Hid (W.heap.size ≤ p1) := Lib.hid (by rw [hp1]; exact hB2.out.size)
      have hnqp1 : Hid (q ≠ p1) := Lib.hid (by rw [hp1]; exact Nat.ne_of_lt (heap_lt hMq2.out))
      have hnp1q : Hid (p1 ≠ q) := Lib.hid (fun e => hnqp1.out e.symm)
      replace hp1 := Lib.hid hp1
      replace hw := Lib.hid hw
      have hB3 := Lib.hid (hB2.out.trans (hb.mono hB2.out.size))
      have hL3 := Lib.hid (hL.out.below hB3.out hL.out.size)
      have hMq3 : Hid (MoAt w3 q m.y m.mo m.d m.h m.mi m.s m.z m.has) := Lib.hid ((hb.block q (heap_lt hMq2.out)).trans hMq2.out)
      clear hb hB2 hL2 hMq2
      go_upto_region 6 with fail
      rw [← hw.out, ← hp1.out]
      clear hw hp1
      clear cq0 cq1 cq2 cq3 cq4 cq5 cq6 cq7
      obtain ⟨cp10, cp11, cp12, cp13, cp14, cp15, cp16, cp17⟩ := MomAt.of_heap hMp13.out
      have ff0 := Lib.frozen_of_heap hMp13.out 0
      have ff1 := Lib.frozen_of_heap hMp13.out 1
      have ff2 := Lib.frozen_of_heap hMp13.out 2
      obtain ⟨w4, hw⟩ : ∃ w, w = (((w3.setCell ⟨p1, 0, none⟩ (.int .i64 1972)).setCell ⟨p1, 1, none⟩ (.int .i64 12)).setCell ⟨p1, 2, none⟩ (.int .i64 31)) := ⟨_, rfl⟩
      have hB4 : Hid (Below W.heap.size W w4) := Lib.hid (by rw [hw]; exact hB3.out.trans ((((Below.refl _ _).setCell (p := ⟨p1, 0, none⟩) hgep1.out _).setCell (p := ⟨p1, 1, none⟩) hgep1.out _).setCell (p := ⟨p1, 2, none⟩) hgep1.out _))
      have hL4 := Lib.hid (hL.out.below hB4.out hL.out.size)
      have hMp14 : Hid (MoAt w4 p1 1972 12 31 m.h m.mi m.s m.z m.has) := Lib.hid (by rw [hw]; exact (Lib.heap_setCell_same (i := 2) (Lib.heap_setCell_same (i := 1) (Lib.heap_setCell_same (i := 0) hMp13.out _) _) _))
      have hMq4 : Hid (MoAt w4 q m.y m.mo m.d m.h m.mi m.s m.z m.has) := Lib.hid (by rw [hw]; exact ((Below.heap_setCell _ _ _ _ hnqp1.out).trans ((Below.heap_setCell _ _ _ _ hnqp1.out).trans ((Below.heap_setCell _ _ _ _ hnqp1.out).trans hMq3.out))))
      replace hw := Lib.hid hw
      go_upto_region 11 with fail
      rw [← hw.out]
      clear hw ff0 ff1 ff2
      clear cp10 cp11 cp12 cp13 cp14 cp15 cp16 cp17
      clear hB3 hL3 hMq3 hMp13
      go_wp2_with fail
      refine (c2.out w4 hL4.out).mono ?_
      rintro e w5 ⟨rfl, hb⟩
      have hB5 := Lib.hid (hB4.out.trans (hb.mono hB4.out.size))
      have hL5 := Lib.hid (hL.out.below hB5.out hL.out.size)
      have hMq5 : Hid (MoAt w5 q m.y m.mo m.d m.h m.mi m.s m.z m.has) := Lib.hid ((hb.block q (heap_lt hMq4.out)).trans hMq4.out)
      have hMp15 : Hid (MoAt w5 p1 1972 12 31 m.h m.mi m.s m.z m.has) := Lib.hid ((hb.block p1 (heap_lt hMp14.out)).trans hMp14.out)
      clear hb hB4 hL4 hMq4 hMp14
      obtain ⟨p2, hp2⟩ : ∃ q, q = w5.heap.size := ⟨_, rfl⟩
      obtain ⟨w6, hw⟩ : ∃ w, w = w5.alloc (.cells #[.int .i64 1972, .int .i64 12, .int .i64 31, .int .i64 m.h, .int .i64 m.mi, .string m.s, .int .i64 m.z, .bool m.has] 24) := ⟨_, rfl⟩
      have hb : Below w5.heap.size w5 w6 := by rw [hw]; exact (Below.refl _ _).alloc (Nat.le_refl _) _
      have hMp26 : Hid (MoAt w6 p2 1972 12 31 m.h m.mi m.s m.z m.has) := Lib.hid (by rw [hw, hp2]; exact (MapKept.heap_alloc _ _).1)
      have hgep2 : Hid (W.heap.size ≤ p2) := Lib.hid (by rw [hp2]; exact hB5.out.size)
      have hnqp2 : Hid (q ≠ p2) := Lib.hid (by rw [hp2]; exact Nat.ne_of_lt (heap_lt hMq5.out))
      have hnp2q : Hid (p2 ≠ q) := Lib.hid (fun e => hnqp2.out e.symm)
      have hnp1p2 : Hid (p1 ≠ p2) := Lib.hid (by rw [hp2]; exact Nat.ne_of_lt (heap_lt hMp15.out))
      have hnp2p1 : Hid (p2 ≠ p1) := Lib.hid (fun e => hnp1p2.out e.symm)
      replace hp2 := Lib.hid hp2
      replace hw := Lib.hid hw
      have hB6 := Lib.hid (hB5.out.trans (hb.mono hB5.out.size))
      have hL6 := Lib.hid (hL.out.below hB6.out hL.out.size)
      have hMq6 : Hid (MoAt w6 q m.y m.mo m.d m.h m.mi m.s m.z m.has) := Lib.hid ((hb.block q (heap_lt hMq5.out)).trans hMq5.out)
      have hMp16 : Hid (MoAt w6 p1 1972 12 31 m.h m.mi m.s m.z m.has) := Lib.hid ((hb.block p1 (heap_lt hMp15.out)).trans hMp15.out)
      clear hb hB5 hL5 hMq5 hMp15
      go_upto_region 12 with fail
      rw [← hw.out, ← hp2.out]
      clear hw hp2
      obtain ⟨cp10, cp11, cp12, cp13, cp14, cp15, cp16, cp17⟩ := MomAt.of_heap hMp16.out
      obtain ⟨cp20, cp21, cp22, cp23, cp24, cp25, cp26, cp27⟩ := MomAt.of_heap hMp26.out
      go_wp2_with fail
      go_meet
      exact hB6
    have hB := hcut
    clear hcut
    obtain ⟨w22, hw⟩ : ∃ w, w = wc := ⟨_, rfl⟩
    rw [← hw] at hB ⊢
    clear hw hB2 hL2 hMq2
    have hB22 := hB
    have hL22 := Lib.hid (hL.out.below hB.out hL.out.size)
    clear hB
    go_wp2_with fail
    refine (c3.out w22 hL22.out).mono ?_
    rintro e w23 ⟨rfl, hb⟩
    have hB23 := Lib.hid (hB22.out.trans (hb.mono hB22.out.size))
    have hL23 := Lib.hid (hL.out.below hB23.out hL.out.size)
    clear hb hB22 hL22
    obtain ⟨p3, hp3⟩ : ∃ q, q = w23.heap.size := ⟨_, rfl⟩
    obtain ⟨w24, hw⟩ : ∃ w, w = w23.alloc (.cells #[.int .i64 b.y, .int .i64 b.mo, .int .i64 b.d, .int .i64 b.h, .int .i64 b.mi, .string b.s, .int .i64 b.z, .bool b.has] 24) := ⟨_, rfl⟩
    have hb : Below w23.heap.size w23 w24 := by rw [hw]; exact (Below.refl _ _).alloc (Nat.le_refl _) _
    have hMp324 : Hid (MoAt w24 p3 b.y b.mo b.d b.h b.mi b.s b.z b.has) := Lib.hid (by rw [hw, hp3]; exact (MapKept.heap_alloc _ _).1)
    have hgep3 : Hid (W.heap.size ≤ p3) := Lib.hid (by rw [hp3]; exact hB23.out.size)
    replace hp3 := Lib.hid hp3
    replace hw := Lib.hid hw
    have hB24 := Lib.hid (hB23.out.trans (hb.mono hB23.out.size))
    have hL24 := Lib.hid (hL.out.below hB24.out hL.out.size)
    clear hb hB23 hL23
    go_upto_region 17 with fail
    rw [← hw.out, ← hp3.out]
    clear hw hp3
    obtain ⟨cp30, cp31, cp32, cp33, cp34, cp35, cp36, cp37⟩ := MomAt.of_heap hMp324.out
    go_wp2_with fail
    refine (c4.out w24 hL24.out).mono ?_
    rintro e w25 ⟨rfl, hb⟩
    have hB25 := Lib.hid (hB24.out.trans (hb.mono hB24.out.size))
    have hL25 := Lib.hid (hL.out.below hB25.out hL.out.size)
    have hMp325 : Hid (MoAt w25 p3 b.y b.mo b.d b.h b.mi b.s b.z b.has) := Lib.hid ((hb.block p3 (heap_lt hMp324.out)).trans hMp324.out)
    clear hb hB24 hL24 hMp324
    clear cp30 cp31 cp32 cp33 cp34 cp35 cp36 cp37
    go_wp2_with fail
    refine (c5.out w25 hL25.out).mono ?_
    rintro e w26 ⟨rfl, hb⟩
    have hB26 := Lib.hid (hB25.out.trans (hb.mono hB25.out.size))
    have hL26 := Lib.hid (hL.out.below hB26.out hL.out.size)
    have hMp326 : Hid (MoAt w26 p3 b.y b.mo b.d b.h b.mi b.s b.z b.has) := Lib.hid ((hb.block p3 (heap_lt hMp325.out)).trans hMp325.out)
    clear hb hB25 hL25 hMp325
    obtain ⟨p4, hp4⟩ : ∃ q, q = w26.heap.size := ⟨_, rfl⟩
    obtain ⟨w27, hw⟩ : ∃ w, w = w26.alloc (.cells #[.int .i64 b.y, .int .i64 b.mo, .int .i64 b.d, .int .i64 b.h, .int .i64 b.mi, .string b.s, .int .i64 b.z, .bool b.has] 24) := ⟨_, rfl⟩
    have hb : Below w26.heap.size w26 w27 := by rw [hw]; exact (Below.refl _ _).alloc (Nat.le_refl _) _
    have hMp427 : Hid (MoAt w27 p4 b.y b.mo b.d b.h b.mi b.s b.z b.has) := Lib.hid (by rw [hw, hp4]; exact (MapKept.heap_alloc _ _).1)
    have hgep4 : Hid (W.heap.size ≤ p4) := Lib.hid (by rw [hp4]; exact hB26.out.size)
    have hnp3p4 : Hid (p3 ≠ p4) := Lib.hid (by rw [hp4]; exact Nat.ne_of_lt (heap_lt hMp326.out))
    have hnp4p3 : Hid (p4 ≠ p3) := Lib.hid (fun e => hnp3p4.out e.symm)
    replace hp4 := Lib.hid hp4
    replace hw := Lib.hid hw
    have hB27 := Lib.hid (hB26.out.trans (hb.mono hB26.out.size))
    have hL27 := Lib.hid (hL.out.below hB27.out hL.out.size)
    have hMp327 : Hid (MoAt w27 p3 b.y b.mo b.d b.h b.mi b.s b.z b.has) := Lib.hid ((hb.block p3 (heap_lt hMp326.out)).trans hMp326.out)
    clear hb hB26 hL26 hMp326
    go_upto_region 21 with fail
    rw [← hw.out, ← hp4.out]
    clear hw hp4
    obtain ⟨cp30, cp31, cp32, cp33, cp34, cp35, cp36, cp37⟩ := MomAt.of_heap hMp327.out
    obtain ⟨cp40, cp41, cp42, cp43, cp44, cp45, cp46, cp47⟩ := MomAt.of_heap hMp427.out
    go_wp2_with fail
    refine (works_c w27 hL27.out).mono ?_
    rintro e w ⟨rfl, hb⟩
    go_wp2_with fail
    go_ret
    exact ⟨rfl, hB27.out.trans (hb.mono hB27.out.size)⟩
  · have gg : (g != 0) = true := by simpa using hg
    replace hg := Lib.hid hg
    have c3 : Hid (∀ w, LaidT w → Calls Tryz.prog 15 #[.int .i64 kind, .string s] w (fun e w' => e = .returned (.tuple #[.agg #[.int .i64 0, .int .i64 0, .int .i64 0, .int .i64 0, .int .i64 0, .string ⟨#[]⟩, .int .i64 0, .bool false], .int .i64 g]) ∧ Below w.heap.size w w')) := Lib.hid (fun w hw => Parse_c kind s ⟨0, 0, 0, 0, 0, ⟨#[]⟩, 0, false⟩ g eb hss w hw)
    clear eb
    obtain ⟨q, hq⟩ : ∃ q, q = W.heap.size := ⟨_, rfl⟩
    obtain ⟨w1, hw⟩ : ∃ w, w = W.alloc (.cells #[.int .i64 m.y, .int .i64 m.mo, .int .i64 m.d, .int .i64 m.h, .int .i64 m.mi, .string m.s, .int .i64 m.z, .bool m.has] 24) := ⟨_, rfl⟩
    have hB1 : Hid (Below W.heap.size W w1) := Lib.hid (by rw [hw]; exact (Below.refl _ _).alloc (Nat.le_refl _) _)
    have hL1 := Lib.hid (hL.below hB1.out hL.size)
    have hMq1 : Hid (MoAt w1 q m.y m.mo m.d m.h m.mi m.s m.z m.has) := Lib.hid (by rw [hw, hq]; exact (MapKept.heap_alloc _ _).1)
    have hgeq : Hid (W.heap.size ≤ q) := Lib.hid (by rw [hq]; exact Nat.le_refl _)
    replace hq := Lib.hid hq
    replace hw := Lib.hid hw
    replace hL := Lib.hid hL
    go_enter Tryz.func4, Tryz.ntmps4
    go_upto_region 1 with fail
    rw [← hw.out, ← hq.out]
    clear hw
    obtain ⟨cq0, cq1, cq2, cq3, cq4, cq5, cq6, cq7⟩ := MomAt.of_heap hMq1.out
    go_wp2_with fail
    refine (c1.out w1 hL1.out).mono ?_
    rintro e w2 ⟨rfl, hb⟩
    have hB2 := Lib.hid (hB1.out.trans (hb.mono hB1.out.size))
    have hL2 := Lib.hid (hL.out.below hB2.out hL.out.size)
    have hMq2 : Hid (MoAt w2 q m.y m.mo m.d m.h m.mi m.s m.z m.has) := Lib.hid ((hb.block q (heap_lt hMq1.out)).trans hMq1.out)
    clear hb hB1 hL1 hMq1
    clear cq0 cq1 cq2 cq3 cq4 cq5 cq6 cq7
    go_upto_if 35 with fail
    go_cut [9, 10, 11] from 36 to 62 (fun v9 v10 v11 wx => Hid (Below W.heap.size W wx))
    case first =>
      obtain ⟨cq0, cq1, cq2, cq3, cq4, cq5, cq6, cq7⟩ := MomAt.of_heap hMq2.out
      obtain ⟨p1, hp1⟩ : ∃ q, q = w2.heap.size := ⟨_, rfl⟩
      obtain ⟨w3, hw⟩ : ∃ w, w = w2.alloc (.cells #[.int .i64 m.y, .int .i64 m.mo, .int .i64 m.d, .int .i64 m.h, .int .i64 m.mi, .string m.s, .int .i64 m.z, .bool m.has] 24) := ⟨_, rfl⟩
      have hb : Below w2.heap.size w2 w3 := by rw [hw]; exact (Below.refl _ _).alloc (Nat.le_refl _) _
      have hMp13 : Hid (MoAt w3 p1 m.y m.mo m.d m.h m.mi m.s m.z m.has) := Lib.hid (by rw [hw, hp1]; exact (MapKept.heap_alloc _ _).1)
      have hgep1 : Hid (W.heap.size ≤ p1) := Lib.hid (by rw [hp1]; exact hB2.out.size)
      have hnqp1 : Hid (q ≠ p1) := Lib.hid (by rw [hp1]; exact Nat.ne_of_lt (heap_lt hMq2.out))
      have hnp1q : Hid (p1 ≠ q) := Lib.hid (fun e => hnqp1.out e.symm)
      replace hp1 := Lib.hid hp1
      replace hw := Lib.hid hw
      have hB3 := Lib.hid (hB2.out.trans (hb.mono hB2.out.size))
      have hL3 := Lib.hid (hL.out.below hB3.out hL.out.size)
      have hMq3 : Hid (MoAt w3 q m.y m.mo m.d m.h m.mi m.s m.z m.has) := Lib.hid ((hb.block q (heap_lt hMq2.out)).trans hMq2.out)
      clear hb hB2 hL2 hMq2
      go_upto_region 6 with fail
      rw [← hw.out, ← hp1.out]
      clear hw hp1
      clear cq0 cq1 cq2 cq3 cq4 cq5 cq6 cq7
      obtain ⟨cp10, cp11, cp12, cp13, cp14, cp15, cp16, cp17⟩ := MomAt.of_heap hMp13.out
      have ff0 := Lib.frozen_of_heap hMp13.out 0
      have ff1 := Lib.frozen_of_heap hMp13.out 1
      have ff2 := Lib.frozen_of_heap hMp13.out 2
      obtain ⟨w4, hw⟩ : ∃ w, w = (((w3.setCell ⟨p1, 0, none⟩ (.int .i64 1972)).setCell ⟨p1, 1, none⟩ (.int .i64 12)).setCell ⟨p1, 2, none⟩ (.int .i64 31)) := ⟨_, rfl⟩
      have hB4 : Hid (Below W.heap.size W w4) := Lib.hid (by rw [hw]; exact hB3.out.trans ((((Below.refl _ _).setCell (p := ⟨p1, 0, none⟩) hgep1.out _).setCell (p := ⟨p1, 1, none⟩) hgep1.out _).setCell (p := ⟨p1, 2, none⟩) hgep1.out _))
      have hL4 := Lib.hid (hL.out.below hB4.out hL.out.size)
      have hMp14 : Hid (MoAt w4 p1 1972 12 31 m.h m.mi m.s m.z m.has) := Lib.hid (by rw [hw]; exact (Lib.heap_setCell_same (i := 2) (Lib.heap_setCell_same (i := 1) (Lib.heap_setCell_same (i := 0) hMp13.out _) _) _))
      have hMq4 : Hid (MoAt w4 q m.y m.mo m.d m.h m.mi m.s m.z m.has) := Lib.hid (by rw [hw]; exact ((Below.heap_setCell _ _ _ _ hnqp1.out).trans ((Below.heap_setCell _ _ _ _ hnqp1.out).trans ((Below.heap_setCell _ _ _ _ hnqp1.out).trans hMq3.out))))
      replace hw := Lib.hid hw
      go_upto_region 11 with fail
      rw [← hw.out]
      clear hw ff0 ff1 ff2
      clear cp10 cp11 cp12 cp13 cp14 cp15 cp16 cp17
      clear hB3 hL3 hMq3 hMp13
      go_wp2_with fail
      refine (c2.out w4 hL4.out).mono ?_
      rintro e w5 ⟨rfl, hb⟩
      have hB5 := Lib.hid (hB4.out.trans (hb.mono hB4.out.size))
      have hL5 := Lib.hid (hL.out.below hB5.out hL.out.size)
      have hMq5 : Hid (MoAt w5 q m.y m.mo m.d m.h m.mi m.s m.z m.has) := Lib.hid ((hb.block q (heap_lt hMq4.out)).trans hMq4.out)
      have hMp15 : Hid (MoAt w5 p1 1972 12 31 m.h m.mi m.s m.z m.has) := Lib.hid ((hb.block p1 (heap_lt hMp14.out)).trans hMp14.out)
      clear hb hB4 hL4 hMq4 hMp14
      obtain ⟨p2, hp2⟩ : ∃ q, q = w5.heap.size := ⟨_, rfl⟩
      obtain ⟨w6, hw⟩ : ∃ w, w = w5.alloc (.cells #[.int .i64 1972, .int .i64 12, .int .i64 31, .int .i64 m.h, .int .i64 m.mi, .string m.s, .int .i64 m.z, .bool m.has] 24) := ⟨_, rfl⟩
      have hb : Below w5.heap.size w5 w6 := by rw [hw]; exact (Below.refl _ _).alloc (Nat.le_refl _) _
      have hMp26 : Hid (MoAt w6 p2 1972 12 31 m.h m.mi m.s m.z m.has) := Lib.hid (by rw [hw, hp2]; exact (MapKept.heap_alloc _ _).1)
      have hgep2 : Hid (W.heap.size ≤ p2) := Lib.hid (by rw [hp2]; exact hB5.out.size)
      have hnqp2 : Hid (q ≠ p2) := Lib.hid (by rw [hp2]; exact Nat.ne_of_lt (heap_lt hMq5.out))
      have hnp2q : Hid (p2 ≠ q) := Lib.hid (fun e => hnqp2.out e.symm)
      have hnp1p2 : Hid (p1 ≠ p2) := Lib.hid (by rw [hp2]; exact Nat.ne_of_lt (heap_lt hMp15.out))
      have hnp2p1 : Hid (p2 ≠ p1) := Lib.hid (fun e => hnp1p2.out e.symm)
      replace hp2 := Lib.hid hp2
      replace hw := Lib.hid hw
      have hB6 := Lib.hid (hB5.out.trans (hb.mono hB5.out.size))
      have hL6 := Lib.hid (hL.out.below hB6.out hL.out.size)
      have hMq6 : Hid (MoAt w6 q m.y m.mo m.d m.h m.mi m.s m.z m.has) := Lib.hid ((hb.block q (heap_lt hMq5.out)).trans hMq5.out)
      have hMp16 : Hid (MoAt w6 p1 1972 12 31 m.h m.mi m.s m.z m.has) := Lib.hid ((hb.block p1 (heap_lt hMp15.out)).trans hMp15.out)
      clear hb hB5 hL5 hMq5 hMp15
      go_upto_region 12 with fail
      rw [← hw.out, ← hp2.out]
      clear hw hp2
      obtain ⟨cp10, cp11, cp12, cp13, cp14, cp15, cp16, cp17⟩ := MomAt.of_heap hMp16.out
      obtain ⟨cp20, cp21, cp22, cp23, cp24, cp25, cp26, cp27⟩ := MomAt.of_heap hMp26.out
      go_wp2_with fail
      go_meet
      exact hB6
    have hB := hcut
    clear hcut
    obtain ⟨w22, hw⟩ : ∃ w, w = wc := ⟨_, rfl⟩
    rw [← hw] at hB ⊢
    clear hw hB2 hL2 hMq2
    have hB22 := hB
    have hL22 := Lib.hid (hL.out.below hB.out hL.out.size)
    clear hB
    go_wp2_with fail
    refine (c3.out w22 hL22.out).mono ?_
    rintro e w23 ⟨rfl, hb⟩
    have hB23 := Lib.hid (hB22.out.trans (hb.mono hB22.out.size))
    have hL23 := Lib.hid (hL.out.below hB23.out hL.out.size)
    clear hb hB22 hL22
    obtain ⟨p3, hp3⟩ : ∃ q, q = w23.heap.size := ⟨_, rfl⟩
    obtain ⟨w24, hw⟩ : ∃ w, w = w23.alloc (.cells #[.int .i64 0, .int .i64 0, .int .i64 0, .int .i64 0, .int .i64 0, .string ⟨#[]⟩, .int .i64 0, .bool false] 24) := ⟨_, rfl⟩
    have hb : Below w23.heap.size w23 w24 := by rw [hw]; exact (Below.refl _ _).alloc (Nat.le_refl _) _
    have hMp324 : Hid (MoAt w24 p3 0 0 0 0 0 ⟨#[]⟩ 0 false) := Lib.hid (by rw [hw, hp3]; exact (MapKept.heap_alloc _ _).1)
    have hgep3 : Hid (W.heap.size ≤ p3) := Lib.hid (by rw [hp3]; exact hB23.out.size)
    replace hp3 := Lib.hid hp3
    replace hw := Lib.hid hw
    have hB24 := Lib.hid (hB23.out.trans (hb.mono hB23.out.size))
    have hL24 := Lib.hid (hL.out.below hB24.out hL.out.size)
    clear hb hB23 hL23
    go_upto_region 17 with fail
    rw [← hw.out, ← hp3.out]
    clear hw hp3
    obtain ⟨cp30, cp31, cp32, cp33, cp34, cp35, cp36, cp37⟩ := MomAt.of_heap hMp324.out
    go_wp2_with fail
    refine (works_c w24 hL24.out).mono ?_
    rintro e w ⟨rfl, hb⟩
    go_wp2_with fail
    go_ret
    exact ⟨rfl, hB24.out.trans (hb.mono hB24.out.size)⟩
set_option maxRecDepth 100000 in
set_option maxHeartbeats 4000000 in
theorem timeBack_8 (m : MB) (kind : Int) (s : ByteArray) (W : World) (hL : LaidT W) (hkk : kind = 8) (T : ByteArray) (hv : validP m.P = true) (eT : textMom kind m.P = (T.data.toList, 0)) (hsm : m.s.size ≤ 1000) (hss : s.size ≤ 1000) (hs : ¬ ((m.s.size : Int) > 300)) (hs2 : ¬ ((s.size : Int) > 300)) : Calls Tryz.prog 4 #[.agg #[.int .i64 m.y, .int .i64 m.mo, .int .i64 m.d, .int .i64 m.h, .int .i64 m.mi, .string m.s, .int .i64 m.z, .bool m.has], .int .i64 kind, .string s] W (fun e w' => e = .returned (.bool true) ∧ Below W.heap.size W w') := by
  have hok : TimeP.kindOk kind = true := by rw [hkk]; rfl
  have hTl := text_len (m := m.P) hv hok
  have e2 := back_text (m := m.P) hv hok
  rw [eT] at hTl e2
  have hTs : T.size ≤ 1000 := by rw [← list_len]; exact hTl
  have e2 : parseM kind T.data.toList = (MB.P m, 0) := by rw [e2, hkk]; rfl
  have j6 : (kind == 6) = false := by rw [hkk]; rfl
  have j7 : (kind == 7) = false := by rw [hkk]; rfl
  have c1 : Hid (∀ w, LaidT w → Calls Tryz.prog 18 #[.int .i64 kind, .agg #[.int .i64 m.y, .int .i64 m.mo, .int .i64 m.d, .int .i64 m.h, .int .i64 m.mi, .string m.s, .int .i64 m.z, .bool m.has]] w (fun e w' => e = .returned (.tuple #[.string T, .int .i64 0]) ∧ Below w.heap.size w w')) := Lib.hid (fun w hw => Text_c m kind T 0 eT hsm w hw)
  have c2 : Hid (∀ w, LaidT w → Calls Tryz.prog 15 #[.int .i64 kind, .string T] w (fun e w' => e = .returned (.tuple #[.agg #[.int .i64 m.y, .int .i64 m.mo, .int .i64 m.d, .int .i64 m.h, .int .i64 m.mi, .string m.s, .int .i64 m.z, .bool m.has], .int .i64 0]) ∧ Below w.heap.size w w')) := Lib.hid (fun w hw => Parse_c kind T m 0 e2 hTs w hw)
  clear eT hTl e2 hTs hok
  replace hv := Lib.hid hv
  replace hkk := Lib.hid hkk
  rcases parse_cases kind s.data.toList with ⟨b', eb, hkb, hvb, hnb⟩ | ⟨g, hg, eb⟩
  · obtain ⟨b, hb⟩ : ∃ b : MB, b.P = b' := ⟨MB.of b', rfl⟩
    subst hb
    have hsb : b.s.size ≤ 1000 := by rw [← list_len]; have : b.s.data.toList.length ≤ 60 := valid_short hvb; omega
    obtain ⟨U, k4, eU⟩ := SB.ex (textMom kind b.P)
    have hk4 := text_good (m := b.P) hkb hvb
    have hUl := text_len (m := b.P) hvb hkb
    have e5 := back_text (m := b.P) hvb hkb
    rw [eU] at hk4 hUl e5
    rw [hnb] at e5
    replace hk4 : k4 = 0 := hk4
    subst hk4
    have hUs : U.size ≤ 1000 := by rw [← list_len]; exact hUl
    have c3 : Hid (∀ w, LaidT w → Calls Tryz.prog 15 #[.int .i64 kind, .string s] w (fun e w' => e = .returned (.tuple #[.agg #[.int .i64 b.y, .int .i64 b.mo, .int .i64 b.d, .int .i64 b.h, .int .i64 b.mi, .string b.s, .int .i64 b.z, .bool b.has], .int .i64 0]) ∧ Below w.heap.size w w')) := Lib.hid (fun w hw => Parse_c kind s b 0 eb hss w hw)
    have c4 : Hid (∀ w, LaidT w → Calls Tryz.prog 18 #[.int .i64 kind, .agg #[.int .i64 b.y, .int .i64 b.mo, .int .i64 b.d, .int .i64 b.h, .int .i64 b.mi, .string b.s, .int .i64 b.z, .bool b.has]] w (fun e w' => e = .returned (.tuple #[.string U, .int .i64 0]) ∧ Below w.heap.size w w')) := Lib.hid (fun w hw => Text_c b kind U 0 eU hsb w hw)
    have c5 : Hid (∀ w, LaidT w → Calls Tryz.prog 15 #[.int .i64 kind, .string U] w (fun e w' => e = .returned (.tuple #[.agg #[.int .i64 b.y, .int .i64 b.mo, .int .i64 b.d, .int .i64 b.h, .int .i64 b.mi, .string b.s, .int .i64 b.z, .bool b.has], .int .i64 0]) ∧ Below w.heap.size w w')) := Lib.hid (fun w hw => Parse_c kind U b 0 e5 hUs w hw)
    clear eb hkb hvb hnb hsb eU hUl e5 hUs
    obtain ⟨q, hq⟩ : ∃ q, q = W.heap.size := ⟨_, rfl⟩
    obtain ⟨w1, hw⟩ : ∃ w, w = W.alloc (.cells #[.int .i64 m.y, .int .i64 m.mo, .int .i64 m.d, .int .i64 m.h, .int .i64 m.mi, .string m.s, .int .i64 m.z, .bool m.has] 24) := ⟨_, rfl⟩
    have hB1 : Hid (Below W.heap.size W w1) := Lib.hid (by rw [hw]; exact (Below.refl _ _).alloc (Nat.le_refl _) _)
    have hL1 := Lib.hid (hL.below hB1.out hL.size)
    have hMq1 : Hid (MoAt w1 q m.y m.mo m.d m.h m.mi m.s m.z m.has) := Lib.hid (by rw [hw, hq]; exact (MapKept.heap_alloc _ _).1)
    have hgeq : Hid (W.heap.size ≤ q) := Lib.hid (by rw [hq]; exact Nat.le_refl _)
    replace hq := Lib.hid hq
    replace hw := Lib.hid hw
    replace hL := Lib.hid hL
    go_enter Tryz.func4, Tryz.ntmps4
    go_upto_region 1 with fail
    rw [← hw.out, ← hq.out]
    clear hw
    obtain ⟨cq0, cq1, cq2, cq3, cq4, cq5, cq6, cq7⟩ := MomAt.of_heap hMq1.out
    go_wp2_with fail
    refine (c1.out w1 hL1.out).mono ?_
    rintro e w2 ⟨rfl, hb⟩
    have hB2 := Lib.hid (hB1.out.trans (hb.mono hB1.out.size))
    have hL2 := Lib.hid (hL.out.below hB2.out hL.out.size)
    have hMq2 : Hid (MoAt w2 q m.y m.mo m.d m.h m.mi m.s m.z m.has) := Lib.hid ((hb.block q (heap_lt hMq1.out)).trans hMq1.out)
    clear hb hB1 hL1 hMq1
    clear cq0 cq1 cq2 cq3 cq4 cq5 cq6 cq7
    go_upto_if 35 with fail
    go_cut [9, 10, 11] from 36 to 62 (fun v9 v10 v11 wx => Hid (Below W.heap.size W wx))
    case first =>
      obtain ⟨cq0, cq1, cq2, cq3, cq4, cq5, cq6, cq7⟩ := MomAt.of_heap hMq2.out
      obtain ⟨p1, hp1⟩ : ∃ q, q = w2.heap.size := ⟨_, rfl⟩
      obtain ⟨w3, hw⟩ : ∃ w, w = w2.alloc (.cells #[.int .i64 m.y, .int .i64 m.mo, .int .i64 m.d, .int .i64 m.h, .int .i64 m.mi, .string m.s, .int .i64 m.z, .bool m.has] 24) := ⟨_, rfl⟩
      have hb : Below w2.heap.size w2 w3 := by rw [hw]; exact (Below.refl _ _).alloc (Nat.le_refl _) _
      have hMp13 : Hid (MoAt w3 p1 m.y m.mo m.d m.h m.mi m.s m.z m.has) := Lib.hid (by rw [hw, hp1]; exact (MapKept.heap_alloc _ _).1)
      have hgep1 : Hid (W.heap.size ≤ p1) := Lib.hid (by rw [hp1]; exact hB2.out.size)
      have hnqp1 : Hid (q ≠ p1) := Lib.hid (by rw [hp1]; exact Nat.ne_of_lt (heap_lt hMq2.out))
      have hnp1q : Hid (p1 ≠ q) := Lib.hid (fun e => hnqp1.out e.symm)
      replace hp1 := Lib.hid hp1
      replace hw := Lib.hid hw
      have hB3 := Lib.hid (hB2.out.trans (hb.mono hB2.out.size))
      have hL3 := Lib.hid (hL.out.below hB3.out hL.out.size)
      have hMq3 : Hid (MoAt w3 q m.y m.mo m.d m.h m.mi m.s m.z m.has) := Lib.hid ((hb.block q (heap_lt hMq2.out)).trans hMq2.out)
      clear hb hB2 hL2 hMq2
      go_upto_region 6 with fail
      rw [← hw.out, ← hp1.out]
      clear hw hp1
      clear cq0 cq1 cq2 cq3 cq4 cq5 cq6 cq7
      go_wp2_with fail
      refine (c2.out w3 hL3.out).mono ?_
      rintro e w4 ⟨rfl, hb⟩
      have hB4 := Lib.hid (hB3.out.trans (hb.mono hB3.out.size))
      have hL4 := Lib.hid (hL.out.below hB4.out hL.out.size)
      have hMq4 : Hid (MoAt w4 q m.y m.mo m.d m.h m.mi m.s m.z m.has) := Lib.hid ((hb.block q (heap_lt hMq3.out)).trans hMq3.out)
      have hMp14 : Hid (MoAt w4 p1 m.y m.mo m.d m.h m.mi m.s m.z m.has) := Lib.hid ((hb.block p1 (heap_lt hMp13.out)).trans hMp13.out)
      clear hb hB3 hL3 hMq3 hMp13
      obtain ⟨p2, hp2⟩ : ∃ q, q = w4.heap.size := ⟨_, rfl⟩
      obtain ⟨w5, hw⟩ : ∃ w, w = w4.alloc (.cells #[.int .i64 m.y, .int .i64 m.mo, .int .i64 m.d, .int .i64 m.h, .int .i64 m.mi, .string m.s, .int .i64 m.z, .bool m.has] 24) := ⟨_, rfl⟩
      have hb : Below w4.heap.size w4 w5 := by rw [hw]; exact (Below.refl _ _).alloc (Nat.le_refl _) _
      have hMp25 : Hid (MoAt w5 p2 m.y m.mo m.d m.h m.mi m.s m.z m.has) := Lib.hid (by rw [hw, hp2]; exact (MapKept.heap_alloc _ _).1)
      have hgep2 : Hid (W.heap.size ≤ p2) := Lib.hid (by rw [hp2]; exact hB4.out.size)
      have hnqp2 : Hid (q ≠ p2) := Lib.hid (by rw [hp2]; exact Nat.ne_of_lt (heap_lt hMq4.out))
      have hnp2q : Hid (p2 ≠ q) := Lib.hid (fun e => hnqp2.out e.symm)
      have hnp1p2 : Hid (p1 ≠ p2) := Lib.hid (by rw [hp2]; exact Nat.ne_of_lt (heap_lt hMp14.out))
      have hnp2p1 : Hid (p2 ≠ p1) := Lib.hid (fun e => hnp1p2.out e.symm)
      replace hp2 := Lib.hid hp2
      replace hw := Lib.hid hw
      have hB5 := Lib.hid (hB4.out.trans (hb.mono hB4.out.size))
      have hL5 := Lib.hid (hL.out.below hB5.out hL.out.size)
      have hMq5 : Hid (MoAt w5 q m.y m.mo m.d m.h m.mi m.s m.z m.has) := Lib.hid ((hb.block q (heap_lt hMq4.out)).trans hMq4.out)
      have hMp15 : Hid (MoAt w5 p1 m.y m.mo m.d m.h m.mi m.s m.z m.has) := Lib.hid ((hb.block p1 (heap_lt hMp14.out)).trans hMp14.out)
      clear hb hB4 hL4 hMq4 hMp14
      go_upto_region 12 with fail
      rw [← hw.out, ← hp2.out]
      clear hw hp2
      obtain ⟨cp10, cp11, cp12, cp13, cp14, cp15, cp16, cp17⟩ := MomAt.of_heap hMp15.out
      obtain ⟨cp20, cp21, cp22, cp23, cp24, cp25, cp26, cp27⟩ := MomAt.of_heap hMp25.out
      go_wp2_with fail
      go_meet
      exact hB5
    have hB := hcut
    clear hcut
    obtain ⟨w22, hw⟩ : ∃ w, w = wc := ⟨_, rfl⟩
    rw [← hw] at hB ⊢
    clear hw hB2 hL2 hMq2
    have hB22 := hB
    have hL22 := Lib.hid (hL.out.below hB.out hL.out.size)
    clear hB
    go_wp2_with fail
    refine (c3.out w22 hL22.out).mono ?_
    rintro e w23 ⟨rfl, hb⟩
    have hB23 := Lib.hid (hB22.out.trans (hb.mono hB22.out.size))
    have hL23 := Lib.hid (hL.out.below hB23.out hL.out.size)
    clear hb hB22 hL22
    obtain ⟨p3, hp3⟩ : ∃ q, q = w23.heap.size := ⟨_, rfl⟩
    obtain ⟨w24, hw⟩ : ∃ w, w = w23.alloc (.cells #[.int .i64 b.y, .int .i64 b.mo, .int .i64 b.d, .int .i64 b.h, .int .i64 b.mi, .string b.s, .int .i64 b.z, .bool b.has] 24) := ⟨_, rfl⟩
    have hb : Below w23.heap.size w23 w24 := by rw [hw]; exact (Below.refl _ _).alloc (Nat.le_refl _) _
    have hMp324 : Hid (MoAt w24 p3 b.y b.mo b.d b.h b.mi b.s b.z b.has) := Lib.hid (by rw [hw, hp3]; exact (MapKept.heap_alloc _ _).1)
    have hgep3 : Hid (W.heap.size ≤ p3) := Lib.hid (by rw [hp3]; exact hB23.out.size)
    replace hp3 := Lib.hid hp3
    replace hw := Lib.hid hw
    have hB24 := Lib.hid (hB23.out.trans (hb.mono hB23.out.size))
    have hL24 := Lib.hid (hL.out.below hB24.out hL.out.size)
    clear hb hB23 hL23
    go_upto_region 17 with fail
    rw [← hw.out, ← hp3.out]
    clear hw hp3
    obtain ⟨cp30, cp31, cp32, cp33, cp34, cp35, cp36, cp37⟩ := MomAt.of_heap hMp324.out
    go_wp2_with fail
    refine (c4.out w24 hL24.out).mono ?_
    rintro e w25 ⟨rfl, hb⟩
    have hB25 := Lib.hid (hB24.out.trans (hb.mono hB24.out.size))
    have hL25 := Lib.hid (hL.out.below hB25.out hL.out.size)
    have hMp325 : Hid (MoAt w25 p3 b.y b.mo b.d b.h b.mi b.s b.z b.has) := Lib.hid ((hb.block p3 (heap_lt hMp324.out)).trans hMp324.out)
    clear hb hB24 hL24 hMp324
    clear cp30 cp31 cp32 cp33 cp34 cp35 cp36 cp37
    go_wp2_with fail
    refine (c5.out w25 hL25.out).mono ?_
    rintro e w26 ⟨rfl, hb⟩
    have hB26 := Lib.hid (hB25.out.trans (hb.mono hB25.out.size))
    have hL26 := Lib.hid (hL.out.below hB26.out hL.out.size)
    have hMp326 : Hid (MoAt w26 p3 b.y b.mo b.d b.h b.mi b.s b.z b.has) := Lib.hid ((hb.block p3 (heap_lt hMp325.out)).trans hMp325.out)
    clear hb hB25 hL25 hMp325
    obtain ⟨p4, hp4⟩ : ∃ q, q = w26.heap.size := ⟨_, rfl⟩
    obtain ⟨w27, hw⟩ : ∃ w, w = w26.alloc (.cells #[.int .i64 b.y, .int .i64 b.mo, .int .i64 b.d, .int .i64 b.h, .int .i64 b.mi, .string b.s, .int .i64 b.z, .bool b.has] 24) := ⟨_, rfl⟩
    have hb : Below w26.heap.size w26 w27 := by rw [hw]; exact (Below.refl _ _).alloc (Nat.le_refl _) _
    have hMp427 : Hid (MoAt w27 p4 b.y b.mo b.d b.h b.mi b.s b.z b.has) := Lib.hid (by rw [hw, hp4]; exact (MapKept.heap_alloc _ _).1)
    have hgep4 : Hid (W.heap.size ≤ p4) := Lib.hid (by rw [hp4]; exact hB26.out.size)
    have hnp3p4 : Hid (p3 ≠ p4) := Lib.hid (by rw [hp4]; exact Nat.ne_of_lt (heap_lt hMp326.out))
    have hnp4p3 : Hid (p4 ≠ p3) := Lib.hid (fun e => hnp3p4.out e.symm)
    replace hp4 := Lib.hid hp4
    replace hw := Lib.hid hw
    have hB27 := Lib.hid (hB26.out.trans (hb.mono hB26.out.size))
    have hL27 := Lib.hid (hL.out.below hB27.out hL.out.size)
    have hMp327 : Hid (MoAt w27 p3 b.y b.mo b.d b.h b.mi b.s b.z b.has) := Lib.hid ((hb.block p3 (heap_lt hMp326.out)).trans hMp326.out)
    clear hb hB26 hL26 hMp326
    go_upto_region 21 with fail
    rw [← hw.out, ← hp4.out]
    clear hw hp4
    obtain ⟨cp30, cp31, cp32, cp33, cp34, cp35, cp36, cp37⟩ := MomAt.of_heap hMp327.out
    obtain ⟨cp40, cp41, cp42, cp43, cp44, cp45, cp46, cp47⟩ := MomAt.of_heap hMp427.out
    go_wp2_with fail
    refine (works_c w27 hL27.out).mono ?_
    rintro e w ⟨rfl, hb⟩
    go_wp2_with fail
    go_ret
    exact ⟨rfl, hB27.out.trans (hb.mono hB27.out.size)⟩
  · have gg : (g != 0) = true := by simpa using hg
    replace hg := Lib.hid hg
    have c3 : Hid (∀ w, LaidT w → Calls Tryz.prog 15 #[.int .i64 kind, .string s] w (fun e w' => e = .returned (.tuple #[.agg #[.int .i64 0, .int .i64 0, .int .i64 0, .int .i64 0, .int .i64 0, .string ⟨#[]⟩, .int .i64 0, .bool false], .int .i64 g]) ∧ Below w.heap.size w w')) := Lib.hid (fun w hw => Parse_c kind s ⟨0, 0, 0, 0, 0, ⟨#[]⟩, 0, false⟩ g eb hss w hw)
    clear eb
    obtain ⟨q, hq⟩ : ∃ q, q = W.heap.size := ⟨_, rfl⟩
    obtain ⟨w1, hw⟩ : ∃ w, w = W.alloc (.cells #[.int .i64 m.y, .int .i64 m.mo, .int .i64 m.d, .int .i64 m.h, .int .i64 m.mi, .string m.s, .int .i64 m.z, .bool m.has] 24) := ⟨_, rfl⟩
    have hB1 : Hid (Below W.heap.size W w1) := Lib.hid (by rw [hw]; exact (Below.refl _ _).alloc (Nat.le_refl _) _)
    have hL1 := Lib.hid (hL.below hB1.out hL.size)
    have hMq1 : Hid (MoAt w1 q m.y m.mo m.d m.h m.mi m.s m.z m.has) := Lib.hid (by rw [hw, hq]; exact (MapKept.heap_alloc _ _).1)
    have hgeq : Hid (W.heap.size ≤ q) := Lib.hid (by rw [hq]; exact Nat.le_refl _)
    replace hq := Lib.hid hq
    replace hw := Lib.hid hw
    replace hL := Lib.hid hL
    go_enter Tryz.func4, Tryz.ntmps4
    go_upto_region 1 with fail
    rw [← hw.out, ← hq.out]
    clear hw
    obtain ⟨cq0, cq1, cq2, cq3, cq4, cq5, cq6, cq7⟩ := MomAt.of_heap hMq1.out
    go_wp2_with fail
    refine (c1.out w1 hL1.out).mono ?_
    rintro e w2 ⟨rfl, hb⟩
    have hB2 := Lib.hid (hB1.out.trans (hb.mono hB1.out.size))
    have hL2 := Lib.hid (hL.out.below hB2.out hL.out.size)
    have hMq2 : Hid (MoAt w2 q m.y m.mo m.d m.h m.mi m.s m.z m.has) := Lib.hid ((hb.block q (heap_lt hMq1.out)).trans hMq1.out)
    clear hb hB1 hL1 hMq1
    clear cq0 cq1 cq2 cq3 cq4 cq5 cq6 cq7
    go_upto_if 35 with fail
    go_cut [9, 10, 11] from 36 to 62 (fun v9 v10 v11 wx => Hid (Below W.heap.size W wx))
    case first =>
      obtain ⟨cq0, cq1, cq2, cq3, cq4, cq5, cq6, cq7⟩ := MomAt.of_heap hMq2.out
      obtain ⟨p1, hp1⟩ : ∃ q, q = w2.heap.size := ⟨_, rfl⟩
      obtain ⟨w3, hw⟩ : ∃ w, w = w2.alloc (.cells #[.int .i64 m.y, .int .i64 m.mo, .int .i64 m.d, .int .i64 m.h, .int .i64 m.mi, .string m.s, .int .i64 m.z, .bool m.has] 24) := ⟨_, rfl⟩
      have hb : Below w2.heap.size w2 w3 := by rw [hw]; exact (Below.refl _ _).alloc (Nat.le_refl _) _
      have hMp13 : Hid (MoAt w3 p1 m.y m.mo m.d m.h m.mi m.s m.z m.has) := Lib.hid (by rw [hw, hp1]; exact (MapKept.heap_alloc _ _).1)
      have hgep1 : Hid (W.heap.size ≤ p1) := Lib.hid (by rw [hp1]; exact hB2.out.size)
      have hnqp1 : Hid (q ≠ p1) := Lib.hid (by rw [hp1]; exact Nat.ne_of_lt (heap_lt hMq2.out))
      have hnp1q : Hid (p1 ≠ q) := Lib.hid (fun e => hnqp1.out e.symm)
      replace hp1 := Lib.hid hp1
      replace hw := Lib.hid hw
      have hB3 := Lib.hid (hB2.out.trans (hb.mono hB2.out.size))
      have hL3 := Lib.hid (hL.out.below hB3.out hL.out.size)
      have hMq3 : Hid (MoAt w3 q m.y m.mo m.d m.h m.mi m.s m.z m.has) := Lib.hid ((hb.block q (heap_lt hMq2.out)).trans hMq2.out)
      clear hb hB2 hL2 hMq2
      go_upto_region 6 with fail
      rw [← hw.out, ← hp1.out]
      clear hw hp1
      clear cq0 cq1 cq2 cq3 cq4 cq5 cq6 cq7
      go_wp2_with fail
      refine (c2.out w3 hL3.out).mono ?_
      rintro e w4 ⟨rfl, hb⟩
      have hB4 := Lib.hid (hB3.out.trans (hb.mono hB3.out.size))
      have hL4 := Lib.hid (hL.out.below hB4.out hL.out.size)
      have hMq4 : Hid (MoAt w4 q m.y m.mo m.d m.h m.mi m.s m.z m.has) := Lib.hid ((hb.block q (heap_lt hMq3.out)).trans hMq3.out)
      have hMp14 : Hid (MoAt w4 p1 m.y m.mo m.d m.h m.mi m.s m.z m.has) := Lib.hid ((hb.block p1 (heap_lt hMp13.out)).trans hMp13.out)
      clear hb hB3 hL3 hMq3 hMp13
      obtain ⟨p2, hp2⟩ : ∃ q, q = w4.heap.size := ⟨_, rfl⟩
      obtain ⟨w5, hw⟩ : ∃ w, w = w4.alloc (.cells #[.int .i64 m.y, .int .i64 m.mo, .int .i64 m.d, .int .i64 m.h, .int .i64 m.mi, .string m.s, .int .i64 m.z, .bool m.has] 24) := ⟨_, rfl⟩
      have hb : Below w4.heap.size w4 w5 := by rw [hw]; exact (Below.refl _ _).alloc (Nat.le_refl _) _
      have hMp25 : Hid (MoAt w5 p2 m.y m.mo m.d m.h m.mi m.s m.z m.has) := Lib.hid (by rw [hw, hp2]; exact (MapKept.heap_alloc _ _).1)
      have hgep2 : Hid (W.heap.size ≤ p2) := Lib.hid (by rw [hp2]; exact hB4.out.size)
      have hnqp2 : Hid (q ≠ p2) := Lib.hid (by rw [hp2]; exact Nat.ne_of_lt (heap_lt hMq4.out))
      have hnp2q : Hid (p2 ≠ q) := Lib.hid (fun e => hnqp2.out e.symm)
      have hnp1p2 : Hid (p1 ≠ p2) := Lib.hid (by rw [hp2]; exact Nat.ne_of_lt (heap_lt hMp14.out))
      have hnp2p1 : Hid (p2 ≠ p1) := Lib.hid (fun e => hnp1p2.out e.symm)
      replace hp2 := Lib.hid hp2
      replace hw := Lib.hid hw
      have hB5 := Lib.hid (hB4.out.trans (hb.mono hB4.out.size))
      have hL5 := Lib.hid (hL.out.below hB5.out hL.out.size)
      have hMq5 : Hid (MoAt w5 q m.y m.mo m.d m.h m.mi m.s m.z m.has) := Lib.hid ((hb.block q (heap_lt hMq4.out)).trans hMq4.out)
      have hMp15 : Hid (MoAt w5 p1 m.y m.mo m.d m.h m.mi m.s m.z m.has) := Lib.hid ((hb.block p1 (heap_lt hMp14.out)).trans hMp14.out)
      clear hb hB4 hL4 hMq4 hMp14
      go_upto_region 12 with fail
      rw [← hw.out, ← hp2.out]
      clear hw hp2
      obtain ⟨cp10, cp11, cp12, cp13, cp14, cp15, cp16, cp17⟩ := MomAt.of_heap hMp15.out
      obtain ⟨cp20, cp21, cp22, cp23, cp24, cp25, cp26, cp27⟩ := MomAt.of_heap hMp25.out
      go_wp2_with fail
      go_meet
      exact hB5
    have hB := hcut
    clear hcut
    obtain ⟨w22, hw⟩ : ∃ w, w = wc := ⟨_, rfl⟩
    rw [← hw] at hB ⊢
    clear hw hB2 hL2 hMq2
    have hB22 := hB
    have hL22 := Lib.hid (hL.out.below hB.out hL.out.size)
    clear hB
    go_wp2_with fail
    refine (c3.out w22 hL22.out).mono ?_
    rintro e w23 ⟨rfl, hb⟩
    have hB23 := Lib.hid (hB22.out.trans (hb.mono hB22.out.size))
    have hL23 := Lib.hid (hL.out.below hB23.out hL.out.size)
    clear hb hB22 hL22
    obtain ⟨p3, hp3⟩ : ∃ q, q = w23.heap.size := ⟨_, rfl⟩
    obtain ⟨w24, hw⟩ : ∃ w, w = w23.alloc (.cells #[.int .i64 0, .int .i64 0, .int .i64 0, .int .i64 0, .int .i64 0, .string ⟨#[]⟩, .int .i64 0, .bool false] 24) := ⟨_, rfl⟩
    have hb : Below w23.heap.size w23 w24 := by rw [hw]; exact (Below.refl _ _).alloc (Nat.le_refl _) _
    have hMp324 : Hid (MoAt w24 p3 0 0 0 0 0 ⟨#[]⟩ 0 false) := Lib.hid (by rw [hw, hp3]; exact (MapKept.heap_alloc _ _).1)
    have hgep3 : Hid (W.heap.size ≤ p3) := Lib.hid (by rw [hp3]; exact hB23.out.size)
    replace hp3 := Lib.hid hp3
    replace hw := Lib.hid hw
    have hB24 := Lib.hid (hB23.out.trans (hb.mono hB23.out.size))
    have hL24 := Lib.hid (hL.out.below hB24.out hL.out.size)
    clear hb hB23 hL23
    go_upto_region 17 with fail
    rw [← hw.out, ← hp3.out]
    clear hw hp3
    obtain ⟨cp30, cp31, cp32, cp33, cp34, cp35, cp36, cp37⟩ := MomAt.of_heap hMp324.out
    go_wp2_with fail
    refine (works_c w24 hL24.out).mono ?_
    rintro e w ⟨rfl, hb⟩
    go_wp2_with fail
    go_ret
    exact ⟨rfl, hB24.out.trans (hb.mono hB24.out.size)⟩
set_option maxRecDepth 100000 in
set_option maxHeartbeats 4000000 in
theorem timeBack_walk (m : MB) (kind : Int) (s : ByteArray) (W : World) (hL : LaidT W) : Calls Tryz.prog 4 #[.agg #[.int .i64 m.y, .int .i64 m.mo, .int .i64 m.d, .int .i64 m.h, .int .i64 m.mi, .string m.s, .int .i64 m.z, .bool m.has], .int .i64 kind, .string s] W (fun e w' => e = .returned (.bool true) ∧ Below W.heap.size W w') := by
  by_cases hs : (m.s.size : Int) > 300
  · obtain ⟨q, hq⟩ : ∃ q, q = W.heap.size := ⟨_, rfl⟩
    obtain ⟨w1, hw⟩ : ∃ w, w = W.alloc (.cells #[.int .i64 m.y, .int .i64 m.mo, .int .i64 m.d, .int .i64 m.h, .int .i64 m.mi, .string m.s, .int .i64 m.z, .bool m.has] 24) := ⟨_, rfl⟩
    have hB1 : Hid (Below W.heap.size W w1) := Lib.hid (by rw [hw]; exact (Below.refl _ _).alloc (Nat.le_refl _) _)
    have hL1 := Lib.hid (hL.below hB1.out hL.size)
    have hMq1 : Hid (MoAt w1 q m.y m.mo m.d m.h m.mi m.s m.z m.has) := Lib.hid (by rw [hw, hq]; exact (MapKept.heap_alloc _ _).1)
    have hgeq : Hid (W.heap.size ≤ q) := Lib.hid (by rw [hq]; exact Nat.le_refl _)
    replace hq := Lib.hid hq
    replace hw := Lib.hid hw
    replace hL := Lib.hid hL
    go_enter Tryz.func4, Tryz.ntmps4
    go_upto_region 1 with fail
    rw [← hw.out, ← hq.out]
    clear hw
    obtain ⟨cq0, cq1, cq2, cq3, cq4, cq5, cq6, cq7⟩ := MomAt.of_heap hMq1.out
    go_wp2_with fail
    refine (works_c w1 hL1.out).mono ?_
    rintro e w ⟨rfl, hb⟩
    go_wp2_with fail
    go_ret
    exact ⟨rfl, hB1.out.trans (hb.mono hB1.out.size)⟩
  · by_cases hs2 : (s.size : Int) > 300
    · obtain ⟨q, hq⟩ : ∃ q, q = W.heap.size := ⟨_, rfl⟩
      obtain ⟨w1, hw⟩ : ∃ w, w = W.alloc (.cells #[.int .i64 m.y, .int .i64 m.mo, .int .i64 m.d, .int .i64 m.h, .int .i64 m.mi, .string m.s, .int .i64 m.z, .bool m.has] 24) := ⟨_, rfl⟩
      have hB1 : Hid (Below W.heap.size W w1) := Lib.hid (by rw [hw]; exact (Below.refl _ _).alloc (Nat.le_refl _) _)
      have hL1 := Lib.hid (hL.below hB1.out hL.size)
      have hMq1 : Hid (MoAt w1 q m.y m.mo m.d m.h m.mi m.s m.z m.has) := Lib.hid (by rw [hw, hq]; exact (MapKept.heap_alloc _ _).1)
      have hgeq : Hid (W.heap.size ≤ q) := Lib.hid (by rw [hq]; exact Nat.le_refl _)
      replace hq := Lib.hid hq
      replace hw := Lib.hid hw
      replace hL := Lib.hid hL
      go_enter Tryz.func4, Tryz.ntmps4
      go_upto_region 1 with fail
      rw [← hw.out, ← hq.out]
      clear hw
      obtain ⟨cq0, cq1, cq2, cq3, cq4, cq5, cq6, cq7⟩ := MomAt.of_heap hMq1.out
      go_wp2_with fail
      refine (works_c w1 hL1.out).mono ?_
      rintro e w ⟨rfl, hb⟩
      go_wp2_with fail
      go_ret
      exact ⟨rfl, hB1.out.trans (hb.mono hB1.out.size)⟩
    · have hsm : m.s.size ≤ 1000 := by omega
      have hss : s.size ≤ 1000 := by omega
      obtain ⟨T, k, eT⟩ := SB.ex (textMom kind m.P)
      by_cases hk : k = 0
      · subst hk
        obtain ⟨hok, hv⟩ := text_ok (m := m.P) (k := kind) (by rw [eT])
        have h3 : kind = 6 ∨ kind = 7 ∨ kind = 8 := by unfold TimeP.kindOk at hok; simpa using hok
        rcases h3 with h3 | h3 | h3
        · exact timeBack_6 m kind s W hL h3 T hv eT hsm hss hs hs2
        · exact timeBack_7 m kind s W hL h3 T hv eT hsm hss hs hs2
        · exact timeBack_8 m kind s W hL h3 T hv eT hsm hss hs hs2
      · exact timeBack_e m kind s W hL T k hk eT hsm hss hs hs2
end Go.Proofs.YtgobpoeccdgeiaaGreatDoor
