/- DurOne: one canonical text for equal durations; the walk of the statement. -/
import Derived.Test.YtjndcehkgfbagaaGreatDoorNi
import Derived.Test.YtjndcehkgfbagaaGreatDoorNi
namespace Go.Proofs.YtjndcehkgfbagaaGreatDoor
open Go.RowKit NumP DurP Go.Proofs.YtjndcehkgfbagaaGreatDoorW.PrintWords
set_option linter.unusedVariables false

/-- What the texts of two numbers of months say. -/
theorem one_months (a b : Int) (ha : ¬ (a < -most ∨ most < a)) (hb : ¬ (b < -most ∨ most < b)) : ∃ (x y : ByteArray) (p : Bool), textMP a = (x.data.toList, 0) ∧ textMP b = (y.data.toList, 0) ∧ (x.toList == y.toList) = p ∧ (a == b) = p := by
  refine ⟨⟨(textMP a).1.toArray⟩, ⟨(textMP b).1.toArray⟩, decide (a = b), ?_, ?_, ?_, ?_⟩
  · rw [← (months_back a ha).1]
  · rw [← (months_back b hb).1]
  · rw [ByteArray.toList_mk, ByteArray.toList_mk]
    by_cases h : a = b
    · rw [h]; simp
    · have : (textMP a).1 ≠ (textMP b).1 := fun e => h (textMP_inj ha hb e)
      simp [h, this]
  · by_cases h : a = b <;> simp [h]
theorem one_seconds (l m : List UInt8) (h : (secondsP l).2 = 0) (h2 : (secondsP m).2 = 0) : ∃ (c d x y : ByteArray) (p : Bool), secondsP l = (c.data.toList, 0) ∧ secondsP m = (d.data.toList, 0) ∧ textSP c.data.toList = (x.data.toList, 0) ∧ textSP d.data.toList = (y.data.toList, 0) ∧
    (x.toList == y.toList) = p ∧ (c.toList == d.toList) = p ∧ c.size ≤ 100 ∧ d.size ≤ 100 := by
  rcases secondsP_fine l with ⟨u, hu, e⟩ | ⟨k, hk, e⟩
  · rcases secondsP_fine m with ⟨v, hv, e2⟩ | ⟨k, hk, e2⟩
    · refine ⟨⟨(textN u).toArray⟩, ⟨(textN v).toArray⟩, ⟨(textSP (textN u)).1.toArray⟩, ⟨(textSP (textN v)).1.toArray⟩, decide (textN u = textN v), e, e2, ?_, ?_, ?_, ?_, ?_, ?_⟩
      · show textSP (textN u) = ((textSP (textN u)).1, 0)
        rw [← (seconds_back hu).1]
      · show textSP (textN v) = ((textSP (textN v)).1, 0)
        rw [← (seconds_back hv).1]
      · rw [ByteArray.toList_mk, ByteArray.toList_mk]
        by_cases h : textN u = textN v
        · rw [h]; simp
        · have : (textSP (textN u)).1 ≠ (textSP (textN v)).1 := fun e => h (textSP_inj hu hv e)
          simp [h, this]
      · rw [ByteArray.toList_mk, ByteArray.toList_mk]
        by_cases h : textN u = textN v <;> simp [h]
      · rw [← list_len]; have := textN_len hu.1; show (textN u).length ≤ 100; omega
      · rw [← list_len]; have := textN_len hv.1; show (textN v).length ≤ 100; omega
    · rw [e2] at h2; exact absurd h2 hk
  · rw [e] at h; exact absurd h hk
set_option maxRecDepth 100000 in
set_option maxHeartbeats 8000000 in
theorem one_walk (s t : ByteArray) (W : World) (hL : LaidD W) (hs : s.size ≤ maxLen) (ht : t.size ≤ maxLen) : Calls Tryz.prog 9 #[.string s, .string t] W fun e w' => e = .returned (.bool true) ∧ Below W.heap.size W w' := by
  obtain ⟨a, ha⟩ : ∃ a, a = (monthsP s.data.toList).1 := ⟨_, rfl⟩
  obtain ⟨k, hk⟩ : ∃ k, k = (monthsP s.data.toList).2 := ⟨_, rfl⟩
  obtain ⟨b, hb⟩ : ∃ b, b = (monthsP t.data.toList).1 := ⟨_, rfl⟩
  obtain ⟨j, hj⟩ : ∃ j, j = (monthsP t.data.toList).2 := ⟨_, rfl⟩
  have c1 := Lib.hid (fun W => ParseMonths_at (s := s) rfl (show monthsP s.data.toList = (a, k) by rw [ha, hk]) W hs)
  have c2 := Lib.hid (fun W => ParseMonths_at (s := t) rfl (show monthsP t.data.toList = (b, j) by rw [hb, hj]) W ht)
  obtain ⟨x, y, p, e1, e2, hp1, hp2⟩ := one_months a b (by rw [ha]; exact monthsP_in _) (by rw [hb]; exact monthsP_in _)
  have c3 := Lib.hid (fun W hL => TextMonths_at (t := x) rfl e1 W hL)
  have c4 := Lib.hid (fun W hL => TextMonths_at (t := y) rfl e2 W hL)
  clear e1 e2 ha hk hb hj
  replace hL := Lib.hid hL
  by_cases hk0 : k = 0
  · have hkf : (k == 0) = true := by simpa using hk0
    replace hk0 := Lib.hid hk0
    by_cases hj0 : j = 0
    · have hjf : (j == 0) = true := by simpa using hj0
      replace hj0 := Lib.hid hj0
      by_cases hg : (secondsP s.data.toList).2 = 0
      · by_cases hh : (secondsP t.data.toList).2 = 0
        · obtain ⟨c, d, u, v, q, f1, f2, f3, f4, hq1, hq2, hcl, hdl⟩ := one_seconds s.data.toList t.data.toList hg hh
          have c5 := Lib.hid (fun W hL => ParseSeconds_at (s := s) (t := c) rfl rfl f1 W hL hs)
          have c6 := Lib.hid (fun W hL => ParseSeconds_at (s := t) (t := d) rfl rfl f2 W hL ht)
          have c7 := Lib.hid (fun W hL => TextSeconds_at (s := c) (t := u) rfl rfl f3 W hL (by show _ ≤ 2 ^ 63 - 1; omega))
          have c8 := Lib.hid (fun W hL => TextSeconds_at (s := d) (t := v) rfl rfl f4 W hL (by show _ ≤ 2 ^ 63 - 1; omega))
          clear f1 f2 f3 f4 hg hh hcl hdl
          go_enter Tryz.func9, Tryz.ntmps9
          go_wp2_with fail
          refine (c1.out W).mono ?_
          rintro e w1 ⟨rfl, hb1⟩
          have hB1 := Lib.hid (hb1)
          have hL1 := Lib.hid (hL.out.below hB1.out hL.out.num.size)
          clear hb1
          go_wp2_with fail
          refine (c2.out w1).mono ?_
          rintro e w2 ⟨rfl, hb2⟩
          have hB2 := Lib.hid (hB1.out.trans (hb2.mono hB1.out.size))
          have hL2 := Lib.hid (hL.out.below hB2.out hL.out.num.size)
          clear hb2
          go_wp2_with fail
          refine (c3.out w2 hL2.out).mono ?_
          rintro e w3 ⟨rfl, hb3⟩
          have hB3 := Lib.hid (hB2.out.trans (hb3.mono hB2.out.size))
          have hL3 := Lib.hid (hL.out.below hB3.out hL.out.num.size)
          clear hb3
          go_wp2_with fail
          refine (c4.out w3 hL3.out).mono ?_
          rintro e w4 ⟨rfl, hb4⟩
          have hB4 := Lib.hid (hB3.out.trans (hb4.mono hB3.out.size))
          have hL4 := Lib.hid (hL.out.below hB4.out hL.out.num.size)
          clear hb4
          go_wp2_with fail
          refine (c5.out w4 hL4.out).mono ?_
          rintro e w5 ⟨rfl, hb5⟩
          have hB5 := Lib.hid (hB4.out.trans (hb5.mono hB4.out.size))
          have hL5 := Lib.hid (hL.out.below hB5.out hL.out.num.size)
          clear hb5
          go_wp2_with fail
          refine (c6.out w5 hL5.out).mono ?_
          rintro e w6 ⟨rfl, hb6⟩
          have hB6 := Lib.hid (hB5.out.trans (hb6.mono hB5.out.size))
          have hL6 := Lib.hid (hL.out.below hB6.out hL.out.num.size)
          clear hb6
          go_wp2_with fail
          refine (c7.out w6 hL6.out).mono ?_
          rintro e w7 ⟨rfl, hb7⟩
          have hB7 := Lib.hid (hB6.out.trans (hb7.mono hB6.out.size))
          have hL7 := Lib.hid (hL.out.below hB7.out hL.out.num.size)
          clear hb7
          go_wp2_with fail
          refine (c8.out w7 hL7.out).mono ?_
          rintro e w8 ⟨rfl, hb8⟩
          have hB8 := Lib.hid (hB7.out.trans (hb8.mono hB7.out.size))
          have hL8 := Lib.hid (hL.out.below hB8.out hL.out.num.size)
          clear hb8
          go_wp2_with fail
          refine (works_calls w8 hL8.out).mono ?_
          rintro e w ⟨rfl, hb⟩
          go_wp2_with fail
          go_ret
          exact ⟨rfl, hB8.out.trans (hb.mono hB8.out.size)⟩
        · obtain ⟨c, g, f1⟩ : ∃ (c : ByteArray) (g : Int), secondsP s.data.toList = (c.data.toList, g) := ⟨⟨(secondsP s.data.toList).1.toArray⟩, _, rfl⟩
          obtain ⟨d, h, f2⟩ : ∃ (d : ByteArray) (h : Int), secondsP t.data.toList = (d.data.toList, h) := ⟨⟨(secondsP t.data.toList).1.toArray⟩, _, rfl⟩
          have c5 := Lib.hid (fun W hL => ParseSeconds_at (s := s) (t := c) rfl rfl f1 W hL hs)
          have c6 := Lib.hid (fun W hL => ParseSeconds_at (s := t) (t := d) rfl rfl f2 W hL ht)
          have g0 : (g == 0) = true := by rw [f1] at hg; simpa using hg
          have h0 : (h == 0) = false := by rw [f2] at hh; simpa using hh
          clear f1 f2 hg hh
          go_enter Tryz.func9, Tryz.ntmps9
          go_wp2_with fail
          refine (c1.out W).mono ?_
          rintro e w1 ⟨rfl, hb1⟩
          have hB1 := Lib.hid (hb1)
          have hL1 := Lib.hid (hL.out.below hB1.out hL.out.num.size)
          clear hb1
          go_wp2_with fail
          refine (c2.out w1).mono ?_
          rintro e w2 ⟨rfl, hb2⟩
          have hB2 := Lib.hid (hB1.out.trans (hb2.mono hB1.out.size))
          have hL2 := Lib.hid (hL.out.below hB2.out hL.out.num.size)
          clear hb2
          go_wp2_with fail
          refine (c3.out w2 hL2.out).mono ?_
          rintro e w3 ⟨rfl, hb3⟩
          have hB3 := Lib.hid (hB2.out.trans (hb3.mono hB2.out.size))
          have hL3 := Lib.hid (hL.out.below hB3.out hL.out.num.size)
          clear hb3
          go_wp2_with fail
          refine (c4.out w3 hL3.out).mono ?_
          rintro e w4 ⟨rfl, hb4⟩
          have hB4 := Lib.hid (hB3.out.trans (hb4.mono hB3.out.size))
          have hL4 := Lib.hid (hL.out.below hB4.out hL.out.num.size)
          clear hb4
          go_wp2_with fail
          refine (c5.out w4 hL4.out).mono ?_
          rintro e w5 ⟨rfl, hb5⟩
          have hB5 := Lib.hid (hB4.out.trans (hb5.mono hB4.out.size))
          have hL5 := Lib.hid (hL.out.below hB5.out hL.out.num.size)
          clear hb5
          go_wp2_with fail
          refine (c6.out w5 hL5.out).mono ?_
          rintro e w6 ⟨rfl, hb6⟩
          have hB6 := Lib.hid (hB5.out.trans (hb6.mono hB5.out.size))
          have hL6 := Lib.hid (hL.out.below hB6.out hL.out.num.size)
          clear hb6
          go_wp2_with fail
          refine (works_calls w6 hL6.out).mono ?_
          rintro e w ⟨rfl, hb⟩
          go_wp2_with fail
          go_ret
          exact ⟨rfl, hB6.out.trans (hb.mono hB6.out.size)⟩
      · obtain ⟨c, g, f1⟩ : ∃ (c : ByteArray) (g : Int), secondsP s.data.toList = (c.data.toList, g) := ⟨⟨(secondsP s.data.toList).1.toArray⟩, _, rfl⟩
        obtain ⟨d, h, f2⟩ : ∃ (d : ByteArray) (h : Int), secondsP t.data.toList = (d.data.toList, h) := ⟨⟨(secondsP t.data.toList).1.toArray⟩, _, rfl⟩
        have c5 := Lib.hid (fun W hL => ParseSeconds_at (s := s) (t := c) rfl rfl f1 W hL hs)
        have c6 := Lib.hid (fun W hL => ParseSeconds_at (s := t) (t := d) rfl rfl f2 W hL ht)
        have g0 : (g == 0) = false := by rw [f1] at hg; simpa using hg
        clear f1 f2 hg
        go_enter Tryz.func9, Tryz.ntmps9
        go_wp2_with fail
        refine (c1.out W).mono ?_
        rintro e w1 ⟨rfl, hb1⟩
        have hB1 := Lib.hid (hb1)
        have hL1 := Lib.hid (hL.out.below hB1.out hL.out.num.size)
        clear hb1
        go_wp2_with fail
        refine (c2.out w1).mono ?_
        rintro e w2 ⟨rfl, hb2⟩
        have hB2 := Lib.hid (hB1.out.trans (hb2.mono hB1.out.size))
        have hL2 := Lib.hid (hL.out.below hB2.out hL.out.num.size)
        clear hb2
        go_wp2_with fail
        refine (c3.out w2 hL2.out).mono ?_
        rintro e w3 ⟨rfl, hb3⟩
        have hB3 := Lib.hid (hB2.out.trans (hb3.mono hB2.out.size))
        have hL3 := Lib.hid (hL.out.below hB3.out hL.out.num.size)
        clear hb3
        go_wp2_with fail
        refine (c4.out w3 hL3.out).mono ?_
        rintro e w4 ⟨rfl, hb4⟩
        have hB4 := Lib.hid (hB3.out.trans (hb4.mono hB3.out.size))
        have hL4 := Lib.hid (hL.out.below hB4.out hL.out.num.size)
        clear hb4
        go_wp2_with fail
        refine (c5.out w4 hL4.out).mono ?_
        rintro e w5 ⟨rfl, hb5⟩
        have hB5 := Lib.hid (hB4.out.trans (hb5.mono hB4.out.size))
        have hL5 := Lib.hid (hL.out.below hB5.out hL.out.num.size)
        clear hb5
        go_wp2_with fail
        refine (c6.out w5 hL5.out).mono ?_
        rintro e w6 ⟨rfl, hb6⟩
        have hB6 := Lib.hid (hB5.out.trans (hb6.mono hB5.out.size))
        have hL6 := Lib.hid (hL.out.below hB6.out hL.out.num.size)
        clear hb6
        go_wp2_with fail
        refine (works_calls w6 hL6.out).mono ?_
        rintro e w ⟨rfl, hb⟩
        go_wp2_with fail
        go_ret
        exact ⟨rfl, hB6.out.trans (hb.mono hB6.out.size)⟩
    · have hjf : (j == 0) = false := by simpa using hj0
      replace hj0 := Lib.hid hj0
      by_cases hg : (secondsP s.data.toList).2 = 0
      · by_cases hh : (secondsP t.data.toList).2 = 0
        · obtain ⟨c, d, u, v, q, f1, f2, f3, f4, hq1, hq2, hcl, hdl⟩ := one_seconds s.data.toList t.data.toList hg hh
          have c5 := Lib.hid (fun W hL => ParseSeconds_at (s := s) (t := c) rfl rfl f1 W hL hs)
          have c6 := Lib.hid (fun W hL => ParseSeconds_at (s := t) (t := d) rfl rfl f2 W hL ht)
          have c7 := Lib.hid (fun W hL => TextSeconds_at (s := c) (t := u) rfl rfl f3 W hL (by show _ ≤ 2 ^ 63 - 1; omega))
          have c8 := Lib.hid (fun W hL => TextSeconds_at (s := d) (t := v) rfl rfl f4 W hL (by show _ ≤ 2 ^ 63 - 1; omega))
          clear f1 f2 f3 f4 hg hh hcl hdl
          go_enter Tryz.func9, Tryz.ntmps9
          go_wp2_with fail
          refine (c1.out W).mono ?_
          rintro e w1 ⟨rfl, hb1⟩
          have hB1 := Lib.hid (hb1)
          have hL1 := Lib.hid (hL.out.below hB1.out hL.out.num.size)
          clear hb1
          go_wp2_with fail
          refine (c2.out w1).mono ?_
          rintro e w2 ⟨rfl, hb2⟩
          have hB2 := Lib.hid (hB1.out.trans (hb2.mono hB1.out.size))
          have hL2 := Lib.hid (hL.out.below hB2.out hL.out.num.size)
          clear hb2
          go_wp2_with fail
          refine (c5.out w2 hL2.out).mono ?_
          rintro e w3 ⟨rfl, hb3⟩
          have hB3 := Lib.hid (hB2.out.trans (hb3.mono hB2.out.size))
          have hL3 := Lib.hid (hL.out.below hB3.out hL.out.num.size)
          clear hb3
          go_wp2_with fail
          refine (c6.out w3 hL3.out).mono ?_
          rintro e w4 ⟨rfl, hb4⟩
          have hB4 := Lib.hid (hB3.out.trans (hb4.mono hB3.out.size))
          have hL4 := Lib.hid (hL.out.below hB4.out hL.out.num.size)
          clear hb4
          go_wp2_with fail
          refine (c7.out w4 hL4.out).mono ?_
          rintro e w5 ⟨rfl, hb5⟩
          have hB5 := Lib.hid (hB4.out.trans (hb5.mono hB4.out.size))
          have hL5 := Lib.hid (hL.out.below hB5.out hL.out.num.size)
          clear hb5
          go_wp2_with fail
          refine (c8.out w5 hL5.out).mono ?_
          rintro e w6 ⟨rfl, hb6⟩
          have hB6 := Lib.hid (hB5.out.trans (hb6.mono hB5.out.size))
          have hL6 := Lib.hid (hL.out.below hB6.out hL.out.num.size)
          clear hb6
          go_wp2_with fail
          refine (works_calls w6 hL6.out).mono ?_
          rintro e w ⟨rfl, hb⟩
          go_wp2_with fail
          go_ret
          exact ⟨rfl, hB6.out.trans (hb.mono hB6.out.size)⟩
        · obtain ⟨c, g, f1⟩ : ∃ (c : ByteArray) (g : Int), secondsP s.data.toList = (c.data.toList, g) := ⟨⟨(secondsP s.data.toList).1.toArray⟩, _, rfl⟩
          obtain ⟨d, h, f2⟩ : ∃ (d : ByteArray) (h : Int), secondsP t.data.toList = (d.data.toList, h) := ⟨⟨(secondsP t.data.toList).1.toArray⟩, _, rfl⟩
          have c5 := Lib.hid (fun W hL => ParseSeconds_at (s := s) (t := c) rfl rfl f1 W hL hs)
          have c6 := Lib.hid (fun W hL => ParseSeconds_at (s := t) (t := d) rfl rfl f2 W hL ht)
          have g0 : (g == 0) = true := by rw [f1] at hg; simpa using hg
          have h0 : (h == 0) = false := by rw [f2] at hh; simpa using hh
          clear f1 f2 hg hh
          go_enter Tryz.func9, Tryz.ntmps9
          go_wp2_with fail
          refine (c1.out W).mono ?_
          rintro e w1 ⟨rfl, hb1⟩
          have hB1 := Lib.hid (hb1)
          have hL1 := Lib.hid (hL.out.below hB1.out hL.out.num.size)
          clear hb1
          go_wp2_with fail
          refine (c2.out w1).mono ?_
          rintro e w2 ⟨rfl, hb2⟩
          have hB2 := Lib.hid (hB1.out.trans (hb2.mono hB1.out.size))
          have hL2 := Lib.hid (hL.out.below hB2.out hL.out.num.size)
          clear hb2
          go_wp2_with fail
          refine (c5.out w2 hL2.out).mono ?_
          rintro e w3 ⟨rfl, hb3⟩
          have hB3 := Lib.hid (hB2.out.trans (hb3.mono hB2.out.size))
          have hL3 := Lib.hid (hL.out.below hB3.out hL.out.num.size)
          clear hb3
          go_wp2_with fail
          refine (c6.out w3 hL3.out).mono ?_
          rintro e w4 ⟨rfl, hb4⟩
          have hB4 := Lib.hid (hB3.out.trans (hb4.mono hB3.out.size))
          have hL4 := Lib.hid (hL.out.below hB4.out hL.out.num.size)
          clear hb4
          go_wp2_with fail
          refine (works_calls w4 hL4.out).mono ?_
          rintro e w ⟨rfl, hb⟩
          go_wp2_with fail
          go_ret
          exact ⟨rfl, hB4.out.trans (hb.mono hB4.out.size)⟩
      · obtain ⟨c, g, f1⟩ : ∃ (c : ByteArray) (g : Int), secondsP s.data.toList = (c.data.toList, g) := ⟨⟨(secondsP s.data.toList).1.toArray⟩, _, rfl⟩
        obtain ⟨d, h, f2⟩ : ∃ (d : ByteArray) (h : Int), secondsP t.data.toList = (d.data.toList, h) := ⟨⟨(secondsP t.data.toList).1.toArray⟩, _, rfl⟩
        have c5 := Lib.hid (fun W hL => ParseSeconds_at (s := s) (t := c) rfl rfl f1 W hL hs)
        have c6 := Lib.hid (fun W hL => ParseSeconds_at (s := t) (t := d) rfl rfl f2 W hL ht)
        have g0 : (g == 0) = false := by rw [f1] at hg; simpa using hg
        clear f1 f2 hg
        go_enter Tryz.func9, Tryz.ntmps9
        go_wp2_with fail
        refine (c1.out W).mono ?_
        rintro e w1 ⟨rfl, hb1⟩
        have hB1 := Lib.hid (hb1)
        have hL1 := Lib.hid (hL.out.below hB1.out hL.out.num.size)
        clear hb1
        go_wp2_with fail
        refine (c2.out w1).mono ?_
        rintro e w2 ⟨rfl, hb2⟩
        have hB2 := Lib.hid (hB1.out.trans (hb2.mono hB1.out.size))
        have hL2 := Lib.hid (hL.out.below hB2.out hL.out.num.size)
        clear hb2
        go_wp2_with fail
        refine (c5.out w2 hL2.out).mono ?_
        rintro e w3 ⟨rfl, hb3⟩
        have hB3 := Lib.hid (hB2.out.trans (hb3.mono hB2.out.size))
        have hL3 := Lib.hid (hL.out.below hB3.out hL.out.num.size)
        clear hb3
        go_wp2_with fail
        refine (c6.out w3 hL3.out).mono ?_
        rintro e w4 ⟨rfl, hb4⟩
        have hB4 := Lib.hid (hB3.out.trans (hb4.mono hB3.out.size))
        have hL4 := Lib.hid (hL.out.below hB4.out hL.out.num.size)
        clear hb4
        go_wp2_with fail
        refine (works_calls w4 hL4.out).mono ?_
        rintro e w ⟨rfl, hb⟩
        go_wp2_with fail
        go_ret
        exact ⟨rfl, hB4.out.trans (hb.mono hB4.out.size)⟩
  · have hkf : (k == 0) = false := by simpa using hk0
    replace hk0 := Lib.hid hk0
    by_cases hg : (secondsP s.data.toList).2 = 0
    · by_cases hh : (secondsP t.data.toList).2 = 0
      · obtain ⟨c, d, u, v, q, f1, f2, f3, f4, hq1, hq2, hcl, hdl⟩ := one_seconds s.data.toList t.data.toList hg hh
        have c5 := Lib.hid (fun W hL => ParseSeconds_at (s := s) (t := c) rfl rfl f1 W hL hs)
        have c6 := Lib.hid (fun W hL => ParseSeconds_at (s := t) (t := d) rfl rfl f2 W hL ht)
        have c7 := Lib.hid (fun W hL => TextSeconds_at (s := c) (t := u) rfl rfl f3 W hL (by show _ ≤ 2 ^ 63 - 1; omega))
        have c8 := Lib.hid (fun W hL => TextSeconds_at (s := d) (t := v) rfl rfl f4 W hL (by show _ ≤ 2 ^ 63 - 1; omega))
        clear f1 f2 f3 f4 hg hh hcl hdl
        go_enter Tryz.func9, Tryz.ntmps9
        go_wp2_with fail
        refine (c1.out W).mono ?_
        rintro e w1 ⟨rfl, hb1⟩
        have hB1 := Lib.hid (hb1)
        have hL1 := Lib.hid (hL.out.below hB1.out hL.out.num.size)
        clear hb1
        go_wp2_with fail
        refine (c2.out w1).mono ?_
        rintro e w2 ⟨rfl, hb2⟩
        have hB2 := Lib.hid (hB1.out.trans (hb2.mono hB1.out.size))
        have hL2 := Lib.hid (hL.out.below hB2.out hL.out.num.size)
        clear hb2
        go_wp2_with fail
        refine (c5.out w2 hL2.out).mono ?_
        rintro e w3 ⟨rfl, hb3⟩
        have hB3 := Lib.hid (hB2.out.trans (hb3.mono hB2.out.size))
        have hL3 := Lib.hid (hL.out.below hB3.out hL.out.num.size)
        clear hb3
        go_wp2_with fail
        refine (c6.out w3 hL3.out).mono ?_
        rintro e w4 ⟨rfl, hb4⟩
        have hB4 := Lib.hid (hB3.out.trans (hb4.mono hB3.out.size))
        have hL4 := Lib.hid (hL.out.below hB4.out hL.out.num.size)
        clear hb4
        go_wp2_with fail
        refine (c7.out w4 hL4.out).mono ?_
        rintro e w5 ⟨rfl, hb5⟩
        have hB5 := Lib.hid (hB4.out.trans (hb5.mono hB4.out.size))
        have hL5 := Lib.hid (hL.out.below hB5.out hL.out.num.size)
        clear hb5
        go_wp2_with fail
        refine (c8.out w5 hL5.out).mono ?_
        rintro e w6 ⟨rfl, hb6⟩
        have hB6 := Lib.hid (hB5.out.trans (hb6.mono hB5.out.size))
        have hL6 := Lib.hid (hL.out.below hB6.out hL.out.num.size)
        clear hb6
        go_wp2_with fail
        refine (works_calls w6 hL6.out).mono ?_
        rintro e w ⟨rfl, hb⟩
        go_wp2_with fail
        go_ret
        exact ⟨rfl, hB6.out.trans (hb.mono hB6.out.size)⟩
      · obtain ⟨c, g, f1⟩ : ∃ (c : ByteArray) (g : Int), secondsP s.data.toList = (c.data.toList, g) := ⟨⟨(secondsP s.data.toList).1.toArray⟩, _, rfl⟩
        obtain ⟨d, h, f2⟩ : ∃ (d : ByteArray) (h : Int), secondsP t.data.toList = (d.data.toList, h) := ⟨⟨(secondsP t.data.toList).1.toArray⟩, _, rfl⟩
        have c5 := Lib.hid (fun W hL => ParseSeconds_at (s := s) (t := c) rfl rfl f1 W hL hs)
        have c6 := Lib.hid (fun W hL => ParseSeconds_at (s := t) (t := d) rfl rfl f2 W hL ht)
        have g0 : (g == 0) = true := by rw [f1] at hg; simpa using hg
        have h0 : (h == 0) = false := by rw [f2] at hh; simpa using hh
        clear f1 f2 hg hh
        go_enter Tryz.func9, Tryz.ntmps9
        go_wp2_with fail
        refine (c1.out W).mono ?_
        rintro e w1 ⟨rfl, hb1⟩
        have hB1 := Lib.hid (hb1)
        have hL1 := Lib.hid (hL.out.below hB1.out hL.out.num.size)
        clear hb1
        go_wp2_with fail
        refine (c2.out w1).mono ?_
        rintro e w2 ⟨rfl, hb2⟩
        have hB2 := Lib.hid (hB1.out.trans (hb2.mono hB1.out.size))
        have hL2 := Lib.hid (hL.out.below hB2.out hL.out.num.size)
        clear hb2
        go_wp2_with fail
        refine (c5.out w2 hL2.out).mono ?_
        rintro e w3 ⟨rfl, hb3⟩
        have hB3 := Lib.hid (hB2.out.trans (hb3.mono hB2.out.size))
        have hL3 := Lib.hid (hL.out.below hB3.out hL.out.num.size)
        clear hb3
        go_wp2_with fail
        refine (c6.out w3 hL3.out).mono ?_
        rintro e w4 ⟨rfl, hb4⟩
        have hB4 := Lib.hid (hB3.out.trans (hb4.mono hB3.out.size))
        have hL4 := Lib.hid (hL.out.below hB4.out hL.out.num.size)
        clear hb4
        go_wp2_with fail
        refine (works_calls w4 hL4.out).mono ?_
        rintro e w ⟨rfl, hb⟩
        go_wp2_with fail
        go_ret
        exact ⟨rfl, hB4.out.trans (hb.mono hB4.out.size)⟩
    · obtain ⟨c, g, f1⟩ : ∃ (c : ByteArray) (g : Int), secondsP s.data.toList = (c.data.toList, g) := ⟨⟨(secondsP s.data.toList).1.toArray⟩, _, rfl⟩
      obtain ⟨d, h, f2⟩ : ∃ (d : ByteArray) (h : Int), secondsP t.data.toList = (d.data.toList, h) := ⟨⟨(secondsP t.data.toList).1.toArray⟩, _, rfl⟩
      have c5 := Lib.hid (fun W hL => ParseSeconds_at (s := s) (t := c) rfl rfl f1 W hL hs)
      have c6 := Lib.hid (fun W hL => ParseSeconds_at (s := t) (t := d) rfl rfl f2 W hL ht)
      have g0 : (g == 0) = false := by rw [f1] at hg; simpa using hg
      clear f1 f2 hg
      go_enter Tryz.func9, Tryz.ntmps9
      go_wp2_with fail
      refine (c1.out W).mono ?_
      rintro e w1 ⟨rfl, hb1⟩
      have hB1 := Lib.hid (hb1)
      have hL1 := Lib.hid (hL.out.below hB1.out hL.out.num.size)
      clear hb1
      go_wp2_with fail
      refine (c2.out w1).mono ?_
      rintro e w2 ⟨rfl, hb2⟩
      have hB2 := Lib.hid (hB1.out.trans (hb2.mono hB1.out.size))
      have hL2 := Lib.hid (hL.out.below hB2.out hL.out.num.size)
      clear hb2
      go_wp2_with fail
      refine (c5.out w2 hL2.out).mono ?_
      rintro e w3 ⟨rfl, hb3⟩
      have hB3 := Lib.hid (hB2.out.trans (hb3.mono hB2.out.size))
      have hL3 := Lib.hid (hL.out.below hB3.out hL.out.num.size)
      clear hb3
      go_wp2_with fail
      refine (c6.out w3 hL3.out).mono ?_
      rintro e w4 ⟨rfl, hb4⟩
      have hB4 := Lib.hid (hB3.out.trans (hb4.mono hB3.out.size))
      have hL4 := Lib.hid (hL.out.below hB4.out hL.out.num.size)
      clear hb4
      go_wp2_with fail
      refine (works_calls w4 hL4.out).mono ?_
      rintro e w ⟨rfl, hb⟩
      go_wp2_with fail
      go_ret
      exact ⟨rfl, hB4.out.trans (hb.mono hB4.out.size)⟩
end Go.Proofs.YtjndcehkgfbagaaGreatDoor
