/- DurSigns: a minus sign ahead turns the number into the opposite; the walk of the statement. -/
import Derived.Test.YtjndcehkgfbagaaGreatDoorNi
import Derived.Test.YtjndcehkgfbagaaGreatDoorNi
namespace Go.Proofs.YtjndcehkgfbagaaGreatDoor
open Go.RowKit NumP DurP Go.Proofs.YtjndcehkgfbagaaGreatDoorW.PrintWords
set_option linter.unusedVariables false

theorem neg_back {x : Num} (h : NumP.Good x) : negT (textN ⟨!x.neg && decide (0 < x.d), x.d⟩) = (textN x, 0) := by
  rw [negT_text (neg_good h)]
  obtain ⟨n, d⟩ := x
  cases n
  · by_cases h0 : 0 < d <;> simp [h0]
  · have := h.2 rfl
    have h0 : 0 < d := this
    simp [h0]
/-- The two results of a form and of the form behind a minus sign. -/
theorem signs_two (l : List UInt8) (hl : l.length ≤ 199) (h : l.head? ≠ some 45) :
    (∃ a b : List UInt8, secondsP l = (a, 0) ∧ secondsP (45 :: l) = (b, 0) ∧ negT b = (a, 0) ∧ b.length ≤ 100) ∨ ∃ k, k ≠ 0 ∧ secondsP l = ([], k) ∧ secondsP (45 :: l) = ([], k) := by
  have hm := seconds_minus l hl h
  rcases secondsP_fine l with ⟨x, hx, e⟩ | ⟨k, hk, e⟩
  · refine .inl ⟨textN x, textN ⟨!x.neg && decide (0 < x.d), x.d⟩, e, ?_, neg_back hx, ?_⟩
    · rw [hm, e]; unfold endS; rw [if_neg (by simp), if_pos rfl]; exact negT_text hx
    · have := textN_len (neg_good hx).1; omega
  · refine .inr ⟨k, hk, e, ?_⟩
    rw [hm, e]; unfold endS; rw [if_pos hk]
set_option maxRecDepth 100000 in
set_option maxHeartbeats 2000000 in
theorem signs_skip (s : ByteArray) (W : World) (hL : LaidD W) (hs : s.size ≤ maxLen) (h : 199 < s.size ∨ s.data.toList.head? = some 45) : Calls Tryz.prog 10 #[.string s] W fun e w' => e = .returned (.bool true) ∧ Below W.heap.size W w' := by
  have c1 := works_calls W hL
  by_cases h1 : (s.size : Int) > 199
  · clear h
    go_enter Tryz.func10, Tryz.ntmps10
    go_wp2_with fail
    refine c1.mono ?_
    rintro e w1 ⟨rfl, hb1⟩
    go_wp2_with fail
    go_ret
    exact ⟨rfl, hb1⟩
  · have h45 : s.data.toList.head? = some 45 := h.resolve_left (by omega)
    have h0 : 0 < s.size := by
      rw [← list_len]
      cases hl : s.data.toList with
      | nil => rw [hl] at h45; cases h45
      | cons c l => simp
    have hc : s[0] = 45 := by
      have := data_at s 0 h0
      rw [← List.head?_eq_getElem?, h45] at this
      exact (Option.some.inj this).symm
    have hc' : ((s[0].toNat : Int) == 45) = true := by rw [hc]; rfl
    have h2 : (s.size : Int) > 0 := by omega
    clear h h45
    replace hc := Lib.hid hc
    go_enter Tryz.func10, Tryz.ntmps10
    go_wp2_with fail
    refine c1.mono ?_
    rintro e w1 ⟨rfl, hb1⟩
    go_wp2_with fail
    go_ret
    exact ⟨rfl, hb1⟩
set_option maxRecDepth 100000 in
set_option maxHeartbeats 2000000 in
theorem signs_go (s : ByteArray) (W : World) (hL : LaidD W) (hs : s.size ≤ 199) (h : s.data.toList.head? ≠ some 45) : Calls Tryz.prog 10 #[.string s] W fun e w' => e = .returned (.bool true) ∧ Below W.heap.size W w' := by
  have hsl : s.data.toList.length ≤ 199 := by rw [list_len]; exact hs
  obtain ⟨m, hm⟩ : ∃ m : ByteArray, m = ⟨#[45]⟩ ++ s := ⟨_, rfl⟩
  have hmd : m.data.toList = 45 :: s.data.toList := by rw [hm, ByteArray.data_append]; simp
  have hms : m.size ≤ maxLen := by rw [← list_len, hmd, List.length_cons]; show _ ≤ 2 ^ 63 - 1; omega
  have hss : s.size ≤ maxLen := by show _ ≤ 2 ^ 63 - 1; omega
  obtain ⟨a, ha⟩ : ∃ a, a = (monthsP s.data.toList).1 := ⟨_, rfl⟩
  obtain ⟨k, hk⟩ : ∃ k, k = (monthsP s.data.toList).2 := ⟨_, rfl⟩
  have hmo : monthsP s.data.toList = (a, k) := by rw [ha, hk]
  have hmn : monthsP (45 :: s.data.toList) = (-a, k) := by rw [months_minus _ hsl h, hmo]
  obtain ⟨b, hb⟩ : ∃ b, b = -a := ⟨_, rfl⟩
  rw [← hb] at hmn
  have hab : a = -b := by omega
  have hin : -9999999999 ≤ b ∧ b ≤ 9999999999 := by have := monthsP_in s.data.toList; rw [hmo] at this; unfold most at this; show _ ∧ _; constructor <;> omega
  have hw : wrap64 (-b) = a := by rw [hab]; exact IntWalk.wrap64_in _ (by omega)
  have c1 := fun W => ParseMonths_at (s := s) rfl hmo W hss
  have c2 := fun W => ParseMonths_at (s := m) hmd hmn W hms
  have hj : (9223372036854775807 < (⟨#[45]⟩ : ByteArray).size + s.size) = False := eq_false (by show ¬ (_ < 1 + s.size); omega)
  have hj2 : (9223372036854775807 < 1 + s.size) = False := eq_false (by omega)
  have h1 : ¬ ((s.size : Int) > 199) := by omega
  have hfirst : (s.size = 0) ∨ ∃ h0 : 0 < s.size, s[0] ≠ 45 := by
    rcases Nat.eq_zero_or_pos s.size with h0 | h0
    · exact .inl h0
    · refine .inr ⟨h0, fun e => h ?_⟩
      have := data_at s 0 h0
      rw [← List.head?_eq_getElem?, e] at this
      exact this
  have hsec := signs_two s.data.toList hsl h
  replace c1 := Lib.hid c1
  replace c2 := Lib.hid c2
  replace hL := Lib.hid hL
  clear ha hk hmo hmn hb hab hin h hsl
  -- the two ways
  replace hm := Lib.hid hm
  rcases hsec with ⟨c, d, e1, e2, e3, hdl⟩ | ⟨g, hg, e1, e2⟩
  · obtain ⟨C, hC⟩ : ∃ C : ByteArray, C.data.toList = c := ⟨⟨c.toArray⟩, rfl⟩
    obtain ⟨D, hD⟩ : ∃ D : ByteArray, D.data.toList = d := ⟨⟨d.toArray⟩, rfl⟩
    have c3 := Lib.hid (fun W hL => ParseSeconds_at (s := s) (t := C) rfl hC e1 W hL hss)
    have c4 := Lib.hid (fun W hL => ParseSeconds_at (s := m) (t := D) hmd hD e2 W hL hms)
    have c5 : Hid (∀ W, LaidD W → Calls Tryz.prog 23 #[.string D] W (StrAt W C 0)) := Lib.hid (fun W hL => by
      have := neg_b D W hL.num (by rw [← list_len, hD]; show _ ≤ 2 ^ 63 - 1; omega)
      rw [hD, e3, ← hC] at this
      rw [show C = ⟨C.data.toList.toArray⟩ by simp]
      exact this)
    clear e1 e2 e3 hdl hC hD hmd hms
    rcases hfirst with h0 | ⟨h0, hc⟩
    · have h2 : ¬ ((s.size : Int) > 0) := by omega
      clear h0
      go_enter Tryz.func10, Tryz.ntmps10
      go_wp2_with fail
      refine (c1.out W).mono ?_
      rintro e w1 ⟨rfl, hb1⟩
      have hB1 := Lib.hid (hb1)
      have hL1 := Lib.hid (hL.out.below hB1.out hL.out.num.size)
      clear hb1
      go_wp2_with fail
      rw [← hm.out]
      refine (c2.out w1).mono ?_
      rintro e w2 ⟨rfl, hb2⟩
      have hB2 := Lib.hid (hB1.out.trans (hb2.mono hB1.out.size))
      have hL2 := Lib.hid (hL.out.below hB2.out hL.out.num.size)
      clear hb2
      go_wp2_with fail
      refine (c3.out w2 hL2.out).mono ?_
      rintro e w3 ⟨rfl, hb3⟩
      have hB3 := Lib.hid (hB2.out.trans (hb3.mono hB2.out.size))
      have hL3 := Lib.hid (hL.out.below hB3.out hL.out.num.size)
      clear hb3
      go_wp2_with fail
      rw [← hm.out]
      refine (c4.out w3 hL3.out).mono ?_
      rintro e w4 ⟨rfl, hb4⟩
      have hB4 := Lib.hid (hB3.out.trans (hb4.mono hB3.out.size))
      have hL4 := Lib.hid (hL.out.below hB4.out hL.out.num.size)
      clear hb4
      go_wp2_with fail
      refine (c5.out w4 hL4.out).mono ?_
      rintro e w5 ⟨rfl, hb5⟩
      have hB5 := Lib.hid (hB4.out.trans (hb5.mono hB4.out.size))
      have hL5 := Lib.hid (hL.out.below hB5.out hL.out.num.size)
      clear hb5
      go_wp2_with fail
      refine (works_calls w5 hL5.out).mono ?_
      rintro e w ⟨rfl, hb⟩
      go_wp2_with fail
      go_ret
      exact ⟨rfl, hB5.out.trans (hb.mono hB5.out.size)⟩
    · have h2 : (s.size : Int) > 0 := by omega
      have h3 : ((s[0].toNat : Int) == 45) = false := by rw [show (45 : Int) = ((45 : UInt8).toNat : Int) from rfl, byte_eq]; simpa using hc
      replace hc := Lib.hid hc
      go_enter Tryz.func10, Tryz.ntmps10
      go_wp2_with fail
      refine (c1.out W).mono ?_
      rintro e w1 ⟨rfl, hb1⟩
      have hB1 := Lib.hid (hb1)
      have hL1 := Lib.hid (hL.out.below hB1.out hL.out.num.size)
      clear hb1
      go_wp2_with fail
      rw [← hm.out]
      refine (c2.out w1).mono ?_
      rintro e w2 ⟨rfl, hb2⟩
      have hB2 := Lib.hid (hB1.out.trans (hb2.mono hB1.out.size))
      have hL2 := Lib.hid (hL.out.below hB2.out hL.out.num.size)
      clear hb2
      go_wp2_with fail
      refine (c3.out w2 hL2.out).mono ?_
      rintro e w3 ⟨rfl, hb3⟩
      have hB3 := Lib.hid (hB2.out.trans (hb3.mono hB2.out.size))
      have hL3 := Lib.hid (hL.out.below hB3.out hL.out.num.size)
      clear hb3
      go_wp2_with fail
      rw [← hm.out]
      refine (c4.out w3 hL3.out).mono ?_
      rintro e w4 ⟨rfl, hb4⟩
      have hB4 := Lib.hid (hB3.out.trans (hb4.mono hB3.out.size))
      have hL4 := Lib.hid (hL.out.below hB4.out hL.out.num.size)
      clear hb4
      go_wp2_with fail
      refine (c5.out w4 hL4.out).mono ?_
      rintro e w5 ⟨rfl, hb5⟩
      have hB5 := Lib.hid (hB4.out.trans (hb5.mono hB4.out.size))
      have hL5 := Lib.hid (hL.out.below hB5.out hL.out.num.size)
      clear hb5
      go_wp2_with fail
      refine (works_calls w5 hL5.out).mono ?_
      rintro e w ⟨rfl, hb⟩
      go_wp2_with fail
      go_ret
      exact ⟨rfl, hB5.out.trans (hb.mono hB5.out.size)⟩
  · have c3 := Lib.hid (fun W hL => ParseSeconds_at (s := s) (t := ⟨#[]⟩) rfl rfl e1 W hL hss)
    have c4 := Lib.hid (fun W hL => ParseSeconds_at (s := m) (t := ⟨#[]⟩) hmd rfl e2 W hL hms)
    have hg0 : (g == 0) = false := by simpa using hg
    replace hg := Lib.hid hg
    clear e1 e2 hmd hms
    rcases hfirst with h0 | ⟨h0, hc⟩
    · have h2 : ¬ ((s.size : Int) > 0) := by omega
      clear h0
      go_enter Tryz.func10, Tryz.ntmps10
      go_wp2_with fail
      refine (c1.out W).mono ?_
      rintro e w1 ⟨rfl, hb1⟩
      have hB1 := Lib.hid (hb1)
      have hL1 := Lib.hid (hL.out.below hB1.out hL.out.num.size)
      clear hb1
      go_wp2_with fail
      rw [← hm.out]
      refine (c2.out w1).mono ?_
      rintro e w2 ⟨rfl, hb2⟩
      have hB2 := Lib.hid (hB1.out.trans (hb2.mono hB1.out.size))
      have hL2 := Lib.hid (hL.out.below hB2.out hL.out.num.size)
      clear hb2
      go_wp2_with fail
      refine (c3.out w2 hL2.out).mono ?_
      rintro e w3 ⟨rfl, hb3⟩
      have hB3 := Lib.hid (hB2.out.trans (hb3.mono hB2.out.size))
      have hL3 := Lib.hid (hL.out.below hB3.out hL.out.num.size)
      clear hb3
      go_wp2_with fail
      rw [← hm.out]
      refine (c4.out w3 hL3.out).mono ?_
      rintro e w4 ⟨rfl, hb4⟩
      have hB4 := Lib.hid (hB3.out.trans (hb4.mono hB3.out.size))
      have hL4 := Lib.hid (hL.out.below hB4.out hL.out.num.size)
      clear hb4
      go_wp2_with fail
      refine (works_calls w4 hL4.out).mono ?_
      rintro e w ⟨rfl, hb⟩
      go_wp2_with fail
      go_ret
      exact ⟨rfl, hB4.out.trans (hb.mono hB4.out.size)⟩
    · have h2 : (s.size : Int) > 0 := by omega
      have h3 : ((s[0].toNat : Int) == 45) = false := by rw [show (45 : Int) = ((45 : UInt8).toNat : Int) from rfl, byte_eq]; simpa using hc
      replace hc := Lib.hid hc
      go_enter Tryz.func10, Tryz.ntmps10
      go_wp2_with fail
      refine (c1.out W).mono ?_
      rintro e w1 ⟨rfl, hb1⟩
      have hB1 := Lib.hid (hb1)
      have hL1 := Lib.hid (hL.out.below hB1.out hL.out.num.size)
      clear hb1
      go_wp2_with fail
      rw [← hm.out]
      refine (c2.out w1).mono ?_
      rintro e w2 ⟨rfl, hb2⟩
      have hB2 := Lib.hid (hB1.out.trans (hb2.mono hB1.out.size))
      have hL2 := Lib.hid (hL.out.below hB2.out hL.out.num.size)
      clear hb2
      go_wp2_with fail
      refine (c3.out w2 hL2.out).mono ?_
      rintro e w3 ⟨rfl, hb3⟩
      have hB3 := Lib.hid (hB2.out.trans (hb3.mono hB2.out.size))
      have hL3 := Lib.hid (hL.out.below hB3.out hL.out.num.size)
      clear hb3
      go_wp2_with fail
      rw [← hm.out]
      refine (c4.out w3 hL3.out).mono ?_
      rintro e w4 ⟨rfl, hb4⟩
      have hB4 := Lib.hid (hB3.out.trans (hb4.mono hB3.out.size))
      have hL4 := Lib.hid (hL.out.below hB4.out hL.out.num.size)
      clear hb4
      go_wp2_with fail
      refine (works_calls w4 hL4.out).mono ?_
      rintro e w ⟨rfl, hb⟩
      go_wp2_with fail
      go_ret
      exact ⟨rfl, hB4.out.trans (hb.mono hB4.out.size)⟩
/-- The walk of the statement. -/
theorem signs_walk (s : ByteArray) (W : World) (hL : LaidD W) (hs : s.size ≤ maxLen) : Calls Tryz.prog 10 #[.string s] W fun e w' => e = .returned (.bool true) ∧ Below W.heap.size W w' := by
  by_cases h : 199 < s.size ∨ s.data.toList.head? = some 45
  · exact signs_skip s W hL hs h
  · exact signs_go s W hL (by omega) (fun e => h (.inr e))
end Go.Proofs.YtjndcehkgfbagaaGreatDoor
