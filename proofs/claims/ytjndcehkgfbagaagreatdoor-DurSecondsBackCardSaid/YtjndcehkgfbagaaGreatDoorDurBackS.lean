/- DurSecondsBack: a number of seconds is read from its canonical text; chiselref06.Canonical; the walk of the statement. -/
import Derived.Test.YtjndcehkgfbagaaGreatDoorNl
import Derived.Test.YtjndcehkgfbagaaGreatDoorNi
namespace Go.Proofs.YtjndcehkgfbagaaGreatDoor
open Go.RowKit NumP DurP Go.Proofs.YtjndcehkgfbagaaGreatDoorW.PrintWords
set_option linter.unusedVariables false

/-- Whether a text is the canonical one of a number. -/
def canB (l : List UInt8) : Bool := decide ((parseT l).2 = 0) && decide ((parseT l).1 = l)
set_option maxRecDepth 100000 in
set_option maxHeartbeats 2000000 in
theorem Canon_r (s : ByteArray) (W : World) (hs : s.size ≤ maxLen) : Calls Tryz.prog 22 #[.string s] W fun e w' => e = .returned (.bool (canB s.data.toList)) ∧ Below W.heap.size W w' := by
  have hpa := Parse_r s W hs
  unfold OutE at hpa
  obtain ⟨b, hb⟩ : ∃ b, b = canB s.data.toList := ⟨_, rfl⟩
  rw [← hb]
  unfold canB at hb
  obtain ⟨k, hk⟩ : ∃ k, k = (parseT s.data.toList).2 := ⟨_, rfl⟩
  obtain ⟨t, ht⟩ : ∃ t, t = (parseT s.data.toList).1 := ⟨_, rfl⟩
  rw [← hk, ← ht] at hpa hb
  replace hk := Lib.hid hk
  replace ht := Lib.hid ht
  by_cases hk0 : k = 0
  · have g1 : (k == 0) = true := by simpa using hk0
    by_cases h1 : t = s.data.toList
    · have g2 : (t == s.toList) = true := by rw [ByteArray.toList_eq]; simpa using h1
      have hbt : b = true := by rw [hb]; simp [hk0, h1]
      clear hb
      subst hbt
      replace h1 := Lib.hid h1
      replace hk0 := Lib.hid hk0
      go_enter Tryz.func22, Tryz.ntmps22
      go_wp2_with fail
      refine hpa.mono ?_
      rintro e w2 ⟨rfl, hb2⟩
      go_wp2_with fail
      go_ret
      exact ⟨rfl, hb2⟩
    · have g2 : (t == s.toList) = false := by rw [ByteArray.toList_eq]; simpa using h1
      have hbt : b = false := by rw [hb]; simp [h1]
      clear hb
      subst hbt
      replace h1 := Lib.hid h1
      replace hk0 := Lib.hid hk0
      go_enter Tryz.func22, Tryz.ntmps22
      go_wp2_with fail
      refine hpa.mono ?_
      rintro e w2 ⟨rfl, hb2⟩
      go_wp2_with fail
      go_ret
      exact ⟨rfl, hb2⟩
  · have g1 : (k == 0) = false := by simpa using hk0
    have hbt : b = false := by rw [hb]; simp [hk0]
    clear hb
    subst hbt
    replace hk0 := Lib.hid hk0
    go_enter Tryz.func22, Tryz.ntmps22
    go_wp2_with fail
    refine hpa.mono ?_
    rintro e w2 ⟨rfl, hb2⟩
    go_wp2_with fail
    go_ret
    exact ⟨rfl, hb2⟩
theorem canB_no {l : List UInt8} (h : canB l = false) : textSP l = ([], 1) := by
  refine textSP_no ?_
  unfold canB at h
  rw [Bool.and_eq_false_iff] at h
  rcases h with h | h
  · exact .inl (by simpa using h)
  · exact .inr (by simpa using h)
theorem canB_yes {l : List UInt8} (h : canB l = true) : ∃ x, NumP.Good x ∧ l = textN x := by
  unfold canB at h
  rw [Bool.and_eq_true, decide_eq_true_eq, decide_eq_true_eq] at h
  obtain ⟨h1, h2⟩ := h
  unfold parseT at h1 h2
  cases hp : parseN l with
  | error k =>
    rw [hp] at h1
    have := parseN_err hp
    have h1 : k = 0 := h1
    omega
  | ok x =>
    rw [hp] at h2
    exact ⟨x, parseN_good hp, h2.symm⟩
set_option maxRecDepth 100000 in
set_option maxHeartbeats 2000000 in
theorem secondsBack_walk (n : ByteArray) (W : World) (hL : LaidD W) (hs : n.size ≤ maxLen) : Calls Tryz.prog 8 #[.string n] W fun e w' => e = .returned (.bool true) ∧ Below W.heap.size W w' := by
  obtain ⟨t, ht⟩ : ∃ t : ByteArray, t.data.toList = (textSP n.data.toList).1 := ⟨⟨(textSP n.data.toList).1.toArray⟩, rfl⟩
  have c1 := fun k (h : (textSP n.data.toList).2 = k) => TextSeconds_at (s := n) (t := t) rfl ht (show textSP n.data.toList = ((textSP n.data.toList).1, k) by rw [← h]) W hL hs
  have cC := fun w => Canon_r n w hs
  replace cC := Lib.hid cC
  obtain ⟨b, hb⟩ : ∃ b, b = canB n.data.toList := ⟨_, rfl⟩
  rw [← hb] at cC
  cases b with
  | false =>
    have e := canB_no hb.symm
    have c1 := c1 1 (by rw [e])
    have ht0 : (t.toList == []) = true := by rw [ByteArray.toList_eq, ht, e]; rfl
    replace hL := Lib.hid hL
    clear ht e
    replace hb := Lib.hid hb
    go_enter Tryz.func8, Tryz.ntmps8
    go_wp2_with fail
    refine c1.mono ?_
    rintro e w1 ⟨rfl, hb1⟩
    have hL1 := Lib.hid (hL.out.below hb1 hL.out.num.size)
    go_wp2_with fail
    refine (cC.out w1).mono ?_
    rintro e w2 ⟨rfl, hb2⟩
    have hL2 := Lib.hid (hL1.out.below hb2 hL1.out.num.size)
    go_wp2_with fail
    refine (works_calls w2 hL2.out).mono ?_
    rintro e w3 ⟨rfl, hb3⟩
    go_wp2_with fail
    go_ret
    have b2 := hb1.trans (hb2.mono hb1.size)
    exact ⟨rfl, b2.trans (hb3.mono b2.size)⟩
  | true =>
    obtain ⟨x, hx, e⟩ := canB_yes hb.symm
    obtain ⟨b1, b2, b3⟩ := seconds_back hx
    rw [← e] at b1 b2 b3
    have c1 := c1 0 b1
    have hts : t.size < 200 := by rw [← list_len, ht]; exact b2
    have c2 := fun W hL => ParseSeconds_at (s := t) (t := n) ht rfl b3 W hL (by unfold maxLen; omega)
    have g1 : ((t.size : Int) < 200) := by omega
    have g2 : (n.toList == n.toList) = true := by simp
    replace c2 := Lib.hid c2
    replace hL := Lib.hid hL
    replace e := Lib.hid e
    replace hb := Lib.hid hb
    clear b1 b2 b3 ht
    go_enter Tryz.func8, Tryz.ntmps8
    go_wp2_with fail
    refine c1.mono ?_
    rintro e w1 ⟨rfl, hb1⟩
    have hL1 := Lib.hid (hL.out.below hb1 hL.out.num.size)
    go_wp2_with fail
    refine (cC.out w1).mono ?_
    rintro e w2 ⟨rfl, hb2⟩
    have hL2 := Lib.hid (hL1.out.below hb2 hL1.out.num.size)
    have hb12 := Lib.hid (hb1.trans (hb2.mono hb1.size))
    clear hb1 hb2
    go_wp2_with fail
    refine (c2.out w2 hL2.out).mono ?_
    rintro e w3 ⟨rfl, hb3⟩
    have hL3 := Lib.hid (hL2.out.below hb3 hL2.out.num.size)
    have hb13 := Lib.hid (hb12.out.trans (hb3.mono hb12.out.size))
    clear hb3
    go_wp2_with fail
    refine (works_calls w3 hL3.out).mono ?_
    rintro e w4 ⟨rfl, hb4⟩
    go_wp2_with fail
    go_ret
    exact ⟨rfl, hb13.out.trans (hb4.mono hb13.out.size)⟩
end Go.Proofs.YtjndcehkgfbagaaGreatDoor
