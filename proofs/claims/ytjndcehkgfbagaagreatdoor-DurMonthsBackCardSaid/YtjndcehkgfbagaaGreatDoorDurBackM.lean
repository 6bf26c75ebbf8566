/- DurMonthsBack: a number of months is read from its canonical text; the walk of the statement. -/
import Derived.Test.YtjndcehkgfbagaaGreatDoorNi
import Derived.Test.YtjndcehkgfbagaaGreatDoorNi
namespace Go.Proofs.YtjndcehkgfbagaaGreatDoor
open Go.RowKit NumP DurP Go.Proofs.YtjndcehkgfbagaaGreatDoorW.PrintWords
set_option linter.unusedVariables false

set_option maxRecDepth 100000 in
set_option maxHeartbeats 2000000 in
theorem monthsBack_walk (n : Int) (W : World) (hL : LaidD W) : Calls Tryz.prog 7 #[.int .i64 n] W fun e w' => e = .returned (.bool true) ∧ Below W.heap.size W w' := by
  obtain ⟨t, ht⟩ : ∃ t : ByteArray, t.data.toList = (textMP n).1 := ⟨⟨(textMP n).1.toArray⟩, rfl⟩
  have c1 := fun k (h : (textMP n).2 = k) => TextMonths_at (t := t) ht (show textMP n = ((textMP n).1, k) by rw [← h]) W hL
  by_cases h : n < -most ∨ most < n
  · have e := textMP_out h
    have c1 := c1 6 (by rw [e])
    have ht0 : (t.toList == []) = true := by rw [ByteArray.toList_eq, ht, e]; rfl
    replace hL := Lib.hid hL
    unfold most at h
    clear ht e
    by_cases h1 : n < -9999999999
    · clear h
      go_enter Tryz.func7, Tryz.ntmps7
      go_wp2_with fail
      refine c1.mono ?_
      rintro e w1 ⟨rfl, hb1⟩
      have hL1 := Lib.hid (hL.out.below hb1 hL.out.num.size)
      go_wp2_with fail
      refine (works_calls w1 hL1.out).mono ?_
      rintro e w2 ⟨rfl, hb2⟩
      go_wp2_with fail
      go_ret
      exact ⟨rfl, hb1.trans (hb2.mono hb1.size)⟩
    · have h2 : n > 9999999999 := by omega
      clear h
      go_enter Tryz.func7, Tryz.ntmps7
      go_wp2_with fail
      refine c1.mono ?_
      rintro e w1 ⟨rfl, hb1⟩
      have hL1 := Lib.hid (hL.out.below hb1 hL.out.num.size)
      go_wp2_with fail
      refine (works_calls w1 hL1.out).mono ?_
      rintro e w2 ⟨rfl, hb2⟩
      go_wp2_with fail
      go_ret
      exact ⟨rfl, hb1.trans (hb2.mono hb1.size)⟩
  · obtain ⟨b1, b2, b3⟩ := months_back n h
    have c1 := c1 0 b1
    have c2 := fun W => ParseMonths_at (s := t) ht b3 W (by rw [← list_len, ht]; show _ ≤ 2 ^ 63 - 1; omega)
    replace c2 := Lib.hid c2
    replace hL := Lib.hid hL
    unfold most at h
    have h1 : ¬ n < -9999999999 := by omega
    have h2 : ¬ n > 9999999999 := by omega
    clear h b1 b2 b3 ht
    go_enter Tryz.func7, Tryz.ntmps7
    go_wp2_with fail
    refine c1.mono ?_
    rintro e w1 ⟨rfl, hb1⟩
    have hL1 := Lib.hid (hL.out.below hb1 hL.out.num.size)
    go_wp2_with fail
    refine (c2.out w1).mono ?_
    rintro e w2 ⟨rfl, hb2⟩
    have hL2 := Lib.hid (hL1.out.below hb2 hL1.out.num.size)
    go_wp2_with fail
    refine (works_calls w2 hL2.out).mono ?_
    rintro e w3 ⟨rfl, hb3⟩
    go_wp2_with fail
    go_ret
    have b2 := hb1.trans (hb2.mono hb1.size)
    exact ⟨rfl, b2.trans (hb3.mono b2.size)⟩
end Go.Proofs.YtjndcehkgfbagaaGreatDoor
