/- TimeOrder: of two moments in one zone, the later one has the greater seconds: the walk. (Printed by genorder.py.) -/
import Derived.Test.YtgobpoeccdgeiaaGreatDoorOe
import Derived.Test.YtgobpoeccdgeiaaGreatDoorTimeBefore
import Derived.Deep.CutRange
namespace Go.Proofs.YtgobpoeccdgeiaaGreatDoor
open Go.RowKit NumP DurP TimeP Go.Proofs.YtgobpoeccdgeiaaGreatDoorW.PrintWords
set_option linter.unusedVariables false

theorem two_set {W w : World} {q r : Nat} {a b : MB} (ha : MoAt w q a.y a.mo a.d a.h a.mi a.s a.z a.has) (hb : MoAt w r b.y b.mo b.d b.h b.mi b.s b.z b.has) (hB : Below W.heap.size W w) (hn : q ≠ r) (hr : W.heap.size ≤ r) :
    Hid (MoAt (((w.setCell ⟨r, 6, none⟩ (.int .i64 a.z)).setCell ⟨r, 7, none⟩ (.bool a.has)).drew) q a.y a.mo a.d a.h a.mi a.s a.z a.has) ∧ Hid (MoAt (((w.setCell ⟨r, 6, none⟩ (.int .i64 a.z)).setCell ⟨r, 7, none⟩ (.bool a.has)).drew) r b.y b.mo b.d b.h b.mi b.s a.z a.has) ∧ Hid (Below W.heap.size W (((w.setCell ⟨r, 6, none⟩ (.int .i64 a.z)).setCell ⟨r, 7, none⟩ (.bool a.has)).drew)) := by
  refine ⟨Lib.hid ?_, Lib.hid ?_, Lib.hid ?_⟩
  · exact (Below.heap_setCell _ _ _ _ hn).trans ((Below.heap_setCell _ _ _ _ hn).trans ha)
  · exact Lib.heap_setCell_same (i := 7) (Lib.heap_setCell_same (i := 6) hb _) _
  · exact hB.trans (((((Below.refl _ _).setCell (p := ⟨r, 6, none⟩) hr _).setCell (p := ⟨r, 7, none⟩) hr _)).drew)
theorem two_set' {W w : World} {q r : Nat} {a b : MB} (ha : MoAt w q a.y a.mo a.d a.h a.mi a.s a.z a.has) (hb : MoAt w r b.y b.mo b.d b.h b.mi b.s b.z b.has) (hB : Below W.heap.size W w) (hn : q ≠ r) (hr : W.heap.size ≤ r) :
    Hid (MoAt (((w.setCell ⟨r, 7, none⟩ (.bool a.has)).setCell ⟨r, 6, none⟩ (.int .i64 a.z)).drew) q a.y a.mo a.d a.h a.mi a.s a.z a.has) ∧ Hid (MoAt (((w.setCell ⟨r, 7, none⟩ (.bool a.has)).setCell ⟨r, 6, none⟩ (.int .i64 a.z)).drew) r b.y b.mo b.d b.h b.mi b.s a.z a.has) ∧ Hid (Below W.heap.size W (((w.setCell ⟨r, 7, none⟩ (.bool a.has)).setCell ⟨r, 6, none⟩ (.int .i64 a.z)).drew)) := by
  refine ⟨Lib.hid ?_, Lib.hid ?_, Lib.hid ?_⟩
  · exact (Below.heap_setCell _ _ _ _ hn).trans ((Below.heap_setCell _ _ _ _ hn).trans ha)
  · exact Lib.heap_setCell_same (i := 6) (Lib.heap_setCell_same (i := 7) hb _) _
  · exact hB.trans (((((Below.refl _ _).setCell (p := ⟨r, 7, none⟩) hr _).setCell (p := ⟨r, 6, none⟩) hr _)).drew)
set_option maxRecDepth 100000 in
set_option maxHeartbeats 4000000 in
theorem timeOrder_walk (a b : MB) (W : World) (hL : LaidT W) : Calls Tryz.prog 11 #[.agg #[.int .i64 a.y, .int .i64 a.mo, .int .i64 a.d, .int .i64 a.h, .int .i64 a.mi, .string a.s, .int .i64 a.z, .bool a.has], .agg #[.int .i64 b.y, .int .i64 b.mo, .int .i64 b.d, .int .i64 b.h, .int .i64 b.mi, .string b.s, .int .i64 b.z, .bool b.has]] W (fun e w' => e = .returned (.bool true) ∧ Below W.heap.size W w') := by
  by_cases hs : (a.s.size : Int) > 300
  · obtain ⟨q, hq⟩ : ∃ q, q = W.heap.size := ⟨_, rfl⟩
    obtain ⟨r, hr⟩ : ∃ r, r = q + 1 := ⟨_, rfl⟩
    obtain ⟨w0, hw0⟩ : ∃ w, w = W.alloc (.cells #[.int .i64 a.y, .int .i64 a.mo, .int .i64 a.d, .int .i64 a.h, .int .i64 a.mi, .string a.s, .int .i64 a.z, .bool a.has] 24) := ⟨_, rfl⟩
    obtain ⟨w1, hw⟩ : ∃ w, w = w0.alloc (.cells #[.int .i64 b.y, .int .i64 b.mo, .int .i64 b.d, .int .i64 b.h, .int .i64 b.mi, .string b.s, .int .i64 b.z, .bool b.has] 24) := ⟨_, rfl⟩
    have hs0 : w0.heap.size = r := by rw [hw0, hr, hq]; simp
    have hB1 : Hid (Below W.heap.size W w1) := Lib.hid (by rw [hw, hw0]; exact ((Below.refl _ _).alloc (Nat.le_refl _) _).alloc (by simp) _)
    have hMq1 : Hid (MoAt w1 q a.y a.mo a.d a.h a.mi a.s a.z a.has) := Lib.hid (by unfold MoAt; rw [hw, (MapKept.heap_alloc _ _).2 q (by omega), hw0, hq]; exact (MapKept.heap_alloc _ _).1)
    have hMr1 : Hid (MoAt w1 r b.y b.mo b.d b.h b.mi b.s b.z b.has) := Lib.hid (by rw [hw, ← hs0]; exact (MapKept.heap_alloc _ _).1)
    have hL1 := Lib.hid (hL.below hB1.out hL.size)
    have hgeq : Hid (W.heap.size ≤ q) := Lib.hid (by omega)
    have hger : Hid (W.heap.size ≤ r) := Lib.hid (by omega)
    have hnqr : Hid (q ≠ r) := Lib.hid (by omega)
    have hnrq : Hid (r ≠ q) := Lib.hid (by omega)
    subst hw0
    clear hs0
    replace hr := Lib.hid hr
    replace hL := Lib.hid hL
    go_enter Tryz.func11, Tryz.ntmps11
    go_upto_region 1 with fail
    rw [← hw, ← hq, ← hr.out]
    clear hw
    replace hq := Lib.hid hq
    obtain ⟨cq0, cq1, cq2, cq3, cq4, cq5, cq6, cq7⟩ := MomAt.of_heap hMq1.out
    obtain ⟨cr0, cr1, cr2, cr3, cr4, cr5, cr6, cr7⟩ := MomAt.of_heap hMr1.out
    go_wp2_with fail
    refine (works_c w1 hL1.out).mono ?_
    rintro e w ⟨rfl, hb⟩
    go_wp2_with fail
    go_ret
    exact ⟨rfl, hB1.out.trans (hb.mono hB1.out.size)⟩
  · by_cases hs2 : (b.s.size : Int) > 300
    · obtain ⟨q, hq⟩ : ∃ q, q = W.heap.size := ⟨_, rfl⟩
      obtain ⟨r, hr⟩ : ∃ r, r = q + 1 := ⟨_, rfl⟩
      obtain ⟨w0, hw0⟩ : ∃ w, w = W.alloc (.cells #[.int .i64 a.y, .int .i64 a.mo, .int .i64 a.d, .int .i64 a.h, .int .i64 a.mi, .string a.s, .int .i64 a.z, .bool a.has] 24) := ⟨_, rfl⟩
      obtain ⟨w1, hw⟩ : ∃ w, w = w0.alloc (.cells #[.int .i64 b.y, .int .i64 b.mo, .int .i64 b.d, .int .i64 b.h, .int .i64 b.mi, .string b.s, .int .i64 b.z, .bool b.has] 24) := ⟨_, rfl⟩
      have hs0 : w0.heap.size = r := by rw [hw0, hr, hq]; simp
      have hB1 : Hid (Below W.heap.size W w1) := Lib.hid (by rw [hw, hw0]; exact ((Below.refl _ _).alloc (Nat.le_refl _) _).alloc (by simp) _)
      have hMq1 : Hid (MoAt w1 q a.y a.mo a.d a.h a.mi a.s a.z a.has) := Lib.hid (by unfold MoAt; rw [hw, (MapKept.heap_alloc _ _).2 q (by omega), hw0, hq]; exact (MapKept.heap_alloc _ _).1)
      have hMr1 : Hid (MoAt w1 r b.y b.mo b.d b.h b.mi b.s b.z b.has) := Lib.hid (by rw [hw, ← hs0]; exact (MapKept.heap_alloc _ _).1)
      have hL1 := Lib.hid (hL.below hB1.out hL.size)
      have hgeq : Hid (W.heap.size ≤ q) := Lib.hid (by omega)
      have hger : Hid (W.heap.size ≤ r) := Lib.hid (by omega)
      have hnqr : Hid (q ≠ r) := Lib.hid (by omega)
      have hnrq : Hid (r ≠ q) := Lib.hid (by omega)
      subst hw0
      clear hs0
      replace hr := Lib.hid hr
      replace hL := Lib.hid hL
      go_enter Tryz.func11, Tryz.ntmps11
      go_upto_region 1 with fail
      rw [← hw, ← hq, ← hr.out]
      clear hw
      replace hq := Lib.hid hq
      obtain ⟨cq0, cq1, cq2, cq3, cq4, cq5, cq6, cq7⟩ := MomAt.of_heap hMq1.out
      obtain ⟨cr0, cr1, cr2, cr3, cr4, cr5, cr6, cr7⟩ := MomAt.of_heap hMr1.out
      go_wp2_with fail
      refine (works_c w1 hL1.out).mono ?_
      rintro e w ⟨rfl, hb⟩
      go_wp2_with fail
      go_ret
      exact ⟨rfl, hB1.out.trans (hb.mono hB1.out.size)⟩
    · have hsa : a.s.size ≤ 1000 := by omega
      have hsb : b.s.size ≤ 1000 := by omega
      obtain ⟨S, j, eS⟩ := SB.ex (secondsT a.P)
      obtain ⟨T, k, eT⟩ := SB.ex (secondsT (MB.P ⟨b.y, b.mo, b.d, b.h, b.mi, b.s, a.z, a.has⟩))
      have hj := seconds_err (m := a.P)
      have hk := seconds_err (m := MB.P ⟨b.y, b.mo, b.d, b.h, b.mi, b.s, a.z, a.has⟩)
      rw [eS] at hj
      rw [eT] at hk
      replace hj : j = if validP a.P = true then 0 else 1 := hj
      replace hk : k = if validP (MB.P ⟨b.y, b.mo, b.d, b.h, b.mi, b.s, a.z, a.has⟩) = true then 0 else 1 := hk
      by_cases hva : validP a.P = true
      · by_cases hvb : validP (MB.P ⟨b.y, b.mo, b.d, b.h, b.mi, b.s, a.z, a.has⟩) = true
        · rw [if_pos hva] at hj
          rw [if_pos hvb] at hk
          subst hj hk
          obtain ⟨c, hc, hlt, hgt⟩ := order_law (a := a.P) (b := MB.P ⟨b.y, b.mo, b.d, b.h, b.mi, b.s, a.z, a.has⟩) hva hvb rfl
          rw [eS, eT] at hc
          have hS : S.size ≤ maxLen := by
            obtain ⟨h1, h2⟩ := seconds_val hva
            rw [eS] at h1
            injection h1 with h1 h3
            rw [← list_len, h1]
            exact Nat.le_trans (textN_len (numU_good (Nat.lt_trans h2 (by decide))).1) (by decide)
          have hT : T.size ≤ maxLen := by
            obtain ⟨h1, h2⟩ := seconds_val hvb
            rw [eT] at h1
            injection h1 with h1 h3
            rw [← list_len, h1]
            exact Nat.le_trans (textN_len (numU_good (Nat.lt_trans h2 (by decide))).1) (by decide)
          have g1 : (decide (c < 0) == beforeP a.P (MB.P ⟨b.y, b.mo, b.d, b.h, b.mi, b.s, a.z, a.has⟩)) = true := by rw [hlt]; simp
          have g2 : (decide (c > 0) == beforeP (MB.P ⟨b.y, b.mo, b.d, b.h, b.mi, b.s, a.z, a.has⟩) a.P) = true := by rw [hgt]; simp
          obtain ⟨u, hu⟩ : ∃ u, u = beforeP a.P (MB.P ⟨b.y, b.mo, b.d, b.h, b.mi, b.s, a.z, a.has⟩) := ⟨_, rfl⟩
          obtain ⟨v, hv⟩ : ∃ v, v = beforeP (MB.P ⟨b.y, b.mo, b.d, b.h, b.mi, b.s, a.z, a.has⟩) a.P := ⟨_, rfl⟩
          rw [← hu] at g1
          rw [← hv] at g2
          have c1 : Hid (∀ w, LaidT w → Calls Tryz.prog 20 #[.agg #[.int .i64 a.y, .int .i64 a.mo, .int .i64 a.d, .int .i64 a.h, .int .i64 a.mi, .string a.s, .int .i64 a.z, .bool a.has]] w (fun e w' => e = .returned (.tuple #[.string S, .int .i64 0]) ∧ Below w.heap.size w w')) := Lib.hid (fun w hw => Seconds_c a S 0 eS hsa w hw)
          have c2 : Hid (∀ w, LaidT w → Calls Tryz.prog 20 #[.agg #[.int .i64 b.y, .int .i64 b.mo, .int .i64 b.d, .int .i64 b.h, .int .i64 b.mi, .string b.s, .int .i64 a.z, .bool a.has]] w (fun e w' => e = .returned (.tuple #[.string T, .int .i64 0]) ∧ Below w.heap.size w w')) := Lib.hid (fun w hw => Seconds_c ⟨b.y, b.mo, b.d, b.h, b.mi, b.s, a.z, a.has⟩ T 0 eT hsb w hw)
          have c3 : Hid (∀ w, LaidT w → Calls Tryz.prog 30 #[.string S, .string T] w (fun e w' => e = .returned (.tuple #[.int .i64 c, .int .i64 0]) ∧ Below w.heap.size w w')) := Lib.hid (fun w hw => by have := Cmp_b S T w hw.base.num hS hT; rw [hc] at this; exact this)
          have c4 : Hid (∀ w, LaidT w → Calls Tryz.prog 31 #[.agg #[.int .i64 a.y, .int .i64 a.mo, .int .i64 a.d, .int .i64 a.h, .int .i64 a.mi, .string a.s, .int .i64 a.z, .bool a.has], .agg #[.int .i64 b.y, .int .i64 b.mo, .int .i64 b.d, .int .i64 b.h, .int .i64 b.mi, .string b.s, .int .i64 a.z, .bool a.has]] w (fun e w' => e = .returned (.bool u) ∧ Below w.heap.size w w')) := Lib.hid (fun w hw => by have := before_c a ⟨b.y, b.mo, b.d, b.h, b.mi, b.s, a.z, a.has⟩ w hw hsa hsb; rw [← hu] at this; exact this)
          have c5 : Hid (∀ w, LaidT w → Calls Tryz.prog 31 #[.agg #[.int .i64 b.y, .int .i64 b.mo, .int .i64 b.d, .int .i64 b.h, .int .i64 b.mi, .string b.s, .int .i64 a.z, .bool a.has], .agg #[.int .i64 a.y, .int .i64 a.mo, .int .i64 a.d, .int .i64 a.h, .int .i64 a.mi, .string a.s, .int .i64 a.z, .bool a.has]] w (fun e w' => e = .returned (.bool v) ∧ Below w.heap.size w w')) := Lib.hid (fun w hw => by have := before_c ⟨b.y, b.mo, b.d, b.h, b.mi, b.s, a.z, a.has⟩ a w hw hsb hsa; rw [← hv] at this; exact this)
          clear eS eT hc hS hT hu hv hlt hgt hsa hsb
          replace hva := Lib.hid hva
          replace hvb := Lib.hid hvb
          obtain ⟨q, hq⟩ : ∃ q, q = W.heap.size := ⟨_, rfl⟩
          obtain ⟨r, hr⟩ : ∃ r, r = q + 1 := ⟨_, rfl⟩
          obtain ⟨w0, hw0⟩ : ∃ w, w = W.alloc (.cells #[.int .i64 a.y, .int .i64 a.mo, .int .i64 a.d, .int .i64 a.h, .int .i64 a.mi, .string a.s, .int .i64 a.z, .bool a.has] 24) := ⟨_, rfl⟩
          obtain ⟨w1, hw⟩ : ∃ w, w = w0.alloc (.cells #[.int .i64 b.y, .int .i64 b.mo, .int .i64 b.d, .int .i64 b.h, .int .i64 b.mi, .string b.s, .int .i64 b.z, .bool b.has] 24) := ⟨_, rfl⟩
          have hs0 : w0.heap.size = r := by rw [hw0, hr, hq]; simp
          have hB1 : Hid (Below W.heap.size W w1) := Lib.hid (by rw [hw, hw0]; exact ((Below.refl _ _).alloc (Nat.le_refl _) _).alloc (by simp) _)
          have hMq1 : Hid (MoAt w1 q a.y a.mo a.d a.h a.mi a.s a.z a.has) := Lib.hid (by unfold MoAt; rw [hw, (MapKept.heap_alloc _ _).2 q (by omega), hw0, hq]; exact (MapKept.heap_alloc _ _).1)
          have hMr1 : Hid (MoAt w1 r b.y b.mo b.d b.h b.mi b.s b.z b.has) := Lib.hid (by rw [hw, ← hs0]; exact (MapKept.heap_alloc _ _).1)
          have hL1 := Lib.hid (hL.below hB1.out hL.size)
          have hgeq : Hid (W.heap.size ≤ q) := Lib.hid (by omega)
          have hger : Hid (W.heap.size ≤ r) := Lib.hid (by omega)
          have hnqr : Hid (q ≠ r) := Lib.hid (by omega)
          have hnrq : Hid (r ≠ q) := Lib.hid (by omega)
          subst hw0
          clear hs0
          replace hr := Lib.hid hr
          replace hL := Lib.hid hL
          go_enter Tryz.func11, Tryz.ntmps11
          go_upto_region 1 with fail
          rw [← hw, ← hq, ← hr.out]
          clear hw
          replace hq := Lib.hid hq
          obtain ⟨cq0, cq1, cq2, cq3, cq4, cq5, cq6, cq7⟩ := MomAt.of_heap hMq1.out
          obtain ⟨cr0, cr1, cr2, cr3, cr4, cr5, cr6, cr7⟩ := MomAt.of_heap hMr1.out
          go_upto_region 3 with fail
          clear cq0 cq1 cq2 cq3 cq4 cq5 cq6 cq7
          clear cr0 cr1 cr2 cr3 cr4 cr5 cr6 cr7
          go_cut [5] from 22 to 27 (fun v5 wx => Hid (MoAt wx q a.y a.mo a.d a.h a.mi a.s a.z a.has) ∧ Hid (MoAt wx r b.y b.mo b.d b.h b.mi b.s a.z a.has) ∧ Hid (Below W.heap.size W wx))
          case first =>
            obtain ⟨cq0, cq1, cq2, cq3, cq4, cq5, cq6, cq7⟩ := MomAt.of_heap hMq1.out
            obtain ⟨cr0, cr1, cr2, cr3, cr4, cr5, cr6, cr7⟩ := MomAt.of_heap hMr1.out
            have nqr := hnqr.out
            have nrq := hnrq.out
            have ff6 := Lib.frozen_of_heap hMr1.out 6
            have ff7 := Lib.frozen_of_heap hMr1.out 7
            go_region
            all_goals (go_wp2_with fail; go_meet)
            all_goals (first | exact two_set hMq1.out hMr1.out hB1.out hnqr.out hger.out | exact two_set' hMq1.out hMr1.out hB1.out hnqr.out hger.out)
          obtain ⟨hMq21, hMr21, hB21⟩ := hcut
          obtain ⟨w21, hw⟩ : ∃ w, w = wc := ⟨_, rfl⟩
          rw [← hw] at hMq21 hMr21 hB21 ⊢
          have hL21 := Lib.hid (hL.out.below hB21.out hL.out.size)
          clear hw hMq1 hMr1 hB1 hL1
          obtain ⟨cq0, cq1, cq2, cq3, cq4, cq5, cq6, cq7⟩ := MomAt.of_heap hMq21.out
          go_wp2_with fail
          refine (c1.out w21 hL21.out).mono ?_
          rintro e w22 ⟨rfl, hb⟩
          have hB22 := Lib.hid (hB21.out.trans (hb.mono hB21.out.size))
          have hL22 := Lib.hid (hL.out.below hB22.out hL.out.size)
          have hMq22 : Hid (MoAt w22 q a.y a.mo a.d a.h a.mi a.s a.z a.has) := Lib.hid ((hb.block q (heap_lt hMq21.out)).trans hMq21.out)
          have hMr22 : Hid (MoAt w22 r b.y b.mo b.d b.h b.mi b.s a.z a.has) := Lib.hid ((hb.block r (heap_lt hMr21.out)).trans hMr21.out)
          clear hb hB21 hL21 hMq21 hMr21
          clear cq0 cq1 cq2 cq3 cq4 cq5 cq6 cq7
          obtain ⟨cr0, cr1, cr2, cr3, cr4, cr5, cr6, cr7⟩ := MomAt.of_heap hMr22.out
          go_wp2_with fail
          refine (c2.out w22 hL22.out).mono ?_
          rintro e w23 ⟨rfl, hb⟩
          have hB23 := Lib.hid (hB22.out.trans (hb.mono hB22.out.size))
          have hL23 := Lib.hid (hL.out.below hB23.out hL.out.size)
          have hMq23 : Hid (MoAt w23 q a.y a.mo a.d a.h a.mi a.s a.z a.has) := Lib.hid ((hb.block q (heap_lt hMq22.out)).trans hMq22.out)
          have hMr23 : Hid (MoAt w23 r b.y b.mo b.d b.h b.mi b.s a.z a.has) := Lib.hid ((hb.block r (heap_lt hMr22.out)).trans hMr22.out)
          clear hb hB22 hL22 hMq22 hMr22
          clear cr0 cr1 cr2 cr3 cr4 cr5 cr6 cr7
          go_wp2_with fail
          refine (c3.out w23 hL23.out).mono ?_
          rintro e w24 ⟨rfl, hb⟩
          have hB24 := Lib.hid (hB23.out.trans (hb.mono hB23.out.size))
          have hL24 := Lib.hid (hL.out.below hB24.out hL.out.size)
          have hMq24 : Hid (MoAt w24 q a.y a.mo a.d a.h a.mi a.s a.z a.has) := Lib.hid ((hb.block q (heap_lt hMq23.out)).trans hMq23.out)
          have hMr24 : Hid (MoAt w24 r b.y b.mo b.d b.h b.mi b.s a.z a.has) := Lib.hid ((hb.block r (heap_lt hMr23.out)).trans hMr23.out)
          clear hb hB23 hL23 hMq23 hMr23
          obtain ⟨cq0, cq1, cq2, cq3, cq4, cq5, cq6, cq7⟩ := MomAt.of_heap hMq24.out
          obtain ⟨cr0, cr1, cr2, cr3, cr4, cr5, cr6, cr7⟩ := MomAt.of_heap hMr24.out
          go_wp2_with fail
          refine (c4.out w24 hL24.out).mono ?_
          rintro e w25 ⟨rfl, hb⟩
          have hB25 := Lib.hid (hB24.out.trans (hb.mono hB24.out.size))
          have hL25 := Lib.hid (hL.out.below hB25.out hL.out.size)
          have hMq25 : Hid (MoAt w25 q a.y a.mo a.d a.h a.mi a.s a.z a.has) := Lib.hid ((hb.block q (heap_lt hMq24.out)).trans hMq24.out)
          have hMr25 : Hid (MoAt w25 r b.y b.mo b.d b.h b.mi b.s a.z a.has) := Lib.hid ((hb.block r (heap_lt hMr24.out)).trans hMr24.out)
          clear hb hB24 hL24 hMq24 hMr24
          clear cq0 cq1 cq2 cq3 cq4 cq5 cq6 cq7
          clear cr0 cr1 cr2 cr3 cr4 cr5 cr6 cr7
          obtain ⟨cq0, cq1, cq2, cq3, cq4, cq5, cq6, cq7⟩ := MomAt.of_heap hMq25.out
          obtain ⟨cr0, cr1, cr2, cr3, cr4, cr5, cr6, cr7⟩ := MomAt.of_heap hMr25.out
          go_wp2_with fail
          refine (c5.out w25 hL25.out).mono ?_
          rintro e w26 ⟨rfl, hb⟩
          have hB26 := Lib.hid (hB25.out.trans (hb.mono hB25.out.size))
          have hL26 := Lib.hid (hL.out.below hB26.out hL.out.size)
          have hMq26 : Hid (MoAt w26 q a.y a.mo a.d a.h a.mi a.s a.z a.has) := Lib.hid ((hb.block q (heap_lt hMq25.out)).trans hMq25.out)
          have hMr26 : Hid (MoAt w26 r b.y b.mo b.d b.h b.mi b.s a.z a.has) := Lib.hid ((hb.block r (heap_lt hMr25.out)).trans hMr25.out)
          clear hb hB25 hL25 hMq25 hMr25
          clear cq0 cq1 cq2 cq3 cq4 cq5 cq6 cq7
          clear cr0 cr1 cr2 cr3 cr4 cr5 cr6 cr7
          go_wp2_with fail
          refine (works_c w26 hL26.out).mono ?_
          rintro e w ⟨rfl, hb⟩
          go_wp2_with fail
          go_ret
          exact ⟨rfl, hB26.out.trans (hb.mono hB26.out.size)⟩
        · rw [if_pos hva] at hj
          rw [if_neg hvb] at hk
          subst hj hk
          have c1 : Hid (∀ w, LaidT w → Calls Tryz.prog 20 #[.agg #[.int .i64 a.y, .int .i64 a.mo, .int .i64 a.d, .int .i64 a.h, .int .i64 a.mi, .string a.s, .int .i64 a.z, .bool a.has]] w (fun e w' => e = .returned (.tuple #[.string S, .int .i64 0]) ∧ Below w.heap.size w w')) := Lib.hid (fun w hw => Seconds_c a S 0 eS hsa w hw)
          have c2 : Hid (∀ w, LaidT w → Calls Tryz.prog 20 #[.agg #[.int .i64 b.y, .int .i64 b.mo, .int .i64 b.d, .int .i64 b.h, .int .i64 b.mi, .string b.s, .int .i64 a.z, .bool a.has]] w (fun e w' => e = .returned (.tuple #[.string T, .int .i64 1]) ∧ Below w.heap.size w w')) := Lib.hid (fun w hw => Seconds_c ⟨b.y, b.mo, b.d, b.h, b.mi, b.s, a.z, a.has⟩ T 1 eT hsb w hw)
          clear eS eT hsa hsb
          replace hva := Lib.hid hva
          replace hvb := Lib.hid hvb
          obtain ⟨q, hq⟩ : ∃ q, q = W.heap.size := ⟨_, rfl⟩
          obtain ⟨r, hr⟩ : ∃ r, r = q + 1 := ⟨_, rfl⟩
          obtain ⟨w0, hw0⟩ : ∃ w, w = W.alloc (.cells #[.int .i64 a.y, .int .i64 a.mo, .int .i64 a.d, .int .i64 a.h, .int .i64 a.mi, .string a.s, .int .i64 a.z, .bool a.has] 24) := ⟨_, rfl⟩
          obtain ⟨w1, hw⟩ : ∃ w, w = w0.alloc (.cells #[.int .i64 b.y, .int .i64 b.mo, .int .i64 b.d, .int .i64 b.h, .int .i64 b.mi, .string b.s, .int .i64 b.z, .bool b.has] 24) := ⟨_, rfl⟩
          have hs0 : w0.heap.size = r := by rw [hw0, hr, hq]; simp
          have hB1 : Hid (Below W.heap.size W w1) := Lib.hid (by rw [hw, hw0]; exact ((Below.refl _ _).alloc (Nat.le_refl _) _).alloc (by simp) _)
          have hMq1 : Hid (MoAt w1 q a.y a.mo a.d a.h a.mi a.s a.z a.has) := Lib.hid (by unfold MoAt; rw [hw, (MapKept.heap_alloc _ _).2 q (by omega), hw0, hq]; exact (MapKept.heap_alloc _ _).1)
          have hMr1 : Hid (MoAt w1 r b.y b.mo b.d b.h b.mi b.s b.z b.has) := Lib.hid (by rw [hw, ← hs0]; exact (MapKept.heap_alloc _ _).1)
          have hL1 := Lib.hid (hL.below hB1.out hL.size)
          have hgeq : Hid (W.heap.size ≤ q) := Lib.hid (by omega)
          have hger : Hid (W.heap.size ≤ r) := Lib.hid (by omega)
          have hnqr : Hid (q ≠ r) := Lib.hid (by omega)
          have hnrq : Hid (r ≠ q) := Lib.hid (by omega)
          subst hw0
          clear hs0
          replace hr := Lib.hid hr
          replace hL := Lib.hid hL
          go_enter Tryz.func11, Tryz.ntmps11
          go_upto_region 1 with fail
          rw [← hw, ← hq, ← hr.out]
          clear hw
          replace hq := Lib.hid hq
          obtain ⟨cq0, cq1, cq2, cq3, cq4, cq5, cq6, cq7⟩ := MomAt.of_heap hMq1.out
          obtain ⟨cr0, cr1, cr2, cr3, cr4, cr5, cr6, cr7⟩ := MomAt.of_heap hMr1.out
          go_upto_region 3 with fail
          clear cq0 cq1 cq2 cq3 cq4 cq5 cq6 cq7
          clear cr0 cr1 cr2 cr3 cr4 cr5 cr6 cr7
          go_cut [5] from 22 to 27 (fun v5 wx => Hid (MoAt wx q a.y a.mo a.d a.h a.mi a.s a.z a.has) ∧ Hid (MoAt wx r b.y b.mo b.d b.h b.mi b.s a.z a.has) ∧ Hid (Below W.heap.size W wx))
          case first =>
            obtain ⟨cq0, cq1, cq2, cq3, cq4, cq5, cq6, cq7⟩ := MomAt.of_heap hMq1.out
            obtain ⟨cr0, cr1, cr2, cr3, cr4, cr5, cr6, cr7⟩ := MomAt.of_heap hMr1.out
            have nqr := hnqr.out
            have nrq := hnrq.out
            have ff6 := Lib.frozen_of_heap hMr1.out 6
            have ff7 := Lib.frozen_of_heap hMr1.out 7
            go_region
            all_goals (go_wp2_with fail; go_meet)
            all_goals (first | exact two_set hMq1.out hMr1.out hB1.out hnqr.out hger.out | exact two_set' hMq1.out hMr1.out hB1.out hnqr.out hger.out)
          obtain ⟨hMq21, hMr21, hB21⟩ := hcut
          obtain ⟨w21, hw⟩ : ∃ w, w = wc := ⟨_, rfl⟩
          rw [← hw] at hMq21 hMr21 hB21 ⊢
          have hL21 := Lib.hid (hL.out.below hB21.out hL.out.size)
          clear hw hMq1 hMr1 hB1 hL1
          obtain ⟨cq0, cq1, cq2, cq3, cq4, cq5, cq6, cq7⟩ := MomAt.of_heap hMq21.out
          go_wp2_with fail
          refine (c1.out w21 hL21.out).mono ?_
          rintro e w22 ⟨rfl, hb⟩
          have hB22 := Lib.hid (hB21.out.trans (hb.mono hB21.out.size))
          have hL22 := Lib.hid (hL.out.below hB22.out hL.out.size)
          have hMq22 : Hid (MoAt w22 q a.y a.mo a.d a.h a.mi a.s a.z a.has) := Lib.hid ((hb.block q (heap_lt hMq21.out)).trans hMq21.out)
          have hMr22 : Hid (MoAt w22 r b.y b.mo b.d b.h b.mi b.s a.z a.has) := Lib.hid ((hb.block r (heap_lt hMr21.out)).trans hMr21.out)
          clear hb hB21 hL21 hMq21 hMr21
          clear cq0 cq1 cq2 cq3 cq4 cq5 cq6 cq7
          obtain ⟨cr0, cr1, cr2, cr3, cr4, cr5, cr6, cr7⟩ := MomAt.of_heap hMr22.out
          go_wp2_with fail
          refine (c2.out w22 hL22.out).mono ?_
          rintro e w23 ⟨rfl, hb⟩
          have hB23 := Lib.hid (hB22.out.trans (hb.mono hB22.out.size))
          have hL23 := Lib.hid (hL.out.below hB23.out hL.out.size)
          have hMq23 : Hid (MoAt w23 q a.y a.mo a.d a.h a.mi a.s a.z a.has) := Lib.hid ((hb.block q (heap_lt hMq22.out)).trans hMq22.out)
          have hMr23 : Hid (MoAt w23 r b.y b.mo b.d b.h b.mi b.s a.z a.has) := Lib.hid ((hb.block r (heap_lt hMr22.out)).trans hMr22.out)
          clear hb hB22 hL22 hMq22 hMr22
          clear cr0 cr1 cr2 cr3 cr4 cr5 cr6 cr7
          go_wp2_with fail
          refine (works_c w23 hL23.out).mono ?_
          rintro e w ⟨rfl, hb⟩
          go_wp2_with fail
          go_ret
          exact ⟨rfl, hB23.out.trans (hb.mono hB23.out.size)⟩
      · rw [if_neg hva] at hj
        subst hj
        replace hk := Lib.hid hk
        have c1 : Hid (∀ w, LaidT w → Calls Tryz.prog 20 #[.agg #[.int .i64 a.y, .int .i64 a.mo, .int .i64 a.d, .int .i64 a.h, .int .i64 a.mi, .string a.s, .int .i64 a.z, .bool a.has]] w (fun e w' => e = .returned (.tuple #[.string S, .int .i64 1]) ∧ Below w.heap.size w w')) := Lib.hid (fun w hw => Seconds_c a S 1 eS hsa w hw)
        have c2 : Hid (∀ w, LaidT w → Calls Tryz.prog 20 #[.agg #[.int .i64 b.y, .int .i64 b.mo, .int .i64 b.d, .int .i64 b.h, .int .i64 b.mi, .string b.s, .int .i64 a.z, .bool a.has]] w (fun e w' => e = .returned (.tuple #[.string T, .int .i64 k]) ∧ Below w.heap.size w w')) := Lib.hid (fun w hw => Seconds_c ⟨b.y, b.mo, b.d, b.h, b.mi, b.s, a.z, a.has⟩ T k eT hsb w hw)
        clear eS eT hsa hsb
        replace hva := Lib.hid hva
        obtain ⟨q, hq⟩ : ∃ q, q = W.heap.size := ⟨_, rfl⟩
        obtain ⟨r, hr⟩ : ∃ r, r = q + 1 := ⟨_, rfl⟩
        obtain ⟨w0, hw0⟩ : ∃ w, w = W.alloc (.cells #[.int .i64 a.y, .int .i64 a.mo, .int .i64 a.d, .int .i64 a.h, .int .i64 a.mi, .string a.s, .int .i64 a.z, .bool a.has] 24) := ⟨_, rfl⟩
        obtain ⟨w1, hw⟩ : ∃ w, w = w0.alloc (.cells #[.int .i64 b.y, .int .i64 b.mo, .int .i64 b.d, .int .i64 b.h, .int .i64 b.mi, .string b.s, .int .i64 b.z, .bool b.has] 24) := ⟨_, rfl⟩
        have hs0 : w0.heap.size = r := by rw [hw0, hr, hq]; simp
        have hB1 : Hid (Below W.heap.size W w1) := Lib.hid (by rw [hw, hw0]; exact ((Below.refl _ _).alloc (Nat.le_refl _) _).alloc (by simp) _)
        have hMq1 : Hid (MoAt w1 q a.y a.mo a.d a.h a.mi a.s a.z a.has) := Lib.hid (by unfold MoAt; rw [hw, (MapKept.heap_alloc _ _).2 q (by omega), hw0, hq]; exact (MapKept.heap_alloc _ _).1)
        have hMr1 : Hid (MoAt w1 r b.y b.mo b.d b.h b.mi b.s b.z b.has) := Lib.hid (by rw [hw, ← hs0]; exact (MapKept.heap_alloc _ _).1)
        have hL1 := Lib.hid (hL.below hB1.out hL.size)
        have hgeq : Hid (W.heap.size ≤ q) := Lib.hid (by omega)
        have hger : Hid (W.heap.size ≤ r) := Lib.hid (by omega)
        have hnqr : Hid (q ≠ r) := Lib.hid (by omega)
        have hnrq : Hid (r ≠ q) := Lib.hid (by omega)
        subst hw0
        clear hs0
        replace hr := Lib.hid hr
        replace hL := Lib.hid hL
        go_enter Tryz.func11, Tryz.ntmps11
        go_upto_region 1 with fail
        rw [← hw, ← hq, ← hr.out]
        clear hw
        replace hq := Lib.hid hq
        obtain ⟨cq0, cq1, cq2, cq3, cq4, cq5, cq6, cq7⟩ := MomAt.of_heap hMq1.out
        obtain ⟨cr0, cr1, cr2, cr3, cr4, cr5, cr6, cr7⟩ := MomAt.of_heap hMr1.out
        go_upto_region 3 with fail
        clear cq0 cq1 cq2 cq3 cq4 cq5 cq6 cq7
        clear cr0 cr1 cr2 cr3 cr4 cr5 cr6 cr7
        go_cut [5] from 22 to 27 (fun v5 wx => Hid (MoAt wx q a.y a.mo a.d a.h a.mi a.s a.z a.has) ∧ Hid (MoAt wx r b.y b.mo b.d b.h b.mi b.s a.z a.has) ∧ Hid (Below W.heap.size W wx))
        case first =>
          obtain ⟨cq0, cq1, cq2, cq3, cq4, cq5, cq6, cq7⟩ := MomAt.of_heap hMq1.out
          obtain ⟨cr0, cr1, cr2, cr3, cr4, cr5, cr6, cr7⟩ := MomAt.of_heap hMr1.out
          have nqr := hnqr.out
          have nrq := hnrq.out
          have ff6 := Lib.frozen_of_heap hMr1.out 6
          have ff7 := Lib.frozen_of_heap hMr1.out 7
          go_region
          all_goals (go_wp2_with fail; go_meet)
          all_goals (first | exact two_set hMq1.out hMr1.out hB1.out hnqr.out hger.out | exact two_set' hMq1.out hMr1.out hB1.out hnqr.out hger.out)
        obtain ⟨hMq21, hMr21, hB21⟩ := hcut
        obtain ⟨w21, hw⟩ : ∃ w, w = wc := ⟨_, rfl⟩
        rw [← hw] at hMq21 hMr21 hB21 ⊢
        have hL21 := Lib.hid (hL.out.below hB21.out hL.out.size)
        clear hw hMq1 hMr1 hB1 hL1
        obtain ⟨cq0, cq1, cq2, cq3, cq4, cq5, cq6, cq7⟩ := MomAt.of_heap hMq21.out
        go_wp2_with fail
        refine (c1.out w21 hL21.out).mono ?_
        rintro e w22 ⟨rfl, hb⟩
        have hB22 := Lib.hid (hB21.out.trans (hb.mono hB21.out.size))
        have hL22 := Lib.hid (hL.out.below hB22.out hL.out.size)
        have hMq22 : Hid (MoAt w22 q a.y a.mo a.d a.h a.mi a.s a.z a.has) := Lib.hid ((hb.block q (heap_lt hMq21.out)).trans hMq21.out)
        have hMr22 : Hid (MoAt w22 r b.y b.mo b.d b.h b.mi b.s a.z a.has) := Lib.hid ((hb.block r (heap_lt hMr21.out)).trans hMr21.out)
        clear hb hB21 hL21 hMq21 hMr21
        clear cq0 cq1 cq2 cq3 cq4 cq5 cq6 cq7
        obtain ⟨cr0, cr1, cr2, cr3, cr4, cr5, cr6, cr7⟩ := MomAt.of_heap hMr22.out
        go_wp2_with fail
        refine (c2.out w22 hL22.out).mono ?_
        rintro e w23 ⟨rfl, hb⟩
        have hB23 := Lib.hid (hB22.out.trans (hb.mono hB22.out.size))
        have hL23 := Lib.hid (hL.out.below hB23.out hL.out.size)
        have hMq23 : Hid (MoAt w23 q a.y a.mo a.d a.h a.mi a.s a.z a.has) := Lib.hid ((hb.block q (heap_lt hMq22.out)).trans hMq22.out)
        have hMr23 : Hid (MoAt w23 r b.y b.mo b.d b.h b.mi b.s a.z a.has) := Lib.hid ((hb.block r (heap_lt hMr22.out)).trans hMr22.out)
        clear hb hB22 hL22 hMq22 hMr22
        clear cr0 cr1 cr2 cr3 cr4 cr5 cr6 cr7
        go_wp2_with fail
        refine (works_c w23 hL23.out).mono ?_
        rintro e w ⟨rfl, hb⟩
        go_wp2_with fail
        go_ret
        exact ⟨rfl, hB23.out.trans (hb.mono hB23.out.size)⟩
end Go.Proofs.YtgobpoeccdgeiaaGreatDoor
