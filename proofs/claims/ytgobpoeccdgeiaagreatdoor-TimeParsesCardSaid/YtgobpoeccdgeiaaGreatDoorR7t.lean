/- Package chiselref07: clock, parts, tomorrow, Parse. (Printed by genparse7.py.) -/
import Derived.Test.YtgobpoeccdgeiaaGreatDoorR7s
import Derived.Deep.RegionHeld3
import Derived.Deep.Cut
namespace Go.Proofs.YtgobpoeccdgeiaaGreatDoor
open Go.RowKit NumP DigP DurP TimeP Go.Proofs.YtgobpoeccdgeiaaGreatDoorW.PrintWords
set_option linter.unusedVariables false

/-- The blocks of a function that makes a moment: the result's and the moment's. -/
structure TwoD (W : World) (r m : Nat) (w : World) (y mo d h mi : Int) (s : ByteArray) (z : Int) (has : Bool) : Prop where
  hr : w.heap[r]? = some (.cells #[.int .i64 0, .int .i64 0, .int .i64 0, .int .i64 0, .int .i64 0, .string ⟨#[]⟩, .int .i64 0, .bool false] 28 (0, 0))
  hm : w.heap[m]? = some (.cells #[.int .i64 y, .int .i64 mo, .int .i64 d, .int .i64 h, .int .i64 mi, .string s, .int .i64 z, .bool has] 28 (0, 0))
  hb : Below W.heap.size W w
  gr : W.heap.size ≤ r
  gm : W.heap.size ≤ m
  ne : r ≠ m
theorem TwoD.later {W : World} {r m : Nat} {w w' : World} {y mo d h mi : Int} {s : ByteArray} {z : Int} {has : Bool} (t : TwoD W r m w y mo d h mi s z has) (hb : Below w.heap.size w w') : TwoD W r m w' y mo d h mi s z has :=
  ⟨(hb.block r (heap_lt t.hr)).trans t.hr, (hb.block m (heap_lt t.hm)).trans t.hm, t.hb.trans (hb.mono t.hb.size), t.gr, t.gm, t.ne⟩
theorem TwoD.mom {W : World} {r m : Nat} {w : World} {y mo d h mi : Int} {s : ByteArray} {z : Int} {has : Bool} (t : TwoD W r m w y mo d h mi s z has) : MomAt w m y mo d h mi s z has := MomAt.of_heap t.hm
theorem TwoD.res {W : World} {r m : Nat} {w : World} {y mo d h mi : Int} {s : ByteArray} {z : Int} {has : Bool} (t : TwoD W r m w y mo d h mi s z has) : MomAt w r 0 0 0 0 0 ⟨#[]⟩ 0 false := MomAt.of_heap t.hr
theorem TwoD.put {W : World} {r m : Nat} {w : World} {y mo d h mi : Int} {s : ByteArray} {z : Int} {has : Bool} (t : TwoD W r m w y mo d h mi s z has) (a0 a1 a2 a3 a4 a5 a6 a7 : Value) :
    ∃ W5, W5 = (((((((w.setCell ⟨r, 0, none⟩ a0).setCell ⟨r, 1, none⟩ a1).setCell ⟨r, 2, none⟩ a2).setCell ⟨r, 3, none⟩ a3).setCell ⟨r, 4, none⟩ a4).setCell ⟨r, 5, none⟩ a5).setCell ⟨r, 6, none⟩ a6).setCell ⟨r, 7, none⟩ a7 ∧ W5.heap[r]? = some (.cells #[a0, a1, a2, a3, a4, a5, a6, a7] 28 (0, 0)) ∧ Below W.heap.size W W5 := by
  obtain ⟨W5, h1, h2, h3⟩ := put8 t.hr a0 a1 a2 a3 a4 a5 a6 a7 (B := W.heap.size) t.gr
  exact ⟨W5, h1, h2, t.hb.trans h3⟩
theorem TwoD.putm {W : World} {r m : Nat} {w : World} {y mo d h mi : Int} {s : ByteArray} {z : Int} {has : Bool} (t : TwoD W r m w y mo d h mi s z has) (y2 mo2 d2 h2 mi2 : Int) (s2 : ByteArray) (z2 : Int) (has2 : Bool) :
    ∃ W5, W5 = (((((((w.setCell ⟨m, 0, none⟩ (.int .i64 y2)).setCell ⟨m, 1, none⟩ (.int .i64 mo2)).setCell ⟨m, 2, none⟩ (.int .i64 d2)).setCell ⟨m, 3, none⟩ (.int .i64 h2)).setCell ⟨m, 4, none⟩ (.int .i64 mi2)).setCell ⟨m, 5, none⟩ (.string s2)).setCell ⟨m, 6, none⟩ (.int .i64 z2)).setCell ⟨m, 7, none⟩ (.bool has2) ∧ TwoD W r m W5 y2 mo2 d2 h2 mi2 s2 z2 has2 := by
  obtain ⟨W5, h1, h2, h3⟩ := put8 t.hm (.int .i64 y2) (.int .i64 mo2) (.int .i64 d2) (.int .i64 h2) (.int .i64 mi2) (.string s2) (.int .i64 z2) (.bool has2) (B := W.heap.size) t.gm
  refine ⟨W5, h1, ?_, h2, t.hb.trans h3, t.gr, t.gm, t.ne⟩
  rw [h1]
  rw [Below.heap_setCell _ _ _ _ t.ne, Below.heap_setCell _ _ _ _ t.ne, Below.heap_setCell _ _ _ _ t.ne, Below.heap_setCell _ _ _ _ t.ne, Below.heap_setCell _ _ _ _ t.ne, Below.heap_setCell _ _ _ _ t.ne, Below.heap_setCell _ _ _ _ t.ne, Below.heap_setCell _ _ _ _ t.ne]
  exact t.hr
theorem TwoD.set {W : World} {r m : Nat} {w : World} {y mo d h mi : Int} {s : ByteArray} {z : Int} {has : Bool} (t : TwoD W r m w y mo d h mi s z has) (i : Nat) (v : Value) {y2 mo2 d2 h2 mi2 : Int} {s2 : ByteArray} {z2 : Int} {has2 : Bool}
    (e : (#[.int .i64 y, .int .i64 mo, .int .i64 d, .int .i64 h, .int .i64 mi, .string s, .int .i64 z, .bool has] : Array Value).set! i v = #[.int .i64 y2, .int .i64 mo2, .int .i64 d2, .int .i64 h2, .int .i64 mi2, .string s2, .int .i64 z2, .bool has2]) : TwoD W r m (w.setCell ⟨m, i, none⟩ v) y2 mo2 d2 h2 mi2 s2 z2 has2 := by
  refine ⟨?_, ?_, t.hb.setCell (p := ⟨m, i, none⟩) t.gm _, t.gr, t.gm, t.ne⟩
  · rw [Below.heap_setCell _ _ _ _ t.ne]; exact t.hr
  · rw [← e]; exact Lib.heap_setCell_same t.hm v
set_option maxRecDepth 100000 in
set_option maxHeartbeats 4000000 in
theorem tomorrow7_r (Y Mo : Nat) (d h mi : Int) (z0 : ByteArray) (z : Int) (has : Bool) (W : World) (b1 : 1 ≤ Mo) (b2 : Mo ≤ 12) (b3 : Y ≤ 9999) (b4 : 0 ≤ d ∧ d ≤ 31) : Calls Tryz.prog 42 #[.agg #[.int .i64 (Y : Int), .int .i64 (Mo : Int), .int .i64 d, .int .i64 h, .int .i64 mi, .string z0, .int .i64 z, .bool has]] W fun e w' => e = .returned (momV (tomorrow7 ⟨(Y : Int), (Mo : Int), d, h, mi, z0.data.toList, z, has⟩)) ∧ Below W.heap.size W w' := by
  have hT0 := TwoC.init W (Y : Int) (Mo : Int) d h mi z0 z has
  obtain ⟨W1, hW1⟩ : ∃ w, w = twoC W (Y : Int) (Mo : Int) d h mi z0 z has := ⟨_, rfl⟩
  obtain ⟨q, hq⟩ : ∃ q, q = W.heap.size := ⟨_, rfl⟩
  rw [← hW1, ← hq] at hT0
  unfold twoC at hW1
  have t0 := Lib.hid hT0
  clear hT0
  have hq' := Lib.hid hq
  obtain ⟨R, hR0⟩ : ∃ R, R = tomorrow7 ⟨(Y : Int), (Mo : Int), d, h, mi, z0.data.toList, z, has⟩ := ⟨_, rfl⟩
  rw [← hR0]
  obtain ⟨L, hL⟩ : ∃ L, L = lenM Y Mo := ⟨_, rfl⟩
  have hL31 : L ≤ 31 := by rw [hL]; exact lenM_le31 Y Mo
  have kL : Hid (∀ w, Calls Tryz.prog 60 #[.int .i64 (Y : Int), .int .i64 (Mo : Int)] w fun e w' => e = .returned (.int .i64 (L : Int)) ∧ w' = w) := Lib.hid (fun w => by
    rw [hL]
    exact (Days_r Y Mo w).mono fun e w' h => ⟨h.1, h.2.symm⟩)
  unfold tomorrow7 at hR0
  simp only [Int.toNat_natCast] at hR0
  rw [← hL] at hR0
  replace hL := Lib.hid hL
  by_cases g1 : d + 1 > (L : Int)
  · rw [if_neg (by omega)] at hR0
    by_cases g2 : (Mo : Int) + 1 > 12
    · rw [if_neg (by omega)] at hR0
      have hR := Lib.hid hR0
      clear hR0
      have gMo : (Mo : Int) + 1 = 13 := by omega
      go_enter Tryz.func42, Tryz.ntmps42
      go_upto_region 1 with fail
      rw [← hW1, ← hq]
      clear hW1 hq
      obtain ⟨c0, c1, c2, c3, c4, c5, c6, c7⟩ := t0.out.mom
      have ff := Lib.frozen_of_heap t0.out.hq 2
      obtain ⟨w1, hw⟩ : ∃ w, w = W1.setCell ⟨q, 2, none⟩ (.int .i64 (d + 1)) := ⟨_, rfl⟩
      have t1 : Hid (TwoC W q w1 (Y : Int) (Mo : Int) (d + 1) h mi z0 z has) := Lib.hid (by rw [hw]; exact t0.out.set hq'.out 2 (.int .i64 (d + 1)) rfl)
      go_upto_region 2 with fail
      rw [← hw]
      clear hw ff c0 c1 c2 c3 c4 c5 c6 c7 t0
      obtain ⟨c0, c1, c2, c3, c4, c5, c6, c7⟩ := t1.out.mom
      go_quiet ((go_at_call 60; exact Calls.quiet_of_same (kL.out _)))
      clear c0 c1 c2 c3 c4 c5 c6 c7
      obtain ⟨w2, hw2⟩ : ∃ w, w = w1.drewN nq := ⟨_, rfl⟩
      have t2 : Hid (TwoC W q w2 (Y : Int) (Mo : Int) (d + 1) h mi z0 z has) := Lib.hid (by rw [hw2]; exact t1.out.later (below_drewN (Below.refl _ _) nq))
      rw [← hw2]
      clear hw2 t1
      have hY : (Y : Int) ≤ 9999 := by omega
      obtain ⟨c0, c1, c2, c3, c4, c5, c6, c7⟩ := t2.out.mom
      have ff := Lib.frozen_of_heap t2.out.hq 2
      obtain ⟨w3, hw⟩ : ∃ w, w = w2.setCell ⟨q, 2, none⟩ (.int .i64 1) := ⟨_, rfl⟩
      have t3 : Hid (TwoC W q w3 (Y : Int) (Mo : Int) 1 h mi z0 z has) := Lib.hid (by rw [hw]; exact t2.out.set hq'.out 2 (.int .i64 1) rfl)
      go_upto_region 4 with fail
      rw [← hw]
      clear hw ff c0 c1 c2 c3 c4 c5 c6 c7 t2
      obtain ⟨c0, c1, c2, c3, c4, c5, c6, c7⟩ := t3.out.mom
      have ff := Lib.frozen_of_heap t3.out.hq 1
      obtain ⟨w4, hw⟩ : ∃ w, w = w3.setCell ⟨q, 1, none⟩ (.int .i64 13) := ⟨_, rfl⟩
      have t4 : Hid (TwoC W q w4 (Y : Int) 13 1 h mi z0 z has) := Lib.hid (by rw [hw]; exact t3.out.set hq'.out 1 (.int .i64 13) rfl)
      go_upto_region 5 with fail
      rw [← hw]
      clear hw ff c0 c1 c2 c3 c4 c5 c6 c7 t3
      obtain ⟨c0, c1, c2, c3, c4, c5, c6, c7⟩ := t4.out.mom
      go_upto_region 6 with fail
      clear c0 c1 c2 c3 c4 c5 c6 c7
      obtain ⟨c0, c1, c2, c3, c4, c5, c6, c7⟩ := t4.out.mom
      have ff := Lib.frozen_of_heap t4.out.hq 1
      obtain ⟨w5, hw⟩ : ∃ w, w = w4.setCell ⟨q, 1, none⟩ (.int .i64 1) := ⟨_, rfl⟩
      have t5 : Hid (TwoC W q w5 (Y : Int) 1 1 h mi z0 z has) := Lib.hid (by rw [hw]; exact t4.out.set hq'.out 1 (.int .i64 1) rfl)
      go_upto_region 7 with fail
      rw [← hw]
      clear hw ff c0 c1 c2 c3 c4 c5 c6 c7 t4
      obtain ⟨c0, c1, c2, c3, c4, c5, c6, c7⟩ := t5.out.mom
      have ff := Lib.frozen_of_heap t5.out.hq 0
      obtain ⟨w6, hw⟩ : ∃ w, w = w5.setCell ⟨q, 0, none⟩ (.int .i64 ((Y : Int) + 1)) := ⟨_, rfl⟩
      have t6 : Hid (TwoC W q w6 ((Y : Int) + 1) 1 1 h mi z0 z has) := Lib.hid (by rw [hw]; exact t5.out.set hq'.out 0 (.int .i64 ((Y : Int) + 1)) rfl)
      go_upto_region 8 with fail
      rw [← hw]
      clear hw ff c0 c1 c2 c3 c4 c5 c6 c7 t5
      obtain ⟨c0, c1, c2, c3, c4, c5, c6, c7⟩ := t6.out.mom
      obtain ⟨d0, d1, d2, d3, d4, d5, d6, d7⟩ := t6.out.res
      obtain ⟨f0, f1, f2, f3, f4, f5, f6, f7⟩ := froz8 t6.out.hp
      obtain ⟨W5, hW5, hp5, hb5⟩ := put_resC t6.out hq'.out (.int .i64 ((Y : Int) + 1)) (.int .i64 1) (.int .i64 1) (.int .i64 h) (.int .i64 mi) (.string z0) (.int .i64 z) (.bool has)
      replace hW5 := Lib.hid hW5
      replace hp5 := Lib.hid hp5
      go_wp2_with fail
      rw [← hW5.out]
      clear hW5 d0 d1 d2 d3 d4 d5 d6 d7 f0 f1 f2 f3 f4 f5 f6 f7 c0 c1 c2 c3 c4 c5 c6 c7
      obtain ⟨c0, c1, c2, c3, c4, c5, c6, c7⟩ := MomAt.of_heap hp5.out
      refine bodyPost_ret (v := .agg #[.int .i64 ((Y : Int) + 1), .int .i64 1, .int .i64 1, .int .i64 h, .int .i64 mi, .string z0, .int .i64 z, .bool has]) ?ret rfl ?post
      case ret => rw [res_one7 rfl]; go_simp
      case post => exact ⟨by rw [hR.out]; rfl, hb5⟩
    · rw [if_pos (by omega)] at hR0
      have hR := Lib.hid hR0
      clear hR0
      go_enter Tryz.func42, Tryz.ntmps42
      go_upto_region 1 with fail
      rw [← hW1, ← hq]
      clear hW1 hq
      obtain ⟨c0, c1, c2, c3, c4, c5, c6, c7⟩ := t0.out.mom
      have ff := Lib.frozen_of_heap t0.out.hq 2
      obtain ⟨w1, hw⟩ : ∃ w, w = W1.setCell ⟨q, 2, none⟩ (.int .i64 (d + 1)) := ⟨_, rfl⟩
      have t1 : Hid (TwoC W q w1 (Y : Int) (Mo : Int) (d + 1) h mi z0 z has) := Lib.hid (by rw [hw]; exact t0.out.set hq'.out 2 (.int .i64 (d + 1)) rfl)
      go_upto_region 2 with fail
      rw [← hw]
      clear hw ff c0 c1 c2 c3 c4 c5 c6 c7 t0
      obtain ⟨c0, c1, c2, c3, c4, c5, c6, c7⟩ := t1.out.mom
      go_quiet ((go_at_call 60; exact Calls.quiet_of_same (kL.out _)))
      clear c0 c1 c2 c3 c4 c5 c6 c7
      obtain ⟨w2, hw2⟩ : ∃ w, w = w1.drewN nq := ⟨_, rfl⟩
      have t2 : Hid (TwoC W q w2 (Y : Int) (Mo : Int) (d + 1) h mi z0 z has) := Lib.hid (by rw [hw2]; exact t1.out.later (below_drewN (Below.refl _ _) nq))
      rw [← hw2]
      clear hw2 t1
      obtain ⟨c0, c1, c2, c3, c4, c5, c6, c7⟩ := t2.out.mom
      have ff := Lib.frozen_of_heap t2.out.hq 2
      obtain ⟨w3, hw⟩ : ∃ w, w = w2.setCell ⟨q, 2, none⟩ (.int .i64 1) := ⟨_, rfl⟩
      have t3 : Hid (TwoC W q w3 (Y : Int) (Mo : Int) 1 h mi z0 z has) := Lib.hid (by rw [hw]; exact t2.out.set hq'.out 2 (.int .i64 1) rfl)
      go_upto_region 4 with fail
      rw [← hw]
      clear hw ff c0 c1 c2 c3 c4 c5 c6 c7 t2
      obtain ⟨c0, c1, c2, c3, c4, c5, c6, c7⟩ := t3.out.mom
      have ff := Lib.frozen_of_heap t3.out.hq 1
      obtain ⟨w4, hw⟩ : ∃ w, w = w3.setCell ⟨q, 1, none⟩ (.int .i64 ((Mo : Int) + 1)) := ⟨_, rfl⟩
      have t4 : Hid (TwoC W q w4 (Y : Int) ((Mo : Int) + 1) 1 h mi z0 z has) := Lib.hid (by rw [hw]; exact t3.out.set hq'.out 1 (.int .i64 ((Mo : Int) + 1)) rfl)
      go_upto_region 5 with fail
      rw [← hw]
      clear hw ff c0 c1 c2 c3 c4 c5 c6 c7 t3
      obtain ⟨c0, c1, c2, c3, c4, c5, c6, c7⟩ := t4.out.mom
      go_upto_region 8 with fail
      clear c0 c1 c2 c3 c4 c5 c6 c7
      obtain ⟨c0, c1, c2, c3, c4, c5, c6, c7⟩ := t4.out.mom
      obtain ⟨d0, d1, d2, d3, d4, d5, d6, d7⟩ := t4.out.res
      obtain ⟨f0, f1, f2, f3, f4, f5, f6, f7⟩ := froz8 t4.out.hp
      obtain ⟨W5, hW5, hp5, hb5⟩ := put_resC t4.out hq'.out (.int .i64 (Y : Int)) (.int .i64 ((Mo : Int) + 1)) (.int .i64 1) (.int .i64 h) (.int .i64 mi) (.string z0) (.int .i64 z) (.bool has)
      replace hW5 := Lib.hid hW5
      replace hp5 := Lib.hid hp5
      go_wp2_with fail
      rw [← hW5.out]
      clear hW5 d0 d1 d2 d3 d4 d5 d6 d7 f0 f1 f2 f3 f4 f5 f6 f7 c0 c1 c2 c3 c4 c5 c6 c7
      obtain ⟨c0, c1, c2, c3, c4, c5, c6, c7⟩ := MomAt.of_heap hp5.out
      refine bodyPost_ret (v := .agg #[.int .i64 (Y : Int), .int .i64 ((Mo : Int) + 1), .int .i64 1, .int .i64 h, .int .i64 mi, .string z0, .int .i64 z, .bool has]) ?ret rfl ?post
      case ret => rw [res_one7 rfl]; go_simp
      case post => exact ⟨by rw [hR.out]; rfl, hb5⟩
  · rw [if_pos (by omega)] at hR0
    have hR := Lib.hid hR0
    clear hR0
    go_enter Tryz.func42, Tryz.ntmps42
    go_upto_region 1 with fail
    rw [← hW1, ← hq]
    clear hW1 hq
    obtain ⟨c0, c1, c2, c3, c4, c5, c6, c7⟩ := t0.out.mom
    have ff := Lib.frozen_of_heap t0.out.hq 2
    obtain ⟨w1, hw⟩ : ∃ w, w = W1.setCell ⟨q, 2, none⟩ (.int .i64 (d + 1)) := ⟨_, rfl⟩
    have t1 : Hid (TwoC W q w1 (Y : Int) (Mo : Int) (d + 1) h mi z0 z has) := Lib.hid (by rw [hw]; exact t0.out.set hq'.out 2 (.int .i64 (d + 1)) rfl)
    go_upto_region 2 with fail
    rw [← hw]
    clear hw ff c0 c1 c2 c3 c4 c5 c6 c7 t0
    obtain ⟨c0, c1, c2, c3, c4, c5, c6, c7⟩ := t1.out.mom
    go_quiet ((go_at_call 60; exact Calls.quiet_of_same (kL.out _)))
    clear c0 c1 c2 c3 c4 c5 c6 c7
    obtain ⟨w2, hw2⟩ : ∃ w, w = w1.drewN nq := ⟨_, rfl⟩
    have t2 : Hid (TwoC W q w2 (Y : Int) (Mo : Int) (d + 1) h mi z0 z has) := Lib.hid (by rw [hw2]; exact t1.out.later (below_drewN (Below.refl _ _) nq))
    rw [← hw2]
    clear hw2 t1
    obtain ⟨c0, c1, c2, c3, c4, c5, c6, c7⟩ := t2.out.mom
    go_upto_region 8 with fail
    clear c0 c1 c2 c3 c4 c5 c6 c7
    obtain ⟨c0, c1, c2, c3, c4, c5, c6, c7⟩ := t2.out.mom
    obtain ⟨d0, d1, d2, d3, d4, d5, d6, d7⟩ := t2.out.res
    obtain ⟨f0, f1, f2, f3, f4, f5, f6, f7⟩ := froz8 t2.out.hp
    obtain ⟨W5, hW5, hp5, hb5⟩ := put_resC t2.out hq'.out (.int .i64 (Y : Int)) (.int .i64 (Mo : Int)) (.int .i64 (d + 1)) (.int .i64 h) (.int .i64 mi) (.string z0) (.int .i64 z) (.bool has)
    replace hW5 := Lib.hid hW5
    replace hp5 := Lib.hid hp5
    go_wp2_with fail
    rw [← hW5.out]
    clear hW5 d0 d1 d2 d3 d4 d5 d6 d7 f0 f1 f2 f3 f4 f5 f6 f7 c0 c1 c2 c3 c4 c5 c6 c7
    obtain ⟨c0, c1, c2, c3, c4, c5, c6, c7⟩ := MomAt.of_heap hp5.out
    refine bodyPost_ret (v := .agg #[.int .i64 (Y : Int), .int .i64 (Mo : Int), .int .i64 (d + 1), .int .i64 h, .int .i64 mi, .string z0, .int .i64 z, .bool has]) ?ret rfl ?post
    case ret => rw [res_one7 rfl]; go_simp
    case post => exact ⟨by rw [hR.out]; rfl, hb5⟩
set_option maxRecDepth 100000 in
set_option maxHeartbeats 4000000 in
theorem clock7_r (s : ByteArray) (y mo d h mi : Int) (z0 : ByteArray) (z : Int) (has : Bool) (W : World) (hs : s.size ≤ 1000) : Calls Tryz.prog 85 #[.string s, .agg #[.int .i64 y, .int .i64 mo, .int .i64 d, .int .i64 h, .int .i64 mi, .string z0, .int .i64 z, .bool has]] W fun e w' => e = .returned (.tuple #[momV (clock7 s.data.toList ⟨y, mo, d, h, mi, z0.data.toList, z, has⟩).1, .bool (clock7 s.data.toList ⟨y, mo, d, h, mi, z0.data.toList, z, has⟩).2]) ∧ Below W.heap.size W w' := by
  have hT0 := TwoC.init W y mo d h mi z0 z has
  obtain ⟨W1, hW1⟩ : ∃ w, w = twoC W y mo d h mi z0 z has := ⟨_, rfl⟩
  obtain ⟨q, hq⟩ : ∃ q, q = W.heap.size := ⟨_, rfl⟩
  rw [← hW1, ← hq] at hT0
  unfold twoC at hW1
  have t0 := Lib.hid hT0
  clear hT0
  have hq' := Lib.hid hq
  obtain ⟨R, hR0⟩ : ∃ R, R = clock7 s.data.toList ⟨y, mo, d, h, mi, z0.data.toList, z, has⟩ := ⟨_, rfl⟩
  rw [← hR0]
  by_cases h8 : s.size < 8
  · have hR : Hid (R = (⟨y, mo, d, h, mi, z0.data.toList, z, has⟩, false)) := Lib.hid (by rw [hR0]; unfold clock7; rw [if_neg (by rw [list_len]; omega)])
    have g1 : (s.size : Int) < 8 := by omega
    clear hR0
    go_enter Tryz.func85, Tryz.ntmps85
    go_upto_region 1 with fail
    rw [← hW1, ← hq]
    clear hW1 hq
    go_upto_region 2 with fail
    obtain ⟨c0, c1, c2, c3, c4, c5, c6, c7⟩ := t0.out.mom
    obtain ⟨d0, d1, d2, d3, d4, d5, d6, d7⟩ := t0.out.res
    obtain ⟨f0, f1, f2, f3, f4, f5, f6, f7⟩ := froz8 t0.out.hp
    obtain ⟨W5, hW5, hp5, hb5⟩ := put_resC t0.out hq'.out (.int .i64 y) (.int .i64 mo) (.int .i64 d) (.int .i64 h) (.int .i64 mi) (.string z0) (.int .i64 z) (.bool has)
    replace hW5 := Lib.hid hW5
    replace hp5 := Lib.hid hp5
    go_wp2_with fail
    rw [← hW5.out]
    clear hW5 d0 d1 d2 d3 d4 d5 d6 d7 f0 f1 f2 f3 f4 f5 f6 f7 c0 c1 c2 c3 c4 c5 c6 c7
    obtain ⟨c0, c1, c2, c3, c4, c5, c6, c7⟩ := MomAt.of_heap hp5.out
    refine bodyPost_ret (v := .tuple #[.agg #[.int .i64 y, .int .i64 mo, .int .i64 d, .int .i64 h, .int .i64 mi, .string z0, .int .i64 z, .bool has], .bool false]) ?ret rfl ?post
    case ret => rw [res_two rfl]; go_simp
    case post => exact ⟨by rw [hR.out] <;> rfl, hb5⟩
  have g1 : ¬ (s.size : Int) < 8 := by omega
  have g2 : (8 : Int) ≤ (s.size : Int) := by omega
  have g2' : 8 ≤ s.size := by omega
  obtain ⟨fc, hfc⟩ : ∃ b, b = fitsL (s.data.toList.take 8) cForm := ⟨_, rfl⟩
  have kc : Hid (∀ w, Calls Tryz.prog 82 #[.string (s.extract 0 8), .string ⟨#[68, 68, 58, 68, 68, 58, 68, 68]⟩] w fun e w' => e = .returned (.bool fc) ∧ ∃ m, w' = w.drewN m) := Lib.hid (fun w => by
    have := fits7_r (s.extract 0 8) ⟨#[68, 68, 58, 68, 68, 58, 68, 68]⟩ w (by rw [← list_len, ext_take, List.length_take, list_len]; omega)
    rw [ext_take, show (⟨#[68, 68, 58, 68, 68, 58, 68, 68]⟩ : ByteArray).data.toList = cForm from rfl, ← hfc] at this
    exact this)
  cases fc with
  | false =>
    have hR : Hid (R = (⟨y, mo, d, h, mi, z0.data.toList, z, has⟩, false)) := Lib.hid (by rw [hR0]; unfold clock7; rw [if_neg (by rw [← hfc]; simp)])
    clear hR0 hfc
    go_enter Tryz.func85, Tryz.ntmps85
    go_upto_region 1 with fail
    rw [← hW1, ← hq]
    clear hW1 hq
    go_wp2_with fail
    refine (kc.out _).mono ?_
    rintro e w1 ⟨rfl, hd⟩
    have t1 := Lib.hid (t0.out.later (drew_below hd))
    clear hd t0
    go_upto_region 2 with fail
    obtain ⟨c0, c1, c2, c3, c4, c5, c6, c7⟩ := t1.out.mom
    obtain ⟨d0, d1, d2, d3, d4, d5, d6, d7⟩ := t1.out.res
    obtain ⟨f0, f1, f2, f3, f4, f5, f6, f7⟩ := froz8 t1.out.hp
    obtain ⟨W5, hW5, hp5, hb5⟩ := put_resC t1.out hq'.out (.int .i64 y) (.int .i64 mo) (.int .i64 d) (.int .i64 h) (.int .i64 mi) (.string z0) (.int .i64 z) (.bool has)
    replace hW5 := Lib.hid hW5
    replace hp5 := Lib.hid hp5
    go_wp2_with fail
    rw [← hW5.out]
    clear hW5 d0 d1 d2 d3 d4 d5 d6 d7 f0 f1 f2 f3 f4 f5 f6 f7 c0 c1 c2 c3 c4 c5 c6 c7
    obtain ⟨c0, c1, c2, c3, c4, c5, c6, c7⟩ := MomAt.of_heap hp5.out
    refine bodyPost_ret (v := .tuple #[.agg #[.int .i64 y, .int .i64 mo, .int .i64 d, .int .i64 h, .int .i64 mi, .string z0, .int .i64 z, .bool has], .bool false]) ?ret rfl ?post
    case ret => rw [res_two rfl]; go_simp
    case post => exact ⟨by rw [hR.out] <;> rfl, hb5⟩
  | true =>
    obtain ⟨a, b, c, ha, hb, hc, e⟩ := fits_clock.1 hfc.symm
    have e8 : s.data.toList = a ++ 58 :: (b ++ 58 :: (c ++ s.data.toList.drop 8)) := by
      have h1 := List.take_append_drop 8 s.data.toList
      rw [e] at h1
      rw [show a ++ 58 :: (b ++ 58 :: (c ++ s.data.toList.drop 8)) = (a ++ 58 :: (b ++ 58 :: c)) ++ s.data.toList.drop 8 by simp]
      exact h1.symm
    have eA : (s.extract 0 2).data.toList = a := by rw [ext_take, e8]; exact List.take_left' ha.2
    have e3 : s.data.toList.drop 3 = b ++ 58 :: (c ++ s.data.toList.drop 8) := by
      have h1 := drop_sep ha.2 58 (b ++ 58 :: (c ++ s.data.toList.drop 8))
      rw [← e8] at h1
      exact h1
    have eB : (s.extract 3 5).data.toList = b := by rw [ext_data, e3]; exact List.take_left' hb.2
    have k1 : Hid (DOk (s.extract 0 2)) := Lib.hid ⟨by rw [← list_len, eA, ha.2]; decide, by rw [eA]; exact ha.1⟩
    have k2 : Hid (DOk (s.extract 3 5)) := Lib.hid ⟨by rw [← list_len, eB, hb.2]; decide, by rw [eB]; exact hb.1⟩
    obtain ⟨H, hH⟩ : ∃ H : Int, H = (valD (s.data.toList.take 2) : Nat) := ⟨_, rfl⟩
    obtain ⟨Mi, hMi⟩ : ∃ H : Int, H = (valD ((s.data.toList.drop 3).take 2) : Nat) := ⟨_, rfl⟩
    have v1 : dval (s.extract 0 2) = H := by unfold dval; rw [ext_take, hH]
    have v2 : dval (s.extract 3 5) = Mi := by unfold dval; rw [ext_data, hMi]
    obtain ⟨X, hX⟩ : ∃ X : ByteArray, X = ⟨((parseT (s.data.toList.drop 6)).1).toArray⟩ := ⟨_, rfl⟩
    obtain ⟨pk, hpk⟩ : ∃ k : Int, k = (parseT (s.data.toList.drop 6)).2 := ⟨_, rfl⟩
    have kP : Hid (∀ w, Calls Tryz.prog 63 #[.string (s.extract 6 s.size)] w fun e w' => e = .returned (.tuple #[.string X, .int .i64 pk]) ∧ Below w.heap.size w w') := Lib.hid (fun w => by
      have := Parse_r (s.extract 6 s.size) w (by rw [← list_len, ext_drop, List.length_drop, list_len]; exact Nat.le_trans (Nat.sub_le _ _) (Nat.le_trans hs (by decide)))
      unfold OutE at this
      rw [ext_drop, ← hX, ← hpk] at this
      exact this)
    obtain ⟨fo, hfo⟩ : ∃ b, b = fracOk (s.data.toList.drop 8) := ⟨_, rfl⟩
    have hR : Hid (R = (⟨y, mo, d, H, Mi, X.data.toList, z, has⟩, fo)) := Lib.hid (by
      rw [hR0, hX, hH, hMi, hfo]
      unfold clock7
      rw [if_pos ⟨by rw [list_len]; omega, hfc.symm⟩])
    have g3 : (5 : Int) ≤ (s.size : Int) := by omega
    have g4 : (6 : Int) ≤ (s.size : Int) := by omega
    have g5 : (2 : Int) ≤ (s.size : Int) := by omega
    have g3' : 5 ≤ s.size := by omega
    have g4' : 6 ≤ s.size := by omega
    have g5' : 2 ≤ s.size := by omega
    have kF : Hid (∀ (l : ByteArray) w, Calls Tryz.prog 82 #[.string (s.extract 8 s.size), .string l] w fun e w' => e = .returned (.bool (fitsL (s.data.toList.drop 8) l.data.toList)) ∧ ∃ m, w' = w.drewN m) := Lib.hid (fun l w => by
      have := fits7_r (s.extract 8 s.size) l w (by rw [← list_len, ext_drop, List.length_drop, list_len]; omega)
      rw [ext_drop] at this
      exact this)
    obtain ⟨F, hF⟩ : ∃ F : List UInt8, F = s.data.toList.drop 8 := ⟨_, rfl⟩
    rw [← hF] at kF hfo
    replace v1 := Lib.hid v1
    replace v2 := Lib.hid v2
    replace hfo := Lib.hid hfo
    clear hR0 hfc e e8 eA e3 eB ha hb hc hH hMi hX hpk hF
    go_enter Tryz.func85, Tryz.ntmps85
    go_upto_region 1 with fail
    rw [← hW1, ← hq]
    clear hW1 hq
    go_wp2_with fail
    refine (kc.out _).mono ?_
    rintro e w1 ⟨rfl, hd⟩
    have t1 := Lib.hid (t0.out.later (drew_below hd))
    clear hd t0 kc

    obtain ⟨w2, hw⟩ : ∃ w, w = w1.alloc (.cells #[.string ⟨#[]⟩, .string ⟨#[46, 68]⟩, .string ⟨#[46, 68, 68]⟩, .string ⟨#[46, 68, 68, 68]⟩, .string ⟨#[46, 68, 68, 68, 68]⟩, .string ⟨#[46, 68, 68, 68, 68, 68]⟩, .string ⟨#[46, 68, 68, 68, 68, 68, 68]⟩] 9) := ⟨_, rfl⟩
    obtain ⟨p, hp⟩ : ∃ p, p = w1.heap.size := ⟨_, rfl⟩
    have t2 : Hid (TwoC W q w2 y mo d h mi z0 z has) := Lib.hid (by rw [hw]; exact t1.out.later ((Below.refl _ _).alloc (Nat.le_refl _) _))
    have o2 : Hid (w2.heap[p]? = some (.cells #[.string ⟨#[]⟩, .string ⟨#[46, 68]⟩, .string ⟨#[46, 68, 68]⟩, .string ⟨#[46, 68, 68, 68]⟩, .string ⟨#[46, 68, 68, 68, 68]⟩, .string ⟨#[46, 68, 68, 68, 68, 68]⟩, .string ⟨#[46, 68, 68, 68, 68, 68, 68]⟩] 9 (0, 0))) := Lib.hid (by rw [hw, hp]; exact (MapKept.heap_alloc _ _).1)
    go_wp2_with fail
    rw [← hw, ← hp]
    clear hw t1
    replace hp := Lib.hid hp
    go_loopw [7, 8] (fun ov iv wr => ∃ i : Nat, iv = .int .i64 (i : Int) ∧ i ≤ 7 ∧ ov = .bool ((fForms.take i).any (fitsL F)) ∧ Hid (TwoC W q wr y mo d h mi z0 z has) ∧ Hid (wr.heap[p]? = some (.cells #[.string ⟨#[]⟩, .string ⟨#[46, 68]⟩, .string ⟨#[46, 68, 68]⟩, .string ⟨#[46, 68, 68, 68]⟩, .string ⟨#[46, 68, 68, 68, 68]⟩, .string ⟨#[46, 68, 68, 68, 68, 68]⟩, .string ⟨#[46, 68, 68, 68, 68, 68, 68]⟩] 9 (0, 0)))) (fun _ iv _ => 7 - (intOf iv).toNat)
    case atStart => exact ⟨0, rfl, by decide, rfl, t2, o2⟩
    case round =>
      obtain ⟨i, rfl, hi, rfl, t3, o3⟩ := hrel
      clear t2 o2
      by_cases hlt : i < 7
      · obtain ⟨l, hl1, hl2⟩ : ∃ l : ByteArray, wr.cell? ⟨p, i, none⟩ = some (.string l) ∧ fForms[i]? = some l.data.toList := by
          have hc : ∀ j v, ((#[.string ⟨#[]⟩, .string ⟨#[46, 68]⟩, .string ⟨#[46, 68, 68]⟩, .string ⟨#[46, 68, 68, 68]⟩, .string ⟨#[46, 68, 68, 68, 68]⟩, .string ⟨#[46, 68, 68, 68, 68, 68]⟩, .string ⟨#[46, 68, 68, 68, 68, 68, 68]⟩] : Array Value)[j]? = some v) → wr.cell? ⟨p, j, none⟩ = some v := fun j v hv => by
            simp only [World.cell?, o3.out, hv]
            simp
          match i, hlt with
          | 0, _ => exact ⟨⟨#[]⟩, hc 0 _ rfl, rfl⟩
          | 1, _ => exact ⟨⟨#[46, 68]⟩, hc 1 _ rfl, rfl⟩
          | 2, _ => exact ⟨⟨#[46, 68, 68]⟩, hc 2 _ rfl, rfl⟩
          | 3, _ => exact ⟨⟨#[46, 68, 68, 68]⟩, hc 3 _ rfl, rfl⟩
          | 4, _ => exact ⟨⟨#[46, 68, 68, 68, 68]⟩, hc 4 _ rfl, rfl⟩
          | 5, _ => exact ⟨⟨#[46, 68, 68, 68, 68, 68]⟩, hc 5 _ rfl, rfl⟩
          | 6, _ => exact ⟨⟨#[46, 68, 68, 68, 68, 68, 68]⟩, hc 6 _ rfl, rfl⟩
        obtain ⟨b0, hb0⟩ : ∃ b, b = (fForms.take i).any (fitsL F) := ⟨_, rfl⟩
        obtain ⟨b1, hb1⟩ : ∃ b, b = fitsL F l.data.toList := ⟨_, rfl⟩
        have hnext : Hid ((fForms.take (i + 1)).any (fitsL F) = (b0 || b1)) := Lib.hid (by
          rw [List.take_add_one, List.any_append, ← hb0, hl2, hb1]
          simp)
        have kf : Hid (∀ w, Calls Tryz.prog 82 #[.string (s.extract 8 s.size), .string l] w fun e w' => e = .returned (.bool b1) ∧ ∃ m, w' = w.drewN m) := Lib.hid (fun w => by rw [hb1]; exact kF.out l w)
        rw [← hb0]
        clear hb0 hb1 hl2
        have gi : (i : Int) < 7 := by omega
        go_upto_region 8 with fail
        cases b0 with
        | true =>
          go_quiet (fail)
          clear hl1
          obtain ⟨w4, hw4⟩ : ∃ w, w = wr.drewN nq := ⟨_, rfl⟩
          have hb4 : Below wr.heap.size wr w4 := by rw [hw4]; exact below_drewN (Below.refl _ _) nq
          have t4 := Lib.hid (t3.out.later hb4)
          have o4 := Lib.hid ((hb4.block p (heap_lt o3.out)).trans o3.out)
          rw [← hw4]
          clear hw4 hb4 t3 o3
          go_wp2_with fail
          go_roundw
          case rel => exact ⟨i + 1, by go_num, by omega, by rw [hnext.out]; rfl, t4, o4⟩
          case measure => simp [intOf]; omega
        | false =>
          go_quiet ((go_at_call 82; exact Calls.quiet_of (kf.out _)))
          clear hl1
          obtain ⟨w4, hw4⟩ : ∃ w, w = wr.drewN nq := ⟨_, rfl⟩
          have hb4 : Below wr.heap.size wr w4 := by rw [hw4]; exact below_drewN (Below.refl _ _) nq
          have t4 := Lib.hid (t3.out.later hb4)
          have o4 := Lib.hid ((hb4.block p (heap_lt o3.out)).trans o3.out)
          rw [← hw4]
          clear hw4 hb4 t3 o3
          go_wp2_with fail
          go_roundw
          case rel => exact ⟨i + 1, by go_num, by omega, by rw [hnext.out]; rfl, t4, o4⟩
          case measure => simp [intOf]; omega
      · obtain rfl : i = 7 := by omega
        have hfo2 : Hid ((fForms.take 7).any (fitsL F) = fo) := Lib.hid (by rw [hfo.out]; rfl)
        rw [hfo2.out]
        obtain ⟨w3, hw3⟩ : ∃ w, w = wr := ⟨_, rfl⟩
        rw [← hw3] at t3 o3 ⊢
        clear hw3
        go_wp2_with fail
        refine (digits7_p _ _ k1).mono ?_
        rintro e wp ⟨rfl, rfl⟩
        rw [v1.out]
        obtain ⟨c0, c1, c2, c3, c4, c5, c6, c7⟩ := t3.out.mom
        have ff := Lib.frozen_of_heap t3.out.hq 3
        obtain ⟨w4, hw⟩ : ∃ w, w = w3.setCell ⟨q, 3, none⟩ (.int .i64 H) := ⟨_, rfl⟩
        have t4 : Hid (TwoC W q w4 y mo d H mi z0 z has) := Lib.hid (by rw [hw]; exact t3.out.set hq'.out 3 (.int .i64 H) rfl)
        go_wp2_with fail
        rw [← hw]
        clear hw ff c0 c1 c2 c3 c4 c5 c6 c7 t3
        refine (digits7_p _ _ k2).mono ?_
        rintro e wp ⟨rfl, rfl⟩
        rw [v2.out]
        obtain ⟨c0, c1, c2, c3, c4, c5, c6, c7⟩ := t4.out.mom
        have ff := Lib.frozen_of_heap t4.out.hq 4
        obtain ⟨w5, hw⟩ : ∃ w, w = w4.setCell ⟨q, 4, none⟩ (.int .i64 Mi) := ⟨_, rfl⟩
        have t5 : Hid (TwoC W q w5 y mo d H Mi z0 z has) := Lib.hid (by rw [hw]; exact t4.out.set hq'.out 4 (.int .i64 Mi) rfl)
        go_wp2_with fail
        rw [← hw]
        clear hw ff c0 c1 c2 c3 c4 c5 c6 c7 t4
        refine (kP.out _).mono ?_
        rintro e w6 ⟨rfl, hb⟩
        have t6 := Lib.hid (t5.out.later hb)
        clear hb t5
        obtain ⟨c0, c1, c2, c3, c4, c5, c6, c7⟩ := t6.out.mom
        have ff := Lib.frozen_of_heap t6.out.hq 5
        obtain ⟨w7, hw⟩ : ∃ w, w = w6.setCell ⟨q, 5, none⟩ (.string X) := ⟨_, rfl⟩
        have t7 : Hid (TwoC W q w7 y mo d H Mi X z has) := Lib.hid (by rw [hw]; exact t6.out.set hq'.out 5 (.string X) rfl)
        go_upto_region 12 with fail
        rw [← hw]
        clear hw ff c0 c1 c2 c3 c4 c5 c6 c7 t6
        obtain ⟨c0, c1, c2, c3, c4, c5, c6, c7⟩ := t7.out.mom
        obtain ⟨d0, d1, d2, d3, d4, d5, d6, d7⟩ := t7.out.res
        obtain ⟨f0, f1, f2, f3, f4, f5, f6, f7⟩ := froz8 t7.out.hp
        obtain ⟨W5, hW5, hp5, hb5⟩ := put_resC t7.out hq'.out (.int .i64 y) (.int .i64 mo) (.int .i64 d) (.int .i64 H) (.int .i64 Mi) (.string X) (.int .i64 z) (.bool has)
        replace hW5 := Lib.hid hW5
        replace hp5 := Lib.hid hp5
        go_wp2_with fail
        rw [← hW5.out]
        clear hW5 d0 d1 d2 d3 d4 d5 d6 d7 f0 f1 f2 f3 f4 f5 f6 f7 c0 c1 c2 c3 c4 c5 c6 c7
        obtain ⟨c0, c1, c2, c3, c4, c5, c6, c7⟩ := MomAt.of_heap hp5.out
        refine bodyPost_ret (v := .tuple #[.agg #[.int .i64 y, .int .i64 mo, .int .i64 d, .int .i64 H, .int .i64 Mi, .string X, .int .i64 z, .bool has], .bool fo]) ?ret rfl ?post
        case ret => rw [res_two rfl]; go_simp
        case post => exact ⟨by rw [hR.out] <;> rfl, hb5⟩
end Go.Proofs.YtgobpoeccdgeiaaGreatDoor
