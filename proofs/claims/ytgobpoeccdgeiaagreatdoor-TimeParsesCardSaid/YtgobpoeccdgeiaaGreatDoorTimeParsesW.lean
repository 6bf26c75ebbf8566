/- TimeParses: texts are read, or refused, as the chapter specifies: the walk. (Printed by genlaws7.py.) -/
import Derived.Test.YtgobpoeccdgeiaaGreatDoorR7u
import Derived.Test.YtgobpoeccdgeiaaGreatDoorOe
import Derived.Deep.CutRange
namespace Go.Proofs.YtgobpoeccdgeiaaGreatDoor
open Go.RowKit NumP DurP TimeP Go.Proofs.YtgobpoeccdgeiaaGreatDoorW.PrintWords
set_option linter.unusedVariables false

/-- A moment of chiselref07 in a block. -/
def MoAs (w : World) (q : Nat) (y mo d h mi : Int) (s : ByteArray) (z : Int) (has : Bool) : Prop := w.heap[q]? = some (.cells #[.int .i64 y, .int .i64 mo, .int .i64 d, .int .i64 h, .int .i64 mi, .string s, .int .i64 z, .bool has] 28 (0, 0))
theorem Parse7_c (j : Int) (s : ByteArray) (r : MB) (k : Int) (e : parseM j s.data.toList = (r.P, k)) (hs : s.size ≤ 1000) (w : World) : Calls Tryz.prog 16 #[.int .i64 j, .string s] w fun e w' => e = .returned (.tuple #[.agg #[.int .i64 r.y, .int .i64 r.mo, .int .i64 r.d, .int .i64 r.h, .int .i64 r.mi, .string r.s, .int .i64 r.z, .bool r.has], .int .i64 k]) ∧ Below w.heap.size w w' := by
  have := Parse7_r j s w hs
  rw [parse7_eq, e] at this
  exact this
set_option maxRecDepth 100000 in
set_option maxHeartbeats 4000000 in
theorem timeParses_walk (n : Int) (t : ByteArray) (W : World) (hL : LaidT W) (ht0 : t.size ≤ maxLen) : Calls Tryz.prog 3 #[.int .i64 n, .string t] W (fun e w' => e = .returned (.bool true) ∧ Below W.heap.size W w') := by
  by_cases hs : (t.size : Int) > 300
  · obtain ⟨w1, hw⟩ : ∃ w, w = W := ⟨_, rfl⟩
    have hB1 : Hid (Below W.heap.size W w1) := Lib.hid (by rw [hw]; exact Below.refl _ _)
    have hL1 : Hid (LaidT w1) := Lib.hid (by rw [hw]; exact hL)
    replace hL := Lib.hid hL
    go_enter Tryz.func3, Tryz.ntmps3
    go_upto_region 1 with fail
    rw [← hw]
    clear hw
    go_wp2_with fail
    refine (works_c w1 hL1.out).mono ?_
    rintro e w ⟨rfl, hb⟩
    go_wp2_with fail
    go_ret
    exact ⟨rfl, hB1.out.trans (hb.mono hB1.out.size)⟩
  have hsm : t.size ≤ 1000 := by omega
  obtain ⟨A, k1, e1⟩ := MB.ex (parseM n t.data.toList)
  have c1 : Hid (∀ w, LaidT w → Calls Tryz.prog 15 #[.int .i64 n, .string t] w fun e w' => e = .returned (.tuple #[.agg #[.int .i64 A.y, .int .i64 A.mo, .int .i64 A.d, .int .i64 A.h, .int .i64 A.mi, .string A.s, .int .i64 A.z, .bool A.has], .int .i64 k1]) ∧ Below w.heap.size w w') := Lib.hid (fun w hw => Parse_c n t A k1 e1 hsm w hw)
  have c2 : Hid (∀ w, LaidT w → Calls Tryz.prog 16 #[.int .i64 n, .string t] w fun e w' => e = .returned (.tuple #[.agg #[.int .i64 A.y, .int .i64 A.mo, .int .i64 A.d, .int .i64 A.h, .int .i64 A.mi, .string A.s, .int .i64 A.z, .bool A.has], .int .i64 k1]) ∧ Below w.heap.size w w') := Lib.hid (fun w hw => Parse7_c n t A k1 e1 hsm w)
  clear e1
  have gg0 : (k1 == k1) = true := beq_self_eq_true _
  obtain ⟨w1, hw⟩ : ∃ w, w = W := ⟨_, rfl⟩
  have hB1 : Hid (Below W.heap.size W w1) := Lib.hid (by rw [hw]; exact Below.refl _ _)
  have hL1 : Hid (LaidT w1) := Lib.hid (by rw [hw]; exact hL)
  replace hL := Lib.hid hL
  go_enter Tryz.func3, Tryz.ntmps3
  go_upto_region 1 with fail
  rw [← hw]
  clear hw
  go_wp2_with fail
  refine (c1.out w1 hL1.out).mono ?_
  rintro e w2 ⟨rfl, hb⟩
  have hB2 := Lib.hid (hB1.out.trans (hb.mono hB1.out.size))
  have hL2 := Lib.hid (hL.out.below hB2.out hL.out.size)
  clear hb hB1 hL1
  obtain ⟨a, ha⟩ : ∃ q, q = w2.heap.size := ⟨_, rfl⟩
  obtain ⟨w3, hw⟩ : ∃ w, w = w2.alloc (.cells #[.int .i64 A.y, .int .i64 A.mo, .int .i64 A.d, .int .i64 A.h, .int .i64 A.mi, .string A.s, .int .i64 A.z, .bool A.has] 24) := ⟨_, rfl⟩
  have hb : Below w2.heap.size w2 w3 := by rw [hw]; exact (Below.refl _ _).alloc (Nat.le_refl _) _
  have hMa3 : Hid (MoAt w3 a A.y A.mo A.d A.h A.mi A.s A.z A.has) := Lib.hid (by rw [hw, ha]; exact (MapKept.heap_alloc _ _).1)
  have hgea : Hid (W.heap.size ≤ a) := Lib.hid (by rw [ha]; exact hB2.out.size)
  replace ha := Lib.hid ha
  replace hw := Lib.hid hw
  have hB3 := Lib.hid (hB2.out.trans (hb.mono hB2.out.size))
  have hL3 := Lib.hid (hL.out.below hB3.out hL.out.size)
  clear hb hB2 hL2
  go_upto_region 4 with fail
  rw [← hw.out, ← ha.out]
  clear hw ha
  go_wp2_with fail
  refine (c2.out w3 hL3.out).mono ?_
  rintro e w4 ⟨rfl, hb⟩
  have hB4 := Lib.hid (hB3.out.trans (hb.mono hB3.out.size))
  have hL4 := Lib.hid (hL.out.below hB4.out hL.out.size)
  have hMa4 : Hid (MoAt w4 a A.y A.mo A.d A.h A.mi A.s A.z A.has) := Lib.hid ((hb.block a (heap_lt hMa3.out)).trans hMa3.out)
  clear hb hB3 hL3 hMa3
  obtain ⟨ra, hra⟩ : ∃ q, q = w4.heap.size := ⟨_, rfl⟩
  obtain ⟨w5, hw⟩ : ∃ w, w = w4.alloc (.cells #[.int .i64 A.y, .int .i64 A.mo, .int .i64 A.d, .int .i64 A.h, .int .i64 A.mi, .string A.s, .int .i64 A.z, .bool A.has] 28) := ⟨_, rfl⟩
  have hb : Below w4.heap.size w4 w5 := by rw [hw]; exact (Below.refl _ _).alloc (Nat.le_refl _) _
  have hMra5 : Hid (MoAs w5 ra A.y A.mo A.d A.h A.mi A.s A.z A.has) := Lib.hid (by rw [hw, hra]; exact (MapKept.heap_alloc _ _).1)
  have hgera : Hid (W.heap.size ≤ ra) := Lib.hid (by rw [hra]; exact hB4.out.size)
  have hnara : Hid (a ≠ ra) := Lib.hid (by rw [hra]; exact Nat.ne_of_lt (heap_lt hMa4.out))
  have hnraa : Hid (ra ≠ a) := Lib.hid (fun e => hnara.out e.symm)
  replace hra := Lib.hid hra
  replace hw := Lib.hid hw
  have hB5 := Lib.hid (hB4.out.trans (hb.mono hB4.out.size))
  have hL5 := Lib.hid (hL.out.below hB5.out hL.out.size)
  have hMa5 : Hid (MoAt w5 a A.y A.mo A.d A.h A.mi A.s A.z A.has) := Lib.hid ((hb.block a (heap_lt hMa4.out)).trans hMa4.out)
  clear hb hB4 hL4 hMa4
  go_upto_region 5 with fail
  rw [← hw.out, ← hra.out]
  clear hw hra
  have SL : Hid (∀ w' w'', (w'.cell? ⟨a, 0, none⟩ = some (.int .i64 A.y) ∧ w'.cell? ⟨a, 1, none⟩ = some (.int .i64 A.mo) ∧ w'.cell? ⟨a, 2, none⟩ = some (.int .i64 A.d) ∧ w'.cell? ⟨a, 3, none⟩ = some (.int .i64 A.h) ∧ w'.cell? ⟨a, 4, none⟩ = some (.int .i64 A.mi) ∧ w'.cell? ⟨a, 5, none⟩ = some (.string A.s) ∧ w'.cell? ⟨a, 6, none⟩ = some (.int .i64 A.z) ∧ w'.cell? ⟨a, 7, none⟩ = some (.bool A.has) ∧ w'.cell? ⟨ra, 0, none⟩ = some (.int .i64 A.y) ∧ w'.cell? ⟨ra, 1, none⟩ = some (.int .i64 A.mo) ∧ w'.cell? ⟨ra, 2, none⟩ = some (.int .i64 A.d) ∧ w'.cell? ⟨ra, 3, none⟩ = some (.int .i64 A.h) ∧ w'.cell? ⟨ra, 4, none⟩ = some (.int .i64 A.mi) ∧ w'.cell? ⟨ra, 5, none⟩ = some (.string A.s) ∧ w'.cell? ⟨ra, 6, none⟩ = some (.int .i64 A.z) ∧ w'.cell? ⟨ra, 7, none⟩ = some (.bool A.has) ∧ Hid (MoAt w' a A.y A.mo A.d A.h A.mi A.s A.z A.has) ∧ Hid (MoAs w' ra A.y A.mo A.d A.h A.mi A.s A.z A.has) ∧ Hid (Below w5.heap.size w5 w')) → Below w'.heap.size w' w'' → (w''.cell? ⟨a, 0, none⟩ = some (.int .i64 A.y) ∧ w''.cell? ⟨a, 1, none⟩ = some (.int .i64 A.mo) ∧ w''.cell? ⟨a, 2, none⟩ = some (.int .i64 A.d) ∧ w''.cell? ⟨a, 3, none⟩ = some (.int .i64 A.h) ∧ w''.cell? ⟨a, 4, none⟩ = some (.int .i64 A.mi) ∧ w''.cell? ⟨a, 5, none⟩ = some (.string A.s) ∧ w''.cell? ⟨a, 6, none⟩ = some (.int .i64 A.z) ∧ w''.cell? ⟨a, 7, none⟩ = some (.bool A.has) ∧ w''.cell? ⟨ra, 0, none⟩ = some (.int .i64 A.y) ∧ w''.cell? ⟨ra, 1, none⟩ = some (.int .i64 A.mo) ∧ w''.cell? ⟨ra, 2, none⟩ = some (.int .i64 A.d) ∧ w''.cell? ⟨ra, 3, none⟩ = some (.int .i64 A.h) ∧ w''.cell? ⟨ra, 4, none⟩ = some (.int .i64 A.mi) ∧ w''.cell? ⟨ra, 5, none⟩ = some (.string A.s) ∧ w''.cell? ⟨ra, 6, none⟩ = some (.int .i64 A.z) ∧ w''.cell? ⟨ra, 7, none⟩ = some (.bool A.has) ∧ Hid (MoAt w'' a A.y A.mo A.d A.h A.mi A.s A.z A.has) ∧ Hid (MoAs w'' ra A.y A.mo A.d A.h A.mi A.s A.z A.has) ∧ Hid (Below w5.heap.size w5 w''))) := Lib.hid (by
    rintro w' w'' ⟨-, -, -, -, -, -, -, -, -, -, -, -, -, -, -, -, ha, hra, hb⟩ hk
    have ga : MoAt w'' a A.y A.mo A.d A.h A.mi A.s A.z A.has := (hk.block a (heap_lt ha.out)).trans ha.out
    have gra : MoAs w'' ra A.y A.mo A.d A.h A.mi A.s A.z A.has := (hk.block ra (heap_lt hra.out)).trans hra.out
    obtain ⟨ca0, ca1, ca2, ca3, ca4, ca5, ca6, ca7⟩ := MomAt.of_heap ga
    obtain ⟨cra0, cra1, cra2, cra3, cra4, cra5, cra6, cra7⟩ := MomAt.of_heap gra
    exact ⟨ca0, ca1, ca2, ca3, ca4, ca5, ca6, ca7, cra0, cra1, cra2, cra3, cra4, cra5, cra6, cra7, Lib.hid ga, Lib.hid gra, Lib.hid (hb.out.trans (hk.mono hb.out.size))⟩)
  have SO : Hid (∀ w', (w'.cell? ⟨a, 0, none⟩ = some (.int .i64 A.y) ∧ w'.cell? ⟨a, 1, none⟩ = some (.int .i64 A.mo) ∧ w'.cell? ⟨a, 2, none⟩ = some (.int .i64 A.d) ∧ w'.cell? ⟨a, 3, none⟩ = some (.int .i64 A.h) ∧ w'.cell? ⟨a, 4, none⟩ = some (.int .i64 A.mi) ∧ w'.cell? ⟨a, 5, none⟩ = some (.string A.s) ∧ w'.cell? ⟨a, 6, none⟩ = some (.int .i64 A.z) ∧ w'.cell? ⟨a, 7, none⟩ = some (.bool A.has) ∧ w'.cell? ⟨ra, 0, none⟩ = some (.int .i64 A.y) ∧ w'.cell? ⟨ra, 1, none⟩ = some (.int .i64 A.mo) ∧ w'.cell? ⟨ra, 2, none⟩ = some (.int .i64 A.d) ∧ w'.cell? ⟨ra, 3, none⟩ = some (.int .i64 A.h) ∧ w'.cell? ⟨ra, 4, none⟩ = some (.int .i64 A.mi) ∧ w'.cell? ⟨ra, 5, none⟩ = some (.string A.s) ∧ w'.cell? ⟨ra, 6, none⟩ = some (.int .i64 A.z) ∧ w'.cell? ⟨ra, 7, none⟩ = some (.bool A.has) ∧ Hid (MoAt w' a A.y A.mo A.d A.h A.mi A.s A.z A.has) ∧ Hid (MoAs w' ra A.y A.mo A.d A.h A.mi A.s A.z A.has) ∧ Hid (Below w5.heap.size w5 w')) → LaidT w') := Lib.hid (by
    rintro w' ⟨-, -, -, -, -, -, -, -, -, -, -, -, -, -, -, -, ha, hra, hb⟩
    exact hL.out.below (hB5.out.trans (hb.out.mono hB5.out.size)) hL.out.size)
  have hS := SL.out w5 w5.drew ⟨(MomAt.of_heap hMa5.out).c0, (MomAt.of_heap hMa5.out).c1, (MomAt.of_heap hMa5.out).c2, (MomAt.of_heap hMa5.out).c3, (MomAt.of_heap hMa5.out).c4, (MomAt.of_heap hMa5.out).c5, (MomAt.of_heap hMa5.out).c6, (MomAt.of_heap hMa5.out).c7, (MomAt.of_heap hMra5.out).c0, (MomAt.of_heap hMra5.out).c1, (MomAt.of_heap hMra5.out).c2, (MomAt.of_heap hMra5.out).c3, (MomAt.of_heap hMra5.out).c4, (MomAt.of_heap hMra5.out).c5, (MomAt.of_heap hMra5.out).c6, (MomAt.of_heap hMra5.out).c7, hMa5, hMra5, Lib.hid (Below.refl _ _)⟩ (Below.refl _ _).drew
  replace hS := Lib.hid hS
  go_wp2_with fail
  go_region_held3 (fun w' => w'.cell? ⟨a, 0, none⟩ = some (.int .i64 A.y) ∧ w'.cell? ⟨a, 1, none⟩ = some (.int .i64 A.mo) ∧ w'.cell? ⟨a, 2, none⟩ = some (.int .i64 A.d) ∧ w'.cell? ⟨a, 3, none⟩ = some (.int .i64 A.h) ∧ w'.cell? ⟨a, 4, none⟩ = some (.int .i64 A.mi) ∧ w'.cell? ⟨a, 5, none⟩ = some (.string A.s) ∧ w'.cell? ⟨a, 6, none⟩ = some (.int .i64 A.z) ∧ w'.cell? ⟨a, 7, none⟩ = some (.bool A.has) ∧ w'.cell? ⟨ra, 0, none⟩ = some (.int .i64 A.y) ∧ w'.cell? ⟨ra, 1, none⟩ = some (.int .i64 A.mo) ∧ w'.cell? ⟨ra, 2, none⟩ = some (.int .i64 A.d) ∧ w'.cell? ⟨ra, 3, none⟩ = some (.int .i64 A.h) ∧ w'.cell? ⟨ra, 4, none⟩ = some (.int .i64 A.mi) ∧ w'.cell? ⟨ra, 5, none⟩ = some (.string A.s) ∧ w'.cell? ⟨ra, 6, none⟩ = some (.int .i64 A.z) ∧ w'.cell? ⟨ra, 7, none⟩ = some (.bool A.has) ∧ Hid (MoAt w' a A.y A.mo A.d A.h A.mi A.s A.z A.has) ∧ Hid (MoAs w' ra A.y A.mo A.d A.h A.mi A.s A.z A.has) ∧ Hid (Below w5.heap.size w5 w'))
    (first | exact hS.out | assumption | exact SL.out _ _ (by assumption) (by assumption))
    (first | (go_at_call 17; refine (spec_r _ _ _ _ _ _ _ _ _).mono ?_; rintro e w' ⟨rfl, hbb⟩) | (go_at_call 14; refine (works_c _ (SO.out _ (by assumption))).mono ?_; rintro e w' ⟨rfl, hbb⟩))
  rename_i hH
  obtain ⟨-, -, -, -, -, -, -, -, -, -, -, -, -, -, -, -, ha, hra, hb⟩ := hH
  clear SL SO hS
  go_wp2_with fail
  go_ret
  exact ⟨rfl, hB5.out.trans (hb.out.mono hB5.out.size)⟩
end Go.Proofs.YtgobpoeccdgeiaaGreatDoor
