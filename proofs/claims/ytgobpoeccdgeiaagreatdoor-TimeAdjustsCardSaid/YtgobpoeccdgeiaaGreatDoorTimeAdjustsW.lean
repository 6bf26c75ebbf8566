/- TimeAdjusts: the same moments in other zones are those of the chapter: the walk. (Printed by genlaws7.py.) -/
import Derived.Test.YtgobpoeccdgeiaaGreatDoorR7q
import Derived.Test.YtgobpoeccdgeiaaGreatDoorOe
import Derived.Deep.CutRange
namespace Go.Proofs.YtgobpoeccdgeiaaGreatDoor
open Go.RowKit NumP DurP TimeP Go.Proofs.YtgobpoeccdgeiaaGreatDoorW.PrintWords
set_option linter.unusedVariables false

/-- A moment of chiselref07 in a block. -/
def MoAs (w : World) (q : Nat) (y mo d h mi : Int) (s : ByteArray) (z : Int) (has : Bool) : Prop := w.heap[q]? = some (.cells #[.int .i64 y, .int .i64 mo, .int .i64 d, .int .i64 h, .int .i64 mi, .string s, .int .i64 z, .bool has] 28 (0, 0))
theorem Adjust7_c (m r : MB) (zone : Int) (hz : Bool) (k : Int) (e : adjustP m.P zone hz = (r.P, k)) (hs : m.s.size ≤ 1000) (w : World) : Calls Tryz.prog 26 #[.agg #[.int .i64 m.y, .int .i64 m.mo, .int .i64 m.d, .int .i64 m.h, .int .i64 m.mi, .string m.s, .int .i64 m.z, .bool m.has], .int .i64 zone, .bool hz] w fun e w' => e = .returned (.tuple #[.agg #[.int .i64 r.y, .int .i64 r.mo, .int .i64 r.d, .int .i64 r.h, .int .i64 r.mi, .string r.s, .int .i64 r.z, .bool r.has], .int .i64 k]) ∧ Below w.heap.size w w' := by
  have := Adjust7_r m.y m.mo m.d m.h m.mi m.s m.z m.has zone hz w (thousand hs)
  rw [show (⟨m.y, m.mo, m.d, m.h, m.mi, m.s.data.toList, m.z, m.has⟩ : Mom) = m.P from rfl, e] at this
  exact this
set_option maxRecDepth 100000 in
set_option maxHeartbeats 4000000 in
theorem timeAdjusts_walk (m : MB) (n : Int) (b : Bool) (W : World) (hL : LaidT W) : Calls Tryz.prog 7 #[.agg #[.int .i64 m.y, .int .i64 m.mo, .int .i64 m.d, .int .i64 m.h, .int .i64 m.mi, .string m.s, .int .i64 m.z, .bool m.has], .int .i64 n, .bool b] W (fun e w' => e = .returned (.bool true) ∧ Below W.heap.size W w') := by
  by_cases hs : (m.s.size : Int) > 300
  · obtain ⟨q, hq⟩ : ∃ q, q = W.heap.size := ⟨_, rfl⟩
    obtain ⟨w1, hw⟩ : ∃ w, w = W.alloc (.cells #[.int .i64 m.y, .int .i64 m.mo, .int .i64 m.d, .int .i64 m.h, .int .i64 m.mi, .string m.s, .int .i64 m.z, .bool m.has] 24) := ⟨_, rfl⟩
    have hB1 : Hid (Below W.heap.size W w1) := Lib.hid (by rw [hw]; exact (Below.refl _ _).alloc (Nat.le_refl _) _)
    have hL1 := Lib.hid (hL.below hB1.out hL.size)
    have hMq1 : Hid (MoAt w1 q m.y m.mo m.d m.h m.mi m.s m.z m.has) := Lib.hid (by rw [hw, hq]; exact (MapKept.heap_alloc _ _).1)
    have hgeq : Hid (W.heap.size ≤ q) := Lib.hid (by rw [hq]; exact Nat.le_refl _)
    replace hq := Lib.hid hq
    replace hw := Lib.hid hw
    replace hL := Lib.hid hL
    go_enter Tryz.func7, Tryz.ntmps7
    go_upto_region 1 with fail
    rw [← hw.out, ← hq.out]
    clear hw
    obtain ⟨cq0, cq1, cq2, cq3, cq4, cq5, cq6, cq7⟩ := MomAt.of_heap hMq1.out
    go_wp2_with fail
    refine (works_c w1 hL1.out).mono ?_
    rintro e w ⟨rfl, hb⟩
    go_wp2_with fail
    go_ret
    exact ⟨rfl, hB1.out.trans (hb.mono hB1.out.size)⟩
  have hsm : m.s.size ≤ 1000 := by omega
  obtain ⟨A, k1, e1⟩ := MB.ex (adjustP m.P n b)
  have c1 : Hid (∀ w, LaidT w → Calls Tryz.prog 25 #[.agg #[.int .i64 m.y, .int .i64 m.mo, .int .i64 m.d, .int .i64 m.h, .int .i64 m.mi, .string m.s, .int .i64 m.z, .bool m.has], .int .i64 n, .bool b] w fun e w' => e = .returned (.tuple #[.agg #[.int .i64 A.y, .int .i64 A.mo, .int .i64 A.d, .int .i64 A.h, .int .i64 A.mi, .string A.s, .int .i64 A.z, .bool A.has], .int .i64 k1]) ∧ Below w.heap.size w w') := Lib.hid (fun w hw => Adjust_c m A n b k1 e1 hsm w hw)
  have c2 : Hid (∀ w, LaidT w → Calls Tryz.prog 26 #[.agg #[.int .i64 m.y, .int .i64 m.mo, .int .i64 m.d, .int .i64 m.h, .int .i64 m.mi, .string m.s, .int .i64 m.z, .bool m.has], .int .i64 n, .bool b] w fun e w' => e = .returned (.tuple #[.agg #[.int .i64 A.y, .int .i64 A.mo, .int .i64 A.d, .int .i64 A.h, .int .i64 A.mi, .string A.s, .int .i64 A.z, .bool A.has], .int .i64 k1]) ∧ Below w.heap.size w w') := Lib.hid (fun w hw => Adjust7_c m A n b k1 e1 hsm w)
  have cs : Hid (∀ w, LaidT w → Calls Tryz.prog 17 #[.agg #[.int .i64 m.y, .int .i64 m.mo, .int .i64 m.d, .int .i64 m.h, .int .i64 m.mi, .string m.s, .int .i64 m.z, .bool m.has]] w fun e w' => e = .returned (.agg #[.int .i64 m.y, .int .i64 m.mo, .int .i64 m.d, .int .i64 m.h, .int .i64 m.mi, .string m.s, .int .i64 m.z, .bool m.has]) ∧ Below w.heap.size w w') := Lib.hid (fun w hw => spec_c m w)
  clear e1
  have gg0 : (k1 == k1) = true := beq_self_eq_true _
  obtain ⟨q, hq⟩ : ∃ q, q = W.heap.size := ⟨_, rfl⟩
  obtain ⟨w1, hw⟩ : ∃ w, w = W.alloc (.cells #[.int .i64 m.y, .int .i64 m.mo, .int .i64 m.d, .int .i64 m.h, .int .i64 m.mi, .string m.s, .int .i64 m.z, .bool m.has] 24) := ⟨_, rfl⟩
  have hB1 : Hid (Below W.heap.size W w1) := Lib.hid (by rw [hw]; exact (Below.refl _ _).alloc (Nat.le_refl _) _)
  have hL1 := Lib.hid (hL.below hB1.out hL.size)
  have hMq1 : Hid (MoAt w1 q m.y m.mo m.d m.h m.mi m.s m.z m.has) := Lib.hid (by rw [hw, hq]; exact (MapKept.heap_alloc _ _).1)
  have hgeq : Hid (W.heap.size ≤ q) := Lib.hid (by rw [hq]; exact Nat.le_refl _)
  replace hq := Lib.hid hq
  replace hw := Lib.hid hw
  replace hL := Lib.hid hL
  go_enter Tryz.func7, Tryz.ntmps7
  go_upto_region 1 with fail
  rw [← hw.out, ← hq.out]
  clear hw
  obtain ⟨cq0, cq1, cq2, cq3, cq4, cq5, cq6, cq7⟩ := MomAt.of_heap hMq1.out
  go_wp2_with fail
  refine (c1.out w1 hL1.out).mono ?_
  rintro e w2 ⟨rfl, hb⟩
  have hB2 := Lib.hid (hB1.out.trans (hb.mono hB1.out.size))
  have hL2 := Lib.hid (hL.out.below hB2.out hL.out.size)
  have hMq2 : Hid (MoAt w2 q m.y m.mo m.d m.h m.mi m.s m.z m.has) := Lib.hid ((hb.block q (heap_lt hMq1.out)).trans hMq1.out)
  clear hb hB1 hL1 hMq1
  clear cq0 cq1 cq2 cq3 cq4 cq5 cq6 cq7
  obtain ⟨a, ha⟩ : ∃ q, q = w2.heap.size := ⟨_, rfl⟩
  obtain ⟨w3, hw⟩ : ∃ w, w = w2.alloc (.cells #[.int .i64 A.y, .int .i64 A.mo, .int .i64 A.d, .int .i64 A.h, .int .i64 A.mi, .string A.s, .int .i64 A.z, .bool A.has] 24) := ⟨_, rfl⟩
  have hb : Below w2.heap.size w2 w3 := by rw [hw]; exact (Below.refl _ _).alloc (Nat.le_refl _) _
  have hMa3 : Hid (MoAt w3 a A.y A.mo A.d A.h A.mi A.s A.z A.has) := Lib.hid (by rw [hw, ha]; exact (MapKept.heap_alloc _ _).1)
  have hgea : Hid (W.heap.size ≤ a) := Lib.hid (by rw [ha]; exact hB2.out.size)
  have hnqa : Hid (q ≠ a) := Lib.hid (by rw [ha]; exact Nat.ne_of_lt (heap_lt hMq2.out))
  have hnaq : Hid (a ≠ q) := Lib.hid (fun e => hnqa.out e.symm)
  replace ha := Lib.hid ha
  replace hw := Lib.hid hw
  have hB3 := Lib.hid (hB2.out.trans (hb.mono hB2.out.size))
  have hL3 := Lib.hid (hL.out.below hB3.out hL.out.size)
  have hMq3 : Hid (MoAt w3 q m.y m.mo m.d m.h m.mi m.s m.z m.has) := Lib.hid ((hb.block q (heap_lt hMq2.out)).trans hMq2.out)
  clear hb hB2 hL2 hMq2
  go_upto_region 4 with fail
  rw [← hw.out, ← ha.out]
  clear hw ha
  obtain ⟨cq0, cq1, cq2, cq3, cq4, cq5, cq6, cq7⟩ := MomAt.of_heap hMq3.out
  go_wp2_with fail
  refine (cs.out w3 hL3.out).mono ?_
  rintro e w4 ⟨rfl, hb⟩
  have hB4 := Lib.hid (hB3.out.trans (hb.mono hB3.out.size))
  have hL4 := Lib.hid (hL.out.below hB4.out hL.out.size)
  have hMq4 : Hid (MoAt w4 q m.y m.mo m.d m.h m.mi m.s m.z m.has) := Lib.hid ((hb.block q (heap_lt hMq3.out)).trans hMq3.out)
  have hMa4 : Hid (MoAt w4 a A.y A.mo A.d A.h A.mi A.s A.z A.has) := Lib.hid ((hb.block a (heap_lt hMa3.out)).trans hMa3.out)
  clear hb hB3 hL3 hMq3 hMa3
  clear cq0 cq1 cq2 cq3 cq4 cq5 cq6 cq7
  go_wp2_with fail
  refine (c2.out w4 hL4.out).mono ?_
  rintro e w5 ⟨rfl, hb⟩
  have hB5 := Lib.hid (hB4.out.trans (hb.mono hB4.out.size))
  have hL5 := Lib.hid (hL.out.below hB5.out hL.out.size)
  have hMq5 : Hid (MoAt w5 q m.y m.mo m.d m.h m.mi m.s m.z m.has) := Lib.hid ((hb.block q (heap_lt hMq4.out)).trans hMq4.out)
  have hMa5 : Hid (MoAt w5 a A.y A.mo A.d A.h A.mi A.s A.z A.has) := Lib.hid ((hb.block a (heap_lt hMa4.out)).trans hMa4.out)
  clear hb hB4 hL4 hMq4 hMa4
  obtain ⟨ra, hra⟩ : ∃ q, q = w5.heap.size := ⟨_, rfl⟩
  obtain ⟨w6, hw⟩ : ∃ w, w = w5.alloc (.cells #[.int .i64 A.y, .int .i64 A.mo, .int .i64 A.d, .int .i64 A.h, .int .i64 A.mi, .string A.s, .int .i64 A.z, .bool A.has] 28) := ⟨_, rfl⟩
  have hb : Below w5.heap.size w5 w6 := by rw [hw]; exact (Below.refl _ _).alloc (Nat.le_refl _) _
  have hMra6 : Hid (MoAs w6 ra A.y A.mo A.d A.h A.mi A.s A.z A.has) := Lib.hid (by rw [hw, hra]; exact (MapKept.heap_alloc _ _).1)
  have hgera : Hid (W.heap.size ≤ ra) := Lib.hid (by rw [hra]; exact hB5.out.size)
  have hnqra : Hid (q ≠ ra) := Lib.hid (by rw [hra]; exact Nat.ne_of_lt (heap_lt hMq5.out))
  have hnraq : Hid (ra ≠ q) := Lib.hid (fun e => hnqra.out e.symm)
  have hnara : Hid (a ≠ ra) := Lib.hid (by rw [hra]; exact Nat.ne_of_lt (heap_lt hMa5.out))
  have hnraa : Hid (ra ≠ a) := Lib.hid (fun e => hnara.out e.symm)
  replace hra := Lib.hid hra
  replace hw := Lib.hid hw
  have hB6 := Lib.hid (hB5.out.trans (hb.mono hB5.out.size))
  have hL6 := Lib.hid (hL.out.below hB6.out hL.out.size)
  have hMq6 : Hid (MoAt w6 q m.y m.mo m.d m.h m.mi m.s m.z m.has) := Lib.hid ((hb.block q (heap_lt hMq5.out)).trans hMq5.out)
  have hMa6 : Hid (MoAt w6 a A.y A.mo A.d A.h A.mi A.s A.z A.has) := Lib.hid ((hb.block a (heap_lt hMa5.out)).trans hMa5.out)
  clear hb hB5 hL5 hMq5 hMa5
  go_upto_region 5 with fail
  rw [← hw.out, ← hra.out]
  clear hw hra
  have SL : Hid (∀ w' w'', (w'.cell? ⟨a, 0, none⟩ = some (.int .i64 A.y) ∧ w'.cell? ⟨a, 1, none⟩ = some (.int .i64 A.mo) ∧ w'.cell? ⟨a, 2, none⟩ = some (.int .i64 A.d) ∧ w'.cell? ⟨a, 3, none⟩ = some (.int .i64 A.h) ∧ w'.cell? ⟨a, 4, none⟩ = some (.int .i64 A.mi) ∧ w'.cell? ⟨a, 5, none⟩ = some (.string A.s) ∧ w'.cell? ⟨a, 6, none⟩ = some (.int .i64 A.z) ∧ w'.cell? ⟨a, 7, none⟩ = some (.bool A.has) ∧ w'.cell? ⟨ra, 0, none⟩ = some (.int .i64 A.y) ∧ w'.cell? ⟨ra, 1, none⟩ = some (.int .i64 A.mo) ∧ w'.cell? ⟨ra, 2, none⟩ = some (.int .i64 A.d) ∧ w'.cell? ⟨ra, 3, none⟩ = some (.int .i64 A.h) ∧ w'.cell? ⟨ra, 4, none⟩ = some (.int .i64 A.mi) ∧ w'.cell? ⟨ra, 5, none⟩ = some (.string A.s) ∧ w'.cell? ⟨ra, 6, none⟩ = some (.int .i64 A.z) ∧ w'.cell? ⟨ra, 7, none⟩ = some (.bool A.has) ∧ Hid (MoAt w' q m.y m.mo m.d m.h m.mi m.s m.z m.has) ∧ Hid (MoAt w' a A.y A.mo A.d A.h A.mi A.s A.z A.has) ∧ Hid (MoAs w' ra A.y A.mo A.d A.h A.mi A.s A.z A.has) ∧ Hid (Below w6.heap.size w6 w')) → Below w'.heap.size w' w'' → (w''.cell? ⟨a, 0, none⟩ = some (.int .i64 A.y) ∧ w''.cell? ⟨a, 1, none⟩ = some (.int .i64 A.mo) ∧ w''.cell? ⟨a, 2, none⟩ = some (.int .i64 A.d) ∧ w''.cell? ⟨a, 3, none⟩ = some (.int .i64 A.h) ∧ w''.cell? ⟨a, 4, none⟩ = some (.int .i64 A.mi) ∧ w''.cell? ⟨a, 5, none⟩ = some (.string A.s) ∧ w''.cell? ⟨a, 6, none⟩ = some (.int .i64 A.z) ∧ w''.cell? ⟨a, 7, none⟩ = some (.bool A.has) ∧ w''.cell? ⟨ra, 0, none⟩ = some (.int .i64 A.y) ∧ w''.cell? ⟨ra, 1, none⟩ = some (.int .i64 A.mo) ∧ w''.cell? ⟨ra, 2, none⟩ = some (.int .i64 A.d) ∧ w''.cell? ⟨ra, 3, none⟩ = some (.int .i64 A.h) ∧ w''.cell? ⟨ra, 4, none⟩ = some (.int .i64 A.mi) ∧ w''.cell? ⟨ra, 5, none⟩ = some (.string A.s) ∧ w''.cell? ⟨ra, 6, none⟩ = some (.int .i64 A.z) ∧ w''.cell? ⟨ra, 7, none⟩ = some (.bool A.has) ∧ Hid (MoAt w'' q m.y m.mo m.d m.h m.mi m.s m.z m.has) ∧ Hid (MoAt w'' a A.y A.mo A.d A.h A.mi A.s A.z A.has) ∧ Hid (MoAs w'' ra A.y A.mo A.d A.h A.mi A.s A.z A.has) ∧ Hid (Below w6.heap.size w6 w''))) := Lib.hid (by
    rintro w' w'' ⟨-, -, -, -, -, -, -, -, -, -, -, -, -, -, -, -, hq, ha, hra, hb⟩ hk
    have gq : MoAt w'' q m.y m.mo m.d m.h m.mi m.s m.z m.has := (hk.block q (heap_lt hq.out)).trans hq.out
    have ga : MoAt w'' a A.y A.mo A.d A.h A.mi A.s A.z A.has := (hk.block a (heap_lt ha.out)).trans ha.out
    have gra : MoAs w'' ra A.y A.mo A.d A.h A.mi A.s A.z A.has := (hk.block ra (heap_lt hra.out)).trans hra.out
    obtain ⟨ca0, ca1, ca2, ca3, ca4, ca5, ca6, ca7⟩ := MomAt.of_heap ga
    obtain ⟨cra0, cra1, cra2, cra3, cra4, cra5, cra6, cra7⟩ := MomAt.of_heap gra
    exact ⟨ca0, ca1, ca2, ca3, ca4, ca5, ca6, ca7, cra0, cra1, cra2, cra3, cra4, cra5, cra6, cra7, Lib.hid gq, Lib.hid ga, Lib.hid gra, Lib.hid (hb.out.trans (hk.mono hb.out.size))⟩)
  have SO : Hid (∀ w', (w'.cell? ⟨a, 0, none⟩ = some (.int .i64 A.y) ∧ w'.cell? ⟨a, 1, none⟩ = some (.int .i64 A.mo) ∧ w'.cell? ⟨a, 2, none⟩ = some (.int .i64 A.d) ∧ w'.cell? ⟨a, 3, none⟩ = some (.int .i64 A.h) ∧ w'.cell? ⟨a, 4, none⟩ = some (.int .i64 A.mi) ∧ w'.cell? ⟨a, 5, none⟩ = some (.string A.s) ∧ w'.cell? ⟨a, 6, none⟩ = some (.int .i64 A.z) ∧ w'.cell? ⟨a, 7, none⟩ = some (.bool A.has) ∧ w'.cell? ⟨ra, 0, none⟩ = some (.int .i64 A.y) ∧ w'.cell? ⟨ra, 1, none⟩ = some (.int .i64 A.mo) ∧ w'.cell? ⟨ra, 2, none⟩ = some (.int .i64 A.d) ∧ w'.cell? ⟨ra, 3, none⟩ = some (.int .i64 A.h) ∧ w'.cell? ⟨ra, 4, none⟩ = some (.int .i64 A.mi) ∧ w'.cell? ⟨ra, 5, none⟩ = some (.string A.s) ∧ w'.cell? ⟨ra, 6, none⟩ = some (.int .i64 A.z) ∧ w'.cell? ⟨ra, 7, none⟩ = some (.bool A.has) ∧ Hid (MoAt w' q m.y m.mo m.d m.h m.mi m.s m.z m.has) ∧ Hid (MoAt w' a A.y A.mo A.d A.h A.mi A.s A.z A.has) ∧ Hid (MoAs w' ra A.y A.mo A.d A.h A.mi A.s A.z A.has) ∧ Hid (Below w6.heap.size w6 w')) → LaidT w') := Lib.hid (by
    rintro w' ⟨-, -, -, -, -, -, -, -, -, -, -, -, -, -, -, -, hq, ha, hra, hb⟩
    exact hL.out.below (hB6.out.trans (hb.out.mono hB6.out.size)) hL.out.size)
  have hS := SL.out w6 w6.drew ⟨(MomAt.of_heap hMa6.out).c0, (MomAt.of_heap hMa6.out).c1, (MomAt.of_heap hMa6.out).c2, (MomAt.of_heap hMa6.out).c3, (MomAt.of_heap hMa6.out).c4, (MomAt.of_heap hMa6.out).c5, (MomAt.of_heap hMa6.out).c6, (MomAt.of_heap hMa6.out).c7, (MomAt.of_heap hMra6.out).c0, (MomAt.of_heap hMra6.out).c1, (MomAt.of_heap hMra6.out).c2, (MomAt.of_heap hMra6.out).c3, (MomAt.of_heap hMra6.out).c4, (MomAt.of_heap hMra6.out).c5, (MomAt.of_heap hMra6.out).c6, (MomAt.of_heap hMra6.out).c7, hMq6, hMa6, hMra6, Lib.hid (Below.refl _ _)⟩ (Below.refl _ _).drew
  replace hS := Lib.hid hS
  go_wp2_with fail
  go_region_held3 (fun w' => w'.cell? ⟨a, 0, none⟩ = some (.int .i64 A.y) ∧ w'.cell? ⟨a, 1, none⟩ = some (.int .i64 A.mo) ∧ w'.cell? ⟨a, 2, none⟩ = some (.int .i64 A.d) ∧ w'.cell? ⟨a, 3, none⟩ = some (.int .i64 A.h) ∧ w'.cell? ⟨a, 4, none⟩ = some (.int .i64 A.mi) ∧ w'.cell? ⟨a, 5, none⟩ = some (.string A.s) ∧ w'.cell? ⟨a, 6, none⟩ = some (.int .i64 A.z) ∧ w'.cell? ⟨a, 7, none⟩ = some (.bool A.has) ∧ w'.cell? ⟨ra, 0, none⟩ = some (.int .i64 A.y) ∧ w'.cell? ⟨ra, 1, none⟩ = some (.int .i64 A.mo) ∧ w'.cell? ⟨ra, 2, none⟩ = some (.int .i64 A.d) ∧ w'.cell? ⟨ra, 3, none⟩ = some (.int .i64 A.h) ∧ w'.cell? ⟨ra, 4, none⟩ = some (.int .i64 A.mi) ∧ w'.cell? ⟨ra, 5, none⟩ = some (.string A.s) ∧ w'.cell? ⟨ra, 6, none⟩ = some (.int .i64 A.z) ∧ w'.cell? ⟨ra, 7, none⟩ = some (.bool A.has) ∧ Hid (MoAt w' q m.y m.mo m.d m.h m.mi m.s m.z m.has) ∧ Hid (MoAt w' a A.y A.mo A.d A.h A.mi A.s A.z A.has) ∧ Hid (MoAs w' ra A.y A.mo A.d A.h A.mi A.s A.z A.has) ∧ Hid (Below w6.heap.size w6 w'))
    (first | exact hS.out | assumption | exact SL.out _ _ (by assumption) (by assumption))
    (first | (go_at_call 17; refine (spec_r _ _ _ _ _ _ _ _ _).mono ?_; rintro e w' ⟨rfl, hbb⟩) | (go_at_call 14; refine (works_c _ (SO.out _ (by assumption))).mono ?_; rintro e w' ⟨rfl, hbb⟩))
  rename_i hH
  obtain ⟨-, -, -, -, -, -, -, -, -, -, -, -, -, -, -, -, hq, ha, hra, hb⟩ := hH
  clear SL SO hS
  go_wp2_with fail
  go_ret
  exact ⟨rfl, hB6.out.trans (hb.out.mono hB6.out.size)⟩
end Go.Proofs.YtgobpoeccdgeiaaGreatDoor
