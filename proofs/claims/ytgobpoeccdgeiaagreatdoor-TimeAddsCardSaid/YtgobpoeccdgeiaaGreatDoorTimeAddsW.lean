/- TimeAdds: moments some months and some seconds later are those of the chapter: the walk. (Printed by genlaws7.py.) -/
import Derived.Test.YtgobpoeccdgeiaaGreatDoorR7q
import Derived.Test.YtgobpoeccdgeiaaGreatDoorOe
import Derived.Deep.CutRange
namespace Go.Proofs.YtgobpoeccdgeiaaGreatDoor
open Go.RowKit NumP DurP TimeP Go.Proofs.YtgobpoeccdgeiaaGreatDoorW.PrintWords
set_option linter.unusedVariables false

/-- A moment of chiselref07 in a block. -/
def MoAs (w : World) (q : Nat) (y mo d h mi : Int) (s : ByteArray) (z : Int) (has : Bool) : Prop := w.heap[q]? = some (.cells #[.int .i64 y, .int .i64 mo, .int .i64 d, .int .i64 h, .int .i64 mi, .string s, .int .i64 z, .bool has] 28 (0, 0))
theorem Months7_c (m r : MB) (n k : Int) (e : addMonthsP m.P n = (r.P, k)) (hs : m.s.size ≤ 1000) (hn : IntKind.i64.min ≤ n ∧ n ≤ IntKind.i64.max) (w : World) : Calls Tryz.prog 27 #[.agg #[.int .i64 m.y, .int .i64 m.mo, .int .i64 m.d, .int .i64 m.h, .int .i64 m.mi, .string m.s, .int .i64 m.z, .bool m.has], .int .i64 n] w fun e w' => e = .returned (.tuple #[.agg #[.int .i64 r.y, .int .i64 r.mo, .int .i64 r.d, .int .i64 r.h, .int .i64 r.mi, .string r.s, .int .i64 r.z, .bool r.has], .int .i64 k]) ∧ Below w.heap.size w w' := by
  have := AddMonths7_r m.y m.mo m.d m.h m.mi m.s m.z m.has n w (thousand hs) hn
  rw [show (⟨m.y, m.mo, m.d, m.h, m.mi, m.s.data.toList, m.z, m.has⟩ : Mom) = m.P from rfl, e] at this
  exact this
theorem Secs7_c (m r : MB) (n : ByteArray) (k : Int) (e : addSecondsP m.P n.data.toList = (r.P, k)) (hs : m.s.size ≤ 1000) (hn : n.size ≤ 1000) (w : World) : Calls Tryz.prog 29 #[.agg #[.int .i64 m.y, .int .i64 m.mo, .int .i64 m.d, .int .i64 m.h, .int .i64 m.mi, .string m.s, .int .i64 m.z, .bool m.has], .string n] w fun e w' => e = .returned (.tuple #[.agg #[.int .i64 r.y, .int .i64 r.mo, .int .i64 r.d, .int .i64 r.h, .int .i64 r.mi, .string r.s, .int .i64 r.z, .bool r.has], .int .i64 k]) ∧ Below w.heap.size w w' := by
  have := AddSeconds7_r m.y m.mo m.d m.h m.mi m.s m.z m.has n w (thousand hs) (thousand hn)
  rw [show (⟨m.y, m.mo, m.d, m.h, m.mi, m.s.data.toList, m.z, m.has⟩ : Mom) = m.P from rfl, e] at this
  exact this
theorem wf_bounds7 {k : IntKind} {n : Int} (h : (Lit.int k n).wf = true) : k.min ≤ n ∧ n ≤ k.max := by
  simpa [Lit.wf] using h
set_option maxRecDepth 100000 in
set_option maxHeartbeats 4000000 in
theorem timeAdds_walk (m : MB) (n : Int) (t : ByteArray) (W : World) (hL : LaidT W) (hn : IntKind.i64.min ≤ n ∧ n ≤ IntKind.i64.max) (ht0 : t.size ≤ maxLen) : Calls Tryz.prog 9 #[.agg #[.int .i64 m.y, .int .i64 m.mo, .int .i64 m.d, .int .i64 m.h, .int .i64 m.mi, .string m.s, .int .i64 m.z, .bool m.has], .int .i64 n, .string t] W (fun e w' => e = .returned (.bool true) ∧ Below W.heap.size W w') := by
  by_cases hs : (m.s.size : Int) > 300
  · obtain ⟨q, hq⟩ : ∃ q, q = W.heap.size := ⟨_, rfl⟩
    obtain ⟨w1, hw⟩ : ∃ w, w = W.alloc (.cells #[.int .i64 m.y, .int .i64 m.mo, .int .i64 m.d, .int .i64 m.h, .int .i64 m.mi, .string m.s, .int .i64 m.z, .bool m.has] 24) := ⟨_, rfl⟩
    have hB1 : Hid (Below W.heap.size W w1) := Lib.hid (by rw [hw]; exact (Below.refl _ _).alloc (Nat.le_refl _) _)
    have hL1 := Lib.hid (hL.below hB1.out hL.size)
    have hMq1 : Hid (MoAt w1 q m.y m.mo m.d m.h m.mi m.s m.z m.has) := Lib.hid (by rw [hw, hq]; exact (MapKept.heap_alloc _ _).1)
    have hgeq : Hid (W.heap.size ≤ q) := Lib.hid (by rw [hq]; exact Nat.le_refl _)
    replace hq := Lib.hid hq
    replace hw := Lib.hid hw
    replace hL := Lib.hid hL
    go_enter Tryz.func9, Tryz.ntmps9
    go_upto_region 1 with fail
    rw [← hw.out, ← hq.out]
    clear hw
    obtain ⟨cq0, cq1, cq2, cq3, cq4, cq5, cq6, cq7⟩ := MomAt.of_heap hMq1.out
    go_wp2_with fail
    refine (works_c w1 hL1.out).mono ?_
    rintro e w ⟨rfl, hb⟩
    go_wp2_with fail
    go_ret
    exact ⟨rfl, hB1.out.trans (hb.mono hB1.out.size)⟩
  by_cases hs2 : (t.size : Int) > 300
  · obtain ⟨q, hq⟩ : ∃ q, q = W.heap.size := ⟨_, rfl⟩
    obtain ⟨w1, hw⟩ : ∃ w, w = W.alloc (.cells #[.int .i64 m.y, .int .i64 m.mo, .int .i64 m.d, .int .i64 m.h, .int .i64 m.mi, .string m.s, .int .i64 m.z, .bool m.has] 24) := ⟨_, rfl⟩
    have hB1 : Hid (Below W.heap.size W w1) := Lib.hid (by rw [hw]; exact (Below.refl _ _).alloc (Nat.le_refl _) _)
    have hL1 := Lib.hid (hL.below hB1.out hL.size)
    have hMq1 : Hid (MoAt w1 q m.y m.mo m.d m.h m.mi m.s m.z m.has) := Lib.hid (by rw [hw, hq]; exact (MapKept.heap_alloc _ _).1)
    have hgeq : Hid (W.heap.size ≤ q) := Lib.hid (by rw [hq]; exact Nat.le_refl _)
    replace hq := Lib.hid hq
    replace hw := Lib.hid hw
    replace hL := Lib.hid hL
    go_enter Tryz.func9, Tryz.ntmps9
    go_upto_region 1 with fail
    rw [← hw.out, ← hq.out]
    clear hw
    obtain ⟨cq0, cq1, cq2, cq3, cq4, cq5, cq6, cq7⟩ := MomAt.of_heap hMq1.out
    go_wp2_with fail
    refine (works_c w1 hL1.out).mono ?_
    rintro e w ⟨rfl, hb⟩
    go_wp2_with fail
    go_ret
    exact ⟨rfl, hB1.out.trans (hb.mono hB1.out.size)⟩
  have hsm : m.s.size ≤ 1000 := by omega
  have hst : t.size ≤ 1000 := by omega
  obtain ⟨A, k1, e1⟩ := MB.ex (addMonthsP m.P n)
  obtain ⟨B, k2, e2⟩ := MB.ex (addSecondsP m.P t.data.toList)
  have c1 : Hid (∀ w, LaidT w → Calls Tryz.prog 24 #[.agg #[.int .i64 m.y, .int .i64 m.mo, .int .i64 m.d, .int .i64 m.h, .int .i64 m.mi, .string m.s, .int .i64 m.z, .bool m.has], .int .i64 n] w fun e w' => e = .returned (.tuple #[.agg #[.int .i64 A.y, .int .i64 A.mo, .int .i64 A.d, .int .i64 A.h, .int .i64 A.mi, .string A.s, .int .i64 A.z, .bool A.has], .int .i64 k1]) ∧ Below w.heap.size w w') := Lib.hid (fun w hw => Months_c m A n k1 e1 hsm w hw)
  have c2 : Hid (∀ w, LaidT w → Calls Tryz.prog 27 #[.agg #[.int .i64 m.y, .int .i64 m.mo, .int .i64 m.d, .int .i64 m.h, .int .i64 m.mi, .string m.s, .int .i64 m.z, .bool m.has], .int .i64 n] w fun e w' => e = .returned (.tuple #[.agg #[.int .i64 A.y, .int .i64 A.mo, .int .i64 A.d, .int .i64 A.h, .int .i64 A.mi, .string A.s, .int .i64 A.z, .bool A.has], .int .i64 k1]) ∧ Below w.heap.size w w') := Lib.hid (fun w hw => Months7_c m A n k1 e1 hsm hn w)
  have c3 : Hid (∀ w, LaidT w → Calls Tryz.prog 28 #[.agg #[.int .i64 m.y, .int .i64 m.mo, .int .i64 m.d, .int .i64 m.h, .int .i64 m.mi, .string m.s, .int .i64 m.z, .bool m.has], .string t] w fun e w' => e = .returned (.tuple #[.agg #[.int .i64 B.y, .int .i64 B.mo, .int .i64 B.d, .int .i64 B.h, .int .i64 B.mi, .string B.s, .int .i64 B.z, .bool B.has], .int .i64 k2]) ∧ Below w.heap.size w w') := Lib.hid (fun w hw => Secs_c m B t k2 e2 hsm (thousand hst) w hw)
  have c4 : Hid (∀ w, LaidT w → Calls Tryz.prog 29 #[.agg #[.int .i64 m.y, .int .i64 m.mo, .int .i64 m.d, .int .i64 m.h, .int .i64 m.mi, .string m.s, .int .i64 m.z, .bool m.has], .string t] w fun e w' => e = .returned (.tuple #[.agg #[.int .i64 B.y, .int .i64 B.mo, .int .i64 B.d, .int .i64 B.h, .int .i64 B.mi, .string B.s, .int .i64 B.z, .bool B.has], .int .i64 k2]) ∧ Below w.heap.size w w') := Lib.hid (fun w hw => Secs7_c m B t k2 e2 hsm hst w)
  have cs : Hid (∀ w, LaidT w → Calls Tryz.prog 17 #[.agg #[.int .i64 m.y, .int .i64 m.mo, .int .i64 m.d, .int .i64 m.h, .int .i64 m.mi, .string m.s, .int .i64 m.z, .bool m.has]] w fun e w' => e = .returned (.agg #[.int .i64 m.y, .int .i64 m.mo, .int .i64 m.d, .int .i64 m.h, .int .i64 m.mi, .string m.s, .int .i64 m.z, .bool m.has]) ∧ Below w.heap.size w w') := Lib.hid (fun w hw => spec_c m w)
  clear e1 e2
  have gg0 : (k1 == k1) = true := beq_self_eq_true _
  have gg1 : (k2 == k2) = true := beq_self_eq_true _
  obtain ⟨q, hq⟩ : ∃ q, q = W.heap.size := ⟨_, rfl⟩
  obtain ⟨w1, hw⟩ : ∃ w, w = W.alloc (.cells #[.int .i64 m.y, .int .i64 m.mo, .int .i64 m.d, .int .i64 m.h, .int .i64 m.mi, .string m.s, .int .i64 m.z, .bool m.has] 24) := ⟨_, rfl⟩
  have hB1 : Hid (Below W.heap.size W w1) := Lib.hid (by rw [hw]; exact (Below.refl _ _).alloc (Nat.le_refl _) _)
  have hL1 := Lib.hid (hL.below hB1.out hL.size)
  have hMq1 : Hid (MoAt w1 q m.y m.mo m.d m.h m.mi m.s m.z m.has) := Lib.hid (by rw [hw, hq]; exact (MapKept.heap_alloc _ _).1)
  have hgeq : Hid (W.heap.size ≤ q) := Lib.hid (by rw [hq]; exact Nat.le_refl _)
  replace hq := Lib.hid hq
  replace hw := Lib.hid hw
  replace hL := Lib.hid hL
  go_enter Tryz.func9, Tryz.ntmps9
  go_upto_region 1 with fail
  rw [← hw.out, ← hq.out]
  clear hw
  obtain ⟨cq0, cq1, cq2, cq3, cq4, cq5, cq6, cq7⟩ := MomAt.of_heap hMq1.out
  go_wp2_with fail
  refine (c1.out w1 hL1.out).mono ?_
  rintro e w2 ⟨rfl, hb⟩
  have hB2 := Lib.hid (hB1.out.trans (hb.mono hB1.out.size))
  have hL2 := Lib.hid (hL.out.below hB2.out hL.out.size)
  have hMq2 : Hid (MoAt w2 q m.y m.mo m.d m.h m.mi m.s m.z m.has) := Lib.hid ((hb.block q (heap_lt hMq1.out)).trans hMq1.out)
  clear hb hB1 hL1 hMq1
  clear cq0 cq1 cq2 cq3 cq4 cq5 cq6 cq7
  obtain ⟨a, ha⟩ : ∃ q, q = w2.heap.size := ⟨_, rfl⟩
  obtain ⟨w3, hw⟩ : ∃ w, w = w2.alloc (.cells #[.int .i64 A.y, .int .i64 A.mo, .int .i64 A.d, .int .i64 A.h, .int .i64 A.mi, .string A.s, .int .i64 A.z, .bool A.has] 24) := ⟨_, rfl⟩
  have hb : Below w2.heap.size w2 w3 := by rw [hw]; exact (Below.refl _ _).alloc (Nat.le_refl _) _
  have hMa3 : Hid (MoAt w3 a A.y A.mo A.d A.h A.mi A.s A.z A.has) := Lib.hid (by rw [hw, ha]; exact (MapKept.heap_alloc _ _).1)
  have hgea : Hid (W.heap.size ≤ a) := Lib.hid (by rw [ha]; exact hB2.out.size)
  have hnqa : Hid (q ≠ a) := Lib.hid (by rw [ha]; exact Nat.ne_of_lt (heap_lt hMq2.out))
  have hnaq : Hid (a ≠ q) := Lib.hid (fun e => hnqa.out e.symm)
  replace ha := Lib.hid ha
  replace hw := Lib.hid hw
  have hB3 := Lib.hid (hB2.out.trans (hb.mono hB2.out.size))
  have hL3 := Lib.hid (hL.out.below hB3.out hL.out.size)
  have hMq3 : Hid (MoAt w3 q m.y m.mo m.d m.h m.mi m.s m.z m.has) := Lib.hid ((hb.block q (heap_lt hMq2.out)).trans hMq2.out)
  clear hb hB2 hL2 hMq2
  go_upto_region 4 with fail
  rw [← hw.out, ← ha.out]
  clear hw ha
  obtain ⟨cq0, cq1, cq2, cq3, cq4, cq5, cq6, cq7⟩ := MomAt.of_heap hMq3.out
  go_wp2_with fail
  refine (cs.out w3 hL3.out).mono ?_
  rintro e w4 ⟨rfl, hb⟩
  have hB4 := Lib.hid (hB3.out.trans (hb.mono hB3.out.size))
  have hL4 := Lib.hid (hL.out.below hB4.out hL.out.size)
  have hMq4 : Hid (MoAt w4 q m.y m.mo m.d m.h m.mi m.s m.z m.has) := Lib.hid ((hb.block q (heap_lt hMq3.out)).trans hMq3.out)
  have hMa4 : Hid (MoAt w4 a A.y A.mo A.d A.h A.mi A.s A.z A.has) := Lib.hid ((hb.block a (heap_lt hMa3.out)).trans hMa3.out)
  clear hb hB3 hL3 hMq3 hMa3
  clear cq0 cq1 cq2 cq3 cq4 cq5 cq6 cq7
  go_wp2_with fail
  refine (c2.out w4 hL4.out).mono ?_
  rintro e w5 ⟨rfl, hb⟩
  have hB5 := Lib.hid (hB4.out.trans (hb.mono hB4.out.size))
  have hL5 := Lib.hid (hL.out.below hB5.out hL.out.size)
  have hMq5 : Hid (MoAt w5 q m.y m.mo m.d m.h m.mi m.s m.z m.has) := Lib.hid ((hb.block q (heap_lt hMq4.out)).trans hMq4.out)
  have hMa5 : Hid (MoAt w5 a A.y A.mo A.d A.h A.mi A.s A.z A.has) := Lib.hid ((hb.block a (heap_lt hMa4.out)).trans hMa4.out)
  clear hb hB4 hL4 hMq4 hMa4
  obtain ⟨ra, hra⟩ : ∃ q, q = w5.heap.size := ⟨_, rfl⟩
  obtain ⟨w6, hw⟩ : ∃ w, w = w5.alloc (.cells #[.int .i64 A.y, .int .i64 A.mo, .int .i64 A.d, .int .i64 A.h, .int .i64 A.mi, .string A.s, .int .i64 A.z, .bool A.has] 28) := ⟨_, rfl⟩
  have hb : Below w5.heap.size w5 w6 := by rw [hw]; exact (Below.refl _ _).alloc (Nat.le_refl _) _
  have hMra6 : Hid (MoAs w6 ra A.y A.mo A.d A.h A.mi A.s A.z A.has) := Lib.hid (by rw [hw, hra]; exact (MapKept.heap_alloc _ _).1)
  have hgera : Hid (W.heap.size ≤ ra) := Lib.hid (by rw [hra]; exact hB5.out.size)
  have hnqra : Hid (q ≠ ra) := Lib.hid (by rw [hra]; exact Nat.ne_of_lt (heap_lt hMq5.out))
  have hnraq : Hid (ra ≠ q) := Lib.hid (fun e => hnqra.out e.symm)
  have hnara : Hid (a ≠ ra) := Lib.hid (by rw [hra]; exact Nat.ne_of_lt (heap_lt hMa5.out))
  have hnraa : Hid (ra ≠ a) := Lib.hid (fun e => hnara.out e.symm)
  replace hra := Lib.hid hra
  replace hw := Lib.hid hw
  have hB6 := Lib.hid (hB5.out.trans (hb.mono hB5.out.size))
  have hL6 := Lib.hid (hL.out.below hB6.out hL.out.size)
  have hMq6 : Hid (MoAt w6 q m.y m.mo m.d m.h m.mi m.s m.z m.has) := Lib.hid ((hb.block q (heap_lt hMq5.out)).trans hMq5.out)
  have hMa6 : Hid (MoAt w6 a A.y A.mo A.d A.h A.mi A.s A.z A.has) := Lib.hid ((hb.block a (heap_lt hMa5.out)).trans hMa5.out)
  clear hb hB5 hL5 hMq5 hMa5
  go_upto_region 5 with fail
  rw [← hw.out, ← hra.out]
  clear hw hra
  obtain ⟨cq0, cq1, cq2, cq3, cq4, cq5, cq6, cq7⟩ := MomAt.of_heap hMq6.out
  go_wp2_with fail
  refine (c3.out w6 hL6.out).mono ?_
  rintro e w7 ⟨rfl, hb⟩
  have hB7 := Lib.hid (hB6.out.trans (hb.mono hB6.out.size))
  have hL7 := Lib.hid (hL.out.below hB7.out hL.out.size)
  have hMq7 : Hid (MoAt w7 q m.y m.mo m.d m.h m.mi m.s m.z m.has) := Lib.hid ((hb.block q (heap_lt hMq6.out)).trans hMq6.out)
  have hMa7 : Hid (MoAt w7 a A.y A.mo A.d A.h A.mi A.s A.z A.has) := Lib.hid ((hb.block a (heap_lt hMa6.out)).trans hMa6.out)
  have hMra7 : Hid (MoAs w7 ra A.y A.mo A.d A.h A.mi A.s A.z A.has) := Lib.hid ((hb.block ra (heap_lt hMra6.out)).trans hMra6.out)
  clear hb hB6 hL6 hMq6 hMa6 hMra6
  clear cq0 cq1 cq2 cq3 cq4 cq5 cq6 cq7
  obtain ⟨u, hu⟩ : ∃ q, q = w7.heap.size := ⟨_, rfl⟩
  obtain ⟨w8, hw⟩ : ∃ w, w = w7.alloc (.cells #[.int .i64 B.y, .int .i64 B.mo, .int .i64 B.d, .int .i64 B.h, .int .i64 B.mi, .string B.s, .int .i64 B.z, .bool B.has] 24) := ⟨_, rfl⟩
  have hb : Below w7.heap.size w7 w8 := by rw [hw]; exact (Below.refl _ _).alloc (Nat.le_refl _) _
  have hMu8 : Hid (MoAt w8 u B.y B.mo B.d B.h B.mi B.s B.z B.has) := Lib.hid (by rw [hw, hu]; exact (MapKept.heap_alloc _ _).1)
  have hgeu : Hid (W.heap.size ≤ u) := Lib.hid (by rw [hu]; exact hB7.out.size)
  have hnqu : Hid (q ≠ u) := Lib.hid (by rw [hu]; exact Nat.ne_of_lt (heap_lt hMq7.out))
  have hnuq : Hid (u ≠ q) := Lib.hid (fun e => hnqu.out e.symm)
  have hnau : Hid (a ≠ u) := Lib.hid (by rw [hu]; exact Nat.ne_of_lt (heap_lt hMa7.out))
  have hnua : Hid (u ≠ a) := Lib.hid (fun e => hnau.out e.symm)
  have hnrau : Hid (ra ≠ u) := Lib.hid (by rw [hu]; exact Nat.ne_of_lt (heap_lt hMra7.out))
  have hnura : Hid (u ≠ ra) := Lib.hid (fun e => hnrau.out e.symm)
  replace hu := Lib.hid hu
  replace hw := Lib.hid hw
  have hB8 := Lib.hid (hB7.out.trans (hb.mono hB7.out.size))
  have hL8 := Lib.hid (hL.out.below hB8.out hL.out.size)
  have hMq8 : Hid (MoAt w8 q m.y m.mo m.d m.h m.mi m.s m.z m.has) := Lib.hid ((hb.block q (heap_lt hMq7.out)).trans hMq7.out)
  have hMa8 : Hid (MoAt w8 a A.y A.mo A.d A.h A.mi A.s A.z A.has) := Lib.hid ((hb.block a (heap_lt hMa7.out)).trans hMa7.out)
  have hMra8 : Hid (MoAs w8 ra A.y A.mo A.d A.h A.mi A.s A.z A.has) := Lib.hid ((hb.block ra (heap_lt hMra7.out)).trans hMra7.out)
  clear hb hB7 hL7 hMq7 hMa7 hMra7
  go_upto_region 6 with fail
  rw [← hw.out, ← hu.out]
  clear hw hu
  obtain ⟨cq0, cq1, cq2, cq3, cq4, cq5, cq6, cq7⟩ := MomAt.of_heap hMq8.out
  go_wp2_with fail
  refine (cs.out w8 hL8.out).mono ?_
  rintro e w9 ⟨rfl, hb⟩
  have hB9 := Lib.hid (hB8.out.trans (hb.mono hB8.out.size))
  have hL9 := Lib.hid (hL.out.below hB9.out hL.out.size)
  have hMq9 : Hid (MoAt w9 q m.y m.mo m.d m.h m.mi m.s m.z m.has) := Lib.hid ((hb.block q (heap_lt hMq8.out)).trans hMq8.out)
  have hMa9 : Hid (MoAt w9 a A.y A.mo A.d A.h A.mi A.s A.z A.has) := Lib.hid ((hb.block a (heap_lt hMa8.out)).trans hMa8.out)
  have hMra9 : Hid (MoAs w9 ra A.y A.mo A.d A.h A.mi A.s A.z A.has) := Lib.hid ((hb.block ra (heap_lt hMra8.out)).trans hMra8.out)
  have hMu9 : Hid (MoAt w9 u B.y B.mo B.d B.h B.mi B.s B.z B.has) := Lib.hid ((hb.block u (heap_lt hMu8.out)).trans hMu8.out)
  clear hb hB8 hL8 hMq8 hMa8 hMra8 hMu8
  clear cq0 cq1 cq2 cq3 cq4 cq5 cq6 cq7
  go_wp2_with fail
  refine (c4.out w9 hL9.out).mono ?_
  rintro e w10 ⟨rfl, hb⟩
  have hB10 := Lib.hid (hB9.out.trans (hb.mono hB9.out.size))
  have hL10 := Lib.hid (hL.out.below hB10.out hL.out.size)
  have hMq10 : Hid (MoAt w10 q m.y m.mo m.d m.h m.mi m.s m.z m.has) := Lib.hid ((hb.block q (heap_lt hMq9.out)).trans hMq9.out)
  have hMa10 : Hid (MoAt w10 a A.y A.mo A.d A.h A.mi A.s A.z A.has) := Lib.hid ((hb.block a (heap_lt hMa9.out)).trans hMa9.out)
  have hMra10 : Hid (MoAs w10 ra A.y A.mo A.d A.h A.mi A.s A.z A.has) := Lib.hid ((hb.block ra (heap_lt hMra9.out)).trans hMra9.out)
  have hMu10 : Hid (MoAt w10 u B.y B.mo B.d B.h B.mi B.s B.z B.has) := Lib.hid ((hb.block u (heap_lt hMu9.out)).trans hMu9.out)
  clear hb hB9 hL9 hMq9 hMa9 hMra9 hMu9
  obtain ⟨ru, hru⟩ : ∃ q, q = w10.heap.size := ⟨_, rfl⟩
  obtain ⟨w11, hw⟩ : ∃ w, w = w10.alloc (.cells #[.int .i64 B.y, .int .i64 B.mo, .int .i64 B.d, .int .i64 B.h, .int .i64 B.mi, .string B.s, .int .i64 B.z, .bool B.has] 28) := ⟨_, rfl⟩
  have hb : Below w10.heap.size w10 w11 := by rw [hw]; exact (Below.refl _ _).alloc (Nat.le_refl _) _
  have hMru11 : Hid (MoAs w11 ru B.y B.mo B.d B.h B.mi B.s B.z B.has) := Lib.hid (by rw [hw, hru]; exact (MapKept.heap_alloc _ _).1)
  have hgeru : Hid (W.heap.size ≤ ru) := Lib.hid (by rw [hru]; exact hB10.out.size)
  have hnqru : Hid (q ≠ ru) := Lib.hid (by rw [hru]; exact Nat.ne_of_lt (heap_lt hMq10.out))
  have hnruq : Hid (ru ≠ q) := Lib.hid (fun e => hnqru.out e.symm)
  have hnaru : Hid (a ≠ ru) := Lib.hid (by rw [hru]; exact Nat.ne_of_lt (heap_lt hMa10.out))
  have hnrua : Hid (ru ≠ a) := Lib.hid (fun e => hnaru.out e.symm)
  have hnraru : Hid (ra ≠ ru) := Lib.hid (by rw [hru]; exact Nat.ne_of_lt (heap_lt hMra10.out))
  have hnrura : Hid (ru ≠ ra) := Lib.hid (fun e => hnraru.out e.symm)
  have hnuru : Hid (u ≠ ru) := Lib.hid (by rw [hru]; exact Nat.ne_of_lt (heap_lt hMu10.out))
  have hnruu : Hid (ru ≠ u) := Lib.hid (fun e => hnuru.out e.symm)
  replace hru := Lib.hid hru
  replace hw := Lib.hid hw
  have hB11 := Lib.hid (hB10.out.trans (hb.mono hB10.out.size))
  have hL11 := Lib.hid (hL.out.below hB11.out hL.out.size)
  have hMq11 : Hid (MoAt w11 q m.y m.mo m.d m.h m.mi m.s m.z m.has) := Lib.hid ((hb.block q (heap_lt hMq10.out)).trans hMq10.out)
  have hMa11 : Hid (MoAt w11 a A.y A.mo A.d A.h A.mi A.s A.z A.has) := Lib.hid ((hb.block a (heap_lt hMa10.out)).trans hMa10.out)
  have hMra11 : Hid (MoAs w11 ra A.y A.mo A.d A.h A.mi A.s A.z A.has) := Lib.hid ((hb.block ra (heap_lt hMra10.out)).trans hMra10.out)
  have hMu11 : Hid (MoAt w11 u B.y B.mo B.d B.h B.mi B.s B.z B.has) := Lib.hid ((hb.block u (heap_lt hMu10.out)).trans hMu10.out)
  clear hb hB10 hL10 hMq10 hMa10 hMra10 hMu10
  go_upto_region 7 with fail
  rw [← hw.out, ← hru.out]
  clear hw hru
  have SL : Hid (∀ w' w'', (w'.cell? ⟨a, 0, none⟩ = some (.int .i64 A.y) ∧ w'.cell? ⟨a, 1, none⟩ = some (.int .i64 A.mo) ∧ w'.cell? ⟨a, 2, none⟩ = some (.int .i64 A.d) ∧ w'.cell? ⟨a, 3, none⟩ = some (.int .i64 A.h) ∧ w'.cell? ⟨a, 4, none⟩ = some (.int .i64 A.mi) ∧ w'.cell? ⟨a, 5, none⟩ = some (.string A.s) ∧ w'.cell? ⟨a, 6, none⟩ = some (.int .i64 A.z) ∧ w'.cell? ⟨a, 7, none⟩ = some (.bool A.has) ∧ w'.cell? ⟨ra, 0, none⟩ = some (.int .i64 A.y) ∧ w'.cell? ⟨ra, 1, none⟩ = some (.int .i64 A.mo) ∧ w'.cell? ⟨ra, 2, none⟩ = some (.int .i64 A.d) ∧ w'.cell? ⟨ra, 3, none⟩ = some (.int .i64 A.h) ∧ w'.cell? ⟨ra, 4, none⟩ = some (.int .i64 A.mi) ∧ w'.cell? ⟨ra, 5, none⟩ = some (.string A.s) ∧ w'.cell? ⟨ra, 6, none⟩ = some (.int .i64 A.z) ∧ w'.cell? ⟨ra, 7, none⟩ = some (.bool A.has) ∧ w'.cell? ⟨u, 0, none⟩ = some (.int .i64 B.y) ∧ w'.cell? ⟨u, 1, none⟩ = some (.int .i64 B.mo) ∧ w'.cell? ⟨u, 2, none⟩ = some (.int .i64 B.d) ∧ w'.cell? ⟨u, 3, none⟩ = some (.int .i64 B.h) ∧ w'.cell? ⟨u, 4, none⟩ = some (.int .i64 B.mi) ∧ w'.cell? ⟨u, 5, none⟩ = some (.string B.s) ∧ w'.cell? ⟨u, 6, none⟩ = some (.int .i64 B.z) ∧ w'.cell? ⟨u, 7, none⟩ = some (.bool B.has) ∧ w'.cell? ⟨ru, 0, none⟩ = some (.int .i64 B.y) ∧ w'.cell? ⟨ru, 1, none⟩ = some (.int .i64 B.mo) ∧ w'.cell? ⟨ru, 2, none⟩ = some (.int .i64 B.d) ∧ w'.cell? ⟨ru, 3, none⟩ = some (.int .i64 B.h) ∧ w'.cell? ⟨ru, 4, none⟩ = some (.int .i64 B.mi) ∧ w'.cell? ⟨ru, 5, none⟩ = some (.string B.s) ∧ w'.cell? ⟨ru, 6, none⟩ = some (.int .i64 B.z) ∧ w'.cell? ⟨ru, 7, none⟩ = some (.bool B.has) ∧ Hid (MoAt w' q m.y m.mo m.d m.h m.mi m.s m.z m.has) ∧ Hid (MoAt w' a A.y A.mo A.d A.h A.mi A.s A.z A.has) ∧ Hid (MoAs w' ra A.y A.mo A.d A.h A.mi A.s A.z A.has) ∧ Hid (MoAt w' u B.y B.mo B.d B.h B.mi B.s B.z B.has) ∧ Hid (MoAs w' ru B.y B.mo B.d B.h B.mi B.s B.z B.has) ∧ Hid (Below w11.heap.size w11 w')) → Below w'.heap.size w' w'' → (w''.cell? ⟨a, 0, none⟩ = some (.int .i64 A.y) ∧ w''.cell? ⟨a, 1, none⟩ = some (.int .i64 A.mo) ∧ w''.cell? ⟨a, 2, none⟩ = some (.int .i64 A.d) ∧ w''.cell? ⟨a, 3, none⟩ = some (.int .i64 A.h) ∧ w''.cell? ⟨a, 4, none⟩ = some (.int .i64 A.mi) ∧ w''.cell? ⟨a, 5, none⟩ = some (.string A.s) ∧ w''.cell? ⟨a, 6, none⟩ = some (.int .i64 A.z) ∧ w''.cell? ⟨a, 7, none⟩ = some (.bool A.has) ∧ w''.cell? ⟨ra, 0, none⟩ = some (.int .i64 A.y) ∧ w''.cell? ⟨ra, 1, none⟩ = some (.int .i64 A.mo) ∧ w''.cell? ⟨ra, 2, none⟩ = some (.int .i64 A.d) ∧ w''.cell? ⟨ra, 3, none⟩ = some (.int .i64 A.h) ∧ w''.cell? ⟨ra, 4, none⟩ = some (.int .i64 A.mi) ∧ w''.cell? ⟨ra, 5, none⟩ = some (.string A.s) ∧ w''.cell? ⟨ra, 6, none⟩ = some (.int .i64 A.z) ∧ w''.cell? ⟨ra, 7, none⟩ = some (.bool A.has) ∧ w''.cell? ⟨u, 0, none⟩ = some (.int .i64 B.y) ∧ w''.cell? ⟨u, 1, none⟩ = some (.int .i64 B.mo) ∧ w''.cell? ⟨u, 2, none⟩ = some (.int .i64 B.d) ∧ w''.cell? ⟨u, 3, none⟩ = some (.int .i64 B.h) ∧ w''.cell? ⟨u, 4, none⟩ = some (.int .i64 B.mi) ∧ w''.cell? ⟨u, 5, none⟩ = some (.string B.s) ∧ w''.cell? ⟨u, 6, none⟩ = some (.int .i64 B.z) ∧ w''.cell? ⟨u, 7, none⟩ = some (.bool B.has) ∧ w''.cell? ⟨ru, 0, none⟩ = some (.int .i64 B.y) ∧ w''.cell? ⟨ru, 1, none⟩ = some (.int .i64 B.mo) ∧ w''.cell? ⟨ru, 2, none⟩ = some (.int .i64 B.d) ∧ w''.cell? ⟨ru, 3, none⟩ = some (.int .i64 B.h) ∧ w''.cell? ⟨ru, 4, none⟩ = some (.int .i64 B.mi) ∧ w''.cell? ⟨ru, 5, none⟩ = some (.string B.s) ∧ w''.cell? ⟨ru, 6, none⟩ = some (.int .i64 B.z) ∧ w''.cell? ⟨ru, 7, none⟩ = some (.bool B.has) ∧ Hid (MoAt w'' q m.y m.mo m.d m.h m.mi m.s m.z m.has) ∧ Hid (MoAt w'' a A.y A.mo A.d A.h A.mi A.s A.z A.has) ∧ Hid (MoAs w'' ra A.y A.mo A.d A.h A.mi A.s A.z A.has) ∧ Hid (MoAt w'' u B.y B.mo B.d B.h B.mi B.s B.z B.has) ∧ Hid (MoAs w'' ru B.y B.mo B.d B.h B.mi B.s B.z B.has) ∧ Hid (Below w11.heap.size w11 w''))) := Lib.hid (by
    rintro w' w'' ⟨-, -, -, -, -, -, -, -, -, -, -, -, -, -, -, -, -, -, -, -, -, -, -, -, -, -, -, -, -, -, -, -, hq, ha, hra, hu, hru, hb⟩ hk
    have gq : MoAt w'' q m.y m.mo m.d m.h m.mi m.s m.z m.has := (hk.block q (heap_lt hq.out)).trans hq.out
    have ga : MoAt w'' a A.y A.mo A.d A.h A.mi A.s A.z A.has := (hk.block a (heap_lt ha.out)).trans ha.out
    have gra : MoAs w'' ra A.y A.mo A.d A.h A.mi A.s A.z A.has := (hk.block ra (heap_lt hra.out)).trans hra.out
    have gu : MoAt w'' u B.y B.mo B.d B.h B.mi B.s B.z B.has := (hk.block u (heap_lt hu.out)).trans hu.out
    have gru : MoAs w'' ru B.y B.mo B.d B.h B.mi B.s B.z B.has := (hk.block ru (heap_lt hru.out)).trans hru.out
    obtain ⟨ca0, ca1, ca2, ca3, ca4, ca5, ca6, ca7⟩ := MomAt.of_heap ga
    obtain ⟨cra0, cra1, cra2, cra3, cra4, cra5, cra6, cra7⟩ := MomAt.of_heap gra
    obtain ⟨cu0, cu1, cu2, cu3, cu4, cu5, cu6, cu7⟩ := MomAt.of_heap gu
    obtain ⟨cru0, cru1, cru2, cru3, cru4, cru5, cru6, cru7⟩ := MomAt.of_heap gru
    exact ⟨ca0, ca1, ca2, ca3, ca4, ca5, ca6, ca7, cra0, cra1, cra2, cra3, cra4, cra5, cra6, cra7, cu0, cu1, cu2, cu3, cu4, cu5, cu6, cu7, cru0, cru1, cru2, cru3, cru4, cru5, cru6, cru7, Lib.hid gq, Lib.hid ga, Lib.hid gra, Lib.hid gu, Lib.hid gru, Lib.hid (hb.out.trans (hk.mono hb.out.size))⟩)
  have SO : Hid (∀ w', (w'.cell? ⟨a, 0, none⟩ = some (.int .i64 A.y) ∧ w'.cell? ⟨a, 1, none⟩ = some (.int .i64 A.mo) ∧ w'.cell? ⟨a, 2, none⟩ = some (.int .i64 A.d) ∧ w'.cell? ⟨a, 3, none⟩ = some (.int .i64 A.h) ∧ w'.cell? ⟨a, 4, none⟩ = some (.int .i64 A.mi) ∧ w'.cell? ⟨a, 5, none⟩ = some (.string A.s) ∧ w'.cell? ⟨a, 6, none⟩ = some (.int .i64 A.z) ∧ w'.cell? ⟨a, 7, none⟩ = some (.bool A.has) ∧ w'.cell? ⟨ra, 0, none⟩ = some (.int .i64 A.y) ∧ w'.cell? ⟨ra, 1, none⟩ = some (.int .i64 A.mo) ∧ w'.cell? ⟨ra, 2, none⟩ = some (.int .i64 A.d) ∧ w'.cell? ⟨ra, 3, none⟩ = some (.int .i64 A.h) ∧ w'.cell? ⟨ra, 4, none⟩ = some (.int .i64 A.mi) ∧ w'.cell? ⟨ra, 5, none⟩ = some (.string A.s) ∧ w'.cell? ⟨ra, 6, none⟩ = some (.int .i64 A.z) ∧ w'.cell? ⟨ra, 7, none⟩ = some (.bool A.has) ∧ w'.cell? ⟨u, 0, none⟩ = some (.int .i64 B.y) ∧ w'.cell? ⟨u, 1, none⟩ = some (.int .i64 B.mo) ∧ w'.cell? ⟨u, 2, none⟩ = some (.int .i64 B.d) ∧ w'.cell? ⟨u, 3, none⟩ = some (.int .i64 B.h) ∧ w'.cell? ⟨u, 4, none⟩ = some (.int .i64 B.mi) ∧ w'.cell? ⟨u, 5, none⟩ = some (.string B.s) ∧ w'.cell? ⟨u, 6, none⟩ = some (.int .i64 B.z) ∧ w'.cell? ⟨u, 7, none⟩ = some (.bool B.has) ∧ w'.cell? ⟨ru, 0, none⟩ = some (.int .i64 B.y) ∧ w'.cell? ⟨ru, 1, none⟩ = some (.int .i64 B.mo) ∧ w'.cell? ⟨ru, 2, none⟩ = some (.int .i64 B.d) ∧ w'.cell? ⟨ru, 3, none⟩ = some (.int .i64 B.h) ∧ w'.cell? ⟨ru, 4, none⟩ = some (.int .i64 B.mi) ∧ w'.cell? ⟨ru, 5, none⟩ = some (.string B.s) ∧ w'.cell? ⟨ru, 6, none⟩ = some (.int .i64 B.z) ∧ w'.cell? ⟨ru, 7, none⟩ = some (.bool B.has) ∧ Hid (MoAt w' q m.y m.mo m.d m.h m.mi m.s m.z m.has) ∧ Hid (MoAt w' a A.y A.mo A.d A.h A.mi A.s A.z A.has) ∧ Hid (MoAs w' ra A.y A.mo A.d A.h A.mi A.s A.z A.has) ∧ Hid (MoAt w' u B.y B.mo B.d B.h B.mi B.s B.z B.has) ∧ Hid (MoAs w' ru B.y B.mo B.d B.h B.mi B.s B.z B.has) ∧ Hid (Below w11.heap.size w11 w')) → LaidT w') := Lib.hid (by
    rintro w' ⟨-, -, -, -, -, -, -, -, -, -, -, -, -, -, -, -, -, -, -, -, -, -, -, -, -, -, -, -, -, -, -, -, hq, ha, hra, hu, hru, hb⟩
    exact hL.out.below (hB11.out.trans (hb.out.mono hB11.out.size)) hL.out.size)
  have hS := SL.out w11 w11.drew ⟨(MomAt.of_heap hMa11.out).c0, (MomAt.of_heap hMa11.out).c1, (MomAt.of_heap hMa11.out).c2, (MomAt.of_heap hMa11.out).c3, (MomAt.of_heap hMa11.out).c4, (MomAt.of_heap hMa11.out).c5, (MomAt.of_heap hMa11.out).c6, (MomAt.of_heap hMa11.out).c7, (MomAt.of_heap hMra11.out).c0, (MomAt.of_heap hMra11.out).c1, (MomAt.of_heap hMra11.out).c2, (MomAt.of_heap hMra11.out).c3, (MomAt.of_heap hMra11.out).c4, (MomAt.of_heap hMra11.out).c5, (MomAt.of_heap hMra11.out).c6, (MomAt.of_heap hMra11.out).c7, (MomAt.of_heap hMu11.out).c0, (MomAt.of_heap hMu11.out).c1, (MomAt.of_heap hMu11.out).c2, (MomAt.of_heap hMu11.out).c3, (MomAt.of_heap hMu11.out).c4, (MomAt.of_heap hMu11.out).c5, (MomAt.of_heap hMu11.out).c6, (MomAt.of_heap hMu11.out).c7, (MomAt.of_heap hMru11.out).c0, (MomAt.of_heap hMru11.out).c1, (MomAt.of_heap hMru11.out).c2, (MomAt.of_heap hMru11.out).c3, (MomAt.of_heap hMru11.out).c4, (MomAt.of_heap hMru11.out).c5, (MomAt.of_heap hMru11.out).c6, (MomAt.of_heap hMru11.out).c7, hMq11, hMa11, hMra11, hMu11, hMru11, Lib.hid (Below.refl _ _)⟩ (Below.refl _ _).drew
  replace hS := Lib.hid hS
  go_wp2_with fail
  go_region_held3 (fun w' => w'.cell? ⟨a, 0, none⟩ = some (.int .i64 A.y) ∧ w'.cell? ⟨a, 1, none⟩ = some (.int .i64 A.mo) ∧ w'.cell? ⟨a, 2, none⟩ = some (.int .i64 A.d) ∧ w'.cell? ⟨a, 3, none⟩ = some (.int .i64 A.h) ∧ w'.cell? ⟨a, 4, none⟩ = some (.int .i64 A.mi) ∧ w'.cell? ⟨a, 5, none⟩ = some (.string A.s) ∧ w'.cell? ⟨a, 6, none⟩ = some (.int .i64 A.z) ∧ w'.cell? ⟨a, 7, none⟩ = some (.bool A.has) ∧ w'.cell? ⟨ra, 0, none⟩ = some (.int .i64 A.y) ∧ w'.cell? ⟨ra, 1, none⟩ = some (.int .i64 A.mo) ∧ w'.cell? ⟨ra, 2, none⟩ = some (.int .i64 A.d) ∧ w'.cell? ⟨ra, 3, none⟩ = some (.int .i64 A.h) ∧ w'.cell? ⟨ra, 4, none⟩ = some (.int .i64 A.mi) ∧ w'.cell? ⟨ra, 5, none⟩ = some (.string A.s) ∧ w'.cell? ⟨ra, 6, none⟩ = some (.int .i64 A.z) ∧ w'.cell? ⟨ra, 7, none⟩ = some (.bool A.has) ∧ w'.cell? ⟨u, 0, none⟩ = some (.int .i64 B.y) ∧ w'.cell? ⟨u, 1, none⟩ = some (.int .i64 B.mo) ∧ w'.cell? ⟨u, 2, none⟩ = some (.int .i64 B.d) ∧ w'.cell? ⟨u, 3, none⟩ = some (.int .i64 B.h) ∧ w'.cell? ⟨u, 4, none⟩ = some (.int .i64 B.mi) ∧ w'.cell? ⟨u, 5, none⟩ = some (.string B.s) ∧ w'.cell? ⟨u, 6, none⟩ = some (.int .i64 B.z) ∧ w'.cell? ⟨u, 7, none⟩ = some (.bool B.has) ∧ w'.cell? ⟨ru, 0, none⟩ = some (.int .i64 B.y) ∧ w'.cell? ⟨ru, 1, none⟩ = some (.int .i64 B.mo) ∧ w'.cell? ⟨ru, 2, none⟩ = some (.int .i64 B.d) ∧ w'.cell? ⟨ru, 3, none⟩ = some (.int .i64 B.h) ∧ w'.cell? ⟨ru, 4, none⟩ = some (.int .i64 B.mi) ∧ w'.cell? ⟨ru, 5, none⟩ = some (.string B.s) ∧ w'.cell? ⟨ru, 6, none⟩ = some (.int .i64 B.z) ∧ w'.cell? ⟨ru, 7, none⟩ = some (.bool B.has) ∧ Hid (MoAt w' q m.y m.mo m.d m.h m.mi m.s m.z m.has) ∧ Hid (MoAt w' a A.y A.mo A.d A.h A.mi A.s A.z A.has) ∧ Hid (MoAs w' ra A.y A.mo A.d A.h A.mi A.s A.z A.has) ∧ Hid (MoAt w' u B.y B.mo B.d B.h B.mi B.s B.z B.has) ∧ Hid (MoAs w' ru B.y B.mo B.d B.h B.mi B.s B.z B.has) ∧ Hid (Below w11.heap.size w11 w'))
    (first | exact hS.out | assumption | exact SL.out _ _ (by assumption) (by assumption))
    (first | (go_at_call 17; refine (spec_r _ _ _ _ _ _ _ _ _).mono ?_; rintro e w' ⟨rfl, hbb⟩) | (go_at_call 14; refine (works_c _ (SO.out _ (by assumption))).mono ?_; rintro e w' ⟨rfl, hbb⟩))
  rename_i hH
  obtain ⟨-, -, -, -, -, -, -, -, -, -, -, -, -, -, -, -, -, -, -, -, -, -, -, -, -, -, -, -, -, -, -, -, hq, ha, hra, hu, hru, hb⟩ := hH
  clear SL SO hS
  go_wp2_with fail
  go_ret
  exact ⟨rfl, hB11.out.trans (hb.out.mono hB11.out.size)⟩
end Go.Proofs.YtgobpoeccdgeiaaGreatDoor
