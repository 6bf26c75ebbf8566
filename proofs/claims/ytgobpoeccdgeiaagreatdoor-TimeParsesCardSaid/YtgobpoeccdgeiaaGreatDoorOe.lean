/- A moment as it stands in memory. Package time: the contracts, in the form that the walks of the laws use. The examples that every statement of chapter 07 checks besides (the function works of package chisellaw07): they hold. (Printed by genworks7.py.) What a row's list of variables and the shape of its worlds give the walks on moments; one world that fits. A moment by value: opened into its eight fields, and shut again. -/
import Derived.Test.YtgobpoeccdgeiaaGreatDoorOb
import Derived.Test.YtgobpoeccdgeiaaGreatDoorOc
import Derived.Test.YtgobpoeccdgeiaaGreatDoorOd
import Derived.Test.YtgobpoeccdgeiaaGreatDoorOa
import Derived.Laws.StructEq
import Derived.Deep.RegionHeld3
import Derived.Test.YtgobpoeccdgeiaaGreatDoorCards
import Derived.Test.YtgobpoeccdgeiaaGreatDoorTie
import Derived.ProofKit
import Derived.OpenShut
import Derived.Deep.DeepHandedRow
import Derived.Deep.DeepWitnessRowRef
import Derived.Lib.LaidTab
import Derived.Lib.SmallJoins
import Derived.Lay

namespace Go.Proofs.YtgobpoeccdgeiaaGreatDoor
open Go.RowKit NumP DurP TimeP Go.Proofs.YtgobpoeccdgeiaaGreatDoorW.PrintWords
set_option linter.unusedVariables false

/-- A moment as it stands in memory. -/
structure MB where
  y : Int
  mo : Int
  d : Int
  h : Int
  mi : Int
  s : ByteArray
  z : Int
  has : Bool
def MB.P (m : MB) : Mom := ⟨m.y, m.mo, m.d, m.h, m.mi, m.s.data.toList, m.z, m.has⟩
def MB.of (m : Mom) : MB := ⟨m.y, m.mo, m.d, m.h, m.mi, ⟨m.s.toArray⟩, m.z, m.has⟩
theorem MB.of_P (m : MB) : MB.of m.P = m := rfl
theorem MB.inj {a b : MB} (h : a.P = b.P) : a = b := by rw [← MB.of_P a, h, MB.of_P]
theorem MB.ex (R : Mom × Int) : ∃ (r : MB) (k : Int), R = (r.P, k) := ⟨MB.of R.1, R.2, rfl⟩
theorem SB.ex (R : List UInt8 × Int) : ∃ (s : ByteArray) (k : Int), R = (s.data.toList, k) := ⟨⟨R.1.toArray⟩, R.2, rfl⟩
/-- A moment lies in a block. -/
def MA (w : World) (q : Nat) (m : MB) : Prop := MoAt w q m.y m.mo m.d m.h m.mi m.s m.z m.has
theorem MA.later {w w' : World} {q : Nat} {m : MB} (h : MA w q m) (hb : Below w.heap.size w w') : MA w' q m := (hb.block q (heap_lt h)).trans h
theorem MA.cells {w : World} {q : Nat} {m : MB} (h : MA w q m) : MomAt w q m.y m.mo m.d m.h m.mi m.s m.z m.has := MomAt.of_heap h
theorem MA.lt {w : World} {q : Nat} {m : MB} (h : MA w q m) : q < w.heap.size := heap_lt h
end Go.Proofs.YtgobpoeccdgeiaaGreatDoor

namespace Go.Proofs.YtgobpoeccdgeiaaGreatDoor
open Go.RowKit NumP DurP TimeP Go.Proofs.YtgobpoeccdgeiaaGreatDoorW.PrintWords
set_option linter.unusedVariables false

theorem Months_c (m r : MB) (n k : Int) (e : addMonthsP m.P n = (r.P, k)) (hs : m.s.size ≤ 1000) (w : World) (hL : LaidT w) : Calls Tryz.prog 24 #[.agg #[.int .i64 m.y, .int .i64 m.mo, .int .i64 m.d, .int .i64 m.h, .int .i64 m.mi, .string m.s, .int .i64 m.z, .bool m.has], .int .i64 n] w fun e w' => e = .returned (.tuple #[.agg #[.int .i64 r.y, .int .i64 r.mo, .int .i64 r.d, .int .i64 r.h, .int .i64 r.mi, .string r.s, .int .i64 r.z, .bool r.has], .int .i64 k]) ∧ Below w.heap.size w w' := by
  have := AddMonths_t m.y m.mo m.d m.h m.mi m.s m.z m.has n w hL hs
  rw [show (⟨m.y, m.mo, m.d, m.h, m.mi, m.s.data.toList, m.z, m.has⟩ : Mom) = m.P from rfl, e] at this
  exact this
theorem Secs_c (m r : MB) (n : ByteArray) (k : Int) (e : addSecondsP m.P n.data.toList = (r.P, k)) (hs : m.s.size ≤ 1000) (hn : n.size ≤ maxLen) (w : World) (hL : LaidT w) : Calls Tryz.prog 28 #[.agg #[.int .i64 m.y, .int .i64 m.mo, .int .i64 m.d, .int .i64 m.h, .int .i64 m.mi, .string m.s, .int .i64 m.z, .bool m.has], .string n] w fun e w' => e = .returned (.tuple #[.agg #[.int .i64 r.y, .int .i64 r.mo, .int .i64 r.d, .int .i64 r.h, .int .i64 r.mi, .string r.s, .int .i64 r.z, .bool r.has], .int .i64 k]) ∧ Below w.heap.size w w' := by
  have := AddSeconds_t m.y m.mo m.d m.h m.mi m.s m.z m.has n w hL hs hn
  rw [show (⟨m.y, m.mo, m.d, m.h, m.mi, m.s.data.toList, m.z, m.has⟩ : Mom) = m.P from rfl, e] at this
  exact this
theorem Adjust_c (m r : MB) (zone : Int) (hz : Bool) (k : Int) (e : adjustP m.P zone hz = (r.P, k)) (hs : m.s.size ≤ 1000) (w : World) (hL : LaidT w) : Calls Tryz.prog 25 #[.agg #[.int .i64 m.y, .int .i64 m.mo, .int .i64 m.d, .int .i64 m.h, .int .i64 m.mi, .string m.s, .int .i64 m.z, .bool m.has], .int .i64 zone, .bool hz] w fun e w' => e = .returned (.tuple #[.agg #[.int .i64 r.y, .int .i64 r.mo, .int .i64 r.d, .int .i64 r.h, .int .i64 r.mi, .string r.s, .int .i64 r.z, .bool r.has], .int .i64 k]) ∧ Below w.heap.size w w' := by
  have := Adjust_t m.y m.mo m.d m.h m.mi m.s m.z m.has zone hz w hL hs
  rw [show (⟨m.y, m.mo, m.d, m.h, m.mi, m.s.data.toList, m.z, m.has⟩ : Mom) = m.P from rfl, e] at this
  exact this
theorem Seconds_c (m : MB) (t : ByteArray) (k : Int) (e : secondsT m.P = (t.data.toList, k)) (hs : m.s.size ≤ 1000) (w : World) (hL : LaidT w) : Calls Tryz.prog 20 #[.agg #[.int .i64 m.y, .int .i64 m.mo, .int .i64 m.d, .int .i64 m.h, .int .i64 m.mi, .string m.s, .int .i64 m.z, .bool m.has]] w fun e w' => e = .returned (.tuple #[.string t, .int .i64 k]) ∧ Below w.heap.size w w' := by
  have := Seconds_t m.y m.mo m.d m.h m.mi m.s m.z m.has w hL hs
  rw [show (⟨m.y, m.mo, m.d, m.h, m.mi, m.s.data.toList, m.z, m.has⟩ : Mom) = m.P from rfl, e] at this
  exact this
theorem Weekday_c (m : MB) (k : Int) (e : weekdayP m.P = k) (hs : m.s.size ≤ 1000) (w : World) (hL : LaidT w) : Calls Tryz.prog 22 #[.agg #[.int .i64 m.y, .int .i64 m.mo, .int .i64 m.d, .int .i64 m.h, .int .i64 m.mi, .string m.s, .int .i64 m.z, .bool m.has]] w fun e w' => e = .returned (.int .i64 k) ∧ Below w.heap.size w w' := by
  have := Weekday_t m.y m.mo m.d m.h m.mi m.s m.z m.has w hL hs
  rw [show (⟨m.y, m.mo, m.d, m.h, m.mi, m.s.data.toList, m.z, m.has⟩ : Mom) = m.P from rfl, e] at this
  exact this
theorem Text_c (m : MB) (j : Int) (t : ByteArray) (k : Int) (e : textMom j m.P = (t.data.toList, k)) (hs : m.s.size ≤ 1000) (w : World) (hL : LaidT w) : Calls Tryz.prog 18 #[.int .i64 j, .agg #[.int .i64 m.y, .int .i64 m.mo, .int .i64 m.d, .int .i64 m.h, .int .i64 m.mi, .string m.s, .int .i64 m.z, .bool m.has]] w fun e w' => e = .returned (.tuple #[.string t, .int .i64 k]) ∧ Below w.heap.size w w' := by
  have := Text_t j m.y m.mo m.d m.h m.mi m.s m.z m.has w hL hs
  rw [show (⟨m.y, m.mo, m.d, m.h, m.mi, m.s.data.toList, m.z, m.has⟩ : Mom) = m.P from rfl, e] at this
  exact this
theorem Parse_c (j : Int) (s : ByteArray) (r : MB) (k : Int) (e : parseM j s.data.toList = (r.P, k)) (hs : s.size ≤ 1000) (w : World) (hL : LaidT w) : Calls Tryz.prog 15 #[.int .i64 j, .string s] w fun e w' => e = .returned (.tuple #[.agg #[.int .i64 r.y, .int .i64 r.mo, .int .i64 r.d, .int .i64 r.h, .int .i64 r.mi, .string r.s, .int .i64 r.z, .bool r.has], .int .i64 k]) ∧ Below w.heap.size w w' := by
  have := Parse_of j s w hL (fun hk w hw => by
    rcases hk with rfl | rfl | rfl
    · exact read_6 s w hw hs hw.size
    · exact read_7 s w hw hs hw.size
    · exact read_8 s w hw hs hw.size)
  rw [e] at this
  exact this
theorem at_c (y mo d h mi : Int) (s : ByteArray) (w : World) : Calls Tryz.prog 32 #[.int .i64 y, .int .i64 mo, .int .i64 d, .int .i64 h, .int .i64 mi, .string s] w fun e w' => e = .returned (.agg #[.int .i64 y, .int .i64 mo, .int .i64 d, .int .i64 h, .int .i64 mi, .string s, .int .i64 0, .bool false]) ∧ Below w.heap.size w w' := by
  go_enter Tryz.func32, Tryz.ntmps32
  go_wp2_with fail
  refine bodyPost_ret (v := .agg #[.int .i64 y, .int .i64 mo, .int .i64 d, .int .i64 h, .int .i64 mi, .string s, .int .i64 0, .bool false]) ?ret rfl ⟨rfl, (Below.refl _ _).alloc (Nat.le_refl _) _⟩
  case ret => simp [results, Tryz.results32, go_sem]
end Go.Proofs.YtgobpoeccdgeiaaGreatDoor

namespace Go.Proofs.YtgobpoeccdgeiaaGreatDoor
open Go.RowKit NumP DurP TimeP Go.Proofs.YtgobpoeccdgeiaaGreatDoorW.PrintWords
set_option linter.unusedVariables false

set_option maxRecDepth 100000 in
set_option maxHeartbeats 4000000 in
theorem works_c (W : World) (hL : LaidT W) : Calls Tryz.prog 14 #[] W fun e w' => e = .returned (.bool true) ∧ Below W.heap.size W w' := by
  obtain ⟨p1, p2, p3, p4⟩ := works_plainT
  have c1 : Hid (∀ w, LaidT w → Calls Tryz.prog 15 #[.int .i64 8, .string ⟨#[50, 48, 50, 54, 45, 49, 49, 45, 49, 54, 84, 50, 52, 58, 48, 48, 58, 48, 48, 46, 48, 48, 48, 45, 48, 56, 58, 48, 48]⟩] w (fun e w' => e = .returned (.tuple #[.agg #[.int .i64 2026, .int .i64 11, .int .i64 17, .int .i64 0, .int .i64 0, .string ⟨#[48]⟩, .int .i64 (-480), .bool true], .int .i64 0]) ∧ Below w.heap.size w w')) := Lib.hid (fun w hw => Parse_c 8 ⟨#[50, 48, 50, 54, 45, 49, 49, 45, 49, 54, 84, 50, 52, 58, 48, 48, 58, 48, 48, 46, 48, 48, 48, 45, 48, 56, 58, 48, 48]⟩ ⟨2026, 11, 17, 0, 0, ⟨#[48]⟩, (-480), true⟩ 0 p1 (by decide) w hw)
  have c2 : Hid (∀ w, LaidT w → Calls Tryz.prog 18 #[.int .i64 7, .agg #[.int .i64 2026, .int .i64 11, .int .i64 17, .int .i64 0, .int .i64 0, .string ⟨#[48]⟩, .int .i64 (-480), .bool true]] w (fun e w' => e = .returned (.tuple #[.string ⟨#[48, 48, 58, 48, 48, 58, 48, 48, 45, 48, 56, 58, 48, 48]⟩, .int .i64 0]) ∧ Below w.heap.size w w')) := Lib.hid (fun w hw => Text_c ⟨2026, 11, 17, 0, 0, ⟨#[48]⟩, (-480), true⟩ 7 ⟨#[48, 48, 58, 48, 48, 58, 48, 48, 45, 48, 56, 58, 48, 48]⟩ 0 p2 (by decide) w hw)
  have c3 : Hid (∀ w, LaidT w → Calls Tryz.prog 24 #[.agg #[.int .i64 2024, .int .i64 1, .int .i64 31, .int .i64 0, .int .i64 0, .string ⟨#[48]⟩, .int .i64 0, .bool false], .int .i64 1] w (fun e w' => e = .returned (.tuple #[.agg #[.int .i64 2024, .int .i64 2, .int .i64 29, .int .i64 0, .int .i64 0, .string ⟨#[48]⟩, .int .i64 0, .bool false], .int .i64 0]) ∧ Below w.heap.size w w')) := Lib.hid (fun w hw => Months_c ⟨2024, 1, 31, 0, 0, ⟨#[48]⟩, 0, false⟩ ⟨2024, 2, 29, 0, 0, ⟨#[48]⟩, 0, false⟩ 1 0 p3 (by decide) w hw)
  have c4 : Hid (∀ w, LaidT w → Calls Tryz.prog 22 #[.agg #[.int .i64 2026, .int .i64 11, .int .i64 17, .int .i64 0, .int .i64 0, .string ⟨#[48]⟩, .int .i64 (-480), .bool true]] w (fun e w' => e = .returned (.int .i64 2) ∧ Below w.heap.size w w')) := Lib.hid (fun w hw => Weekday_c ⟨2026, 11, 17, 0, 0, ⟨#[48]⟩, (-480), true⟩ 2 p4 (by decide) w hw)
  have d1 : Hid (∀ w, LaidT w → Calls Tryz.prog 32 #[.int .i64 2026, .int .i64 11, .int .i64 17, .int .i64 0, .int .i64 0, .string ⟨#[48]⟩] w (fun e w' => e = .returned (.agg #[.int .i64 2026, .int .i64 11, .int .i64 17, .int .i64 0, .int .i64 0, .string ⟨#[48]⟩, .int .i64 0, .bool false]) ∧ Below w.heap.size w w')) := Lib.hid (fun w hw => at_c 2026 11 17 0 0 ⟨#[48]⟩ w)
  have d2 : Hid (∀ w, LaidT w → Calls Tryz.prog 32 #[.int .i64 2024, .int .i64 1, .int .i64 31, .int .i64 0, .int .i64 0, .string ⟨#[48]⟩] w (fun e w' => e = .returned (.agg #[.int .i64 2024, .int .i64 1, .int .i64 31, .int .i64 0, .int .i64 0, .string ⟨#[48]⟩, .int .i64 0, .bool false]) ∧ Below w.heap.size w w')) := Lib.hid (fun w hw => at_c 2024 1 31 0 0 ⟨#[48]⟩ w)
  have d3 : Hid (∀ w, LaidT w → Calls Tryz.prog 32 #[.int .i64 2024, .int .i64 2, .int .i64 29, .int .i64 0, .int .i64 0, .string ⟨#[48]⟩] w (fun e w' => e = .returned (.agg #[.int .i64 2024, .int .i64 2, .int .i64 29, .int .i64 0, .int .i64 0, .string ⟨#[48]⟩, .int .i64 0, .bool false]) ∧ Below w.heap.size w w')) := Lib.hid (fun w hw => at_c 2024 2 29 0 0 ⟨#[48]⟩ w)
  clear p1 p2 p3 p4
  obtain ⟨w1, hw⟩ : ∃ w, w = W := ⟨_, rfl⟩
  have hB1 : Hid (Below W.heap.size W w1) := Lib.hid (by rw [hw]; exact Below.refl _ _)
  have hL1 : Hid (LaidT w1) := Lib.hid (by rw [hw]; exact hL)
  replace hw := Lib.hid hw
  replace hL := Lib.hid hL
  go_enter Tryz.func14, Tryz.ntmps14
  go_wp2_with fail
  rw [← hw.out]
  clear hw
  refine (c1.out w1 hL1.out).mono ?_
  rintro e w2 ⟨rfl, hb⟩
  have hB2 := Lib.hid (hB1.out.trans (hb.mono hB1.out.size))
  have hL2 := Lib.hid (hL.out.below hB2.out hL.out.size)
  clear hb hB1 hL1
  obtain ⟨p, hp⟩ : ∃ q, q = w2.heap.size := ⟨_, rfl⟩
  obtain ⟨w3, hw⟩ : ∃ w, w = w2.alloc (.cells #[.int .i64 2026, .int .i64 11, .int .i64 17, .int .i64 0, .int .i64 0, .string ⟨#[48]⟩, .int .i64 (-480), .bool true] 24) := ⟨_, rfl⟩
  have hb : Below w2.heap.size w2 w3 := by rw [hw]; exact (Below.refl _ _).alloc (Nat.le_refl _) _
  have hMp3 : Hid (MoAt w3 p 2026 11 17 0 0 ⟨#[48]⟩ (-480) true) := Lib.hid (by rw [hw, hp]; exact (MapKept.heap_alloc _ _).1)
  have hgep : Hid (W.heap.size ≤ p) := Lib.hid (by rw [hp]; exact hB2.out.size)
  replace hp := Lib.hid hp
  replace hw := Lib.hid hw
  have hB3 := Lib.hid (hB2.out.trans (hb.mono hB2.out.size))
  have hL3 := Lib.hid (hL.out.below hB3.out hL.out.size)
  clear hb hB2 hL2
  go_upto_region 2 with fail
  rw [← hw.out, ← hp.out]
  clear hw hp
  go_wp2_with fail
  refine (d1.out w3 hL3.out).mono ?_
  rintro e w4 ⟨rfl, hb⟩
  have hB4 := Lib.hid (hB3.out.trans (hb.mono hB3.out.size))
  have hL4 := Lib.hid (hL.out.below hB4.out hL.out.size)
  have hMp4 : Hid (MoAt w4 p 2026 11 17 0 0 ⟨#[48]⟩ (-480) true) := Lib.hid ((hb.block p (heap_lt hMp3.out)).trans hMp3.out)
  clear hb hB3 hL3 hMp3
  obtain ⟨r, hr⟩ : ∃ q, q = w4.heap.size := ⟨_, rfl⟩
  obtain ⟨w5, hw⟩ : ∃ w, w = w4.alloc (.cells #[.int .i64 2026, .int .i64 11, .int .i64 17, .int .i64 0, .int .i64 0, .string ⟨#[48]⟩, .int .i64 0, .bool false] 24) := ⟨_, rfl⟩
  have hb : Below w4.heap.size w4 w5 := by rw [hw]; exact (Below.refl _ _).alloc (Nat.le_refl _) _
  have hMr5 : Hid (MoAt w5 r 2026 11 17 0 0 ⟨#[48]⟩ 0 false) := Lib.hid (by rw [hw, hr]; exact (MapKept.heap_alloc _ _).1)
  have hger : Hid (W.heap.size ≤ r) := Lib.hid (by rw [hr]; exact hB4.out.size)
  have hnpr : Hid (p ≠ r) := Lib.hid (by rw [hr]; exact Nat.ne_of_lt (heap_lt hMp4.out))
  have hnrp : Hid (r ≠ p) := Lib.hid (fun e => hnpr.out e.symm)
  replace hr := Lib.hid hr
  replace hw := Lib.hid hw
  have hB5 := Lib.hid (hB4.out.trans (hb.mono hB4.out.size))
  have hL5 := Lib.hid (hL.out.below hB5.out hL.out.size)
  have hMp5 : Hid (MoAt w5 p 2026 11 17 0 0 ⟨#[48]⟩ (-480) true) := Lib.hid ((hb.block p (heap_lt hMp4.out)).trans hMp4.out)
  clear hb hB4 hL4 hMp4
  go_upto_region 3 with fail
  rw [← hw.out, ← hr.out]
  clear hw hr
  obtain ⟨cr0, cr1, cr2, cr3, cr4, cr5, cr6, cr7⟩ := MomAt.of_heap hMr5.out
  have ff6 := Lib.frozen_of_heap hMr5.out 6
  have ff7 := Lib.frozen_of_heap hMr5.out 7
  obtain ⟨w6, hw⟩ : ∃ w, w = ((w5.setCell ⟨r, 6, none⟩ (.int .i64 (-480))).setCell ⟨r, 7, none⟩ (.bool true)) := ⟨_, rfl⟩
  have hB6 : Hid (Below W.heap.size W w6) := Lib.hid (by rw [hw]; exact hB5.out.trans (((Below.refl _ _).setCell (p := ⟨r, 6, none⟩) hger.out _).setCell (p := ⟨r, 7, none⟩) hger.out _))
  have hL6 := Lib.hid (hL.out.below hB6.out hL.out.size)
  have hMr6 : Hid (MoAt w6 r 2026 11 17 0 0 ⟨#[48]⟩ (-480) true) := Lib.hid (by rw [hw]; exact (Lib.heap_setCell_same (i := 7) (Lib.heap_setCell_same (i := 6) hMr5.out _) _))
  have hMp6 : Hid (MoAt w6 p 2026 11 17 0 0 ⟨#[48]⟩ (-480) true) := Lib.hid (by rw [hw]; exact ((Below.heap_setCell _ _ _ _ hnpr.out).trans ((Below.heap_setCell _ _ _ _ hnpr.out).trans hMp5.out)))
  replace hw := Lib.hid hw
  go_upto_region 4 with fail
  rw [← hw.out]
  clear hw ff6 ff7
  clear cr0 cr1 cr2 cr3 cr4 cr5 cr6 cr7
  clear hB5 hL5 hMp5 hMr5
  obtain ⟨cp0, cp1, cp2, cp3, cp4, cp5, cp6, cp7⟩ := MomAt.of_heap hMp6.out
  go_wp2_with fail
  refine (c2.out w6 hL6.out).mono ?_
  rintro e w7 ⟨rfl, hb⟩
  have hB7 := Lib.hid (hB6.out.trans (hb.mono hB6.out.size))
  have hL7 := Lib.hid (hL.out.below hB7.out hL.out.size)
  have hMp7 : Hid (MoAt w7 p 2026 11 17 0 0 ⟨#[48]⟩ (-480) true) := Lib.hid ((hb.block p (heap_lt hMp6.out)).trans hMp6.out)
  have hMr7 : Hid (MoAt w7 r 2026 11 17 0 0 ⟨#[48]⟩ (-480) true) := Lib.hid ((hb.block r (heap_lt hMr6.out)).trans hMr6.out)
  clear hb hB6 hL6 hMp6 hMr6
  clear cp0 cp1 cp2 cp3 cp4 cp5 cp6 cp7
  go_wp2_with fail
  refine (d2.out w7 hL7.out).mono ?_
  rintro e w8 ⟨rfl, hb⟩
  have hB8 := Lib.hid (hB7.out.trans (hb.mono hB7.out.size))
  have hL8 := Lib.hid (hL.out.below hB8.out hL.out.size)
  have hMp8 : Hid (MoAt w8 p 2026 11 17 0 0 ⟨#[48]⟩ (-480) true) := Lib.hid ((hb.block p (heap_lt hMp7.out)).trans hMp7.out)
  have hMr8 : Hid (MoAt w8 r 2026 11 17 0 0 ⟨#[48]⟩ (-480) true) := Lib.hid ((hb.block r (heap_lt hMr7.out)).trans hMr7.out)
  clear hb hB7 hL7 hMp7 hMr7
  go_wp2_with fail
  refine (c3.out w8 hL8.out).mono ?_
  rintro e w9 ⟨rfl, hb⟩
  have hB9 := Lib.hid (hB8.out.trans (hb.mono hB8.out.size))
  have hL9 := Lib.hid (hL.out.below hB9.out hL.out.size)
  have hMp9 : Hid (MoAt w9 p 2026 11 17 0 0 ⟨#[48]⟩ (-480) true) := Lib.hid ((hb.block p (heap_lt hMp8.out)).trans hMp8.out)
  have hMr9 : Hid (MoAt w9 r 2026 11 17 0 0 ⟨#[48]⟩ (-480) true) := Lib.hid ((hb.block r (heap_lt hMr8.out)).trans hMr8.out)
  clear hb hB8 hL8 hMp8 hMr8
  obtain ⟨t, ht⟩ : ∃ q, q = w9.heap.size := ⟨_, rfl⟩
  obtain ⟨w10, hw⟩ : ∃ w, w = w9.alloc (.cells #[.int .i64 2024, .int .i64 2, .int .i64 29, .int .i64 0, .int .i64 0, .string ⟨#[48]⟩, .int .i64 0, .bool false] 24) := ⟨_, rfl⟩
  have hb : Below w9.heap.size w9 w10 := by rw [hw]; exact (Below.refl _ _).alloc (Nat.le_refl _) _
  have hMt10 : Hid (MoAt w10 t 2024 2 29 0 0 ⟨#[48]⟩ 0 false) := Lib.hid (by rw [hw, ht]; exact (MapKept.heap_alloc _ _).1)
  have hget : Hid (W.heap.size ≤ t) := Lib.hid (by rw [ht]; exact hB9.out.size)
  have hnpt : Hid (p ≠ t) := Lib.hid (by rw [ht]; exact Nat.ne_of_lt (heap_lt hMp9.out))
  have hntp : Hid (t ≠ p) := Lib.hid (fun e => hnpt.out e.symm)
  have hnrt : Hid (r ≠ t) := Lib.hid (by rw [ht]; exact Nat.ne_of_lt (heap_lt hMr9.out))
  have hntr : Hid (t ≠ r) := Lib.hid (fun e => hnrt.out e.symm)
  replace ht := Lib.hid ht
  replace hw := Lib.hid hw
  have hB10 := Lib.hid (hB9.out.trans (hb.mono hB9.out.size))
  have hL10 := Lib.hid (hL.out.below hB10.out hL.out.size)
  have hMp10 : Hid (MoAt w10 p 2026 11 17 0 0 ⟨#[48]⟩ (-480) true) := Lib.hid ((hb.block p (heap_lt hMp9.out)).trans hMp9.out)
  have hMr10 : Hid (MoAt w10 r 2026 11 17 0 0 ⟨#[48]⟩ (-480) true) := Lib.hid ((hb.block r (heap_lt hMr9.out)).trans hMr9.out)
  clear hb hB9 hL9 hMp9 hMr9
  go_upto_region 6 with fail
  rw [← hw.out, ← ht.out]
  clear hw ht
  have SL : Hid (∀ w' w'', (w'.cell? ⟨p, 0, none⟩ = some (.int .i64 2026) ∧ w'.cell? ⟨p, 1, none⟩ = some (.int .i64 11) ∧ w'.cell? ⟨p, 2, none⟩ = some (.int .i64 17) ∧ w'.cell? ⟨p, 3, none⟩ = some (.int .i64 0) ∧ w'.cell? ⟨p, 4, none⟩ = some (.int .i64 0) ∧ w'.cell? ⟨p, 5, none⟩ = some (.string ⟨#[48]⟩) ∧ w'.cell? ⟨p, 6, none⟩ = some (.int .i64 (-480)) ∧ w'.cell? ⟨p, 7, none⟩ = some (.bool true) ∧ w'.cell? ⟨r, 0, none⟩ = some (.int .i64 2026) ∧ w'.cell? ⟨r, 1, none⟩ = some (.int .i64 11) ∧ w'.cell? ⟨r, 2, none⟩ = some (.int .i64 17) ∧ w'.cell? ⟨r, 3, none⟩ = some (.int .i64 0) ∧ w'.cell? ⟨r, 4, none⟩ = some (.int .i64 0) ∧ w'.cell? ⟨r, 5, none⟩ = some (.string ⟨#[48]⟩) ∧ w'.cell? ⟨r, 6, none⟩ = some (.int .i64 (-480)) ∧ w'.cell? ⟨r, 7, none⟩ = some (.bool true) ∧ w'.cell? ⟨t, 0, none⟩ = some (.int .i64 2024) ∧ w'.cell? ⟨t, 1, none⟩ = some (.int .i64 2) ∧ w'.cell? ⟨t, 2, none⟩ = some (.int .i64 29) ∧ w'.cell? ⟨t, 3, none⟩ = some (.int .i64 0) ∧ w'.cell? ⟨t, 4, none⟩ = some (.int .i64 0) ∧ w'.cell? ⟨t, 5, none⟩ = some (.string ⟨#[48]⟩) ∧ w'.cell? ⟨t, 6, none⟩ = some (.int .i64 0) ∧ w'.cell? ⟨t, 7, none⟩ = some (.bool false) ∧ Hid (MoAt w' p 2026 11 17 0 0 ⟨#[48]⟩ (-480) true) ∧ Hid (MoAt w' r 2026 11 17 0 0 ⟨#[48]⟩ (-480) true) ∧ Hid (MoAt w' t 2024 2 29 0 0 ⟨#[48]⟩ 0 false) ∧ Hid (Below w10.heap.size w10 w')) → Below w'.heap.size w' w'' → (w''.cell? ⟨p, 0, none⟩ = some (.int .i64 2026) ∧ w''.cell? ⟨p, 1, none⟩ = some (.int .i64 11) ∧ w''.cell? ⟨p, 2, none⟩ = some (.int .i64 17) ∧ w''.cell? ⟨p, 3, none⟩ = some (.int .i64 0) ∧ w''.cell? ⟨p, 4, none⟩ = some (.int .i64 0) ∧ w''.cell? ⟨p, 5, none⟩ = some (.string ⟨#[48]⟩) ∧ w''.cell? ⟨p, 6, none⟩ = some (.int .i64 (-480)) ∧ w''.cell? ⟨p, 7, none⟩ = some (.bool true) ∧ w''.cell? ⟨r, 0, none⟩ = some (.int .i64 2026) ∧ w''.cell? ⟨r, 1, none⟩ = some (.int .i64 11) ∧ w''.cell? ⟨r, 2, none⟩ = some (.int .i64 17) ∧ w''.cell? ⟨r, 3, none⟩ = some (.int .i64 0) ∧ w''.cell? ⟨r, 4, none⟩ = some (.int .i64 0) ∧ w''.cell? ⟨r, 5, none⟩ = some (.string ⟨#[48]⟩) ∧ w''.cell? ⟨r, 6, none⟩ = some (.int .i64 (-480)) ∧ w''.cell? ⟨r, 7, none⟩ = some (.bool true) ∧ w''.cell? ⟨t, 0, none⟩ = some (.int .i64 2024) ∧ w''.cell? ⟨t, 1, none⟩ = some (.int .i64 2) ∧ w''.cell? ⟨t, 2, none⟩ = some (.int .i64 29) ∧ w''.cell? ⟨t, 3, none⟩ = some (.int .i64 0) ∧ w''.cell? ⟨t, 4, none⟩ = some (.int .i64 0) ∧ w''.cell? ⟨t, 5, none⟩ = some (.string ⟨#[48]⟩) ∧ w''.cell? ⟨t, 6, none⟩ = some (.int .i64 0) ∧ w''.cell? ⟨t, 7, none⟩ = some (.bool false) ∧ Hid (MoAt w'' p 2026 11 17 0 0 ⟨#[48]⟩ (-480) true) ∧ Hid (MoAt w'' r 2026 11 17 0 0 ⟨#[48]⟩ (-480) true) ∧ Hid (MoAt w'' t 2024 2 29 0 0 ⟨#[48]⟩ 0 false) ∧ Hid (Below w10.heap.size w10 w''))) := Lib.hid (by
    rintro w' w'' ⟨-, -, -, -, -, -, -, -, -, -, -, -, -, -, -, -, -, -, -, -, -, -, -, -, hp, hr, ht, hb⟩ hk
    have gp : MoAt w'' p 2026 11 17 0 0 ⟨#[48]⟩ (-480) true := (hk.block p (heap_lt hp.out)).trans hp.out
    have gr : MoAt w'' r 2026 11 17 0 0 ⟨#[48]⟩ (-480) true := (hk.block r (heap_lt hr.out)).trans hr.out
    have gt : MoAt w'' t 2024 2 29 0 0 ⟨#[48]⟩ 0 false := (hk.block t (heap_lt ht.out)).trans ht.out
    obtain ⟨cp0, cp1, cp2, cp3, cp4, cp5, cp6, cp7⟩ := MomAt.of_heap gp
    obtain ⟨cr0, cr1, cr2, cr3, cr4, cr5, cr6, cr7⟩ := MomAt.of_heap gr
    obtain ⟨ct0, ct1, ct2, ct3, ct4, ct5, ct6, ct7⟩ := MomAt.of_heap gt
    exact ⟨cp0, cp1, cp2, cp3, cp4, cp5, cp6, cp7, cr0, cr1, cr2, cr3, cr4, cr5, cr6, cr7, ct0, ct1, ct2, ct3, ct4, ct5, ct6, ct7, Lib.hid gp, Lib.hid gr, Lib.hid gt, Lib.hid (hb.out.trans (hk.mono hb.out.size))⟩)
  have SO : Hid (∀ w', (w'.cell? ⟨p, 0, none⟩ = some (.int .i64 2026) ∧ w'.cell? ⟨p, 1, none⟩ = some (.int .i64 11) ∧ w'.cell? ⟨p, 2, none⟩ = some (.int .i64 17) ∧ w'.cell? ⟨p, 3, none⟩ = some (.int .i64 0) ∧ w'.cell? ⟨p, 4, none⟩ = some (.int .i64 0) ∧ w'.cell? ⟨p, 5, none⟩ = some (.string ⟨#[48]⟩) ∧ w'.cell? ⟨p, 6, none⟩ = some (.int .i64 (-480)) ∧ w'.cell? ⟨p, 7, none⟩ = some (.bool true) ∧ w'.cell? ⟨r, 0, none⟩ = some (.int .i64 2026) ∧ w'.cell? ⟨r, 1, none⟩ = some (.int .i64 11) ∧ w'.cell? ⟨r, 2, none⟩ = some (.int .i64 17) ∧ w'.cell? ⟨r, 3, none⟩ = some (.int .i64 0) ∧ w'.cell? ⟨r, 4, none⟩ = some (.int .i64 0) ∧ w'.cell? ⟨r, 5, none⟩ = some (.string ⟨#[48]⟩) ∧ w'.cell? ⟨r, 6, none⟩ = some (.int .i64 (-480)) ∧ w'.cell? ⟨r, 7, none⟩ = some (.bool true) ∧ w'.cell? ⟨t, 0, none⟩ = some (.int .i64 2024) ∧ w'.cell? ⟨t, 1, none⟩ = some (.int .i64 2) ∧ w'.cell? ⟨t, 2, none⟩ = some (.int .i64 29) ∧ w'.cell? ⟨t, 3, none⟩ = some (.int .i64 0) ∧ w'.cell? ⟨t, 4, none⟩ = some (.int .i64 0) ∧ w'.cell? ⟨t, 5, none⟩ = some (.string ⟨#[48]⟩) ∧ w'.cell? ⟨t, 6, none⟩ = some (.int .i64 0) ∧ w'.cell? ⟨t, 7, none⟩ = some (.bool false) ∧ Hid (MoAt w' p 2026 11 17 0 0 ⟨#[48]⟩ (-480) true) ∧ Hid (MoAt w' r 2026 11 17 0 0 ⟨#[48]⟩ (-480) true) ∧ Hid (MoAt w' t 2024 2 29 0 0 ⟨#[48]⟩ 0 false) ∧ Hid (Below w10.heap.size w10 w')) → LaidT w') := Lib.hid (by
    rintro w' ⟨-, -, -, -, -, -, -, -, -, -, -, -, -, -, -, -, -, -, -, -, -, -, -, -, hp, hr, ht, hb⟩
    exact hL.out.below (hB10.out.trans (hb.out.mono hB10.out.size)) hL.out.size)
  have hS := SL.out w10 w10.drew ⟨(MomAt.of_heap hMp10.out).c0, (MomAt.of_heap hMp10.out).c1, (MomAt.of_heap hMp10.out).c2, (MomAt.of_heap hMp10.out).c3, (MomAt.of_heap hMp10.out).c4, (MomAt.of_heap hMp10.out).c5, (MomAt.of_heap hMp10.out).c6, (MomAt.of_heap hMp10.out).c7, (MomAt.of_heap hMr10.out).c0, (MomAt.of_heap hMr10.out).c1, (MomAt.of_heap hMr10.out).c2, (MomAt.of_heap hMr10.out).c3, (MomAt.of_heap hMr10.out).c4, (MomAt.of_heap hMr10.out).c5, (MomAt.of_heap hMr10.out).c6, (MomAt.of_heap hMr10.out).c7, (MomAt.of_heap hMt10.out).c0, (MomAt.of_heap hMt10.out).c1, (MomAt.of_heap hMt10.out).c2, (MomAt.of_heap hMt10.out).c3, (MomAt.of_heap hMt10.out).c4, (MomAt.of_heap hMt10.out).c5, (MomAt.of_heap hMt10.out).c6, (MomAt.of_heap hMt10.out).c7, hMp10, hMr10, hMt10, Lib.hid (Below.refl _ _)⟩ (Below.refl _ _).drew
  replace hS := Lib.hid hS
  go_wp2_with fail
  go_region_held3 (fun w' => w'.cell? ⟨p, 0, none⟩ = some (.int .i64 2026) ∧ w'.cell? ⟨p, 1, none⟩ = some (.int .i64 11) ∧ w'.cell? ⟨p, 2, none⟩ = some (.int .i64 17) ∧ w'.cell? ⟨p, 3, none⟩ = some (.int .i64 0) ∧ w'.cell? ⟨p, 4, none⟩ = some (.int .i64 0) ∧ w'.cell? ⟨p, 5, none⟩ = some (.string ⟨#[48]⟩) ∧ w'.cell? ⟨p, 6, none⟩ = some (.int .i64 (-480)) ∧ w'.cell? ⟨p, 7, none⟩ = some (.bool true) ∧ w'.cell? ⟨r, 0, none⟩ = some (.int .i64 2026) ∧ w'.cell? ⟨r, 1, none⟩ = some (.int .i64 11) ∧ w'.cell? ⟨r, 2, none⟩ = some (.int .i64 17) ∧ w'.cell? ⟨r, 3, none⟩ = some (.int .i64 0) ∧ w'.cell? ⟨r, 4, none⟩ = some (.int .i64 0) ∧ w'.cell? ⟨r, 5, none⟩ = some (.string ⟨#[48]⟩) ∧ w'.cell? ⟨r, 6, none⟩ = some (.int .i64 (-480)) ∧ w'.cell? ⟨r, 7, none⟩ = some (.bool true) ∧ w'.cell? ⟨t, 0, none⟩ = some (.int .i64 2024) ∧ w'.cell? ⟨t, 1, none⟩ = some (.int .i64 2) ∧ w'.cell? ⟨t, 2, none⟩ = some (.int .i64 29) ∧ w'.cell? ⟨t, 3, none⟩ = some (.int .i64 0) ∧ w'.cell? ⟨t, 4, none⟩ = some (.int .i64 0) ∧ w'.cell? ⟨t, 5, none⟩ = some (.string ⟨#[48]⟩) ∧ w'.cell? ⟨t, 6, none⟩ = some (.int .i64 0) ∧ w'.cell? ⟨t, 7, none⟩ = some (.bool false) ∧ Hid (MoAt w' p 2026 11 17 0 0 ⟨#[48]⟩ (-480) true) ∧ Hid (MoAt w' r 2026 11 17 0 0 ⟨#[48]⟩ (-480) true) ∧ Hid (MoAt w' t 2024 2 29 0 0 ⟨#[48]⟩ 0 false) ∧ Hid (Below w10.heap.size w10 w'))
    (first | exact hS.out | assumption | exact SL.out _ _ (by assumption) (by assumption))
    (first | (go_at_call 32; refine (at_c _ _ _ _ _ _ _).mono ?_; rintro e w' ⟨rfl, hbb⟩) | (go_at_call 22; refine (c4.out _ (SO.out _ (by assumption))).mono ?_; rintro e w' ⟨rfl, hbb⟩))
  rename_i hH
  obtain ⟨-, -, -, -, -, -, -, -, -, -, -, -, -, -, -, -, -, -, -, -, -, -, -, -, hp, hr, ht, hb⟩ := hH
  clear SL SO hS
  go_wp2_with fail
  go_ret
  exact ⟨rfl, hB10.out.trans (hb.out.mono hB10.out.size)⟩
end Go.Proofs.YtgobpoeccdgeiaaGreatDoor

namespace Go.Proofs.YtgobpoeccdgeiaaGreatDoor
open Go.ChangeShapes Go.WideShapes Go.ChangeAt Go.RowKit TimeP
set_option linter.unusedVariables false

theorem own : ownKnob Tryz.prog.godebug = none := by kernel_rfl
noncomputable abbrev lst := Rows.timeKnownRow.laid
theorem gTabType : (Tryz.prog.globals[4]?).map (·.type) = some 201 := by kernel_rfl
theorem gLenType : (Tryz.prog.globals[0]?).map (·.type) = some 126 := by kernel_rfl
theorem plainL : (lst.filter fun x => x.2.handleName?.isSome) = [] := by kernel_rfl
theorem tab_data {H : Type} : (Rows.laid_internal_strconv_uint64pow10 : DataW H) = Lib.tabData .u64 Lib.pow10Tab := rfl
theorem len_data {H : Type} : (Rows.laid_chisel_time_lengths : DataW H) = Lib.tabData .i64 (lensN.map fun (n : Nat) => (n : Int)) := rfl
theorem len_named : Tryz.prog.globalNamed "chisel/time.lengths" = some 0 := by kernel_rfl

theorem tab_of {W : World} (hL : laidMetH Tryz.prog lst W) : Lib.TabIs Tryz.prog W "internal/strconv.uint64pow10" .u64 Lib.pow10Tab := by
  unfold laidMetH at hL
  rw [plainL] at hL
  obtain ⟨ps, hv, _⟩ := hL
  obtain ⟨_, _, _, _, _, _, _, _, _, _, hv, _⟩ := hv
  obtain ⟨_, _, _, _, _, _, _, _, _, _, hv, _⟩ := hv
  obtain ⟨g, t, cs, fuel, p, q, hg, ht, hvar, hd, _⟩ := hv
  obtain rfl := Option.some.inj (tab_named.symm.trans hg)
  obtain rfl := Option.some.inj (gTabType.symm.trans ht)
  rw [tab_data] at hd
  have h := Lib.cells_of_tab Tryz.underlying201 Tryz.underlying142 (by kernel_rfl) (by kernel_rfl) hd
  unfold Lib.TabIs
  rw [hvar, ← h]
theorem len_of {W : World} (hL : laidMetH Tryz.prog lst W) : Lib.TabIs Tryz.prog W "chisel/time.lengths" .i64 (lensN.map fun (n : Nat) => (n : Int)) := by
  unfold laidMetH at hL
  rw [plainL] at hL
  obtain ⟨ps, hv, _⟩ := hL
  obtain ⟨_, _, _, _, _, _, _, _, _, _, hv, _⟩ := hv
  obtain ⟨_, _, _, _, _, _, _, _, _, _, hv, _⟩ := hv
  obtain ⟨_, _, _, _, _, _, _, _, _, _, hv, _⟩ := hv
  obtain ⟨_, _, _, _, _, _, _, _, _, _, hv, _⟩ := hv
  obtain ⟨_, _, _, _, _, _, _, _, _, _, hv, _⟩ := hv
  obtain ⟨_, _, _, _, _, _, _, _, _, _, hv, _⟩ := hv
  obtain ⟨g, t, cs, fuel, p, q, hg, ht, hvar, hd, _⟩ := hv
  obtain rfl := Option.some.inj (len_named.symm.trans hg)
  obtain rfl := Option.some.inj (gLenType.symm.trans ht)
  rw [len_data] at hd
  have h := Lib.cells_of_tab Tryz.underlying126 Tryz.underlying3 (by kernel_rfl) (by kernel_rfl) hd
  unfold Lib.TabIs
  rw [hvar, ← h]
theorem len_cells {W : World} (h : Lib.TabIs Tryz.prog W "chisel/time.lengths" .i64 (lensN.map fun (n : Nat) => (n : Int))) (k n : Nat) (e : lensN[k]? = some n) : W.cell? ⟨0, k, none⟩ = some (.int .i64 (n : Nat)) := by
  rw [World.var?_cell len_named h k]
  simp [e]

theorem nGlobals : 8 < Tryz.prog.globals.size := by decide +kernel
theorem row7 : (((begin Tryz.prog (fun _ _ => 0) default).world.heap[7]?).bind Obj.row?).isSome = true := by kernel_rfl
theorem laidW_of {W : World} (hs : W.ShapedOpen Tryz.prog) (hL : laidMetH Tryz.prog lst W) : LaidT W := by
  refine ⟨⟨⟨?_, cell_of_shapedOpen_int (g := 1) (t := 3) (zero := #[.int .i64 0]) (k := .i64) hs (by have := nGlobals; omega) (by kernel_rfl) rfl (by kernel_rfl) (by kernel_rfl) Tryz.underlying3⟩, tab_of hL⟩, len_cells (len_of hL)⟩
  obtain ⟨⟨z, t⟩, hz⟩ := Option.isSome_iff_exists.1 row7
  obtain ⟨cs, hh, _⟩ := hs.1 7 z t (by have := nGlobals; omega) hz
  rcases Nat.lt_or_ge 7 W.heap.size with h | h
  · exact h
  · rw [Array.getElem?_eq_none h] at hh; cases hh

/-- One world that fits: the settled one, the listed variables laid. -/
noncomputable def laidWorld (os : Os) : World := World.laidAll Tryz.prog os lst
theorem laid_met (os : Os) (args : Array Value) : laidMetH Tryz.prog lst ((laidWorld os).forCall (fun _ _ => 0) ⟨#[], args, []⟩).memory := by
  unfold laidMetH
  rw [plainL]
  exact laidMet_laidAll args (by kernel_rfl) (by kernel_rfl)
end Go.Proofs.YtgobpoeccdgeiaaGreatDoor

namespace Go.Proofs.YtgobpoeccdgeiaaGreatDoor
open Go.Joins Go.ChangeShapes Go.WideShapes Go.RowKit Go.Deep
set_option linter.unusedVariables false

section
variable {H : Type} {enc : TypeId × Value → H} {P : Program} {w : World} {base : Nat} {spare : Nat → Bool} {held : Bool}
set_option maxRecDepth 100000 in
theorem open_agg8 {r : Reach} {b0 : Nat} {t : TypeId} {f0 f1 f2 f3 f4 f5 f6 f7 : Field} {v : Value} {d : DataW H} {p : List MemPlace} (hs : P.underlying t = some (.struct #[f0, f1, f2, f3, f4, f5, f6, f7])) (hone : oneCellFields P #[f0, f1, f2, f3, f4, f5, f6, f7] = true) (hC : P.cellsOf t = 8)
    (hv : Value.okWide P w r b0 t v) (h : DataW.Trod enc P w base spare held t v d p) :
    ∃ (v0 v1 v2 v3 v4 v5 v6 v7 : Value) (y0 y1 y2 y3 y4 y5 y6 y7 : DataW H × List MemPlace) (n : Nat), v = .agg #[v0, v1, v2, v3, v4, v5, v6, v7] ∧ d = .agg [y0.1, y1.1, y2.1, y3.1, y4.1, y5.1, y6.1, y7.1] ∧ p = y0.2 ++ (y1.2 ++ (y2.2 ++ (y3.2 ++ (y4.2 ++ (y5.2 ++ (y6.2 ++ y7.2)))))) ∧
      DataW.trod enc P w base spare held n f0.type [v0] = some y0 ∧ DataW.trod enc P w base spare held n f1.type [v1] = some y1 ∧ DataW.trod enc P w base spare held n f2.type [v2] = some y2 ∧ DataW.trod enc P w base spare held n f3.type [v3] = some y3 ∧ DataW.trod enc P w base spare held n f4.type [v4] = some y4 ∧ DataW.trod enc P w base spare held n f5.type [v5] = some y5 ∧ DataW.trod enc P w base spare held n f6.type [v6] = some y6 ∧ DataW.trod enc P w base spare held n f7.type [v7] = some y7 := by
  obtain ⟨cs, rfl, hsz⟩ := okWide_struct hs hv
  obtain ⟨l⟩ := cs
  match l, hsz.trans hC with
  | [c0, c1, c2, c3, c4, c5, c6, c7], _ =>
    obtain ⟨fuel, hf⟩ := h
    obtain ⟨xs, n, _, hx, _, hlen, hg⟩ := DataW.trod_struct hs hf
    obtain ⟨o0, k0⟩ := hone_of hone 0 f0 rfl
    obtain ⟨o1, k1⟩ := hone_of hone 1 f1 rfl
    obtain ⟨o2, k2⟩ := hone_of hone 2 f2 rfl
    obtain ⟨o3, k3⟩ := hone_of hone 3 f3 rfl
    obtain ⟨o4, k4⟩ := hone_of hone 4 f4 rfl
    obtain ⟨o5, k5⟩ := hone_of hone 5 f5 rfl
    obtain ⟨o6, k6⟩ := hone_of hone 6 f6 rfl
    obtain ⟨o7, k7⟩ := hone_of hone 7 f7 rfl
    match xs, hlen with
    | [y0, y1, y2, y3, y4, y5, y6, y7], _ =>
      simp only [Prod.mk.injEq] at hx
      exact ⟨c0, c1, c2, c3, c4, c5, c6, c7, y0, y1, y2, y3, y4, y5, y6, y7, n, rfl, by simpa using hx.1, by simpa using hx.2, by simpa [Value.cells, o0, k0] using hg 0 f0 rfl, by simpa [Value.cells, o1, k1] using hg 1 f1 rfl, by simpa [Value.cells, o2, k2] using hg 2 f2 rfl, by simpa [Value.cells, o3, k3] using hg 3 f3 rfl, by simpa [Value.cells, o4, k4] using hg 4 f4 rfl, by simpa [Value.cells, o5, k5] using hg 5 f5 rfl, by simpa [Value.cells, o6, k6] using hg 6 f6 rfl, by simpa [Value.cells, o7, k7] using hg 7 f7 rfl⟩
set_option maxRecDepth 100000 in
theorem shut_agg8 {t : TypeId} {f0 f1 f2 f3 f4 f5 f6 f7 : Field} {v0 v1 v2 v3 v4 v5 v6 v7 : Value} {y0 y1 y2 y3 y4 y5 y6 y7 : DataW H × List MemPlace} (hs : P.underlying t = some (.struct #[f0, f1, f2, f3, f4, f5, f6, f7])) (hone : oneCellFields P #[f0, f1, f2, f3, f4, f5, f6, f7] = true) (hC : P.cellsOf t = 8)
    (k : Nat) (t0 : DataW.trod enc P w base spare held k f0.type [v0] = some y0) (t1 : DataW.trod enc P w base spare held k f1.type [v1] = some y1) (t2 : DataW.trod enc P w base spare held k f2.type [v2] = some y2) (t3 : DataW.trod enc P w base spare held k f3.type [v3] = some y3) (t4 : DataW.trod enc P w base spare held k f4.type [v4] = some y4) (t5 : DataW.trod enc P w base spare held k f5.type [v5] = some y5) (t6 : DataW.trod enc P w base spare held k f6.type [v6] = some y6) (t7 : DataW.trod enc P w base spare held k f7.type [v7] = some y7) :
    DataW.Trod enc P w base spare held t (.agg #[v0, v1, v2, v3, v4, v5, v6, v7]) (.agg [y0.1, y1.1, y2.1, y3.1, y4.1, y5.1, y6.1, y7.1]) (y0.2 ++ (y1.2 ++ (y2.2 ++ (y3.2 ++ (y4.2 ++ (y5.2 ++ (y6.2 ++ y7.2))))))) := by
  obtain ⟨o0, k0⟩ := hone_of hone 0 f0 rfl
  obtain ⟨o1, k1⟩ := hone_of hone 1 f1 rfl
  obtain ⟨o2, k2⟩ := hone_of hone 2 f2 rfl
  obtain ⟨o3, k3⟩ := hone_of hone 3 f3 rfl
  obtain ⟨o4, k4⟩ := hone_of hone 4 f4 rfl
  obtain ⟨o5, k5⟩ := hone_of hone 5 f5 rfl
  obtain ⟨o6, k6⟩ := hone_of hone 6 f6 rfl
  obtain ⟨o7, k7⟩ := hone_of hone 7 f7 rfl
  have g0 : DataW.trod enc P w base spare held k f0.type (([v0, v1, v2, v3, v4, v5, v6, v7].drop f0.offset).take (P.cellsOf f0.type)) = some y0 := by rw [o0, k0]; exact t0
  have g1 : DataW.trod enc P w base spare held k f1.type (([v0, v1, v2, v3, v4, v5, v6, v7].drop f1.offset).take (P.cellsOf f1.type)) = some y1 := by rw [o1, k1]; exact t1
  have g2 : DataW.trod enc P w base spare held k f2.type (([v0, v1, v2, v3, v4, v5, v6, v7].drop f2.offset).take (P.cellsOf f2.type)) = some y2 := by rw [o2, k2]; exact t2
  have g3 : DataW.trod enc P w base spare held k f3.type (([v0, v1, v2, v3, v4, v5, v6, v7].drop f3.offset).take (P.cellsOf f3.type)) = some y3 := by rw [o3, k3]; exact t3
  have g4 : DataW.trod enc P w base spare held k f4.type (([v0, v1, v2, v3, v4, v5, v6, v7].drop f4.offset).take (P.cellsOf f4.type)) = some y4 := by rw [o4, k4]; exact t4
  have g5 : DataW.trod enc P w base spare held k f5.type (([v0, v1, v2, v3, v4, v5, v6, v7].drop f5.offset).take (P.cellsOf f5.type)) = some y5 := by rw [o5, k5]; exact t5
  have g6 : DataW.trod enc P w base spare held k f6.type (([v0, v1, v2, v3, v4, v5, v6, v7].drop f6.offset).take (P.cellsOf f6.type)) = some y6 := by rw [o6, k6]; exact t6
  have g7 : DataW.trod enc P w base spare held k f7.type (([v0, v1, v2, v3, v4, v5, v6, v7].drop f7.offset).take (P.cellsOf f7.type)) = some y7 := by rw [o7, k7]; exact t7
  have := trod_struct_mk (enc := enc) (w := w) (base := base) (spare := spare) (held := held) (n := k) (cs := [v0, v1, v2, v3, v4, v5, v6, v7]) (xs := [y0, y1, y2, y3, y4, y5, y6, y7]) hs (by simp [hC]) (by simp only [List.mapM_cons, List.mapM_nil, g0, g1, g2, g3, g4, g5, g6, g7]; rfl)
  exact ⟨_, by simpa [Value.cells] using this⟩
end
/-- The fields of a moment. -/
theorem mom_fields : ∃ f0 f1 f2 f3 f4 f5 f6 f7 : Field, Tryz.prog.underlying 24 = some (.struct #[f0, f1, f2, f3, f4, f5, f6, f7]) ∧ oneCellFields Tryz.prog #[f0, f1, f2, f3, f4, f5, f6, f7] = true ∧ f0.type = 3 ∧ f1.type = 3 ∧ f2.type = 3 ∧ f3.type = 3 ∧ f4.type = 3 ∧ f5.type = 9 ∧ f6.type = 3 ∧ f7.type = 4 :=
  ⟨_, _, _, _, _, _, _, _, Tryz.underlying24, by kernel_rfl, rfl, rfl, rfl, rfl, rfl, rfl, rfl, rfl⟩
theorem mom_cells : Tryz.prog.cellsOf 24 = 8 := by kernel_rfl
section
variable {H : Type} {enc : TypeId × Value → H} {w : World} {base : Nat} {spare : Nat → Bool} {held : Bool}
set_option maxRecDepth 100000 in
theorem open_mom {r : Reach} {b0 : Nat} {v : Value} {D : DataW H} {p : List MemPlace} (hv : Value.okWide Tryz.prog w r b0 24 v) (h : DataW.Trod enc Tryz.prog w base spare held 24 v D p) :
    ∃ (y mo d h mi : Int) (s : ByteArray) (z : Int) (b : Bool), v = .agg #[.int .i64 y, .int .i64 mo, .int .i64 d, .int .i64 h, .int .i64 mi, .string s, .int .i64 z, .bool b] ∧ D = .agg [.lit (.int .i64 y), .lit (.int .i64 mo), .lit (.int .i64 d), .lit (.int .i64 h), .lit (.int .i64 mi), .lit (.string s.data.toList), .lit (.int .i64 z), .lit (.bool b)] ∧ p = [] ∧ s.size ≤ maxLen ∧ (Lit.int .i64 y).wf = true ∧ (Lit.int .i64 mo).wf = true ∧ (Lit.int .i64 d).wf = true ∧ (Lit.int .i64 h).wf = true ∧ (Lit.int .i64 mi).wf = true ∧ (Lit.int .i64 z).wf = true := by
  obtain ⟨f0, f1, f2, f3, f4, f5, f6, f7, hs, hone, e0, e1, e2, e3, e4, e5, e6, e7⟩ := mom_fields
  obtain ⟨v0, v1, v2, v3, v4, v5, v6, v7, y0, y1, y2, y3, y4, y5, y6, y7, n, rfl, rfl, rfl, t0, t1, t2, t3, t4, t5, t6, t7⟩ := open_agg8 hs hone mom_cells hv h
  rw [e0] at t0
  rw [e1] at t1
  rw [e2] at t2
  rw [e3] at t3
  rw [e4] at t4
  rw [e5] at t5
  rw [e6] at t6
  rw [e7] at t7
  obtain ⟨y, h0, rfl, w0⟩ := DataW.trod_int Tryz.underlying3 t0
  obtain rfl := (List.cons.inj h0).1
  obtain ⟨mo, h1, rfl, w1⟩ := DataW.trod_int Tryz.underlying3 t1
  obtain rfl := (List.cons.inj h1).1
  obtain ⟨d, h2, rfl, w2⟩ := DataW.trod_int Tryz.underlying3 t2
  obtain rfl := (List.cons.inj h2).1
  obtain ⟨h, h3, rfl, w3⟩ := DataW.trod_int Tryz.underlying3 t3
  obtain rfl := (List.cons.inj h3).1
  obtain ⟨mi, h4, rfl, w4⟩ := DataW.trod_int Tryz.underlying3 t4
  obtain rfl := (List.cons.inj h4).1
  obtain ⟨s, h5, rfl, ws⟩ := DataW.trod_string Tryz.underlying9 t5
  obtain rfl := (List.cons.inj h5).1
  obtain ⟨z, h6, rfl, w6⟩ := DataW.trod_int Tryz.underlying3 t6
  obtain rfl := (List.cons.inj h6).1
  obtain ⟨b, h7, rfl⟩ := DataW.trod_bool Tryz.underlying4 t7
  obtain rfl := (List.cons.inj h7).1
  exact ⟨y, mo, d, _, mi, s, z, b, rfl, rfl, rfl, ws, w0, w1, w2, w3, w4, w6⟩
set_option maxRecDepth 100000 in
theorem shut_mom {y mo d h mi : Int} {s : ByteArray} {z : Int} {b : Bool} (ws : s.size ≤ maxLen) (w0 : (Lit.int .i64 y).wf = true) (w1 : (Lit.int .i64 mo).wf = true) (w2 : (Lit.int .i64 d).wf = true) (w3 : (Lit.int .i64 h).wf = true) (w4 : (Lit.int .i64 mi).wf = true) (w6 : (Lit.int .i64 z).wf = true) :
    DataW.Trod enc Tryz.prog w base spare held 24 (.agg #[.int .i64 y, .int .i64 mo, .int .i64 d, .int .i64 h, .int .i64 mi, .string s, .int .i64 z, .bool b]) (.agg [.lit (.int .i64 y), .lit (.int .i64 mo), .lit (.int .i64 d), .lit (.int .i64 h), .lit (.int .i64 mi), .lit (.string s.data.toList), .lit (.int .i64 z), .lit (.bool b)]) [] := by
  obtain ⟨f0, f1, f2, f3, f4, f5, f6, f7, hs, hone, e0, e1, e2, e3, e4, e5, e6, e7⟩ := mom_fields
  have := shut_agg8 (enc := enc) (w := w) (base := base) (spare := spare) (held := held) (v0 := .int .i64 y) (v1 := .int .i64 mo) (v2 := .int .i64 d) (v3 := .int .i64 h) (v4 := .int .i64 mi) (v5 := .string s) (v6 := .int .i64 z) (v7 := .bool b) (y0 := (.lit (.int .i64 y), [])) (y1 := (.lit (.int .i64 mo), [])) (y2 := (.lit (.int .i64 d), [])) (y3 := (.lit (.int .i64 h), [])) (y4 := (.lit (.int .i64 mi), [])) (y5 := (.lit (.string s.data.toList), [])) (y6 := (.lit (.int .i64 z), [])) (y7 := (.lit (.bool b), [])) hs hone mom_cells 1 (by rw [e0]; simp [DataW.trod, Tryz.underlying3, w0]) (by rw [e1]; simp [DataW.trod, Tryz.underlying3, w1]) (by rw [e2]; simp [DataW.trod, Tryz.underlying3, w2]) (by rw [e3]; simp [DataW.trod, Tryz.underlying3, w3]) (by rw [e4]; simp [DataW.trod, Tryz.underlying3, w4]) (by rw [e5]; simp [DataW.trod, Tryz.underlying9, ws]) (by rw [e6]; simp [DataW.trod, Tryz.underlying3, w6]) (by rw [e7]; simp [DataW.trod, Tryz.underlying4])
  simpa using this
end
end Go.Proofs.YtgobpoeccdgeiaaGreatDoor
