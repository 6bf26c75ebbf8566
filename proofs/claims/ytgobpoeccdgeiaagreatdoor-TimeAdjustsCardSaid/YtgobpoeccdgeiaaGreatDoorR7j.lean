/- Package chiselref07: Text whole; contracts; the law's spec. (Printed by gencon7.py.) -/
import Derived.Test.YtgobpoeccdgeiaaGreatDoorR7i
import Derived.Test.YtgobpoeccdgeiaaGreatDoorOe
import Derived.Test.YtgobpoeccdgeiaaGreatDoorOb
import Derived.Test.YtgobpoeccdgeiaaGreatDoorOe
namespace Go.Proofs.YtgobpoeccdgeiaaGreatDoor
open Go.RowKit NumP DurP TimeP Go.Proofs.YtgobpoeccdgeiaaGreatDoorW.PrintWords
set_option linter.unusedVariables false

set_option maxRecDepth 100000 in
set_option maxHeartbeats 8000000 in
theorem Text7_r (k y mo d h mi : Int) (s : ByteArray) (z : Int) (has : Bool) (W : World) (hsl : s.size ≤ maxLen) : Calls Tryz.prog 19 #[.int .i64 k, .agg #[.int .i64 y, .int .i64 mo, .int .i64 d, .int .i64 h, .int .i64 mi, .string s, .int .i64 z, .bool has]] W fun e w' => e = .returned (.tuple #[.string ⟨(textMom k ⟨y, mo, d, h, mi, s.data.toList, z, has⟩).1.toArray⟩, .int .i64 (textMom k ⟨y, mo, d, h, mi, s.data.toList, z, has⟩).2]) ∧ Below W.heap.size W w' := by
  by_cases hk : k = 6 ∨ k = 7 ∨ k = 8
  · by_cases hv : validP ⟨y, mo, d, h, mi, s.data.toList, z, has⟩ = true
    · obtain ⟨y', mo', d', h', mi', n, rfl, rfl, rfl, rfl, rfl, hsd, hp, hz, -⟩ := mom_nat hv
      exact Text7_ok k y' mo' d' h' mi' n s z has W hsl hk hv hp hsd hz
    · rw [Bool.not_eq_true] at hv
      have hva := Lib.hid (fun w => Valid7_r y mo d h mi s z has w hsl)
      rw [hv] at hva
      have hki := Lib.hid (fun w => kinds_r k w)
      rw [show TimeP.kindOk k = true by unfold TimeP.kindOk; simpa using hk] at hki
      have hR : Hid (textMom k ⟨y, mo, d, h, mi, s.data.toList, z, has⟩ = ([], 1)) := Lib.hid (textMom_bad (Or.inr hv))
      clear hv
      obtain ⟨W1, hW1⟩ : ∃ w, w = W.alloc (.cells #[.int .i64 y, .int .i64 mo, .int .i64 d, .int .i64 h, .int .i64 mi, .string s, .int .i64 z, .bool has] 28) := ⟨_, rfl⟩
      obtain ⟨q, hq⟩ : ∃ q, q = W.heap.size := ⟨_, rfl⟩
      have hx1 : W1.heap[q]? = some (.cells #[.int .i64 y, .int .i64 mo, .int .i64 d, .int .i64 h, .int .i64 mi, .string s, .int .i64 z, .bool has] 28 (0, 0)) := by rw [hW1, hq]; exact (MapKept.heap_alloc _ _).1
      have hb1 : Hid (Below W.heap.size W W1) := Lib.hid (by rw [hW1]; exact (Below.refl _ _).alloc (Nat.le_refl _) _)
      have hM1 := Lib.hid (MomAt.of_heap hx1)
      clear hx1
      go_enter Tryz.func19, Tryz.ntmps19
      go_upto_region 1 with fail
      rw [← hW1, ← hq]
      replace hW1 := Lib.hid hW1
      replace hq := Lib.hid hq
      obtain ⟨c0, c1, c2, c3, c4, c5, c6, c7⟩ := hM1.out
      go_wp2_with fail
      refine (hki.out _).mono ?_
      rintro e w3 ⟨rfl, rfl⟩
      go_wp2_with fail
      refine (hva.out _).mono ?_
      rintro e w3 ⟨rfl, hb3⟩
      clear c0 c1 c2 c3 c4 c5 c6 c7
      go_wp2_with fail
      go_ret2
      exact ⟨by rw [hR.out]; rfl, hb1.out.trans (hb3.mono hb1.out.size)⟩
  · have hkf : TimeP.kindOk k = false := by unfold TimeP.kindOk; simpa using hk
    have hki := Lib.hid (fun w => kinds_r k w)
    rw [hkf] at hki
    have hR : Hid (textMom k ⟨y, mo, d, h, mi, s.data.toList, z, has⟩ = ([], 1)) := Lib.hid (textMom_bad (Or.inl hkf))
    clear hkf
    obtain ⟨W1, hW1⟩ : ∃ w, w = W.alloc (.cells #[.int .i64 y, .int .i64 mo, .int .i64 d, .int .i64 h, .int .i64 mi, .string s, .int .i64 z, .bool has] 28) := ⟨_, rfl⟩
    obtain ⟨q, hq⟩ : ∃ q, q = W.heap.size := ⟨_, rfl⟩
    have hx1 : W1.heap[q]? = some (.cells #[.int .i64 y, .int .i64 mo, .int .i64 d, .int .i64 h, .int .i64 mi, .string s, .int .i64 z, .bool has] 28 (0, 0)) := by rw [hW1, hq]; exact (MapKept.heap_alloc _ _).1
    have hb1 : Hid (Below W.heap.size W W1) := Lib.hid (by rw [hW1]; exact (Below.refl _ _).alloc (Nat.le_refl _) _)
    have hM1 := Lib.hid (MomAt.of_heap hx1)
    clear hx1
    go_enter Tryz.func19, Tryz.ntmps19
    go_upto_region 1 with fail
    rw [← hW1, ← hq]
    replace hW1 := Lib.hid hW1
    replace hq := Lib.hid hq
    obtain ⟨c0, c1, c2, c3, c4, c5, c6, c7⟩ := hM1.out
    go_wp2_with fail
    refine (hki.out _).mono ?_
    rintro e w3 ⟨rfl, rfl⟩
    clear c0 c1 c2 c3 c4 c5 c6 c7
    go_wp2_with fail
    go_ret2
    exact ⟨by rw [hR.out]; rfl, hb1.out⟩
theorem thousand {n : Nat} (h : n ≤ 1000) : n ≤ maxLen := Nat.le_trans h (by decide)
theorem Text7_c (m : MB) (j : Int) (t : ByteArray) (k : Int) (e : textMom j m.P = (t.data.toList, k)) (hs : m.s.size ≤ 1000) (w : World) : Calls Tryz.prog 19 #[.int .i64 j, .agg #[.int .i64 m.y, .int .i64 m.mo, .int .i64 m.d, .int .i64 m.h, .int .i64 m.mi, .string m.s, .int .i64 m.z, .bool m.has]] w fun e w' => e = .returned (.tuple #[.string t, .int .i64 k]) ∧ Below w.heap.size w w' := by
  have := Text7_r j m.y m.mo m.d m.h m.mi m.s m.z m.has w (thousand hs)
  rw [show (⟨m.y, m.mo, m.d, m.h, m.mi, m.s.data.toList, m.z, m.has⟩ : Mom) = m.P from rfl, e] at this
  exact this
theorem Seconds7_c (m : MB) (t : ByteArray) (k : Int) (e : secondsT m.P = (t.data.toList, k)) (hs : m.s.size ≤ 1000) (w : World) : Calls Tryz.prog 21 #[.agg #[.int .i64 m.y, .int .i64 m.mo, .int .i64 m.d, .int .i64 m.h, .int .i64 m.mi, .string m.s, .int .i64 m.z, .bool m.has]] w fun e w' => e = .returned (.tuple #[.string t, .int .i64 k]) ∧ Below w.heap.size w w' := by
  have := Seconds7_r m.y m.mo m.d m.h m.mi m.s m.z m.has w (thousand hs)
  rw [show (⟨m.y, m.mo, m.d, m.h, m.mi, m.s.data.toList, m.z, m.has⟩ : Mom) = m.P from rfl, e] at this
  exact this
theorem Weekday7_c (m : MB) (k : Int) (e : weekdayP m.P = k) (hs : m.s.size ≤ 1000) (w : World) : Calls Tryz.prog 23 #[.agg #[.int .i64 m.y, .int .i64 m.mo, .int .i64 m.d, .int .i64 m.h, .int .i64 m.mi, .string m.s, .int .i64 m.z, .bool m.has]] w fun e w' => e = .returned (.int .i64 k) ∧ Below w.heap.size w w' := by
  have := Weekday7_r m.y m.mo m.d m.h m.mi m.s m.z m.has w (thousand hs)
  rw [show (⟨m.y, m.mo, m.d, m.h, m.mi, m.s.data.toList, m.z, m.has⟩ : Mom) = m.P from rfl, e] at this
  exact this
theorem res_one7 {fn : Func} {p : Tmp} {ty : TypeId} (h : fn.results = #[.cell p ty]) (tmps : Array Value) (P : Program) (w : World) :
    (results fn tmps).run P w = ((asAddr (tmps.getD p undef)).run P w).andThen fun a w₁ => ((loadVar ty a).run P w₁).andThen fun v w₂ => .ok v w₂ := by
  simp only [results, h]
  simp [Sem.run_bind, Result.andThen]
  cases Sem.run P (asAddr (tmps[p]?.getD undef)) w with
  | ok a w1 => cases hh : Sem.run P (loadVar ty a) w1 <;> simp [hh]
  | halt h w1 => rfl
set_option maxRecDepth 100000 in
set_option maxHeartbeats 4000000 in
theorem spec_r (y mo d h mi : Int) (s : ByteArray) (z : Int) (has : Bool) (W : World) : Calls Tryz.prog 17 #[.agg #[.int .i64 y, .int .i64 mo, .int .i64 d, .int .i64 h, .int .i64 mi, .string s, .int .i64 z, .bool has]] W fun e w' => e = .returned (.agg #[.int .i64 y, .int .i64 mo, .int .i64 d, .int .i64 h, .int .i64 mi, .string s, .int .i64 z, .bool has]) ∧ Below W.heap.size W w' := by
  obtain ⟨W1, hW1⟩ : ∃ w, w = (W.alloc (.cells #[.int .i64 y, .int .i64 mo, .int .i64 d, .int .i64 h, .int .i64 mi, .string s, .int .i64 z, .bool has] 24)).alloc (.cells #[.int .i64 0, .int .i64 0, .int .i64 0, .int .i64 0, .int .i64 0, .string ⟨#[]⟩, .int .i64 0, .bool false] 28) := ⟨_, rfl⟩
  obtain ⟨q, hq⟩ : ∃ q, q = W.heap.size := ⟨_, rfl⟩
  have h1 : W1.heap[q]? = some (.cells #[.int .i64 y, .int .i64 mo, .int .i64 d, .int .i64 h, .int .i64 mi, .string s, .int .i64 z, .bool has] 24 (0, 0)) := by
    rw [hW1, hq, (MapKept.heap_alloc _ _).2 _ (by simp)]
    exact (MapKept.heap_alloc _ _).1
  have h2 : W1.heap[q + 1]? = some (.cells #[.int .i64 0, .int .i64 0, .int .i64 0, .int .i64 0, .int .i64 0, .string ⟨#[]⟩, .int .i64 0, .bool false] 28 (0, 0)) := by
    rw [hW1, hq, show W.heap.size + 1 = (W.alloc (.cells #[.int .i64 y, .int .i64 mo, .int .i64 d, .int .i64 h, .int .i64 mi, .string s, .int .i64 z, .bool has] 24)).heap.size by simp]
    exact (MapKept.heap_alloc _ _).1
  have hb1 : Below W.heap.size W W1 := by rw [hW1]; exact ((Below.refl _ _).alloc (Nat.le_refl _) _).alloc (by simp) _
  obtain ⟨c0, c1, c2, c3, c4, c5, c6, c7⟩ := MomAt.of_heap h1
  obtain ⟨d0, d1, d2, d3, d4, d5, d6, d7⟩ := MomAt.of_heap h2
  obtain ⟨f0, f1, f2, f3, f4, f5, f6, f7⟩ := froz8 h2
  obtain ⟨W5, hW5, hp5, hb5⟩ := put8 h2 (.int .i64 y) (.int .i64 mo) (.int .i64 d) (.int .i64 h) (.int .i64 mi) (.string s) (.int .i64 z) (.bool has) (B := W.heap.size) (by omega)
  have hB := Lib.hid (hb1.trans hb5)
  replace hW5 := Lib.hid hW5
  replace hp5 := Lib.hid hp5
  clear h1 h2 hb1 hb5
  go_enter Tryz.func17, Tryz.ntmps17
  go_upto_region 1 with fail
  rw [← hW1, ← hq]
  replace hW1 := Lib.hid hW1
  replace hq := Lib.hid hq
  go_wp2_with fail
  rw [← hW5.out]
  clear hW5 c0 c1 c2 c3 c4 c5 c6 c7 d0 d1 d2 d3 d4 d5 d6 d7 f0 f1 f2 f3 f4 f5 f6 f7
  obtain ⟨c0, c1, c2, c3, c4, c5, c6, c7⟩ := MomAt.of_heap hp5.out
  refine bodyPost_ret (v := .agg #[.int .i64 y, .int .i64 mo, .int .i64 d, .int .i64 h, .int .i64 mi, .string s, .int .i64 z, .bool has]) ?ret rfl ?post
  case ret => rw [res_one7 rfl]; go_simp
  case post => exact ⟨rfl, hB.out⟩
theorem spec_c (m : MB) (w : World) : Calls Tryz.prog 17 #[.agg #[.int .i64 m.y, .int .i64 m.mo, .int .i64 m.d, .int .i64 m.h, .int .i64 m.mi, .string m.s, .int .i64 m.z, .bool m.has]] w fun e w' => e = .returned (.agg #[.int .i64 m.y, .int .i64 m.mo, .int .i64 m.d, .int .i64 m.h, .int .i64 m.mi, .string m.s, .int .i64 m.z, .bool m.has]) ∧ Below w.heap.size w w' := spec_r m.y m.mo m.d m.h m.mi m.s m.z m.has w
end Go.Proofs.YtgobpoeccdgeiaaGreatDoor
