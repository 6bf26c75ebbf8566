/- Package chiselref07: the two blocks of a function that returns a moment; AddMonths. (Printed by genam7.py.) -/
import Derived.Test.YtgobpoeccdgeiaaGreatDoorR7j
namespace Go.Proofs.YtgobpoeccdgeiaaGreatDoor
open Go.RowKit NumP DurP TimeP Go.Proofs.YtgobpoeccdgeiaaGreatDoorW.PrintWords
set_option linter.unusedVariables false

/-- The world with a moment's block and the result's. -/
def twoC (W : World) (y mo d h mi : Int) (s : ByteArray) (z : Int) (has : Bool) : World := (W.alloc (.cells #[.int .i64 y, .int .i64 mo, .int .i64 d, .int .i64 h, .int .i64 mi, .string s, .int .i64 z, .bool has] 28)).alloc (.cells #[.int .i64 0, .int .i64 0, .int .i64 0, .int .i64 0, .int .i64 0, .string ⟨#[]⟩, .int .i64 0, .bool false] 28)
/-- What is known of the two blocks. -/
structure TwoC (W : World) (q : Nat) (w : World) (y mo d h mi : Int) (s : ByteArray) (z : Int) (has : Bool) : Prop where
  hq : w.heap[q]? = some (.cells #[.int .i64 y, .int .i64 mo, .int .i64 d, .int .i64 h, .int .i64 mi, .string s, .int .i64 z, .bool has] 28 (0, 0))
  hp : w.heap[q + 1]? = some (.cells #[.int .i64 0, .int .i64 0, .int .i64 0, .int .i64 0, .int .i64 0, .string ⟨#[]⟩, .int .i64 0, .bool false] 28 (0, 0))
  hb : Below W.heap.size W w
theorem TwoC.init (W : World) (y mo d h mi : Int) (s : ByteArray) (z : Int) (has : Bool) : TwoC W W.heap.size (twoC W y mo d h mi s z has) y mo d h mi s z has := by
  refine ⟨?_, ?_, ((Below.refl _ _).alloc (Nat.le_refl _) _).alloc (by simp) _⟩
  · unfold twoC
    rw [(MapKept.heap_alloc _ _).2 _ (by simp)]
    exact (MapKept.heap_alloc _ _).1
  · unfold twoC
    rw [show W.heap.size + 1 = (W.alloc (.cells #[.int .i64 y, .int .i64 mo, .int .i64 d, .int .i64 h, .int .i64 mi, .string s, .int .i64 z, .bool has] 28)).heap.size by simp]
    exact (MapKept.heap_alloc _ _).1
theorem TwoC.later {W : World} {q : Nat} {w w' : World} {y mo d h mi : Int} {s : ByteArray} {z : Int} {has : Bool} (t : TwoC W q w y mo d h mi s z has) (hb : Below w.heap.size w w') : TwoC W q w' y mo d h mi s z has :=
  ⟨(hb.block q (heap_lt t.hq)).trans t.hq, (hb.block (q + 1) (heap_lt t.hp)).trans t.hp, t.hb.trans (hb.mono t.hb.size)⟩
theorem TwoC.mom {W : World} {q : Nat} {w : World} {y mo d h mi : Int} {s : ByteArray} {z : Int} {has : Bool} (t : TwoC W q w y mo d h mi s z has) : MomAt w q y mo d h mi s z has := MomAt.of_heap t.hq
theorem TwoC.res {W : World} {q : Nat} {w : World} {y mo d h mi : Int} {s : ByteArray} {z : Int} {has : Bool} (t : TwoC W q w y mo d h mi s z has) : MomAt w (q + 1) 0 0 0 0 0 ⟨#[]⟩ 0 false := MomAt.of_heap t.hp
/-- A moment with two results. -/
theorem put_resC {W : World} {q : Nat} {w : World} {y mo d h mi : Int} {s : ByteArray} {z : Int} {has : Bool} (t : TwoC W q w y mo d h mi s z has) (hq : q = W.heap.size) (a0 a1 a2 a3 a4 a5 a6 a7 : Value) :
    ∃ W5, W5 = (((((((w.setCell ⟨q + 1, 0, none⟩ a0).setCell ⟨q + 1, 1, none⟩ a1).setCell ⟨q + 1, 2, none⟩ a2).setCell ⟨q + 1, 3, none⟩ a3).setCell ⟨q + 1, 4, none⟩ a4).setCell ⟨q + 1, 5, none⟩ a5).setCell ⟨q + 1, 6, none⟩ a6).setCell ⟨q + 1, 7, none⟩ a7 ∧ W5.heap[q + 1]? = some (.cells #[a0, a1, a2, a3, a4, a5, a6, a7] 28 (0, 0)) ∧ Below W.heap.size W W5 := by
  obtain ⟨W5, h1, h2, h3⟩ := put8 t.hp a0 a1 a2 a3 a4 a5 a6 a7 (B := W.heap.size) (by omega)
  exact ⟨W5, h1, h2, t.hb.trans h3⟩
/-- One field of the moment is stored. -/
theorem TwoC.set {W : World} {q : Nat} {w : World} {y mo d h mi : Int} {s : ByteArray} {z : Int} {has : Bool} (t : TwoC W q w y mo d h mi s z has) (hq : q = W.heap.size) (i : Nat) (v : Value) {y2 mo2 d2 h2 mi2 : Int} {s2 : ByteArray} {z2 : Int} {has2 : Bool}
    (e : (#[.int .i64 y, .int .i64 mo, .int .i64 d, .int .i64 h, .int .i64 mi, .string s, .int .i64 z, .bool has] : Array Value).set! i v = #[.int .i64 y2, .int .i64 mo2, .int .i64 d2, .int .i64 h2, .int .i64 mi2, .string s2, .int .i64 z2, .bool has2]) : TwoC W q (w.setCell ⟨q, i, none⟩ v) y2 mo2 d2 h2 mi2 s2 z2 has2 := by
  refine ⟨?_, ?_, t.hb.setCell (p := ⟨q, i, none⟩) (by show W.heap.size ≤ q; omega) _⟩
  · rw [← e]; exact Lib.heap_setCell_same t.hq v
  · rw [Below.heap_setCell _ _ _ _ (by simp)]; exact t.hp
theorem months_r {m : Mom} {n K y' mo' : Int} (hv : validP m = true) (hK : K = m.y * 12 + m.mo - 1 + n) (h1 : 1 ≤ mo') (h2 : mo' ≤ 12) (he : 12 * y' + mo' - 1 = K) (hn : -200000 ≤ n ∧ n ≤ 200000) :
    addMonthsP m n = if y' < 1 ∨ 9999 < y' then (mom0, 6) else ({ m with y := y', mo := mo', d := min m.d (lenM y'.toNat mo'.toNat : Nat) }, 0) := by
  obtain ⟨yy, mm, dd, hh, ii, nn, e, hp, hz⟩ := valid_of hv
  have b1 : m.y = (yy : Int) := by rw [e]; rfl
  have b2 : m.mo = (mm : Int) := by rw [e]; rfl
  have b3 := hp.date.y1
  have b4 := hp.y2
  have b5 := hp.date.m1
  have b6 := hp.date.m2
  unfold addMonthsP
  rw [if_neg (by rw [hv]; decide)]
  simp only
  rw [← hK]
  have k1 : K / 12 = y' := by omega
  have k2 : K % 12 + 1 = mo' := by omega
  rw [k1, k2]
  by_cases hr : y' < 1 ∨ 9999 < y'
  · rw [if_pos hr]
    by_cases h3 : n < -120000 ∨ 120000 < n
    · rw [if_pos h3]
    · rw [if_neg h3, if_pos (by omega)]
  · rw [if_neg hr, if_neg (by omega), if_neg (by omega)]
set_option maxRecDepth 100000 in
set_option maxHeartbeats 8000000 in
theorem AddMonths7_r (y mo d h mi : Int) (s : ByteArray) (z : Int) (has : Bool) (n : Int) (W : World) (hsl : s.size ≤ maxLen) (hn0 : -9223372036854775808 ≤ n ∧ n ≤ 9223372036854775807) : Calls Tryz.prog 27 #[.agg #[.int .i64 y, .int .i64 mo, .int .i64 d, .int .i64 h, .int .i64 mi, .string s, .int .i64 z, .bool has], .int .i64 n] W fun e w' => e = .returned (momE (addMonthsP ⟨y, mo, d, h, mi, s.data.toList, z, has⟩ n)) ∧ Below W.heap.size W w' := by
  have hT0 := TwoC.init W y mo d h mi s z has
  obtain ⟨W1, hW1⟩ : ∃ w, w = twoC W y mo d h mi s z has := ⟨_, rfl⟩
  obtain ⟨q, hq⟩ : ∃ q, q = W.heap.size := ⟨_, rfl⟩
  rw [← hW1, ← hq] at hT0
  unfold twoC at hW1
  replace hT0 := Lib.hid hT0
  have hva := Lib.hid (fun w => Valid7_r y mo d h mi s z has w hsl)
  have hq' := Lib.hid hq
  cases hv : validP ⟨y, mo, d, h, mi, s.data.toList, z, has⟩ with
  | false =>
    rw [hv] at hva
    have hR : Hid (addMonthsP ⟨y, mo, d, h, mi, s.data.toList, z, has⟩ n = (mom0, 1)) := Lib.hid (by unfold addMonthsP; rw [if_pos hv])
    clear hv
    go_enter Tryz.func27, Tryz.ntmps27
    go_upto_region 1 with fail
    rw [← hW1, ← hq]
    clear hW1 hq
    obtain ⟨c0, c1, c2, c3, c4, c5, c6, c7⟩ := hT0.out.mom
    go_wp2_with fail
    refine (hva.out _).mono ?_
    rintro e w3 ⟨rfl, hb3⟩
    clear hva c0 c1 c2 c3 c4 c5 c6 c7
    have hT3 := Lib.hid (hT0.out.later hb3)
    clear hT0 hb3
    obtain ⟨d0, d1, d2, d3, d4, d5, d6, d7⟩ := hT3.out.res
    obtain ⟨f0, f1, f2, f3, f4, f5, f6, f7⟩ := froz8 hT3.out.hp
    obtain ⟨W5, hW5, hp5, hb5⟩ := put_resC hT3.out hq'.out (.int .i64 0) (.int .i64 0) (.int .i64 0) (.int .i64 0) (.int .i64 0) (.string ⟨#[]⟩) (.int .i64 0) (.bool false)
    replace hW5 := Lib.hid hW5
    replace hp5 := Lib.hid hp5
    go_wp2_with fail
    rw [← hW5.out]
    clear hW5 d0 d1 d2 d3 d4 d5 d6 d7 f0 f1 f2 f3 f4 f5 f6 f7
    obtain ⟨c0, c1, c2, c3, c4, c5, c6, c7⟩ := MomAt.of_heap hp5.out
    refine bodyPost_ret (v := .tuple #[.agg #[.int .i64 0, .int .i64 0, .int .i64 0, .int .i64 0, .int .i64 0, .string ⟨#[]⟩, .int .i64 0, .bool false], .int .i64 1]) ?ret rfl ?post
    case ret => rw [res_two rfl]; go_simp
    case post => exact ⟨by rw [hR.out]; rfl, hb5⟩
  | true =>
    rw [hv] at hva
    by_cases hn : n > 200000 ∨ n < -200000
    · have hR : Hid (addMonthsP ⟨y, mo, d, h, mi, s.data.toList, z, has⟩ n = (mom0, 6)) := Lib.hid (by unfold addMonthsP; rw [if_neg (by rw [hv]; decide), if_pos (by omega)])
      clear hv
      by_cases hn1 : n > 200000
      · clear hn
        go_enter Tryz.func27, Tryz.ntmps27
        go_upto_region 1 with fail
        rw [← hW1, ← hq]
        clear hW1 hq
        obtain ⟨c0, c1, c2, c3, c4, c5, c6, c7⟩ := hT0.out.mom
        go_wp2_with fail
        refine (hva.out _).mono ?_
        rintro e w3 ⟨rfl, hb3⟩
        clear hva c0 c1 c2 c3 c4 c5 c6 c7
        have hT3 := Lib.hid (hT0.out.later hb3)
        clear hT0 hb3
        obtain ⟨d0, d1, d2, d3, d4, d5, d6, d7⟩ := hT3.out.res
        obtain ⟨f0, f1, f2, f3, f4, f5, f6, f7⟩ := froz8 hT3.out.hp
        obtain ⟨W5, hW5, hp5, hb5⟩ := put_resC hT3.out hq'.out (.int .i64 0) (.int .i64 0) (.int .i64 0) (.int .i64 0) (.int .i64 0) (.string ⟨#[]⟩) (.int .i64 0) (.bool false)
        replace hW5 := Lib.hid hW5
        replace hp5 := Lib.hid hp5
        go_wp2_with fail
        rw [← hW5.out]
        clear hW5 d0 d1 d2 d3 d4 d5 d6 d7 f0 f1 f2 f3 f4 f5 f6 f7
        obtain ⟨c0, c1, c2, c3, c4, c5, c6, c7⟩ := MomAt.of_heap hp5.out
        refine bodyPost_ret (v := .tuple #[.agg #[.int .i64 0, .int .i64 0, .int .i64 0, .int .i64 0, .int .i64 0, .string ⟨#[]⟩, .int .i64 0, .bool false], .int .i64 6]) ?ret rfl ?post
        case ret => rw [res_two rfl]; go_simp
        case post => exact ⟨by rw [hR.out]; rfl, hb5⟩
      · have hn2 : n < -200000 := by omega
        clear hn
        go_enter Tryz.func27, Tryz.ntmps27
        go_upto_region 1 with fail
        rw [← hW1, ← hq]
        clear hW1 hq
        obtain ⟨c0, c1, c2, c3, c4, c5, c6, c7⟩ := hT0.out.mom
        go_wp2_with fail
        refine (hva.out _).mono ?_
        rintro e w3 ⟨rfl, hb3⟩
        clear hva c0 c1 c2 c3 c4 c5 c6 c7
        have hT3 := Lib.hid (hT0.out.later hb3)
        clear hT0 hb3
        obtain ⟨d0, d1, d2, d3, d4, d5, d6, d7⟩ := hT3.out.res
        obtain ⟨f0, f1, f2, f3, f4, f5, f6, f7⟩ := froz8 hT3.out.hp
        obtain ⟨W5, hW5, hp5, hb5⟩ := put_resC hT3.out hq'.out (.int .i64 0) (.int .i64 0) (.int .i64 0) (.int .i64 0) (.int .i64 0) (.string ⟨#[]⟩) (.int .i64 0) (.bool false)
        replace hW5 := Lib.hid hW5
        replace hp5 := Lib.hid hp5
        go_wp2_with fail
        rw [← hW5.out]
        clear hW5 d0 d1 d2 d3 d4 d5 d6 d7 f0 f1 f2 f3 f4 f5 f6 f7
        obtain ⟨c0, c1, c2, c3, c4, c5, c6, c7⟩ := MomAt.of_heap hp5.out
        refine bodyPost_ret (v := .tuple #[.agg #[.int .i64 0, .int .i64 0, .int .i64 0, .int .i64 0, .int .i64 0, .string ⟨#[]⟩, .int .i64 0, .bool false], .int .i64 6]) ?ret rfl ?post
        case ret => rw [res_two rfl]; go_simp
        case post => exact ⟨by rw [hR.out]; rfl, hb5⟩
    · have hn1 : ¬ n > 200000 := by omega
      have hn2 : ¬ n < -200000 := by omega
      obtain ⟨K, hK⟩ : ∃ K, K = y * 12 + mo - 1 + n := ⟨_, rfl⟩
      have hP := Lib.hid (fun y' mo' h1 h2 he => months_r (m := ⟨y, mo, d, h, mi, s.data.toList, z, has⟩) (n := n) (K := K) (y' := y') (mo' := mo') hv hK h1 h2 he ⟨by omega, by omega⟩)
      obtain ⟨yy, mm, dd, hh, ii, nn, ey, emo, ed, eh, emi, -, hp, -, -⟩ := mom_nat hv
      have b3 := hp.date.y1
      have b4 := hp.y2
      have b5 := hp.date.m1
      have b6 := hp.date.m2
      have b7 := hp.date.d2
      have b8 := lenM_le31 yy mm
      have b9 := hp.date.d1
      have r1 : 1 ≤ mo ∧ mo ≤ 12 := by omega
      have r2 : -200000 ≤ K ∧ K ≤ 400000 := by omega
      have r3 : 1 ≤ d ∧ d ≤ 31 := by omega
      have r4 : 12 * y + mo - 1 + n = K := by omega
      clear hv hK hp ey emo ed eh emi b3 b4 b5 b6 b7 b8 b9 hn
      go_enter Tryz.func27, Tryz.ntmps27
      go_upto_region 1 with fail
      rw [← hW1, ← hq]
      clear hW1 hq
      obtain ⟨c0, c1, c2, c3, c4, c5, c6, c7⟩ := hT0.out.mom
      go_wp2_with fail
      refine (hva.out _).mono ?_
      rintro e w3 ⟨rfl, hb3⟩
      clear hva c0 c1 c2 c3 c4 c5 c6 c7
      have hT3 := Lib.hid (hT0.out.later hb3)
      clear hT0 hb3
      go_wp2_with fail
      go_loopw [1] (fun nv wr => ∃ (n' y' mo' : Int), nv = .int .i64 n' ∧ ((0 ≤ n' ∨ n' < 0) ∧ n' ≤ 200000 ∧ -200000 ≤ n') ∧ 1 ≤ mo' ∧ mo' ≤ 12 ∧ 12 * y' + mo' - 1 + n' = K ∧ Hid (TwoC W q wr y' mo' d h mi s z has)) (fun nv _ => (intOf nv).toNat)
      case atStart => exact ⟨n, y, mo, rfl, by omega, r1.1, r1.2, r4, hT3⟩
      case round =>
        obtain ⟨n1, y1, m1, rfl, hn3, l1, l2, l3, t1⟩ := hrel
        by_cases hp1 : n1 > 0
        · by_cases h12 : m1 + 1 > 12
          · obtain rfl : m1 = 12 := by omega
            obtain ⟨w1, hw1⟩ : ∃ w, w = wr := ⟨_, rfl⟩
            rw [← hw1] at t1 ⊢
            clear hw1
            obtain ⟨c0, c1, c2, c3, c4, c5, c6, c7⟩ := t1.out.mom
            have ff := Lib.frozen_of_heap t1.out.hq 1
            obtain ⟨w2, hw⟩ : ∃ w, w = w1.setCell ⟨q, 1, none⟩ (.int .i64 13) := ⟨_, rfl⟩
            have t2 : Hid (TwoC W q w2 (y1) (13) d h mi s z has) := Lib.hid (by rw [hw]; exact t1.out.set hq'.out 1 (.int .i64 13) rfl)
            go_upto_region 8 with fail
            rw [← hw]
            clear hw ff c0 c1 c2 c3 c4 c5 c6 c7 t1
            obtain ⟨c0, c1, c2, c3, c4, c5, c6, c7⟩ := t2.out.mom
            have ff := Lib.frozen_of_heap t2.out.hq 1
            obtain ⟨w3, hw⟩ : ∃ w, w = w2.setCell ⟨q, 1, none⟩ (.int .i64 1) := ⟨_, rfl⟩
            have t3 : Hid (TwoC W q w3 (y1) (1) d h mi s z has) := Lib.hid (by rw [hw]; exact t2.out.set hq'.out 1 (.int .i64 1) rfl)
            go_upto_region 10 with fail
            rw [← hw]
            clear hw ff c0 c1 c2 c3 c4 c5 c6 c7 t2
            obtain ⟨c0, c1, c2, c3, c4, c5, c6, c7⟩ := t3.out.mom
            have ff := Lib.frozen_of_heap t3.out.hq 0
            obtain ⟨w4, hw⟩ : ∃ w, w = w3.setCell ⟨q, 0, none⟩ (.int .i64 (y1 + 1)) := ⟨_, rfl⟩
            have t4 : Hid (TwoC W q w4 (y1 + 1) (1) d h mi s z has) := Lib.hid (by rw [hw]; exact t3.out.set hq'.out 0 (.int .i64 (y1 + 1)) rfl)
            go_wp2_with fail
            rw [← hw]
            clear hw ff c0 c1 c2 c3 c4 c5 c6 c7 t3
            go_roundw
            case rel => exact ⟨n1 - 1, y1 + 1, 1, rfl, by omega, by omega, by omega, by omega, t4⟩
            case measure => simp [intOf]; omega
          · obtain ⟨m2, hm2⟩ : ∃ m2, m2 = m1 + 1 := ⟨_, rfl⟩
            have gm : m1 + 1 = m2 := hm2.symm
            have bm : -1 ≤ m2 ∧ m2 ≤ 13 := by omega
            clear hm2
            obtain ⟨w1, hw1⟩ : ∃ w, w = wr := ⟨_, rfl⟩
            rw [← hw1] at t1 ⊢
            clear hw1
            obtain ⟨c0, c1, c2, c3, c4, c5, c6, c7⟩ := t1.out.mom
            have ff := Lib.frozen_of_heap t1.out.hq 1
            obtain ⟨w2, hw⟩ : ∃ w, w = w1.setCell ⟨q, 1, none⟩ (.int .i64 m2) := ⟨_, rfl⟩
            have t2 : Hid (TwoC W q w2 (y1) (m2) d h mi s z has) := Lib.hid (by rw [hw]; exact t1.out.set hq'.out 1 (.int .i64 m2) rfl)
            go_upto_region 8 with fail
            rw [← hw]
            clear hw ff c0 c1 c2 c3 c4 c5 c6 c7 t1
            obtain ⟨c0, c1, c2, c3, c4, c5, c6, c7⟩ := t2.out.mom
            go_wp2_with fail
            go_roundw
            case rel => exact ⟨n1 - 1, y1, m2, rfl, by omega, by omega, by omega, by omega, t2⟩
            case measure => simp [intOf]; omega
        · go_wp2_with fail
          go_loopw [1] (fun nv wr => ∃ (n' y' mo' : Int), nv = .int .i64 n' ∧ (n' ≤ 0 ∧ -200000 ≤ n') ∧ 1 ≤ mo' ∧ mo' ≤ 12 ∧ 12 * y' + mo' - 1 + n' = K ∧ Hid (TwoC W q wr y' mo' d h mi s z has)) (fun nv _ => (-(intOf nv)).toNat)
          case atStart => exact ⟨n1, y1, m1, rfl, by omega, l1, l2, l3, t1⟩
          case round =>
            clear t1 l1 l2 l3 hn3 hp1
            obtain ⟨n1, y1, m1, rfl, hn3, l1, l2, l3, t1⟩ := hrel
            by_cases hp1 : n1 < 0
            · by_cases h12 : m1 - 1 < 1
              · obtain rfl : m1 = 1 := by omega
                obtain ⟨w1, hw1⟩ : ∃ w, w = wr := ⟨_, rfl⟩
                rw [← hw1] at t1 ⊢
                clear hw1
                obtain ⟨c0, c1, c2, c3, c4, c5, c6, c7⟩ := t1.out.mom
                have ff := Lib.frozen_of_heap t1.out.hq 1
                obtain ⟨w2, hw⟩ : ∃ w, w = w1.setCell ⟨q, 1, none⟩ (.int .i64 0) := ⟨_, rfl⟩
                have t2 : Hid (TwoC W q w2 (y1) (0) d h mi s z has) := Lib.hid (by rw [hw]; exact t1.out.set hq'.out 1 (.int .i64 0) rfl)
                go_upto_region 14 with fail
                rw [← hw]
                clear hw ff c0 c1 c2 c3 c4 c5 c6 c7 t1
                obtain ⟨c0, c1, c2, c3, c4, c5, c6, c7⟩ := t2.out.mom
                have ff := Lib.frozen_of_heap t2.out.hq 1
                obtain ⟨w3, hw⟩ : ∃ w, w = w2.setCell ⟨q, 1, none⟩ (.int .i64 12) := ⟨_, rfl⟩
                have t3 : Hid (TwoC W q w3 (y1) (12) d h mi s z has) := Lib.hid (by rw [hw]; exact t2.out.set hq'.out 1 (.int .i64 12) rfl)
                go_upto_region 16 with fail
                rw [← hw]
                clear hw ff c0 c1 c2 c3 c4 c5 c6 c7 t2
                obtain ⟨c0, c1, c2, c3, c4, c5, c6, c7⟩ := t3.out.mom
                have ff := Lib.frozen_of_heap t3.out.hq 0
                obtain ⟨w4, hw⟩ : ∃ w, w = w3.setCell ⟨q, 0, none⟩ (.int .i64 (y1 - 1)) := ⟨_, rfl⟩
                have t4 : Hid (TwoC W q w4 (y1 - 1) (12) d h mi s z has) := Lib.hid (by rw [hw]; exact t3.out.set hq'.out 0 (.int .i64 (y1 - 1)) rfl)
                go_wp2_with fail
                rw [← hw]
                clear hw ff c0 c1 c2 c3 c4 c5 c6 c7 t3
                go_roundw
                case rel => exact ⟨n1 + 1, y1 - 1, 12, rfl, by omega, by omega, by omega, by omega, t4⟩
                case measure => simp [intOf]; omega
              · obtain ⟨m2, hm2⟩ : ∃ m2, m2 = m1 - 1 := ⟨_, rfl⟩
                have gm : m1 - 1 = m2 := hm2.symm
                have bm : -1 ≤ m2 ∧ m2 ≤ 13 := by omega
                clear hm2
                obtain ⟨w1, hw1⟩ : ∃ w, w = wr := ⟨_, rfl⟩
                rw [← hw1] at t1 ⊢
                clear hw1
                obtain ⟨c0, c1, c2, c3, c4, c5, c6, c7⟩ := t1.out.mom
                have ff := Lib.frozen_of_heap t1.out.hq 1
                obtain ⟨w2, hw⟩ : ∃ w, w = w1.setCell ⟨q, 1, none⟩ (.int .i64 m2) := ⟨_, rfl⟩
                have t2 : Hid (TwoC W q w2 (y1) (m2) d h mi s z has) := Lib.hid (by rw [hw]; exact t1.out.set hq'.out 1 (.int .i64 m2) rfl)
                go_upto_region 14 with fail
                rw [← hw]
                clear hw ff c0 c1 c2 c3 c4 c5 c6 c7 t1
                obtain ⟨c0, c1, c2, c3, c4, c5, c6, c7⟩ := t2.out.mom
                go_wp2_with fail
                go_roundw
                case rel => exact ⟨n1 + 1, y1, m2, rfl, by omega, by omega, by omega, by omega, t2⟩
                case measure => simp [intOf]; omega
            · obtain rfl : n1 = 0 := by omega
              have hR0 := hP.out y1 m1 l1 l2 (by omega)
              have hy : -40000 ≤ y1 ∧ y1 ≤ 40000 := by omega
              obtain ⟨w1, hw1⟩ : ∃ w, w = wr := ⟨_, rfl⟩
              rw [← hw1] at t1 ⊢
              clear hw1
              obtain ⟨c0, c1, c2, c3, c4, c5, c6, c7⟩ := t1.out.mom
              by_cases hr1 : y1 < 1
              · have hR : Hid (addMonthsP ⟨y, mo, d, h, mi, s.data.toList, z, has⟩ n = (mom0, 6)) := Lib.hid (by rw [hR0, if_pos (Or.inl hr1)])
                clear hR0
                obtain ⟨d0, d1, d2, d3, d4, d5, d6, d7⟩ := t1.out.res
                obtain ⟨f0, f1, f2, f3, f4, f5, f6, f7⟩ := froz8 t1.out.hp
                obtain ⟨W5, hW5, hp5, hb5⟩ := put_resC t1.out hq'.out (.int .i64 0) (.int .i64 0) (.int .i64 0) (.int .i64 0) (.int .i64 0) (.string ⟨#[]⟩) (.int .i64 0) (.bool false)
                replace hW5 := Lib.hid hW5
                replace hp5 := Lib.hid hp5
                go_wp2_with fail
                rw [← hW5.out]
                clear hW5 d0 d1 d2 d3 d4 d5 d6 d7 f0 f1 f2 f3 f4 f5 f6 f7
                obtain ⟨c0, c1, c2, c3, c4, c5, c6, c7⟩ := MomAt.of_heap hp5.out
                refine bodyPost_ret (v := .tuple #[.agg #[.int .i64 0, .int .i64 0, .int .i64 0, .int .i64 0, .int .i64 0, .string ⟨#[]⟩, .int .i64 0, .bool false], .int .i64 6]) ?ret rfl ?post
                case ret => rw [res_two rfl]; go_simp
                case post => exact ⟨by rw [hR.out]; rfl, hb5⟩
              by_cases hr2 : y1 > 9999
              · have hR : Hid (addMonthsP ⟨y, mo, d, h, mi, s.data.toList, z, has⟩ n = (mom0, 6)) := Lib.hid (by rw [hR0, if_pos (Or.inr hr2)])
                clear hR0
                obtain ⟨d0, d1, d2, d3, d4, d5, d6, d7⟩ := t1.out.res
                obtain ⟨f0, f1, f2, f3, f4, f5, f6, f7⟩ := froz8 t1.out.hp
                obtain ⟨W5, hW5, hp5, hb5⟩ := put_resC t1.out hq'.out (.int .i64 0) (.int .i64 0) (.int .i64 0) (.int .i64 0) (.int .i64 0) (.string ⟨#[]⟩) (.int .i64 0) (.bool false)
                replace hW5 := Lib.hid hW5
                replace hp5 := Lib.hid hp5
                go_wp2_with fail
                rw [← hW5.out]
                clear hW5 d0 d1 d2 d3 d4 d5 d6 d7 f0 f1 f2 f3 f4 f5 f6 f7
                obtain ⟨c0, c1, c2, c3, c4, c5, c6, c7⟩ := MomAt.of_heap hp5.out
                refine bodyPost_ret (v := .tuple #[.agg #[.int .i64 0, .int .i64 0, .int .i64 0, .int .i64 0, .int .i64 0, .string ⟨#[]⟩, .int .i64 0, .bool false], .int .i64 6]) ?ret rfl ?post
                case ret => rw [res_two rfl]; go_simp
                case post => exact ⟨by rw [hR.out]; rfl, hb5⟩
              rw [if_neg (by omega)] at hR0
              obtain ⟨Y, hY⟩ : ∃ Y : Nat, y1 = (Y : Int) := ⟨y1.toNat, by omega⟩
              obtain ⟨Mo, hMo⟩ : ∃ Y : Nat, m1 = (Y : Int) := ⟨m1.toNat, by omega⟩
              subst hY hMo
              obtain ⟨L, hLn⟩ : ∃ L, L = lenM Y Mo := ⟨_, rfl⟩
              have hLb : L ≤ 31 := by rw [hLn]; exact lenM_le31 Y Mo
              obtain ⟨D, hD⟩ : ∃ D : Int, min d (L : Int) = D := ⟨_, rfl⟩
              rw [Int.toNat_natCast, Int.toNat_natCast, ← hLn] at hR0
              have hR : Hid (addMonthsP ⟨y, mo, d, h, mi, s.data.toList, z, has⟩ n = (⟨Y, Mo, D, h, mi, s.data.toList, z, has⟩, 0)) := Lib.hid (by rw [hR0, ← hD])
              clear hR0
              have hle := Lib.hid (fun w => (show Calls Tryz.prog 60 #[.int .i64 (Y : Int), .int .i64 (Mo : Int)] w fun e w' => e = .returned (.int .i64 (L : Int)) ∧ w = w' by rw [hLn]; exact Days_r Y Mo w))
              replace hLn := Lib.hid hLn
              have f2 := (froz8 t1.out.hq).2.2.1
              go_upto_region 19 with fail
              go_cut [1] from 58 to 66 (fun v wx => v = .int .i64 0 ∧ wx = (w1.setCell ⟨q, 2, none⟩ (.int .i64 D)).drew)
              case first =>
                go_region_with (first
                  | (go_at_call 60; refine (hle.out _).mono ?_; rintro e w6 ⟨rfl, rfl⟩))
                all_goals (go_wp2_with fail; go_meet; exact ⟨rfl, rfl⟩)
              obtain ⟨rfl, hw⟩ := hcut
              have hT5 := (t1.out.set hq'.out 2 (.int .i64 D) rfl).later ((Below.refl _ _).drew)
              rw [← hw] at hT5
              clear hw c0 c1 c2 c3 c4 c5 c6 c7 f2 t1
              obtain ⟨c0, c1, c2, c3, c4, c5, c6, c7⟩ := hT5.mom
              obtain ⟨d0, d1, d2, d3, d4, d5, d6, d7⟩ := hT5.res
              obtain ⟨f0, f1, f2, f3, f4, f5, f6, f7⟩ := froz8 hT5.hp
              obtain ⟨W5, hW5, hp5, hb5⟩ := put_resC hT5 hq'.out (.int .i64 (Y : Int)) (.int .i64 (Mo : Int)) (.int .i64 D) (.int .i64 h) (.int .i64 mi) (.string s) (.int .i64 z) (.bool has)
              replace hW5 := Lib.hid hW5
              replace hp5 := Lib.hid hp5
              clear hT5
              go_wp2_with fail
              rw [← hW5.out]
              clear hW5 d0 d1 d2 d3 d4 d5 d6 d7 f0 f1 f2 f3 f4 f5 f6 f7 c0 c1 c2 c3 c4 c5 c6 c7
              obtain ⟨c0, c1, c2, c3, c4, c5, c6, c7⟩ := MomAt.of_heap hp5.out
              refine bodyPost_ret (v := .tuple #[.agg #[.int .i64 (Y : Int), .int .i64 (Mo : Int), .int .i64 D, .int .i64 h, .int .i64 mi, .string s, .int .i64 z, .bool has], .int .i64 0]) ?ret rfl ?post
              case ret => rw [res_two rfl]; go_simp
              case post => exact ⟨by rw [hR.out]; rfl, hb5⟩
end Go.Proofs.YtgobpoeccdgeiaaGreatDoor
