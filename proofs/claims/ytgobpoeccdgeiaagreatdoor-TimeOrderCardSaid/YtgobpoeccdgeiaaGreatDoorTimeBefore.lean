/- chisellaw07.before: which of two moments has the earlier local time. (Printed by genbefore.py.) -/
import Derived.Test.YtgobpoeccdgeiaaGreatDoorOe
import Derived.Deep.CutRange
import Derived.BigRegion
import Derived.Deep.QuietTactic
import Derived.BigQuiet
import Derived.Deep.RegionHeld3
namespace Go.Proofs.YtgobpoeccdgeiaaGreatDoor
open Go.RowKit NumP DurP TimeP Go.Proofs.YtgobpoeccdgeiaaGreatDoorW.PrintWords
set_option linter.unusedVariables false

/-- The five numbers of a moment. -/
def xsI (m : MB) : Nat → Int
  | 0 => m.y
  | 1 => m.mo
  | 2 => m.d
  | 3 => m.h
  | _ => m.mi
theorem before_is (a b : MB) : beforeP a.P b.P = decide (a.y < b.y ∨ a.y = b.y ∧ (a.mo < b.mo ∨ a.mo = b.mo ∧ (a.d < b.d ∨ a.d = b.d ∧ (a.h < b.h ∨ a.h = b.h ∧ (a.mi < b.mi ∨ a.mi = b.mi ∧ (cmpT a.s.data.toList b.s.data.toList).1 < 0))))) := rfl
theorem before_first {a b : MB} {k : Nat} (hk : k < 5) (h : ∀ j, j < k → xsI a j = xsI b j) (hn : xsI a k ≠ xsI b k) : beforeP a.P b.P = decide (xsI a k < xsI b k) := by
  rw [before_is]
  generalize (cmpT a.s.data.toList b.s.data.toList).1 = c
  apply decide_eq_decide.2
  have h0 : 0 < k → a.y = b.y := fun hj => h 0 hj
  have h1 : 1 < k → a.mo = b.mo := fun hj => h 1 hj
  have h2 : 2 < k → a.d = b.d := fun hj => h 2 hj
  have h3 : 3 < k → a.h = b.h := fun hj => h 3 hj
  have hc : k = 0 ∨ k = 1 ∨ k = 2 ∨ k = 3 ∨ k = 4 := by omega
  clear h
  rcases hc with rfl | rfl | rfl | rfl | rfl
  · have hn : a.y ≠ b.y := hn
    show _ ↔ a.y < b.y
    constructor
    · intro e; omega
    · intro e; exact Or.inl e
  · have hn : a.mo ≠ b.mo := hn
    have h0 := h0 (by decide)
    show _ ↔ a.mo < b.mo
    constructor
    · intro e; omega
    · intro e; exact Or.inr ⟨h0, Or.inl e⟩
  · have hn : a.d ≠ b.d := hn
    have h0 := h0 (by decide)
    have h1 := h1 (by decide)
    show _ ↔ a.d < b.d
    constructor
    · intro e; omega
    · intro e; exact Or.inr ⟨h0, Or.inr ⟨h1, Or.inl e⟩⟩
  · have hn : a.h ≠ b.h := hn
    have h0 := h0 (by decide)
    have h1 := h1 (by decide)
    have h2 := h2 (by decide)
    show _ ↔ a.h < b.h
    constructor
    · intro e; omega
    · intro e; exact Or.inr ⟨h0, Or.inr ⟨h1, Or.inr ⟨h2, Or.inl e⟩⟩⟩
  · have hn : a.mi ≠ b.mi := hn
    have h0 := h0 (by decide)
    have h1 := h1 (by decide)
    have h2 := h2 (by decide)
    have h3 := h3 (by decide)
    show _ ↔ a.mi < b.mi
    constructor
    · intro e; omega
    · intro e; exact Or.inr ⟨h0, Or.inr ⟨h1, Or.inr ⟨h2, Or.inr ⟨h3, Or.inl e⟩⟩⟩⟩
theorem before_last {a b : MB} (h : ∀ j, j < 5 → xsI a j = xsI b j) : beforeP a.P b.P = decide ((cmpT a.s.data.toList b.s.data.toList).1 < 0) := by
  rw [before_is]
  generalize (cmpT a.s.data.toList b.s.data.toList).1 = c
  have h0 : a.y = b.y := h 0 (by decide)
  have h1 : a.mo = b.mo := h 1 (by decide)
  have h2 : a.d = b.d := h 2 (by decide)
  have h3 : a.h = b.h := h 3 (by decide)
  have h4 : a.mi = b.mi := h 4 (by decide)
  apply decide_eq_decide.2
  constructor
  · intro e; omega
  · intro e; exact Or.inr ⟨h0, Or.inr ⟨h1, Or.inr ⟨h2, Or.inr ⟨h3, Or.inr ⟨h4, e⟩⟩⟩⟩⟩
/-- What is known in the round k of before. -/
structure BefAt (W : World) (q r px py : Nat) (a b : MB) (w : World) : Prop where
  ha : MoAt w q a.y a.mo a.d a.h a.mi a.s a.z a.has
  hb : MoAt w r b.y b.mo b.d b.h b.mi b.s b.z b.has
  hx : w.heap[px]? = some (.cells #[.int .i64 a.y, .int .i64 a.mo, .int .i64 a.d, .int .i64 a.h, .int .i64 a.mi] 83 (0, 0))
  hy : w.heap[py]? = some (.cells #[.int .i64 b.y, .int .i64 b.mo, .int .i64 b.d, .int .i64 b.h, .int .i64 b.mi] 83 (0, 0))
  bel : Below W.heap.size W w
theorem BefAt.cx {W : World} {q r px py : Nat} {a b : MB} {w : World} (t : BefAt W q r px py a b w) {k : Nat} (hk : k < 5) : w.cell? ⟨px, k, none⟩ = some (.int .i64 (xsI a k)) := by
  have hc : k = 0 ∨ k = 1 ∨ k = 2 ∨ k = 3 ∨ k = 4 := by omega
  rcases hc with rfl | rfl | rfl | rfl | rfl <;> (rw [Lib.cell_of_heap t.hx]; rfl)
theorem BefAt.cy {W : World} {q r px py : Nat} {a b : MB} {w : World} (t : BefAt W q r px py a b w) {k : Nat} (hk : k < 5) : w.cell? ⟨py, k, none⟩ = some (.int .i64 (xsI b k)) := by
  have hc : k = 0 ∨ k = 1 ∨ k = 2 ∨ k = 3 ∨ k = 4 := by omega
  rcases hc with rfl | rfl | rfl | rfl | rfl <;> (rw [Lib.cell_of_heap t.hy]; rfl)
theorem BefAt.drew {W : World} {q r px py : Nat} {a b : MB} {w : World} (t : BefAt W q r px py a b w) (n : Nat) : BefAt W q r px py a b (w.drewN n) := ⟨t.ha, t.hb, t.hx, t.hy, below_drewN t.bel n⟩
theorem two_arr (w : World) (X Y : Array Value) (T : TypeId) : (((w.alloc (.cells X T)).alloc (.cells Y T)).drew).heap[w.heap.size]? = some (.cells X T (0, 0)) ∧ (((w.alloc (.cells X T)).alloc (.cells Y T)).drew).heap[w.heap.size + 1]? = some (.cells Y T (0, 0)) ∧ Below w.heap.size w (((w.alloc (.cells X T)).alloc (.cells Y T)).drew) := by
  refine ⟨?_, ?_, (((Below.refl _ _).alloc (Nat.le_refl _) _).alloc (by simp) _).drew⟩
  · show ((w.alloc (.cells X T)).alloc (.cells Y T)).heap[w.heap.size]? = _
    rw [(MapKept.heap_alloc _ _).2 _ (by simp)]
    exact (MapKept.heap_alloc _ _).1
  · show ((w.alloc (.cells X T)).alloc (.cells Y T)).heap[w.heap.size + 1]? = _
    rw [show w.heap.size + 1 = (w.alloc (.cells X T)).heap.size by simp]
    exact (MapKept.heap_alloc _ _).1
theorem bef_ab {W w1 : World} {q r : Nat} {a b : MB} (hB : Below W.heap.size W w1) (ha : MoAt w1 q a.y a.mo a.d a.h a.mi a.s a.z a.has) (hb : MoAt w1 r b.y b.mo b.d b.h b.mi b.s b.z b.has) : BefAt W q r w1.heap.size (w1.heap.size + 1) a b (((w1.alloc (.cells #[.int .i64 a.y, .int .i64 a.mo, .int .i64 a.d, .int .i64 a.h, .int .i64 a.mi] 83)).alloc (.cells #[.int .i64 b.y, .int .i64 b.mo, .int .i64 b.d, .int .i64 b.h, .int .i64 b.mi] 83)).drew) := by
  obtain ⟨h1, h2, h3⟩ := two_arr w1 #[.int .i64 a.y, .int .i64 a.mo, .int .i64 a.d, .int .i64 a.h, .int .i64 a.mi] #[.int .i64 b.y, .int .i64 b.mo, .int .i64 b.d, .int .i64 b.h, .int .i64 b.mi] 83
  exact ⟨(h3.block q (heap_lt ha)).trans ha, (h3.block r (heap_lt hb)).trans hb, h1, h2, hB.trans (h3.mono hB.size)⟩
theorem bef_ba {W w1 : World} {q r : Nat} {a b : MB} (hB : Below W.heap.size W w1) (ha : MoAt w1 q a.y a.mo a.d a.h a.mi a.s a.z a.has) (hb : MoAt w1 r b.y b.mo b.d b.h b.mi b.s b.z b.has) : BefAt W q r (w1.heap.size + 1) w1.heap.size a b (((w1.alloc (.cells #[.int .i64 b.y, .int .i64 b.mo, .int .i64 b.d, .int .i64 b.h, .int .i64 b.mi] 83)).alloc (.cells #[.int .i64 a.y, .int .i64 a.mo, .int .i64 a.d, .int .i64 a.h, .int .i64 a.mi] 83)).drew) := by
  obtain ⟨h1, h2, h3⟩ := two_arr w1 #[.int .i64 b.y, .int .i64 b.mo, .int .i64 b.d, .int .i64 b.h, .int .i64 b.mi] #[.int .i64 a.y, .int .i64 a.mo, .int .i64 a.d, .int .i64 a.h, .int .i64 a.mi] 83
  exact ⟨(h3.block q (heap_lt ha)).trans ha, (h3.block r (heap_lt hb)).trans hb, h2, h1, hB.trans (h3.mono hB.size)⟩
set_option maxRecDepth 100000 in
set_option maxHeartbeats 4000000 in
theorem before_c (a b : MB) (W : World) (hL : LaidT W) (ha : a.s.size ≤ 1000) (hb : b.s.size ≤ 1000) : Calls Tryz.prog 31 #[.agg #[.int .i64 a.y, .int .i64 a.mo, .int .i64 a.d, .int .i64 a.h, .int .i64 a.mi, .string a.s, .int .i64 a.z, .bool a.has], .agg #[.int .i64 b.y, .int .i64 b.mo, .int .i64 b.d, .int .i64 b.h, .int .i64 b.mi, .string b.s, .int .i64 b.z, .bool b.has]] W fun e w' => e = .returned (.bool (beforeP a.P b.P)) ∧ Below W.heap.size W w' := by
  obtain ⟨q, hq⟩ : ∃ q, q = W.heap.size := ⟨_, rfl⟩
  obtain ⟨r, hr⟩ : ∃ r, r = q + 1 := ⟨_, rfl⟩
  obtain ⟨w0, hw0⟩ : ∃ w, w = W.alloc (.cells #[.int .i64 a.y, .int .i64 a.mo, .int .i64 a.d, .int .i64 a.h, .int .i64 a.mi, .string a.s, .int .i64 a.z, .bool a.has] 24) := ⟨_, rfl⟩
  obtain ⟨w1, hw⟩ : ∃ w, w = w0.alloc (.cells #[.int .i64 b.y, .int .i64 b.mo, .int .i64 b.d, .int .i64 b.h, .int .i64 b.mi, .string b.s, .int .i64 b.z, .bool b.has] 24) := ⟨_, rfl⟩
  have hs0 : w0.heap.size = r := by rw [hw0, hr, hq]; simp
  have hB1 : Hid (Below W.heap.size W w1) := Lib.hid (by rw [hw, hw0]; exact ((Below.refl _ _).alloc (Nat.le_refl _) _).alloc (by simp) _)
  have hMq1 : Hid (MoAt w1 q a.y a.mo a.d a.h a.mi a.s a.z a.has) := Lib.hid (by unfold MoAt; rw [hw, (MapKept.heap_alloc _ _).2 q (by omega), hw0, hq]; exact (MapKept.heap_alloc _ _).1)
  have hMr1 : Hid (MoAt w1 r b.y b.mo b.d b.h b.mi b.s b.z b.has) := Lib.hid (by rw [hw, ← hs0]; exact (MapKept.heap_alloc _ _).1)
  have hL1 := Lib.hid (hL.below hB1.out hL.size)
  subst hw0
  replace hs0 := Lib.hid hs0
  replace hr := Lib.hid hr
  replace hL := Lib.hid hL
  go_enter Tryz.func31, Tryz.ntmps31
  go_upto_region 1 with fail
  rw [← hw, ← hq, ← hr.out]
  clear hw
  replace hq := Lib.hid hq
  go_cut [5, 6] from 10 to 31 (fun v5 v6 wx => ∃ px py : Nat, v5 = .pointer (some ⟨px, 0, none⟩) ∧ v6 = .pointer (some ⟨py, 0, none⟩) ∧ Hid (BefAt W q r px py a b wx))
  case first =>
    obtain ⟨c0, c1, c2, c3, c4, -, -, -⟩ := MomAt.of_heap hMq1.out
    obtain ⟨d0, d1, d2, d3, d4, -, -, -⟩ := MomAt.of_heap hMr1.out
    have lq := heap_lt hMq1.out
    have lr := heap_lt hMr1.out
    have nq : ¬ q = w1.heap.size := Nat.ne_of_lt lq
    have nr : ¬ r = w1.heap.size := Nat.ne_of_lt lr
    have lq2 : q < w1.heap.size + 1 := by omega
    have lr2 : r < w1.heap.size + 1 := by omega
    have nq2 : ¬ q = w1.heap.size + 1 := by omega
    have nr2 : ¬ r = w1.heap.size + 1 := by omega
    go_region_held3 (fun w' => w'.cell? ⟨q, 0, none⟩ = some (.int .i64 a.y) ∧ w'.cell? ⟨q, 1, none⟩ = some (.int .i64 a.mo) ∧ w'.cell? ⟨q, 2, none⟩ = some (.int .i64 a.d) ∧ w'.cell? ⟨q, 3, none⟩ = some (.int .i64 a.h) ∧ w'.cell? ⟨q, 4, none⟩ = some (.int .i64 a.mi) ∧ w'.cell? ⟨r, 0, none⟩ = some (.int .i64 b.y) ∧ w'.cell? ⟨r, 1, none⟩ = some (.int .i64 b.mo) ∧ w'.cell? ⟨r, 2, none⟩ = some (.int .i64 b.d) ∧ w'.cell? ⟨r, 3, none⟩ = some (.int .i64 b.h) ∧ w'.cell? ⟨r, 4, none⟩ = some (.int .i64 b.mi)) (go_keep) (fail)
    · go_wp2_with fail
      go_meet
      exact ⟨_, _, rfl, rfl, Lib.hid (bef_ab hB1.out hMq1.out hMr1.out)⟩
    · go_wp2_with fail
      go_meet
      exact ⟨_, _, rfl, rfl, Lib.hid (bef_ba hB1.out hMq1.out hMr1.out)⟩
  obtain ⟨px, py, rfl, rfl, hbef⟩ := hcut
  clear hMq1 hMr1 hB1 hL1 hr hq hs0
  have hcm : Hid (∀ w, LaidT w → Calls Tryz.prog 30 #[.string a.s, .string b.s] w fun e w' => e = .returned (.tuple #[.int .i64 (cmpT a.s.data.toList b.s.data.toList).1, .int .i64 (cmpT a.s.data.toList b.s.data.toList).2]) ∧ Below w.heap.size w w') := Lib.hid (fun w hw => Cmp_b a.s b.s w hw.base.num (by unfold maxLen; omega) (by unfold maxLen; omega))
  obtain ⟨⟨cn, ck⟩, hcc⟩ : ∃ c, c = cmpT a.s.data.toList b.s.data.toList := ⟨_, rfl⟩
  rw [← hcc] at hcm
  replace hcc := Lib.hid hcc
  replace ha := Lib.hid ha
  replace hb := Lib.hid hb
  go_wp2_with fail
  go_loopw [32] (fun v wr => ∃ k : Nat, k ≤ 5 ∧ v = .int .i64 (k : Int) ∧ Hid ((∀ j, j < k → xsI a j = xsI b j) ∧ BefAt W q r px py a b wr)) (fun v _ => 5 - (intOf v).toNat)
  case atStart => exact ⟨0, by decide, rfl, Lib.hid ⟨fun j hj => absurd hj (Nat.not_lt_zero j), hbef.out⟩⟩
  case round =>
    obtain ⟨k, hk5, rfl, hH⟩ := hrel
    by_cases hlt : k < 5
    · have gk : ((k : Int) < 5) := by omega
      have cx := hH.out.2.cx hlt
      have cy := hH.out.2.cy hlt
      obtain ⟨X, hX⟩ : ∃ X, X = xsI a k := ⟨_, rfl⟩
      obtain ⟨Y, hY⟩ : ∃ Y, Y = xsI b k := ⟨_, rfl⟩
      rw [← hX] at cx
      rw [← hY] at cy
      by_cases hne : X = Y
      · have g1 : (X != Y) = false := by simpa using hne
        have hN : Hid (∀ n, (∀ j, j < k + 1 → xsI a j = xsI b j) ∧ BefAt W q r px py a b (wr.drewN n)) := Lib.hid (fun n => ⟨fun j hj => by
          rcases Nat.lt_succ_iff_lt_or_eq.1 hj with h | h
          · exact hH.out.1 j h
          · rw [h, ← hX, ← hY, hne], hH.out.2.drew n⟩)
        replace hne := Lib.hid hne
        replace hX := Lib.hid hX
        replace hY := Lib.hid hY
        clear hbef
        go_wp2_with fail
        go_quiet (fail)
        go_wp2_with fail
        go_roundw
        case rel => exact ⟨k + 1, by omega, by go_num, Lib.hid (hN.out _)⟩
        case measure => simp [intOf]; omega
      · have g1 : (X != Y) = true := by simpa using hne
        have hV : Hid (beforeP a.P b.P = decide (X < Y)) := Lib.hid (by rw [before_first hlt hH.out.1 (by rw [← hX, ← hY]; exact hne), hX, hY])
        replace hne := Lib.hid hne
        replace hX := Lib.hid hX
        replace hY := Lib.hid hY
        go_wp2_with fail
        go_quiet (fail)
        go_wp2_with fail
        obtain ⟨w5, hw5⟩ : ∃ w5, w5 = wr.drewN nq := ⟨_, rfl⟩
        have cx5 : w5.cell? ⟨px, k, none⟩ = some (.int .i64 X) := by rw [hw5]; exact cx
        have cy5 : w5.cell? ⟨py, k, none⟩ = some (.int .i64 Y) := by rw [hw5]; exact cy
        have hbb : Hid (Below W.heap.size W w5) := Lib.hid (by rw [hw5]; exact below_drewN hH.out.2.bel _)
        rw [← hw5]
        clear hw5 cx cy
        go_quiet (fail)
        go_wp2_with fail
        go_ret
        exact ⟨by rw [hV.out]; rfl, below_drewN hbb.out _⟩
    · obtain rfl : k = 5 := by omega
      have hV : Hid (beforeP a.P b.P = decide (cn < 0)) := Lib.hid (by rw [before_last hH.out.1, ← hcc.out])
      obtain ⟨-, -, -, -, -, c5, -, -⟩ := MomAt.of_heap hH.out.2.ha
      obtain ⟨-, -, -, -, -, d5, -, -⟩ := MomAt.of_heap hH.out.2.hb
      have hLr : Hid (LaidT wr) := Lib.hid (hL.out.below hH.out.2.bel hL.out.size)
      have hbb : Hid (Below W.heap.size W wr) := Lib.hid hH.out.2.bel
      clear hbef hH
      go_wp2_with fail
      refine (hcm.out _ hLr.out).mono ?_
      rintro e w6 ⟨rfl, hb6⟩
      go_wp2_with fail
      go_ret
      exact ⟨by rw [hV.out]; rfl, hbb.out.trans (hb6.mono hbb.out.size)⟩
end Go.Proofs.YtgobpoeccdgeiaaGreatDoor
