/- Package chiselref04: two. Package chiselref04: the functions on digits in one form; sum. Package chiselref04: Add, Sub, Neg, Mul. Package chiselref04: div. Package chiselref04: IDiv, Mod. -/
import Derived.Test.YtgobpoeccdgeiaaGreatDoorQl
import Derived.RegionTactic
import Derived.BigRegion
import Derived.Test.YtgobpoeccdgeiaaGreatDoorQk
import Derived.Deep.RegionHeld3
import Derived.Deep.AppendLies
import Derived.Deep.RegionLaw
import Derived.Deep.CutRange

namespace Go.Proofs.YtgobpoeccdgeiaaGreatDoor
open Go.RowKit NumP DigP DurP Go.Proofs.YtgobpoeccdgeiaaGreatDoorW.PrintWords
set_option linter.unusedVariables false

theorem res_three {fn : Func} {p p2 t : Tmp} {ty ty2 : TypeId} (h : fn.results = #[.cell p ty, .cell p2 ty2, .tmp t]) (tmps : Array Value) (P : Program) (w : World) :
    (results fn tmps).run P w = ((asAddr (tmps.getD p undef)).run P w).andThen fun a w₁ => ((loadVar ty a).run P w₁).andThen fun v w₂ => ((asAddr (tmps.getD p2 undef)).run P w₂).andThen fun a2 w₃ => ((loadVar ty2 a2).run P w₃).andThen fun v2 w₄ => .ok (.tuple #[v, v2, tmps.getD t undef]) w₄ := by
  simp only [results, h]
  simp [Sem.run_bind, Result.andThen]
/-- What Canonical says of a number. -/
structure CanOf (w : World) (r : NumP.R) (b : Bool) (A : Option Addr) (k c : Nat) (ok : Bool) : Prop where
  yes : ok = true → ∃ d, r = .ok ⟨b, d⟩ ∧ k = lenD d ∧ DAt w (.slice A k c) (lenD d) d ∧ lenD d ≤ 50
  no : ok = false → ∃ k, r = .error k
theorem CanOf.below {w w' : World} {r : NumP.R} {b : Bool} {A : Option Addr} {k c : Nat} {ok : Bool} (h : CanOf w r b A k c ok) (hb : Below w.heap.size w w') : CanOf w' r b A k c ok :=
  ⟨fun e => by obtain ⟨d, h1, h2, h3, h4⟩ := h.yes e; exact ⟨d, h1, h2, h3.below hb, h4⟩, h.no⟩
theorem CanOf.put {w : World} {r : NumP.R} {b : Bool} {A : Option Addr} {k c : Nat} {ok : Bool} (h : CanOf w r b A k c ok) {a : Addr} {x : Value} (hx : w.cell? a = some x) (hn : ∀ d : Nat, x ≠ .int .i64 (d : Int)) (u : Value) : CanOf (w.setCell a u) r b A k c ok :=
  ⟨fun e => by obtain ⟨d, h1, h2, h3, h4⟩ := h.yes e; exact ⟨d, h1, h2, h3.put hx hn u, h4⟩, h.no⟩
theorem can_of (s : ByteArray) (W : World) (hs : s.size ≤ maxLen) : Calls Tryz.prog 109 #[.string s] W fun e w' => Below W.heap.size W w' ∧ ∃ b A k c ok, e = .returned (.tuple #[.agg #[.bool b, .slice A k c], .bool ok]) ∧ CanOf w' (canonN s.data.toList) b A k c ok := by
  refine (can_r s W hs).mono ?_
  rintro e w ⟨hb, h⟩
  refine ⟨hb, ?_⟩
  cases hr : canonN s.data.toList with
  | error k =>
    rw [hr] at h
    exact ⟨false, none, 0, 0, false, h, fun e => by (cases e), fun _ => ⟨k, rfl⟩⟩
  | ok x =>
    rw [hr] at h
    obtain ⟨v, e, hd⟩ := h
    obtain ⟨A, c, rfl, -⟩ := hd.at_
    exact ⟨x.neg, A, lenD x.d, c, true, e, fun _ => ⟨x.d, rfl, rfl, hd, lenD_50 (canonN_lt hr)⟩, fun e => by (cases e)⟩
def TwoPost (W : World) (r1 r2 : NumP.R) (e : Ending) (w' : World) : Prop := Below W.heap.size W w' ∧ ∃ b A k c b2 A2 k2 c2 ok ok2, e = .returned (.tuple #[.agg #[.bool b, .slice A k c], .agg #[.bool b2, .slice A2 k2 c2], .bool (ok && ok2)]) ∧ CanOf w' r1 b A k c ok ∧ CanOf w' r2 b2 A2 k2 c2 ok2
set_option maxHeartbeats 4000000 in
set_option maxRecDepth 100000 in
theorem two_r (s t : ByteArray) (W : World) (hs : s.size ≤ maxLen) (ht : t.size ≤ maxLen) : Calls Tryz.prog 95 #[.string s, .string t] W (TwoPost W (canonN s.data.toList) (canonN t.data.toList)) := by
  obtain ⟨R1, hR1⟩ : ∃ R, R = canonN s.data.toList := ⟨_, rfl⟩
  obtain ⟨R2, hR2⟩ : ∃ R, R = canonN t.data.toList := ⟨_, rfl⟩
  have c1 := fun W => can_of s W hs
  have c2 := fun W => can_of t W ht
  rw [← hR1] at c1 ⊢
  rw [← hR2] at c2 ⊢
  clear hR1 hR2
  obtain ⟨W1, hW1, hb1, hz1, hq0, hq1⟩ := box_num W false
  obtain ⟨q, hq⟩ : ∃ q, q = W.heap.size := ⟨_, rfl⟩
  rw [← hq] at hz1 hq0 hq1
  replace c1 := Lib.hid c1
  replace c2 := Lib.hid c2
  replace hb1 := Lib.hid hb1
  replace hz1 := Lib.hid hz1
  replace hq0 := Lib.hid hq0
  replace hq1 := Lib.hid hq1
  go_enter Tryz.func95, Tryz.ntmps95
  go_wp2_with fail
  rw [← hW1, ← hq]
  clear hW1
  replace hq := Lib.hid hq
  refine (c1.out W1).mono ?_
  rintro e w2 ⟨hb2, b1, A1, k1, x1, ok1, rfl, hc1⟩
  replace hb2 := Lib.hid hb2
  replace hc1 := Lib.hid hc1
  go_wp2_with fail
  obtain ⟨W3, hW3⟩ : ∃ w, w = w2.alloc (.cells #[.bool b1, .slice A1 k1 x1] 122) := ⟨_, rfl⟩
  obtain ⟨p, hp⟩ : ∃ p, p = w2.heap.size := ⟨_, rfl⟩
  rw [← hW3, ← hp]
  have hb3 : Hid (Below w2.heap.size w2 W3) := Lib.hid (by rw [hW3]; exact (Below.refl _ _).alloc (Nat.le_refl _) _)
  have hp3 : Hid (W3.heap[p]? = some (.cells #[.bool b1, .slice A1 k1 x1] 122 (0, 0))) := Lib.hid (by rw [hW3, hp]; exact (MapKept.heap_alloc _ _).1)
  replace hp := Lib.hid hp
  replace hW3 := Lib.hid hW3
  refine (c2.out W3).mono ?_
  rintro e w4 ⟨hb4, b2, A2, k2, x2, ok2, rfl, hc2⟩
  replace hb4 := Lib.hid hb4
  replace hc2 := Lib.hid hc2
  go_upto_region 3 with fail
  obtain ⟨W5, hW5⟩ : ∃ w, w = w4.alloc (.cells #[.bool b2, .slice A2 k2 x2] 122) := ⟨_, rfl⟩
  obtain ⟨r, hr⟩ : ∃ p, p = w4.heap.size := ⟨_, rfl⟩
  rw [← hW5, ← hr]
  have hb5 : Hid (Below w4.heap.size w4 W5) := Lib.hid (by rw [hW5]; exact (Below.refl _ _).alloc (Nat.le_refl _) _)
  have hr5 : W5.heap[r]? = some (.cells #[.bool b2, .slice A2 k2 x2] 122 (0, 0)) := by rw [hW5, hr]; exact (MapKept.heap_alloc _ _).1
  replace hr := Lib.hid hr
  clear hW5
  have hb35 : Hid (Below W3.heap.size W3 W5) := Lib.hid (hb4.out.trans (hb5.out.mono hb4.out.size))
  have hb25 : Hid (Below w2.heap.size w2 W5) := Lib.hid (hb3.out.trans (hb35.out.mono hb3.out.size))
  have hb15 : Hid (Below W1.heap.size W1 W5) := Lib.hid (hb2.out.trans (hb25.out.mono hb2.out.size))
  have hb05 : Hid (Below W.heap.size W W5) := Lib.hid (hb1.out.trans (hb15.out.mono hb1.out.size))
  have hp5 := (hb35.out.block _ (heap_lt hp3.out)).trans hp3.out
  have hq05 := (hb15.out.block _ (heap_lt hq0.out)).trans hq0.out
  have hq15 := (hb15.out.block _ (heap_lt hq1.out)).trans hq1.out
  have hd1 : Hid (CanOf W5 R1 b1 A1 k1 x1 ok1) := Lib.hid (hc1.out.below hb25.out)
  have hd2 : Hid (CanOf W5 R2 b2 A2 k2 x2 ok2) := Lib.hid (hc2.out.below hb5.out)
  have n1 : p ≠ q := by have := hb2.out.size; have := hz1.out; have := hp.out; omega
  have n2 : p ≠ q + 1 := by have := hb2.out.size; have := hz1.out; have := hp.out; omega
  have n3 : r ≠ q := by have := hb2.out.size; have := hb3.out.size; have := hb4.out.size; have := hz1.out; have := hp.out; have := hr.out; omega
  have n4 : r ≠ q + 1 := by have := hb2.out.size; have := hb3.out.size; have := hb4.out.size; have := hz1.out; have := hp.out; have := hr.out; omega
  obtain ⟨⟨u0, u1⟩, -⟩ := cells2 hp5
  obtain ⟨⟨v0, v1⟩, -⟩ := cells2 hr5
  obtain ⟨⟨y0, y1⟩, fy⟩ := cells2 hq05
  obtain ⟨⟨z0, z1⟩, fz⟩ := cells2 hq15
  have f0 := fy 0
  have f1 := fy 1
  have g0 := fz 0
  have g1 := fz 1
  have hge : Hid (W.heap.size ≤ q) := Lib.hid (Nat.le_of_eq hq.out.symm)
  have hfin : Hid (∀ w6, (w6 = (((W5.setCell ⟨q, 0, none⟩ (.bool b1)).setCell ⟨q, 1, none⟩ (.slice A1 k1 x1)).setCell ⟨q + 1, 0, none⟩ (.bool b2)).setCell ⟨q + 1, 1, none⟩ (.slice A2 k2 x2)) → w6.heap[q]? = some (.cells #[.bool b1, .slice A1 k1 x1] 122 (0, 0)) ∧ w6.heap[q + 1]? = some (.cells #[.bool b2, .slice A2 k2 x2] 122 (0, 0)) ∧ Below W.heap.size W w6 ∧ CanOf w6 R1 b1 A1 k1 x1 ok1 ∧ CanOf w6 R2 b2 A2 k2 x2 ok2) := Lib.hid (fun w6 e => by
    obtain ⟨w7, e7, s1, s2, s3⟩ := put2 hq05 (.bool b1) (.slice A1 k1 x1) (B := W.heap.size) hge.out
    have t1 : w7.heap[q + 1]? = some (.cells #[.bool false, .slice none 0 0] 122 (0, 0)) := by rw [s3 (q + 1) (by omega)]; exact hq15
    obtain ⟨w8, e8, s4, s5, s6⟩ := put2 t1 (.bool b2) (.slice A2 k2 x2) (B := W.heap.size) (Nat.le_succ_of_le hge.out)
    have ew : w6 = w8 := by rw [e, e8, e7]
    have m1 := cells2 (Lib.heap_setCell_same (i := 0) hq05 (.bool b1))
    have m2 := cells2 t1
    have m3 := cells2 (Lib.heap_setCell_same (i := 0) t1 (.bool b2))
    have keep : ∀ {R : NumP.R} {b : Bool} {A : Option Addr} {k c : Nat} {ok : Bool}, CanOf W5 R b A k c ok → CanOf w8 R b A k c ok := fun h => by
      have h7 := (h.put y0 (fun d h => by cases h) (.bool b1)).put m1.1.2 (fun d h => by cases h) (.slice A1 k1 x1)
      rw [← e7] at h7
      rw [e8]
      exact (h7.put m2.1.1 (fun d h => by cases h) _).put m3.1.2 (fun d h => by cases h) _
    rw [ew]
    exact ⟨by rw [s6 q (by omega)]; exact s1, s4, hb05.out.trans (s2.trans s5), keep hd1.out, keep hd2.out⟩)
  clear fy fz
  replace hp5 := Lib.hid hp5
  replace hr5 := Lib.hid hr5
  replace hq05 := Lib.hid hq05
  replace hq15 := Lib.hid hq15
  cases ok1 with
  | false =>
    go_region
    obtain ⟨w6, e6⟩ : ∃ w, w = (((W5.setCell ⟨q, 0, none⟩ (.bool b1)).setCell ⟨q, 1, none⟩ (.slice A1 k1 x1)).setCell ⟨q + 1, 0, none⟩ (.bool b2)).setCell ⟨q + 1, 1, none⟩ (.slice A2 k2 x2) := ⟨_, rfl⟩
    rw [← e6]
    obtain ⟨j1, j2, j3, j4, j5⟩ := hfin.out w6 e6
    obtain ⟨⟨i0, i1⟩, -⟩ := cells2 j1
    obtain ⟨⟨i2, i3⟩, -⟩ := cells2 j2
    replace j1 := Lib.hid j1
    replace j2 := Lib.hid j2
    clear e6 u0 u1 v0 v1 y0 y1 z0 z1 f0 f1 g0 g1 hfin
    go_wp2_with fail
    refine bodyPost_ret (v := .tuple #[.agg #[.bool b1, .slice A1 k1 x1], .agg #[.bool b2, .slice A2 k2 x2], .bool false]) ?ret rfl ?post
    case ret => rw [res_three rfl]; go_simp
    case post => exact ⟨j3.drew, b1, A1, k1, x1, b2, A2, k2, x2, false, ok2, rfl, j4.below ((Below.refl _ _).drew), j5.below ((Below.refl _ _).drew)⟩
  | true =>
    go_region
    obtain ⟨w6, e6⟩ : ∃ w, w = (((W5.setCell ⟨q, 0, none⟩ (.bool b1)).setCell ⟨q, 1, none⟩ (.slice A1 k1 x1)).setCell ⟨q + 1, 0, none⟩ (.bool b2)).setCell ⟨q + 1, 1, none⟩ (.slice A2 k2 x2) := ⟨_, rfl⟩
    rw [← e6]
    obtain ⟨j1, j2, j3, j4, j5⟩ := hfin.out w6 e6
    obtain ⟨⟨i0, i1⟩, -⟩ := cells2 j1
    obtain ⟨⟨i2, i3⟩, -⟩ := cells2 j2
    replace j1 := Lib.hid j1
    replace j2 := Lib.hid j2
    clear e6 u0 u1 v0 v1 y0 y1 z0 z1 f0 f1 g0 g1 hfin
    go_wp2_with fail
    refine bodyPost_ret (v := .tuple #[.agg #[.bool b1, .slice A1 k1 x1], .agg #[.bool b2, .slice A2 k2 x2], .bool ok2]) ?ret rfl ?post
    case ret => rw [res_three rfl]; go_simp
    case post => exact ⟨j3.drew, b1, A1, k1, x1, b2, A2, k2, x2, true, ok2, rfl, j4.below ((Below.refl _ _).drew), j5.below ((Below.refl _ _).drew)⟩
end Go.Proofs.YtgobpoeccdgeiaaGreatDoor

namespace Go.Proofs.YtgobpoeccdgeiaaGreatDoor
open Go.RowKit NumP DigP DurP Go.Proofs.YtgobpoeccdgeiaaGreatDoorW.PrintWords
set_option linter.unusedVariables false

/-- A slice of the k digits of n. -/
def SlPost (W : World) (k n : Nat) (e : Ending) (w' : World) : Prop := ∃ A c, e = .returned (.slice A k c) ∧ DAt w' (.slice A k c) k n ∧ Below W.heap.size W w'
theorem sl_of {W w' : World} {k n : Nat} {e : Ending} {v : Value} (he : e = .returned v) (hd : DAt w' v k n) (hb : Below W.heap.size W w') : SlPost W k n e w' := by
  obtain ⟨A, c, rfl, -⟩ := hd.at_
  exact ⟨A, c, he, hd, hb⟩
theorem DgPost.sl {W w' : World} {n : Nat} {e : Ending} (h : DgPost W n e w') : SlPost W (lenD n) n e w' := by
  obtain ⟨v, he, hd, hb⟩ := h
  exact sl_of he hd hb
theorem trim_s (v : Value) (k n : Nat) (W : World) (h : DAt W v k n) (hn : n < 10 ^ k) (hk : k ≤ 1000000) : Calls Tryz.prog 146 #[v] W (SlPost W (lenD n) n) :=
  (trim_r v k n W h hn hk).mono fun _ _ ⟨v', e, hd, hw⟩ => by subst hw; exact sl_of e hd (Below.refl _ _)
theorem zeros_s (v : Value) (k n m : Nat) (W : World) (h : DAt W v k n) (hk : k ≤ 1000) (hm : m ≤ 1000) : Calls Tryz.prog 112 #[v, .int .i64 (m : Int)] W (SlPost W (k + m) (n * 10 ^ m)) :=
  (zeros_r v k n m W h hk hm).mono fun _ _ ⟨v', e, hd, hw⟩ => sl_of e (own_DAt hd) hw
theorem lenD_mono {a b : Nat} (h : a ≤ b) : lenD a ≤ lenD b := (lenD_le a (lenD b)).2 (Nat.lt_of_le_of_lt h (lenD_self b))
theorem lenD_add (a b k : Nat) (ha : lenD a ≤ k) (hb : lenD b ≤ k) : lenD (a + b) ≤ k + 1 := by
  refine (lenD_le _ _).2 ?_
  have h1 := (lenD_le a k).1 ha
  have h2 := (lenD_le b k).1 hb
  rw [Nat.pow_succ]; omega
theorem lenD_mul (a b k j : Nat) (ha : lenD a ≤ k) (hb : lenD b ≤ j) : lenD (a * b) ≤ k + j := by
  refine (lenD_le _ _).2 ?_
  have h1 := (lenD_le a k).1 ha
  have h2 := (lenD_le b j).1 hb
  rw [Nat.pow_add]
  exact Nat.mul_lt_mul'' h1 h2
/-- Two numbers, boxed. -/
theorem box_two4 (W : World) (xn yn : Bool) (vx vy : Value) : ∃ W2, W2 = (W.alloc (.cells #[.bool xn, vx] 122)).alloc (.cells #[.bool yn, vy] 122) ∧ Below W.heap.size W W2 ∧
    W2.heap[W.heap.size]? = some (.cells #[.bool xn, vx] 122 (0, 0)) ∧ W2.heap[W.heap.size + 1]? = some (.cells #[.bool yn, vy] 122 (0, 0)) := by
  have hb1 : Below W.heap.size W (W.alloc (.cells #[.bool xn, vx] 122)) := (Below.refl _ _).alloc (Nat.le_refl _) _
  have h1 : (W.alloc (.cells #[.bool xn, vx] 122)).heap[W.heap.size]? = some (.cells #[.bool xn, vx] 122 (0, 0)) := (MapKept.heap_alloc _ _).1
  obtain ⟨W1, hW1⟩ : ∃ W1, W1 = W.alloc (.cells #[.bool xn, vx] 122) := ⟨_, rfl⟩
  have hz : W1.heap.size = W.heap.size + 1 := by rw [hW1]; simp
  rw [← hW1] at hb1 h1 ⊢
  refine ⟨_, rfl, hb1.alloc hb1.size _, ?_, ?_⟩
  · rw [Below.heap_alloc _ _ _ (by omega)]; exact h1
  · rw [← hz]; exact (MapKept.heap_alloc _ _).1
set_option maxHeartbeats 4000000 in
set_option maxRecDepth 100000 in
theorem sum_r (W : World) (xn yn : Bool) (Ax Ay : Option Addr) (nx cx ny cy dx dy : Nat) (hx : DAt W (.slice Ax nx cx) nx dx) (hy : DAt W (.slice Ay ny cy) ny dy) (hdx : dx < 10 ^ nx) (hdy : dy < 10 ^ ny) (hnx : nx ≤ 1000) (hny : ny ≤ 1000) :
    Calls Tryz.prog 96 #[.agg #[.bool xn, .slice Ax nx cx], .agg #[.bool yn, .slice Ay ny cy]] W (OutE W (outN (sumN ⟨xn, dx⟩ ⟨yn, dy⟩))) := by
  obtain ⟨W2, hW2, hb2, hq, hp⟩ := box_two4 W xn yn (.slice Ax nx cx) (.slice Ay ny cy)
  obtain ⟨q, hqe⟩ : ∃ q, q = W.heap.size := ⟨_, rfl⟩
  rw [← hqe] at hq hp
  have hlt : Hid (q < W2.heap.size ∧ q + 1 < W2.heap.size) := Lib.hid ⟨heap_lt hq, heap_lt hp⟩
  obtain ⟨b0, b1, d0, d1⟩ := cells_of hq hp
  have hX2 : Hid (DAt W2 (.slice Ax nx cx) nx dx) := Lib.hid (hx.below hb2)
  have hY2 : Hid (DAt W2 (.slice Ay ny cy) ny dy) := Lib.hid (hy.below hb2)
  have hnx' : Hid (nx ≤ 100000) := Lib.hid (by omega)
  have hny' : Hid (ny ≤ 100000) := Lib.hid (by omega)
  have lx : Hid (lenD dx ≤ 1000) := Lib.hid (Nat.le_trans ((lenD_le dx nx).2 hdx) hnx)
  have ly : Hid (lenD dy ≤ 1000) := Lib.hid (Nat.le_trans ((lenD_le dy ny).2 hdy) hny)
  have hls : Hid (lenD (dx + dy) ≤ 1000000) := Lib.hid (Nat.le_trans (lenD_add dx dy 1000 lx.out ly.out) (by decide))
  have hlm1 : Hid (lenD (dx - dy) ≤ 1000000) := Lib.hid (Nat.le_trans (lenD_mono (Nat.sub_le dx dy)) (by have := lx.out; omega))
  have hlm2 : Hid (lenD (dy - dx) ≤ 1000000) := Lib.hid (Nat.le_trans (lenD_mono (Nat.sub_le dy dx)) (by have := ly.out; omega))
  have hS : Hid (W2.drew.cell? ⟨q, 0, none⟩ = some (.bool xn) ∧ W2.drew.cell? ⟨q, 1, none⟩ = some (.slice Ax nx cx) ∧ W2.drew.cell? ⟨q + 1, 0, none⟩ = some (.bool yn) ∧ W2.drew.cell? ⟨q + 1, 1, none⟩ = some (.slice Ay ny cy) ∧ Hid (Below W2.heap.size W2 W2.drew)) := Lib.hid ⟨b0, b1, d0, d1, Lib.hid (Below.refl _ _).drew⟩
  replace hq := Lib.hid hq
  replace hp := Lib.hid hp
  replace hdx := Lib.hid hdx
  replace hdy := Lib.hid hdy
  clear hx hy
  by_cases hsn : xn = yn
  · have hR : Hid (sumN ⟨xn, dx⟩ ⟨yn, dy⟩ = checkedN ⟨xn, dx + dy⟩) := Lib.hid (by unfold sumN; rw [if_pos hsn])
    subst hsn
    go_enter Tryz.func96, Tryz.ntmps96
    go_wp2_with fail
    rw [← hW2, ← hqe]
    clear hW2
    replace hqe := Lib.hid hqe
    clear b0 b1 d0 d1
    go_region_held3 (fun w' => w'.cell? ⟨q, 0, none⟩ = some (.bool xn) ∧ w'.cell? ⟨q, 1, none⟩ = some (.slice Ax nx cx) ∧ w'.cell? ⟨q + 1, 0, none⟩ = some (.bool xn) ∧ w'.cell? ⟨q + 1, 1, none⟩ = some (.slice Ay ny cy) ∧ Hid (Below W2.heap.size W2 w'))
      (first | exact hS.out | exact four_later hlt (by assumption) (by assumption))
      (first
        | (go_at_call 140; refine ((add_r _ _ nx ny dx dy _ (hX2.out.below (four_out (by assumption))) (hY2.out.below (four_out (by assumption))) hdx.out hdy.out hnx'.out hny'.out).mono (fun e w' h => DgPost.sl h)).mono ?_; rintro e w' ⟨A7, c7, rfl, hv7, hbb⟩)
        | (go_at_call 111; refine (result_r _ _ _ (dx + dy) _ (by assumption) (lenD_self _) hls.out).mono ?_; rintro e w' ⟨rfl, hbb⟩))
    rename_i hH
    have hbb := Lib.hid hH.2.2.2.2.out
    go_wp2_with fail
    go_ret2
    exact ⟨by rw [hR.out]; rfl, hb2.trans (hbb.out.mono hb2.size)⟩
  · have hne : (xn == yn) = false := by simpa using hsn
    have hcmp := cmp_r _ _ nx ny dx dy W2 hX2.out hY2.out hdx.out hdy.out (by omega) (by omega)
    obtain ⟨r, hr⟩ : ∃ r, r = cmpN dx dy := ⟨_, rfl⟩
    rw [← hr] at hcmp
    by_cases hle : dy ≤ dx
    · have hR : Hid (sumN ⟨xn, dx⟩ ⟨yn, dy⟩ = checkedN ⟨xn, dx - dy⟩) := Lib.hid (by unfold sumN; rw [if_neg hsn, if_pos hle])
      have hr0 : r ≥ 0 := by rw [hr]; unfold cmpN; rw [if_neg (by omega)]; split <;> decide
      replace hr := Lib.hid hr
      go_enter Tryz.func96, Tryz.ntmps96
      go_wp2_with fail
      rw [← hW2, ← hqe]
      clear hW2
      replace hqe := Lib.hid hqe
      refine hcmp.mono ?_
      rintro e w3 ⟨rfl, hb3⟩
      clear hcmp
      replace hS := Lib.hid (four_later hlt (And.intro b0 (And.intro b1 (And.intro d0 (And.intro d1 (Lib.hid (Below.refl _ _)))))) hb3.drew)
      go_wp2_with fail
      clear b0 b1 d0 d1 hr0
      go_region_held3 (fun w' => w'.cell? ⟨q, 0, none⟩ = some (.bool xn) ∧ w'.cell? ⟨q, 1, none⟩ = some (.slice Ax nx cx) ∧ w'.cell? ⟨q + 1, 0, none⟩ = some (.bool yn) ∧ w'.cell? ⟨q + 1, 1, none⟩ = some (.slice Ay ny cy) ∧ Hid (Below W2.heap.size W2 w'))
        (first | exact hS.out | exact four_later hlt (by assumption) (by assumption))
        (first
          | (go_at_call 142; refine ((sub_r _ _ nx ny dx dy _ (hX2.out.below (four_out (by assumption))) (hY2.out.below (four_out (by assumption))) hdx.out hdy.out hle hnx'.out hny'.out).mono (fun e w' h => DgPost.sl h)).mono ?_; rintro e w' ⟨A7, c7, rfl, hv7, hbb⟩)
          | (go_at_call 111; refine (result_r _ _ _ (dx - dy) _ (by assumption) (lenD_self _) hlm1.out).mono ?_; rintro e w' ⟨rfl, hbb⟩))
      rename_i hH
      have hbb := Lib.hid hH.2.2.2.2.out
      go_wp2_with fail
      go_ret2
      exact ⟨by rw [hR.out]; rfl, hb2.trans (hbb.out.mono hb2.size)⟩
    · have hR : Hid (sumN ⟨xn, dx⟩ ⟨yn, dy⟩ = checkedN ⟨yn, dy - dx⟩) := Lib.hid (by unfold sumN; rw [if_neg hsn, if_neg hle])
      have hr0 : ¬ (r ≥ 0) := by rw [hr]; unfold cmpN; rw [if_pos (by omega)]; decide
      have hle' : dx ≤ dy := by omega
      replace hr := Lib.hid hr
      go_enter Tryz.func96, Tryz.ntmps96
      go_wp2_with fail
      rw [← hW2, ← hqe]
      clear hW2
      replace hqe := Lib.hid hqe
      refine hcmp.mono ?_
      rintro e w3 ⟨rfl, hb3⟩
      clear hcmp
      replace hS := Lib.hid (four_later hlt (And.intro b0 (And.intro b1 (And.intro d0 (And.intro d1 (Lib.hid (Below.refl _ _)))))) hb3.drew)
      go_wp2_with fail
      clear b0 b1 d0 d1 hr0
      go_region_held3 (fun w' => w'.cell? ⟨q, 0, none⟩ = some (.bool xn) ∧ w'.cell? ⟨q, 1, none⟩ = some (.slice Ax nx cx) ∧ w'.cell? ⟨q + 1, 0, none⟩ = some (.bool yn) ∧ w'.cell? ⟨q + 1, 1, none⟩ = some (.slice Ay ny cy) ∧ Hid (Below W2.heap.size W2 w'))
        (first | exact hS.out | exact four_later hlt (by assumption) (by assumption))
        (first
          | (go_at_call 142; refine ((sub_r _ _ ny nx dy dx _ (hY2.out.below (four_out (by assumption))) (hX2.out.below (four_out (by assumption))) hdy.out hdx.out hle' hny'.out hnx'.out).mono (fun e w' h => DgPost.sl h)).mono ?_; rintro e w' ⟨A7, c7, rfl, hv7, hbb⟩)
          | (go_at_call 111; refine (result_r _ _ _ (dy - dx) _ (by assumption) (lenD_self _) hlm2.out).mono ?_; rintro e w' ⟨rfl, hbb⟩))
      rename_i hH
      have hbb := Lib.hid hH.2.2.2.2.out
      go_wp2_with fail
      go_ret2
      exact ⟨by rw [hR.out]; rfl, hb2.trans (hbb.out.mono hb2.size)⟩
end Go.Proofs.YtgobpoeccdgeiaaGreatDoor

namespace Go.Proofs.YtgobpoeccdgeiaaGreatDoor
open Go.RowKit NumP DigP DurP Go.Proofs.YtgobpoeccdgeiaaGreatDoorW.PrintWords
set_option linter.unusedVariables false

def bothR (r1 r2 : NumP.R) (f : NumP.Num → NumP.Num → NumP.R) : NumP.R := match r1, r2 with
  | .ok x, .ok y => f x y
  | _, _ => .error 1
theorem bothN_R (a b : List UInt8) (f : NumP.Num → NumP.Num → NumP.R) : bothN a b f = bothR (canonN a) (canonN b) f := rfl
theorem bothR_no1 {r1 r2 : NumP.R} (f : NumP.Num → NumP.Num → NumP.R) (h : ∃ k, r1 = .error k) : bothR r1 r2 f = .error 1 := by
  obtain ⟨k, rfl⟩ := h
  cases r2 <;> rfl
theorem bothR_no2 {r1 r2 : NumP.R} (f : NumP.Num → NumP.Num → NumP.R) (h : ∃ k, r2 = .error k) : bothR r1 r2 f = .error 1 := by
  obtain ⟨k, rfl⟩ := h
  cases r1 <;> rfl
theorem cut_s (neg : Bool) (v : Value) (k D : Nat) (W : World) (h : DAt W v k D) (hD : D < 10 ^ k) (hk : k ≤ 1000) : Calls Tryz.prog 110 #[.bool neg, v, .int .i64 20, .string ⟨#[101, 118, 101, 110]⟩] W (SlPost W (lenD (cutN .even neg D P20)) (cutN .even neg D P20)) :=
  (cut_r neg v k D 20 W h hD (by decide) hk (by decide)).mono fun _ _ h => DgPost.sl h
theorem mul_s (v u : Value) (a b n m : Nat) (W : World) (hv : DAt W v a n) (hu : DAt W u b m) (hn : n < 10 ^ a) (hm : m < 10 ^ b) (ha : a ≤ 100000) (hb : b ≤ 100000) : Calls Tryz.prog 145 #[v, u] W (SlPost W (lenD (n * m)) (n * m)) :=
  (mul_r v u a b n m W hv hu hn hm ha hb).mono fun _ _ h => DgPost.sl h
set_option maxHeartbeats 4000000 in
set_option maxRecDepth 100000 in
theorem Add_r (s t : ByteArray) (W : World) (hs : s.size ≤ maxLen) (ht : t.size ≤ maxLen) : Calls Tryz.prog 58 #[.string s, .string t] W (OutE W (addT s.data.toList t.data.toList)) := by
  have htw := two_r s t W hs ht
  obtain ⟨R, hR⟩ : ∃ R, R = addT s.data.toList t.data.toList := ⟨_, rfl⟩
  rw [← hR]
  unfold addT at hR
  rw [bothN_R] at hR
  obtain ⟨R1, hR1⟩ : ∃ R, R = canonN s.data.toList := ⟨_, rfl⟩
  obtain ⟨R2, hR2⟩ : ∃ R, R = canonN t.data.toList := ⟨_, rfl⟩
  rw [← hR1, ← hR2] at hR htw
  clear hR1 hR2
  replace hR := Lib.hid hR
  go_enter Tryz.func58, Tryz.ntmps58
  go_wp2_with fail
  refine htw.mono ?_
  rintro e w ⟨hb, b, A, k, c, b2, A2, k2, c2, ok, ok2, rfl, h1, h2⟩
  clear htw
  replace hb := Lib.hid hb
  cases ok with
  | false =>
    have hR2 : Hid (R = ([], 1)) := Lib.hid (by rw [hR.out, bothR_no1 _ (h1.no rfl)]; rfl)
    obtain ⟨W2, hW2, hb2, -⟩ := box_two4 w b b2 (.slice A k c) (.slice A2 k2 c2)
    clear h1 h2
    go_wp2_with fail
    rw [← hW2]
    go_ret2
    exact ⟨by rw [hR2.out]; rfl, hb.out.trans (hb2.mono hb.out.size)⟩
  | true =>
  cases ok2 with
  | false =>
    have hR2 : Hid (R = ([], 1)) := Lib.hid (by rw [hR.out, bothR_no2 _ (h2.no rfl)]; rfl)
    obtain ⟨W2, hW2, hb2, -⟩ := box_two4 w b b2 (.slice A k c) (.slice A2 k2 c2)
    clear h1 h2
    go_wp2_with fail
    rw [← hW2]
    go_ret2
    exact ⟨by rw [hR2.out]; rfl, hb.out.trans (hb2.mono hb.out.size)⟩
  | true =>
  obtain ⟨d, rfl, hk, hd, h50⟩ := h1.yes rfl
  obtain ⟨d2, rfl, hk2, hd2, h502⟩ := h2.yes rfl
  clear h1 h2
  rw [← hk] at hd h50
  rw [← hk2] at hd2 h502
  have hR2 : Hid (R = outN (sumN ⟨b, d⟩ ⟨b2, d2⟩)) := Lib.hid (by rw [hR.out]; rfl)
  obtain ⟨W2, hW2, hb2, -⟩ := box_two4 w b b2 (.slice A k c) (.slice A2 k2 c2)
  have hsum := sum_r W2 b b2 A A2 k c k2 c2 d d2 (hd.below hb2) (hd2.below hb2) (by rw [hk]; exact lenD_self _) (by rw [hk2]; exact lenD_self _) (by omega) (by omega)
  replace hk := Lib.hid hk
  replace hk2 := Lib.hid hk2
  replace hd := Lib.hid hd
  replace hd2 := Lib.hid hd2
  go_wp2_with fail
  rw [← hW2]
  refine hsum.mono ?_
  rintro e w3 ⟨rfl, hb3⟩
  clear hsum
  go_wp2_with fail
  go_ret2
  have hb02 := hb.out.trans (hb2.mono hb.out.size)
  exact ⟨by rw [hR2.out]; rfl, hb02.trans (hb3.mono hb02.size)⟩
set_option maxHeartbeats 4000000 in
set_option maxRecDepth 100000 in
theorem Sub_r (s t : ByteArray) (W : World) (hs : s.size ≤ maxLen) (ht : t.size ≤ maxLen) : Calls Tryz.prog 51 #[.string s, .string t] W (OutE W (subT s.data.toList t.data.toList)) := by
  have htw := two_r s t W hs ht
  obtain ⟨R, hR⟩ : ∃ R, R = subT s.data.toList t.data.toList := ⟨_, rfl⟩
  rw [← hR]
  unfold subT at hR
  rw [bothN_R] at hR
  obtain ⟨R1, hR1⟩ : ∃ R, R = canonN s.data.toList := ⟨_, rfl⟩
  obtain ⟨R2, hR2⟩ : ∃ R, R = canonN t.data.toList := ⟨_, rfl⟩
  rw [← hR1, ← hR2] at hR htw
  clear hR1 hR2
  replace hR := Lib.hid hR
  go_enter Tryz.func51, Tryz.ntmps51
  go_wp2_with fail
  refine htw.mono ?_
  rintro e w ⟨hb, b, A, k, c, b2, A2, k2, c2, ok, ok2, rfl, h1, h2⟩
  clear htw
  replace hb := Lib.hid hb
  cases ok with
  | false =>
    have hR2 : Hid (R = ([], 1)) := Lib.hid (by rw [hR.out, bothR_no1 _ (h1.no rfl)]; rfl)
    obtain ⟨W2, hW2, hb2, -⟩ := box_two4 w b b2 (.slice A k c) (.slice A2 k2 c2)
    clear h1 h2
    go_wp2_with fail
    rw [← hW2]
    go_ret2
    exact ⟨by rw [hR2.out]; rfl, hb.out.trans (hb2.mono hb.out.size)⟩
  | true =>
  cases ok2 with
  | false =>
    have hR2 : Hid (R = ([], 1)) := Lib.hid (by rw [hR.out, bothR_no2 _ (h2.no rfl)]; rfl)
    obtain ⟨W2, hW2, hb2, -⟩ := box_two4 w b b2 (.slice A k c) (.slice A2 k2 c2)
    clear h1 h2
    go_wp2_with fail
    rw [← hW2]
    go_ret2
    exact ⟨by rw [hR2.out]; rfl, hb.out.trans (hb2.mono hb.out.size)⟩
  | true =>
  obtain ⟨d, rfl, hk, hd, h50⟩ := h1.yes rfl
  obtain ⟨d2, rfl, hk2, hd2, h502⟩ := h2.yes rfl
  clear h1 h2
  rw [← hk] at hd h50
  rw [← hk2] at hd2 h502
  have hR2 : Hid (R = outN (sumN ⟨b, d⟩ ⟨!b2, d2⟩)) := Lib.hid (by rw [hR.out]; rfl)
  obtain ⟨W2, hW2, hb2, -⟩ := box_two4 w b (!b2) (.slice A k c) (.slice A2 k2 c2)
  have hsum := sum_r W2 b (!b2) A A2 k c k2 c2 d d2 (hd.below hb2) (hd2.below hb2) (by rw [hk]; exact lenD_self _) (by rw [hk2]; exact lenD_self _) (by omega) (by omega)
  replace hk := Lib.hid hk
  replace hk2 := Lib.hid hk2
  replace hd := Lib.hid hd
  replace hd2 := Lib.hid hd2
  go_wp2_with fail
  rw [← hW2]
  refine hsum.mono ?_
  rintro e w3 ⟨rfl, hb3⟩
  clear hsum
  go_wp2_with fail
  go_ret2
  have hb02 := hb.out.trans (hb2.mono hb.out.size)
  exact ⟨by rw [hR2.out]; rfl, hb02.trans (hb3.mono hb02.size)⟩
set_option maxHeartbeats 4000000 in
set_option maxRecDepth 100000 in
theorem Mul_r (s t : ByteArray) (W : World) (hs : s.size ≤ maxLen) (ht : t.size ≤ maxLen) : Calls Tryz.prog 100 #[.string s, .string t] W (OutE W (mulT s.data.toList t.data.toList)) := by
  have htw := two_r s t W hs ht
  obtain ⟨R, hR⟩ : ∃ R, R = mulT s.data.toList t.data.toList := ⟨_, rfl⟩
  rw [← hR]
  unfold mulT at hR
  rw [bothN_R] at hR
  obtain ⟨R1, hR1⟩ : ∃ R, R = canonN s.data.toList := ⟨_, rfl⟩
  obtain ⟨R2, hR2⟩ : ∃ R, R = canonN t.data.toList := ⟨_, rfl⟩
  rw [← hR1, ← hR2] at hR htw
  clear hR1 hR2
  replace hR := Lib.hid hR
  go_enter Tryz.func100, Tryz.ntmps100
  go_wp2_with fail
  refine htw.mono ?_
  rintro e w ⟨hb, b, A, k, c, b2, A2, k2, c2, ok, ok2, rfl, h1, h2⟩
  clear htw
  replace hb := Lib.hid hb
  cases ok with
  | false =>
    have hR2 : Hid (R = ([], 1)) := Lib.hid (by rw [hR.out, bothR_no1 _ (h1.no rfl)]; rfl)
    obtain ⟨W2, hW2, hb2, -⟩ := box_two4 w b b2 (.slice A k c) (.slice A2 k2 c2)
    clear h1 h2
    go_wp2_with fail
    rw [← hW2]
    go_ret2
    exact ⟨by rw [hR2.out]; rfl, hb.out.trans (hb2.mono hb.out.size)⟩
  | true =>
  cases ok2 with
  | false =>
    have hR2 : Hid (R = ([], 1)) := Lib.hid (by rw [hR.out, bothR_no2 _ (h2.no rfl)]; rfl)
    obtain ⟨W2, hW2, hb2, -⟩ := box_two4 w b b2 (.slice A k c) (.slice A2 k2 c2)
    clear h1 h2
    go_wp2_with fail
    rw [← hW2]
    go_ret2
    exact ⟨by rw [hR2.out]; rfl, hb.out.trans (hb2.mono hb.out.size)⟩
  | true =>
  obtain ⟨d, rfl, hk, hd, h50⟩ := h1.yes rfl
  obtain ⟨d2, rfl, hk2, hd2, h502⟩ := h2.yes rfl
  clear h1 h2
  rw [← hk] at hd h50
  rw [← hk2] at hd2 h502
  obtain ⟨ng, hng⟩ : ∃ ng, ng = (b != b2) := ⟨_, rfl⟩
  have hR2 : Hid (R = outN (checkedN ⟨ng, cutN .even ng (d * d2) P20⟩)) := Lib.hid (by rw [hR.out, hng]; rfl)
  obtain ⟨W2, hW2, hb2, -⟩ := box_two4 w b b2 (.slice A k c) (.slice A2 k2 c2)
  have hmu := mul_s _ _ k k2 d d2 W2 (hd.below hb2) (hd2.below hb2) (by rw [hk]; exact lenD_self _) (by rw [hk2]; exact lenD_self _) (by omega) (by omega)
  obtain ⟨D, hD⟩ : ∃ D, D = d * d2 := ⟨_, rfl⟩
  obtain ⟨K, hK⟩ : ∃ K, K = lenD D := ⟨_, rfl⟩
  have hK1 : K ≤ 100 := by rw [hK, hD]; exact lenD_mul d d2 50 50 (by rw [← hk]; exact h50) (by rw [← hk2]; exact h502)
  rw [← hD] at hR2
  rw [← hD, ← hK] at hmu
  have hDK : D < 10 ^ K := by rw [hK]; exact lenD_self _
  have hcu : ∀ v w, DAt w v K D → Calls Tryz.prog 110 #[.bool ng, v, .int .i64 20, .string ⟨#[101, 118, 101, 110]⟩] w (SlPost w (lenD (cutN .even ng D P20)) (cutN .even ng D P20)) := fun v w h => cut_s ng v K D w h hDK (by omega)
  obtain ⟨E, hE⟩ : ∃ E, E = cutN .even ng D P20 := ⟨_, rfl⟩
  rw [← hE] at hR2
  rw [← hE] at hcu
  have hEl : lenD E ≤ 1000000 := by
    have h5 : E ≤ D + 1 := by rw [hE]; exact cutN_le _ _ _ _
    have h6 := lenD_mono h5
    have h7 := lenD_add D 1 100 (by rw [← hK]; exact hK1) (by decide)
    omega
  have hre : ∀ v w, DAt w v (lenD E) E → Calls Tryz.prog 111 #[.bool ng, v] w (OutE w (outN (checkedN ⟨ng, E⟩))) := fun v w h => result_r ng v (lenD E) E w h (lenD_self _) hEl
  obtain ⟨KE, hKE⟩ : ∃ K, K = lenD E := ⟨_, rfl⟩
  rw [← hKE] at hcu hre
  replace hk := Lib.hid hk
  replace hk2 := Lib.hid hk2
  replace hd := Lib.hid hd
  replace hd2 := Lib.hid hd2
  replace hK := Lib.hid hK
  replace hD := Lib.hid hD
  replace hE := Lib.hid hE
  replace hKE := Lib.hid hKE
  replace hDK := Lib.hid hDK
  replace hcu := Lib.hid hcu
  replace hre := Lib.hid hre
  replace hng := Lib.hid hng
  clear hEl
  go_wp2_with fail
  rw [← hW2]
  first
    | rw [show (!b == b2) = ng from hng.out.symm]
    | rw [show (b != b2) = ng from hng.out.symm]
  refine hmu.mono ?_
  rintro e w3 ⟨A3, c3, rfl, hv3, hb3⟩
  clear hmu
  go_wp2_with fail
  refine (hcu.out _ _ hv3).mono ?_
  rintro e w4 ⟨A4, c4, rfl, hv4, hb4⟩
  go_wp2_with fail
  refine (hre.out _ _ hv4).mono ?_
  rintro e w5 ⟨rfl, hb5⟩
  go_wp2_with fail
  go_ret2
  have hb02 := hb.out.trans (hb2.mono hb.out.size)
  have hb03 := hb02.trans (hb3.mono hb02.size)
  have hb04 := hb03.trans (hb4.mono hb03.size)
  exact ⟨by rw [hR2.out]; rfl, hb04.trans (hb5.mono hb04.size)⟩
end Go.Proofs.YtgobpoeccdgeiaaGreatDoor

namespace Go.Proofs.YtgobpoeccdgeiaaGreatDoor
open Go.RowKit NumP DigP DurP Go.Proofs.YtgobpoeccdgeiaaGreatDoorW.PrintWords
set_option linter.unusedVariables false

def DivPost (W : World) (n m : Nat) (e : Ending) (w' : World) : Prop := ∃ q r, e = .returned (.tuple #[q, r]) ∧ DAt w' q (lenD (n / m)) (n / m) ∧ DAt w' r (lenD (n % m)) (n % m) ∧ Below W.heap.size W w'
/-- The quotient's next digit. -/
theorem div_next {N m d : Nat} (hm : 0 < m) : (10 * N + d) % m = (10 * (N % m) + d) % m ∧ (10 * N + d) / m = 10 * (N / m) + (10 * (N % m) + d) / m := by
  have h := Nat.div_add_mod N m
  have e : 10 * N + d = m * (10 * (N / m)) + (10 * (N % m) + d) := by
    have : m * (10 * (N / m)) = 10 * (m * (N / m)) := by rw [Nat.mul_left_comm]
    omega
  constructor
  · rw [e, Nat.mul_add_mod]
  · rw [e, Nat.mul_add_div hm]
/-- append of digits to a row of the function's own, in a region that draws its order. -/
theorem step_append_dat {ops : Array Oper} {o : Oper} {a : Act} {w : World} {K : Act → World → Prop} {Q : Exit → Act → World → Prop} {E : Prop}
    (hg : o.guard = none) (s x : Operand) (hop : o.op = Op.call { callee := Callee.builtin Builtin.append, args := #[s, x], argTypes := #[120, 120] })
    (base : Nat) (v : Value) (n : Nat) (xs : List Nat) (hs : a.eval s = v) (hown : w.ownsRow base 3 1 v n (ints xs)) (A : Option Addr) (k c N : Nat) (hx : a.eval x = .slice A k c) (hd : DAt w (.slice A k c) k N)
    (hb : n + k ≤ 100000) (hbase : base ≤ w.heap.size)
    (hK : ∀ v' w', w'.ownsRow base 3 1 v' (n + k) (ints (xs ++ fixN k N)) → w.grownBy w' v.ownBlock → K (a.put o.dst v') w') :
    if Region.wanted o (yielded ops a.tmps) = true then Oper.wp Tryz.prog o a w K Q else E := by
  obtain ⟨i0, hi, hz0, hz1, hz2⟩ := info_parts info_int
  cases A with
  | some ad =>
    refine step_append_own hg s x 120 hop base 3 i0 (.int .i64 0) 1 8 Tryz.underlying120 hi hz0 hz1 hz2 rfl (by decide) v n (ints xs) hs hown ad k c (ints (fixN k N)) hx (by rw [ints_len, fixN_len, Nat.mul_one]) (hd.news ad rfl) (ints_one _) (by unfold maxLen; omega) (by omega) hbase ?_
    intro v' w' h1 h2
    exact hK v' w' (by rw [ints_app]; exact h1) h2
  | none =>
    obtain ⟨A', c', e', ⟨h1, h2⟩, h3⟩ := hd.at_
    injection e' with e1 e2 e3
    subst e1 e3
    have hc := h2 rfl
    have hk : k = 0 := by omega
    subst hc hk
    have hw : Region.wanted o (yielded ops a.tmps) = true := by simp [Region.wanted, hg]
    rw [if_pos hw]
    have hrun := run_append_owned_none (P := Tryz.prog) (w := w) base 120 o.type 3 i0 1 Tryz.underlying120 hi v n (ints xs) hown
    unfold Oper.wp
    simp [execOp, hop, resolve, invoke, builtin, hs, hx, hrun, Result.andThen]
    refine hK v w ?_ ⟨rfl, rfl, rfl, Nat.le_refl _, fun _ _ _ => rfl⟩
    show w.ownsRow base 3 1 v n (ints (xs ++ []))
    rw [List.append_nil]
    exact hown
theorem lit_lies {w : World} {base n : Nat} {v : Value} {xs : List Nat} (h : w.ownsRow base 3 1 v n (ints xs)) (hn : 0 < n) : ∃ (A : Option Addr) (c : Nat), v = .slice A n c ∧ BlkGe base v := by
  rcases h.2 with ⟨_, e⟩ | ⟨g, cap, cur, rfl, hb, _⟩
  · omega
  · exact ⟨_, _, rfl, fun a n c e => by injection e with e1 _ _; injection e1 with e1; rw [← e1]; exact hb⟩
theorem DAt.apart {w w' : World} {v : Value} {k n : Nat} {row : Option Nat} (h : DAt w v k n) (hg : w.grownBy w' row) (hv : ∀ a n c, v = .slice (some a) n c → some a.block ≠ row) : DAt w' v k n := by
  obtain ⟨A, c, rfl, h1, h2⟩ := h.at_
  refine ⟨A, c, rfl, h1, fun h0 => ?_⟩
  obtain ⟨g, off, rfl, hc⟩ := h2 h0
  refine ⟨g, off, rfl, fun i hi => ?_⟩
  rw [hg.cell_far ⟨g, off + i, none⟩ (World.block_lt_of_cell? _ _ (hc i hi)) (hv ⟨g, off, none⟩ _ _ rfl)]
  exact hc i hi
theorem DAt.far {w w' : World} {v : Value} {k n H : Nat} {row : Option Nat} (h : DAt w v k n) (hg : w.grownBy w' row) (hv : BlkGe H v) (hr : ∀ j, row = some j → j < H) : DAt w' v k n :=
  h.apart hg fun a n c e h2 => by
    have h5 := hr _ h2.symm
    have h6 := hv _ _ _ e
    omega
theorem own_mono {w : World} {base base' n : Nat} {v : Value} {xs : List Value} (h : w.ownsRow base 3 1 v n xs) (hb : base' ≤ base) : w.ownsRow base' 3 1 v n xs :=
  ⟨h.1, h.2.imp id fun ⟨g, cap, cur, e, h1, h2⟩ => ⟨g, cap, cur, e, Nat.le_trans hb h1, h2⟩⟩
set_option maxHeartbeats 4000000 in
set_option maxRecDepth 100000 in
theorem div_r (v u : Value) (k j n m : Nat) (W : World) (hv : DAt W v k n) (hu : DAt W u j m) (hn : n < 10 ^ k) (hm : m < 10 ^ j) (h0 : 0 < m) (hk : k ≤ 1000) (hj : j ≤ 1000) : Calls Tryz.prog 143 #[v, u] W (DivPost W n m) := by
  obtain ⟨A, ca, rfl, -, hcell⟩ := hv.at_
  obtain ⟨Ab, cb, rfl, -⟩ := hu.at_
  obtain ⟨ii0, hii, hz0, hz1, hz2⟩ := info_parts info_int
  replace hv := Lib.hid hv
  replace hu := Lib.hid hu
  replace hn := Lib.hid hn
  replace hm := Lib.hid hm
  replace hcell := Lib.hid hcell
  obtain ⟨B, hB⟩ : ∃ B, B = W.heap.size := ⟨_, rfl⟩
  replace hB := Lib.hid hB
  go_enter Tryz.func143, Tryz.ntmps143
  go_wp2_with fail
  go_loopw [6, 7, 8, 9] (fun qv rv iv nv wr => ∃ (i N L : Nat) (Aq : Option Addr) (cq : Nat) (Ar : Option Addr) (cr : Nat), iv = .int .i64 i ∧ i ≤ k ∧ qv = .slice Aq i cq ∧ rv = .slice Ar L cr ∧ Hid (N = n / 10 ^ (k - i)) ∧ Hid (L = lenD (N % m)) ∧ L ≤ j ∧
      Hid (wr.ownsRow B 3 1 (.slice Aq i cq) i (ints (fixN i (N / m)))) ∧ Hid (DAt wr (.slice Ar L cr) L (N % m)) ∧ Hid (Below B W wr)) (fun _ _ iv _ _ => k - (intOf iv).toNat)
  case atStart => exact ⟨0, 0, 0, none, 0, none, 0, rfl, Nat.zero_le _, rfl, rfl, Lib.hid (by rw [Nat.sub_zero, Nat.div_eq_of_lt hn.out]), Lib.hid (by rw [Nat.zero_mod]; rfl), Nat.zero_le _, Lib.hid (World.ownsRow_nil _ _ _ _), Lib.hid (DAt.nil _ _), Lib.hid (Below.refl _ _)⟩
  case round =>
    obtain ⟨i, N, L, Aq, cq, Ar, cr, rfl, hik, rfl, rfl, hN, hL, hLj, hown, hr, hb⟩ := hrel
    by_cases hlt : i < k
    · have g1 : ((i : Int) < (k : Int)) := by omega
      obtain ⟨g, off, rfl, hc⟩ := hcell.out (by omega)
      obtain ⟨x, hx⟩ : ∃ x, x = dg n (k - 1 - i) := ⟨_, rfl⟩
      have hq0 := hc i hlt
      rw [← hx] at hq0
      have hcx := (hb.out.cell (by rw [hB.out]; exact World.block_lt_of_cell? _ _ hq0)).trans hq0
      have x9 : x < 10 := by rw [hx]; exact dg_lt _ _
      replace hx := Lib.hid hx
      replace hc := Lib.hid hc
      clear hq0
      obtain ⟨wb, rfl⟩ : ∃ w, w = wr := ⟨_, rfl⟩
      go_upto_region 5 with fail
      go_cut [7] from 16 to 25 (fun rv wx => ∃ (L' : Nat) (A' : Option Addr) (c' : Nat), rv = .slice A' L' c' ∧ Hid (L' = lenD (10 * (N % m) + x)) ∧ Hid (DAt wx (.slice A' L' c') L' (10 * (N % m) + x)) ∧ Hid (Below wb.heap.size wb wx) ∧ Hid (BlkGe wb.heap.size (.slice A' L' c')))
      case first =>
        have g2 : i < k := hlt
        obtain ⟨o0, ho0⟩ : ∃ o, o = Obj.cells #[] 3 := ⟨_, rfl⟩
        obtain ⟨o1, ho1⟩ : ∃ o, o = Obj.cells #[.int .i64 (x : Int)] 3 := ⟨_, rfl⟩
        have hgx : g < wb.heap.size := World.block_lt_of_cell? _ _ hcx
        have bA : Hid (Below wb.heap.size wb (wb.alloc o0).drew) := Lib.hid ((Below.refl _ _).alloc (Nat.le_refl _) _).drew
        have bC : Hid (Below wb.heap.size wb (wb.alloc o1).drew) := Lib.hid ((Below.refl _ _).alloc (Nat.le_refl _) _).drew
        have bB : Hid (Below wb.heap.size wb ((wb.alloc o0).alloc o1).drew) := Lib.hid (((Below.refl _ _).alloc (Nat.le_refl _) _).alloc (by simp) _).drew
        have bD : Hid (Below wb.heap.size wb ((wb.alloc o1).alloc o0).drew) := Lib.hid (((Below.refl _ _).alloc (Nat.le_refl _) _).alloc (by simp) _).drew
        have hS : Hid (wb.drew.cell? ⟨g, off + i, none⟩ = some (.int .i64 x)) := Lib.hid hcx
        have sA := (bA.out.cell (p := ⟨g, off + i, none⟩) hgx).trans hcx
        have sB := (bB.out.cell (p := ⟨g, off + i, none⟩) hgx).trans hcx
        have sC := (bC.out.cell (p := ⟨g, off + i, none⟩) hgx).trans hcx
        have sD := (bD.out.cell (p := ⟨g, off + i, none⟩) hgx).trans hcx
        have ownA : ((wb.alloc o0).drew).ownsRow wb.heap.size 3 1 (.slice (some ⟨wb.heap.size, 0, none⟩) 0 0) 0 (ints []) := by rw [ho0]; exact own_empty wb
        have digC : ((wb.alloc o1).drew).ownsRow wb.heap.size 3 1 (.slice (some ⟨wb.heap.size, 0, none⟩) 1 1) 1 (ints (fixN 1 x)) := by rw [ho1]; exact own_digit wb x9
        have zA : (wb.alloc o0).drew.heap.size = wb.heap.size + 1 := by simp
        have zC : (wb.alloc o1).drew.heap.size = wb.heap.size + 1 := by simp
        have rA : Hid (DAt (wb.alloc o0).drew (.slice Ar L cr) L (N % m)) := Lib.hid (hr.out.below bA.out)
        have ownB : Hid ((((wb.alloc o0).alloc o1).drew).ownsRow wb.heap.size 3 1 (.slice (some ⟨wb.heap.size, 0, none⟩) 0 0) 0 (ints [])) := Lib.hid (own_below ownA (show Below _ _ (((wb.alloc o0).drew).alloc o1) from (Below.refl _ _).alloc (Nat.le_refl _) _))
        have digB : Hid (DAt ((wb.alloc o0).alloc o1).drew (.slice (some ⟨wb.heap.size + 1, 0, none⟩) 1 1) 1 x) := Lib.hid (by
          have h := own_DAt (own_digit (wb.alloc o0).drew x9)
          rw [← ho1, zA] at h
          exact h)
        have rB : Hid (DAt ((wb.alloc o0).alloc o1).drew (.slice Ar L cr) L (N % m)) := Lib.hid (hr.out.below bB.out)
        have ownD : Hid ((((wb.alloc o1).alloc o0).drew).ownsRow wb.heap.size 3 1 (.slice (some ⟨wb.heap.size + 1, 0, none⟩) 0 0) 0 (ints [])) := Lib.hid (by
          have h := own_empty (wb.alloc o1).drew
          rw [← ho0, zC] at h
          exact own_mono h (by omega))
        have digD : Hid (DAt ((wb.alloc o1).alloc o0).drew (.slice (some ⟨wb.heap.size, 0, none⟩) 1 1) 1 x) := Lib.hid (DAt.below (w := (wb.alloc o1).drew) (own_DAt digC) (show Below _ _ (((wb.alloc o1).drew).alloc o0) from (Below.refl _ _).alloc (Nat.le_refl _) _))
        have rD : Hid (DAt ((wb.alloc o1).alloc o0).drew (.slice Ar L cr) L (N % m)) := Lib.hid (hr.out.below bD.out)
        have apB : Hid (∀ a n c, Value.slice (some ⟨wb.heap.size + 1, 0, none⟩) 1 1 = .slice (some a) n c → some a.block ≠ (Value.slice (some ⟨wb.heap.size, 0, none⟩) 0 0).ownBlock) := Lib.hid (fun a n c e h => by
          injection e with e1 _ _
          injection e1 with e1
          have h : some a.block = some wb.heap.size := h
          injection h with h
          rw [← e1] at h
          have h : wb.heap.size + 1 = wb.heap.size := h
          omega)
        have apD : Hid (∀ a n c, Value.slice (some ⟨wb.heap.size, 0, none⟩) 1 1 = .slice (some a) n c → some a.block ≠ (Value.slice (some ⟨wb.heap.size + 1, 0, none⟩) 0 0).ownBlock) := Lib.hid (fun a n c e h => by
          injection e with e1 _ _
          injection e1 with e1
          have h : some a.block = some (wb.heap.size + 1) := h
          injection h with h
          rw [← e1] at h
          have h : wb.heap.size = wb.heap.size + 1 := h
          omega)
        have sz : Hid (wb.heap.size ≤ (wb.alloc o0).drew.heap.size ∧ wb.heap.size ≤ ((wb.alloc o0).alloc o1).drew.heap.size ∧ wb.heap.size ≤ ((wb.alloc o1).alloc o0).drew.heap.size) := Lib.hid ⟨bA.out.size, bB.out.size, bD.out.size⟩
        have hlist : Hid ((([] : List Nat) ++ fixN L (N % m)) ++ fixN 1 x = fixN (L + 1) (10 * (N % m) + x)) := Lib.hid (by
          rw [List.nil_append, ← fixN_snoc x9, show fixN 1 x = [x] by simp [fixN, dg, List.range, List.range.loop]; omega])
        have hlt2 : Hid (10 * (N % m) + x < 10 ^ (L + 1)) := Lib.hid (by
          have := lenD_self (N % m)
          rw [← hL.out] at this
          rw [Nat.pow_succ]; omega)
        have ownA' := Lib.hid ownA
        clear ownA digC
        subst ho0 ho1
        go_region_held3 (fun w' => w'.cell? ⟨g, off + i, none⟩ = some (.int .i64 x)) (first | exact hS.out | assumption)
          (first
            | (refine step_append_dat (by rfl) (.tmp 16) (.tmp 17) (by rfl) wb.heap.size _ 0 [] (by rfl) ownA'.out Ar L cr (N % m) (by rfl) rA.out (by omega) sz.out.1 ?_; intro v1 w1 hv1 hg1; have hB1 := Below.grown bA.out hg1 bA.out.size (fun j hj => (ownA'.out.lt _ hj).1); have s1 := (hB1.cell (p := ⟨g, off + i, none⟩) hgx).trans hcx; have hB2 := Lib.hid (hB1.alloc hB1.size (.cells #[.int .i64 (x : Int)] 3)); have s2 := (hB2.out.cell (p := ⟨g, off + i, none⟩) hgx).trans hcx; have own2 := Lib.hid (own_below hv1 ((Below.refl _ w1).alloc (Nat.le_refl _) (.cells #[.int .i64 (x : Int)] 3))); have dig2 := Lib.hid (own_DAt (own_digit w1 x9)); replace hv1 := Lib.hid hv1; replace hB1 := Lib.hid hB1; replace hg1 := Lib.hid hg1)
            | (refine step_append_dat (by rfl) (.tmp 16) (.tmp 17) (by rfl) wb.heap.size _ 0 [] (by rfl) ownB.out Ar L cr (N % m) (by rfl) rB.out (by omega) sz.out.2.1 ?_; intro v1 w1 hv1 hg1; have hB2 := Lib.hid (Below.grown bB.out hg1 bB.out.size (fun j hj => (ownB.out.lt _ hj).1)); have s1 := (hB2.out.cell (p := ⟨g, off + i, none⟩) hgx).trans hcx; have dig2 := Lib.hid (DAt.apart digB.out hg1 apB.out); have own2 := Lib.hid hv1; replace hv1 := Lib.hid hv1; replace hg1 := Lib.hid hg1)
            | (refine step_append_dat (by rfl) (.tmp 16) (.tmp 17) (by rfl) wb.heap.size _ 0 [] (by rfl) ownD.out Ar L cr (N % m) (by rfl) rD.out (by omega) sz.out.2.2 ?_; intro v1 w1 hv1 hg1; have hB2 := Lib.hid (Below.grown bD.out hg1 bD.out.size (fun j hj => (ownD.out.lt _ hj).1)); have s1 := (hB2.out.cell (p := ⟨g, off + i, none⟩) hgx).trans hcx; have dig2 := Lib.hid (DAt.apart digD.out hg1 apD.out); have own2 := Lib.hid hv1; replace hv1 := Lib.hid hv1; replace hg1 := Lib.hid hg1)
            | (refine step_append_dat (by rfl) (.tmp 18) (.tmp 23) (by rfl) wb.heap.size _ (0 + L) _ (by rfl) own2.out _ 1 1 x (by rfl) dig2.out (by omega) hB2.out.size ?_; intro v2 w2 hv2 hg2; rw [hlist.out, Nat.zero_add] at hv2; have hB3 := Lib.hid (Below.grown hB2.out hg2 hB2.out.size (fun j hj => (own2.out.lt _ hj).1)); have s3 := (hB3.out.cell (p := ⟨g, off + i, none⟩) hgx).trans hcx; have hl2 := Lib.hid (lit_lies hv2 (Nat.succ_pos _)); have d2 := Lib.hid (own_DAt hv2); replace hv2 := Lib.hid hv2; replace hg2 := Lib.hid hg2)
            | (go_at_call 146; refine (trim_g _ (L + 1) (10 * (N % m) + x) _ d2.out hlt2.out (by omega)).mono ?_; rintro e w3 ⟨v3, rfl, hd3, hge3, rfl⟩; replace hd3 := Lib.hid hd3; replace hge3 := Lib.hid hge3))
        all_goals
          go_wp2_with fail
          go_meet
          obtain ⟨A3, c3, e3, -⟩ := hd3.out.at_
          obtain ⟨_, _, _, hblk⟩ := hl2.out
          exact ⟨_, A3, c3, e3, Lib.hid rfl, Lib.hid (by rw [← e3]; exact hd3.out), hB3, Lib.hid (by rw [← e3]; exact hge3.out _ hblk)⟩
      case rest =>
      obtain ⟨L2, A2, c2, rfl, hL2, hd2, hb2, hge2⟩ := hcut
      obtain ⟨R0, hR0⟩ : ∃ R, R = 10 * (N % m) + x := ⟨_, rfl⟩
      rw [← hR0] at hL2 hd2
      have hRm : R0 < 10 * m := by have := Nat.mod_lt N h0; omega
      replace hR0 := Lib.hid hR0
      obtain ⟨wx, rfl⟩ : ∃ w, w = wc := ⟨_, rfl⟩
      go_wp2_with fail
      go_loopw [7, 9] (fun rv nv wr => ∃ (t R L : Nat) (A : Option Addr) (c : Nat), nv = .int .i64 t ∧ rv = .slice A L c ∧ t ≤ 9 ∧ Hid (R0 = t * m + R) ∧ Hid (L = lenD R) ∧ Hid (DAt wr (.slice A L c) L R) ∧ Hid (Below wb.heap.size wb wr) ∧ Hid (BlkGe wb.heap.size (.slice A L c))) (fun _ nv _ => 10 - (intOf nv).toNat)
      case atStart => exact ⟨0, R0, L2, A2, c2, rfl, rfl, by decide, Lib.hid (by simp), hL2, hd2, hb2, hge2⟩
      case round =>
        obtain ⟨t, R, L3, A3, c3, rfl, rfl, ht9, hRt, hL3, hd3, hb3, hge3⟩ := hrel
        obtain ⟨w6, rfl⟩ : ∃ w, w = wr := ⟨_, rfl⟩
        have hR1 : R < 10 ^ L3 := by rw [hL3.out]; exact lenD_self R
        have hBs : Hid (B ≤ wb.heap.size) := Lib.hid (by rw [hB.out]; exact hb.out.size)
        have hbW := Lib.hid (hb.out.trans (hb3.out.mono hBs.out))
        have hu6 := Lib.hid (hu.out.below (w' := w6) (by rw [← hB.out]; exact hbW.out))
        have hL3b : L3 ≤ j + 1 := by
          rw [hL3.out]
          refine (lenD_le R (j + 1)).2 ?_
          have h1 := hRt.out
          have h2 := hm.out
          rw [Nat.pow_succ]; omega
        have hcm := cmp_r _ _ L3 j R m w6 hd3.out hu6.out hR1 hm.out (by omega) (by omega)
        obtain ⟨cv, hcv⟩ : ∃ c, c = cmpN R m := ⟨_, rfl⟩
        rw [← hcv] at hcm
        by_cases hmR : m ≤ R
        · have gc : cv ≥ 0 := by rw [hcv]; unfold cmpN; rw [if_neg (by omega)]; split <;> decide
          have hsub := sub_g (.slice A3 L3 c3) (.slice Ab j cb) L3 j R m
          have hnx : Hid (R0 = (t + 1) * m + (R - m)) := Lib.hid (by rw [hRt.out, Nat.succ_mul]; omega)
          have ht8 : t + 1 ≤ 9 := by
            have h1 := hnx.out
            have h2 : (t + 1) * m < 10 * m := by omega
            have h3 := Nat.lt_of_mul_lt_mul_right h2
            omega
          replace hcv := Lib.hid hcv
          replace hR1 := Lib.hid hR1
          go_wp2_with fail
          refine hcm.mono ?_
          rintro e w7 ⟨rfl, hb7⟩
          clear hcm
          go_wp2_with fail
          refine (hsub w7 (hd3.out.below hb7) (hu6.out.below hb7) hR1.out hm.out hmR (by omega) (by omega)).mono ?_
          rintro e w8 ⟨v8, rfl, hd8, hb8, hge8⟩
          obtain ⟨A8, c8, rfl, -⟩ := hd8.at_
          have hb78 := hb7.trans (hb8.mono hb7.size)
          have hb9 := Lib.hid (hb3.out.trans (hb78.mono hb3.out.size))
          have hge9 : Hid (BlkGe wb.heap.size (.slice A8 (lenD (R - m)) c8)) := Lib.hid (fun a n c e => Nat.le_trans (Nat.le_trans hb3.out.size hb7.size) (hge8 a n c e))
          replace hd8 := Lib.hid hd8
          clear hsub hb7 hb8 hb78 hge8
          go_wp2_with fail
          exact ⟨⟨t + 1, R - m, _, A8, c8, by simp, rfl, ht8, hnx, Lib.hid rfl, hd8, hb9, hge9⟩, by simp [intOf]; omega⟩
        · have gc : ¬ (cv ≥ 0) := by rw [hcv]; unfold cmpN; rw [if_pos (by omega)]; decide
          have hN2 : Hid (10 * N + x = n / 10 ^ (k - (i + 1))) := Lib.hid (by
            have h := div_step n (k - (i + 1))
            rw [show k - (i + 1) + 1 = k - i by omega, ← hN.out, show k - (i + 1) = k - 1 - i by omega, ← hx.out] at h
            rw [show k - (i + 1) = k - 1 - i by omega, h])
          have hdn := div_next (N := N) (d := x) h0
          rw [← hR0.out, hRt.out] at hdn
          have hq1 : (t * m + R) / m = t := by rw [Nat.mul_comm, Nat.mul_add_div h0, Nat.div_eq_of_lt (by omega), Nat.add_zero]
          have hq2 : (t * m + R) % m = R := by rw [Nat.mul_comm, Nat.mul_add_mod, Nat.mod_eq_of_lt (by omega)]
          rw [hq1, hq2] at hdn
          have hlist : Hid (fixN i (N / m) ++ fixN 1 t = fixN (i + 1) ((10 * N + x) / m)) := Lib.hid (by
            rw [hdn.2, ← fixN_snoc (by omega), show fixN 1 t = [t] by simp [fixN, dg, List.range, List.range.loop]; omega])
          have hLR : Hid (L3 = lenD ((10 * N + x) % m)) := Lib.hid (by rw [hdn.1]; exact hL3.out)
          have hLj3 : L3 ≤ j := by
            rw [hL3.out]
            exact (lenD_le R j).2 (by have := hm.out; omega)
          have hRm2 : Hid (R = (10 * N + x) % m) := Lib.hid hdn.1.symm
          replace hcv := Lib.hid hcv
          replace hR1 := Lib.hid hR1
          clear hdn hq1 hq2
          go_wp2_with fail
          refine hcm.mono ?_
          rintro e w7 ⟨rfl, hb7⟩
          clear hcm
          have hbw7 := Lib.hid (hb3.out.trans (hb7.mono hb3.out.size))
          have hbB7 := Lib.hid (hb.out.trans (hbw7.out.mono hBs.out))
          have hB7 : Hid (B ≤ w7.heap.size) := Lib.hid (Nat.le_trans hBs.out hbw7.out.size)
          have hd7 := Lib.hid (hd3.out.below hb7)
          have hown7 := Lib.hid (own_below hown.out hbw7.out)
          have hb8 : Below w7.heap.size w7 (w7.alloc (.cells #[.int .i64 (t : Int)] 3)) := (Below.refl _ _).alloc (Nat.le_refl _) _
          have hbB8 := Lib.hid (hbB7.out.trans (hb8.mono hB7.out))
          have hown8 := Lib.hid (own_below hown7.out hb8)
          have hd8 := Lib.hid (hd7.out.below hb8)
          have hnews := (own_digit w7 (show t < 10 by omega)).cells (g := w7.heap.size) rfl
          have hcells := ints_one (fixN 1 t)
          have hbs := Nat.le_trans hB7.out hb8.size
          have hend : Hid (∀ (v : Value) (w : World), w.ownsRow B 3 1 v (i + 1) (ints (fixN (i + 1) ((10 * N + x) / m))) → ∃ (A' : Option Addr) (c' : Nat), v = .slice A' (i + 1) c') := Lib.hid (fun v w h => by
            obtain ⟨A', c', e, _⟩ := lit_lies h (Nat.succ_pos _)
            exact ⟨A', c', e⟩)
          have hrow : Hid (∀ j, (Value.slice Aq i cq).ownBlock = some j → j < wb.heap.size) := Lib.hid (fun j hj => (hown.out.lt _ hj).2)
          clear hb7 hb8
          go_wp2_with (at_builtin; refine wpList_append_own _ rfl _ _ 120 rfl B 3 ii0 (.int .i64 0) 1 8 Tryz.underlying120 hii hz0 hz1 hz2 rfl (by decide) _ _ _ rfl hown8.out ⟨w7.heap.size, 0, none⟩ 1 1 (ints (fixN 1 t)) rfl rfl hnews hcells (by unfold maxLen; omega) (by omega) hbs ?_; intro v9 w9 hv9 hg9 hn9; rw [← ints_app, hlist.out] at hv9; obtain ⟨A9, c9, rfl⟩ := hend.out _ _ hv9; have hb9 := Lib.hid (Below.grown hbB8.out hg9 hbs (fun j hj => (hown8.out.lt _ hj).1)); have hd9 := Lib.hid (hd8.out.far hg9 hge3.out hrow.out); replace hv9 := Lib.hid hv9; clear hg9 hn9)
          exact ⟨⟨i + 1, 10 * N + x, L3, A9, c9, A3, c3, by simp, by omega, rfl, rfl, hN2, hLR, hLj3, hv9, Lib.hid (by rw [← hRm2.out]; exact hd9.out), hb9⟩, by simp [intOf]; omega⟩
    · have hik2 : i = k := by omega
      subst hik2
      have g1 : ¬ ((i : Int) < (i : Int)) := by omega
      have hNn : N = n := by rw [hN.out]; simp
      subst hNn
      have hq := own_DAt hown.out
      have ht := trim_r _ i (N / m) wr hq (Nat.lt_of_le_of_lt (Nat.div_le_self _ _) hn.out) (by omega)
      clear hq
      go_wp2_with fail
      refine ht.mono ?_
      rintro e w ⟨v5, rfl, hd5, rfl⟩
      clear ht
      obtain ⟨A5, c5, rfl, -⟩ := hd5.at_
      replace hd5 := Lib.hid hd5
      go_wp2_with fail
      go_ret2
      exact ⟨_, _, rfl, hd5.out, by rw [← hL.out]; exact hr.out, by rw [← hB.out]; exact hb.out⟩
end Go.Proofs.YtgobpoeccdgeiaaGreatDoor

namespace Go.Proofs.YtgobpoeccdgeiaaGreatDoor
open Go.RowKit NumP DigP DurP Go.Proofs.YtgobpoeccdgeiaaGreatDoorW.PrintWords
set_option linter.unusedVariables false

theorem DivPost.sl {W w' : World} {n m : Nat} {e : Ending} (h : DivPost W n m e w') : ∃ A c A' c', e = .returned (.tuple #[.slice A (lenD (n / m)) c, .slice A' (lenD (n % m)) c']) ∧ DAt w' (.slice A (lenD (n / m)) c) (lenD (n / m)) (n / m) ∧ DAt w' (.slice A' (lenD (n % m)) c') (lenD (n % m)) (n % m) ∧ Below W.heap.size W w' := by
  obtain ⟨q, r, rfl, h1, h2, hb⟩ := h
  obtain ⟨A, c, rfl, -⟩ := h1.at_
  obtain ⟨A', c', rfl, -⟩ := h2.at_
  exact ⟨A, c, A', c', rfl, h1, h2, hb⟩
set_option maxHeartbeats 4000000 in
set_option maxRecDepth 100000 in
theorem IDiv_r (s t : ByteArray) (W : World) (hs : s.size ≤ maxLen) (ht : t.size ≤ maxLen) : Calls Tryz.prog 102 #[.string s, .string t] W (OutE W (idivT s.data.toList t.data.toList)) := by
  have htw := two_r s t W hs ht
  obtain ⟨R, hR⟩ : ∃ R, R = idivT s.data.toList t.data.toList := ⟨_, rfl⟩
  rw [← hR]
  unfold idivT at hR
  rw [bothN_R] at hR
  obtain ⟨R1, hR1⟩ : ∃ R, R = canonN s.data.toList := ⟨_, rfl⟩
  obtain ⟨R2, hR2⟩ : ∃ R, R = canonN t.data.toList := ⟨_, rfl⟩
  rw [← hR1, ← hR2] at hR htw
  clear hR1 hR2
  replace hR := Lib.hid hR
  go_enter Tryz.func102, Tryz.ntmps102
  go_wp2_with fail
  refine htw.mono ?_
  rintro e w ⟨hb, b, A, k, c, b2, A2, k2, c2, ok, ok2, rfl, h1, h2⟩
  clear htw
  replace hb := Lib.hid hb
  cases ok with
  | false =>
    have hR2 : Hid (R = ([], 1)) := Lib.hid (by rw [hR.out, bothR_no1 _ (h1.no rfl)]; rfl)
    obtain ⟨W2, hW2, hb2, -⟩ := box_two4 w b b2 (.slice A k c) (.slice A2 k2 c2)
    clear h1 h2
    go_wp2_with fail
    rw [← hW2]
    go_ret2
    exact ⟨by rw [hR2.out]; rfl, hb.out.trans (hb2.mono hb.out.size)⟩
  | true =>
  cases ok2 with
  | false =>
    have hR2 : Hid (R = ([], 1)) := Lib.hid (by rw [hR.out, bothR_no2 _ (h2.no rfl)]; rfl)
    obtain ⟨W2, hW2, hb2, -⟩ := box_two4 w b b2 (.slice A k c) (.slice A2 k2 c2)
    clear h1 h2
    go_wp2_with fail
    rw [← hW2]
    go_ret2
    exact ⟨by rw [hR2.out]; rfl, hb.out.trans (hb2.mono hb.out.size)⟩
  | true =>
  obtain ⟨d, rfl, hk, hd, h50⟩ := h1.yes rfl
  obtain ⟨d2, rfl, hk2, hd2, h502⟩ := h2.yes rfl
  clear h1 h2
  rw [← hk] at hd h50
  rw [← hk2] at hd2 h502
  obtain ⟨W2, hW2, hb2, hq, hp⟩ := box_two4 w b b2 (.slice A k c) (.slice A2 k2 c2)
  by_cases h0 : k2 = 0
  · have hd0 : d2 = 0 := by
      rcases Nat.eq_zero_or_pos d2 with h | h
      · exact h
      · have := (lenD_pos d2).2 h; omega
    have hR2 : Hid (R = ([], 41)) := Lib.hid (by rw [hR.out]; unfold bothR divN; simp only; rw [if_pos hd0]; rfl)
    have g1 : ((k2 : Int) == 0) = true := by simp; omega
    replace hk := Lib.hid hk
    replace hk2 := Lib.hid hk2
    replace hd := Lib.hid hd
    replace hd2 := Lib.hid hd2
    clear h0 hd0 hq hp
    go_wp2_with fail
    rw [← hW2]
    go_ret2
    exact ⟨by rw [hR2.out]; rfl, hb.out.trans (hb2.mono hb.out.size)⟩
  have g1 : ((k2 : Int) == 0) = false := by simp; omega
  have hdp : 0 < d2 := (lenD_pos d2).1 (by omega)
  obtain ⟨q, hqe⟩ : ∃ q, q = w.heap.size := ⟨_, rfl⟩
  rw [← hqe] at hq hp
  have hlt : Hid (q < W2.heap.size ∧ q + 1 < W2.heap.size) := Lib.hid ⟨heap_lt hq, heap_lt hp⟩
  obtain ⟨b0, b1, e0, e1⟩ := cells_of hq hp
  have hdi := (div_r _ _ k k2 d d2 W2 (hd.below hb2) (hd2.below hb2) (by rw [hk]; exact lenD_self _) (by rw [hk2]; exact lenD_self _) hdp (by omega) (by omega)).mono fun _ _ h => DivPost.sl h
  obtain ⟨Q, hQ⟩ : ∃ Q, Q = d / d2 := ⟨_, rfl⟩
  obtain ⟨M, hM⟩ : ∃ M, M = d % d2 := ⟨_, rfl⟩
  rw [← hQ, ← hM] at hdi
  have hQl : lenD Q ≤ 50 := by rw [hQ]; exact Nat.le_trans (lenD_mono (Nat.div_le_self _ _)) (by rw [← hk]; exact h50)
  have hMl : lenD M ≤ 50 := by rw [hM]; exact Nat.le_trans (lenD_mono (Nat.le_of_lt (Nat.mod_lt _ hdp))) (by rw [← hk2]; exact h502)
  obtain ⟨KQ, hKQ⟩ : ∃ K, K = lenD Q := ⟨_, rfl⟩
  obtain ⟨KM, hKM⟩ : ∃ K, K = lenD M := ⟨_, rfl⟩
  rw [← hKQ, ← hKM] at hdi
  obtain ⟨ng, hng⟩ : ∃ ng, ng = (b != b2) := ⟨_, rfl⟩
  obtain ⟨D, hD⟩ : ∃ D, D = Q * 10 ^ 20 := ⟨_, rfl⟩
  have hR2 : Hid (R = outN (checkedN ⟨ng, D⟩)) := Lib.hid (by rw [hR.out, hng, hD, hQ]; unfold bothR divN; simp only; rw [if_neg (by omega)]; rfl)
  have hDl : lenD D ≤ 1000000 := by
    have h7 := lenD_mul Q (10 ^ 20) 50 21 hQl (by decide)
    rw [hD]; omega
  have cz : ∀ (A : Option Addr) (c : Nat) w, DAt w (.slice A KQ c) KQ Q → Calls Tryz.prog 112 #[.slice A KQ c, .int .i64 20] w (SlPost w (KQ + 20) D) := fun A c w h => by
    have := zeros_s _ KQ Q 20 w h (by omega) (by decide)
    rw [← hD] at this
    exact this
  have hDK : D < 10 ^ (KQ + 20) := by rw [hD, Nat.pow_add]; exact Nat.mul_lt_mul_of_pos_right (by rw [hKQ]; exact lenD_self _) (by decide)
  have ct : ∀ v w, DAt w v (KQ + 20) D → Calls Tryz.prog 146 #[v] w (SlPost w (lenD D) D) := fun v w h => trim_s v _ D w h hDK (by omega)
  have cr : ∀ v w, DAt w v (lenD D) D → Calls Tryz.prog 111 #[.bool ng, v] w (OutE w (outN (checkedN ⟨ng, D⟩))) := fun v w h => result_r ng v _ D w h (lenD_self _) hDl
  obtain ⟨KD, hKD⟩ : ∃ K, K = lenD D := ⟨_, rfl⟩
  rw [← hKD] at ct cr
  obtain ⟨res, hres⟩ : ∃ r, r = outN (checkedN ⟨ng, D⟩) := ⟨_, rfl⟩
  rw [← hres] at cr hR2
  have hnb : (!b == b2) = ng := hng.symm
  replace hk := Lib.hid hk
  replace hk2 := Lib.hid hk2
  replace hd := Lib.hid hd
  replace hd2 := Lib.hid hd2
  replace hQ := Lib.hid hQ
  replace hM := Lib.hid hM
  replace hD := Lib.hid hD
  replace hKQ := Lib.hid hKQ
  replace hKM := Lib.hid hKM
  replace hKD := Lib.hid hKD
  replace hDK := Lib.hid hDK
  replace hres := Lib.hid hres
  replace hng := Lib.hid hng
  replace cz := Lib.hid cz
  replace ct := Lib.hid ct
  replace cr := Lib.hid cr
  clear hDl hQl hMl hdp hq hp h0
  go_wp2_with fail
  rw [← hW2, ← hqe]
  replace hqe := Lib.hid hqe
  replace hW2 := Lib.hid hW2
  refine hdi.mono ?_
  rintro e w3 ⟨A3, c3, A4, c4, rfl, hv3, hv4, hb3⟩
  clear hdi
  have hlt3 : Hid (q < w3.heap.size ∧ q + 1 < w3.heap.size) := Lib.hid ⟨Nat.lt_of_lt_of_le hlt.out.1 hb3.size, Nat.lt_of_lt_of_le hlt.out.2 hb3.size⟩
  have hS4 := four_later hlt (And.intro b0 (And.intro b1 (And.intro e0 (And.intro e1 (Lib.hid (Below.refl _ _)))))) hb3
  obtain ⟨f0, f1, f2, f3, -⟩ := hS4
  have hb02 := hb.out.trans (hb2.mono hb.out.size)
  have hb03 := Lib.hid (hb02.trans (hb3.mono hb02.size))
  clear hb3 b0 b1 e0 e1 hb2 hb02 hv4
  have hv3' := Lib.hid hv3
  have hS : Hid (w3.drew.cell? ⟨q, 0, none⟩ = some (.bool b) ∧ w3.drew.cell? ⟨q, 1, none⟩ = some (.slice A k c) ∧ w3.drew.cell? ⟨q + 1, 0, none⟩ = some (.bool b2) ∧ w3.drew.cell? ⟨q + 1, 1, none⟩ = some (.slice A2 k2 c2) ∧ Hid (Below w3.heap.size w3 w3.drew)) := Lib.hid ⟨f0, f1, f2, f3, Lib.hid (Below.refl _ _).drew⟩
  clear hv3 f0 f1 f2 f3
  go_wp2_with fail
  go_region_held3 (fun w' => w'.cell? ⟨q, 0, none⟩ = some (.bool b) ∧ w'.cell? ⟨q, 1, none⟩ = some (.slice A k c) ∧ w'.cell? ⟨q + 1, 0, none⟩ = some (.bool b2) ∧ w'.cell? ⟨q + 1, 1, none⟩ = some (.slice A2 k2 c2) ∧ Hid (Below w3.heap.size w3 w'))
    (first | exact hS.out | assumption | exact four_later hlt3 (by assumption) (by assumption))
    (first
      | (go_at_call 112; refine (cz.out _ _ _ (hv3'.out.below (four_out (by assumption)))).mono ?_; rintro e w' ⟨A6, c6, rfl, hv6, hbb⟩)
      | (go_at_call 146; refine (ct.out _ _ (by assumption)).mono ?_; rintro e w' ⟨A7, c7, rfl, hv7, hbb⟩)
      | (go_at_call 111; refine (cr.out _ _ (by assumption)).mono ?_; rintro e w' ⟨rfl, hbb⟩))
  rename_i hH
  have hbb := Lib.hid hH.2.2.2.2.out
  go_wp2_with fail
  go_ret2
  exact ⟨by rw [hR2.out]; rfl, hb03.out.trans (hbb.out.mono hb03.out.size)⟩
set_option maxHeartbeats 4000000 in
set_option maxRecDepth 100000 in
theorem Mod_r (s t : ByteArray) (W : World) (hs : s.size ≤ maxLen) (ht : t.size ≤ maxLen) : Calls Tryz.prog 103 #[.string s, .string t] W (OutE W (modT s.data.toList t.data.toList)) := by
  have htw := two_r s t W hs ht
  obtain ⟨R, hR⟩ : ∃ R, R = modT s.data.toList t.data.toList := ⟨_, rfl⟩
  rw [← hR]
  unfold modT at hR
  rw [bothN_R] at hR
  obtain ⟨R1, hR1⟩ : ∃ R, R = canonN s.data.toList := ⟨_, rfl⟩
  obtain ⟨R2, hR2⟩ : ∃ R, R = canonN t.data.toList := ⟨_, rfl⟩
  rw [← hR1, ← hR2] at hR htw
  clear hR1 hR2
  replace hR := Lib.hid hR
  go_enter Tryz.func103, Tryz.ntmps103
  go_wp2_with fail
  refine htw.mono ?_
  rintro e w ⟨hb, b, A, k, c, b2, A2, k2, c2, ok, ok2, rfl, h1, h2⟩
  clear htw
  replace hb := Lib.hid hb
  cases ok with
  | false =>
    have hR2 : Hid (R = ([], 1)) := Lib.hid (by rw [hR.out, bothR_no1 _ (h1.no rfl)]; rfl)
    obtain ⟨W2, hW2, hb2, -⟩ := box_two4 w b b2 (.slice A k c) (.slice A2 k2 c2)
    clear h1 h2
    go_wp2_with fail
    rw [← hW2]
    go_ret2
    exact ⟨by rw [hR2.out]; rfl, hb.out.trans (hb2.mono hb.out.size)⟩
  | true =>
  cases ok2 with
  | false =>
    have hR2 : Hid (R = ([], 1)) := Lib.hid (by rw [hR.out, bothR_no2 _ (h2.no rfl)]; rfl)
    obtain ⟨W2, hW2, hb2, -⟩ := box_two4 w b b2 (.slice A k c) (.slice A2 k2 c2)
    clear h1 h2
    go_wp2_with fail
    rw [← hW2]
    go_ret2
    exact ⟨by rw [hR2.out]; rfl, hb.out.trans (hb2.mono hb.out.size)⟩
  | true =>
  obtain ⟨d, rfl, hk, hd, h50⟩ := h1.yes rfl
  obtain ⟨d2, rfl, hk2, hd2, h502⟩ := h2.yes rfl
  clear h1 h2
  rw [← hk] at hd h50
  rw [← hk2] at hd2 h502
  obtain ⟨W2, hW2, hb2, hq, hp⟩ := box_two4 w b b2 (.slice A k c) (.slice A2 k2 c2)
  by_cases h0 : k2 = 0
  · have hd0 : d2 = 0 := by
      rcases Nat.eq_zero_or_pos d2 with h | h
      · exact h
      · have := (lenD_pos d2).2 h; omega
    have hR2 : Hid (R = ([], 41)) := Lib.hid (by rw [hR.out]; unfold bothR divN; simp only; rw [if_pos hd0]; rfl)
    have g1 : ((k2 : Int) == 0) = true := by simp; omega
    replace hk := Lib.hid hk
    replace hk2 := Lib.hid hk2
    replace hd := Lib.hid hd
    replace hd2 := Lib.hid hd2
    clear h0 hd0 hq hp
    go_wp2_with fail
    rw [← hW2]
    go_ret2
    exact ⟨by rw [hR2.out]; rfl, hb.out.trans (hb2.mono hb.out.size)⟩
  have g1 : ((k2 : Int) == 0) = false := by simp; omega
  have hdp : 0 < d2 := (lenD_pos d2).1 (by omega)
  obtain ⟨q, hqe⟩ : ∃ q, q = w.heap.size := ⟨_, rfl⟩
  rw [← hqe] at hq hp
  have hlt : Hid (q < W2.heap.size ∧ q + 1 < W2.heap.size) := Lib.hid ⟨heap_lt hq, heap_lt hp⟩
  obtain ⟨b0, b1, e0, e1⟩ := cells_of hq hp
  have hdi := (div_r _ _ k k2 d d2 W2 (hd.below hb2) (hd2.below hb2) (by rw [hk]; exact lenD_self _) (by rw [hk2]; exact lenD_self _) hdp (by omega) (by omega)).mono fun _ _ h => DivPost.sl h
  obtain ⟨Q, hQ⟩ : ∃ Q, Q = d / d2 := ⟨_, rfl⟩
  obtain ⟨M, hM⟩ : ∃ M, M = d % d2 := ⟨_, rfl⟩
  rw [← hQ, ← hM] at hdi
  have hQl : lenD Q ≤ 50 := by rw [hQ]; exact Nat.le_trans (lenD_mono (Nat.div_le_self _ _)) (by rw [← hk]; exact h50)
  have hMl : lenD M ≤ 50 := by rw [hM]; exact Nat.le_trans (lenD_mono (Nat.le_of_lt (Nat.mod_lt _ hdp))) (by rw [← hk2]; exact h502)
  obtain ⟨KQ, hKQ⟩ : ∃ K, K = lenD Q := ⟨_, rfl⟩
  obtain ⟨KM, hKM⟩ : ∃ K, K = lenD M := ⟨_, rfl⟩
  rw [← hKQ, ← hKM] at hdi
  have hR2 : Hid (R = outN (checkedN ⟨b, M⟩)) := Lib.hid (by rw [hR.out, hM]; unfold bothR divN; simp only; rw [if_neg (by omega)])
  have cr : ∀ v w, DAt w v KM M → Calls Tryz.prog 111 #[.bool b, v] w (OutE w (outN (checkedN ⟨b, M⟩))) := fun v w h => result_r b v _ M w h (by rw [hKM]; exact lenD_self _) (by omega)
  obtain ⟨res, hres⟩ : ∃ r, r = outN (checkedN ⟨b, M⟩) := ⟨_, rfl⟩
  rw [← hres] at cr hR2
  replace hk := Lib.hid hk
  replace hk2 := Lib.hid hk2
  replace hd := Lib.hid hd
  replace hd2 := Lib.hid hd2
  replace hQ := Lib.hid hQ
  replace hM := Lib.hid hM
  replace hKQ := Lib.hid hKQ
  replace hKM := Lib.hid hKM
  replace hres := Lib.hid hres
  replace cr := Lib.hid cr
  clear hQl hMl hdp hq hp h0
  go_wp2_with fail
  rw [← hW2, ← hqe]
  replace hqe := Lib.hid hqe
  replace hW2 := Lib.hid hW2
  refine hdi.mono ?_
  rintro e w3 ⟨A3, c3, A4, c4, rfl, hv3, hv4, hb3⟩
  clear hdi
  have hS4 := four_later hlt (And.intro b0 (And.intro b1 (And.intro e0 (And.intro e1 (Lib.hid (Below.refl _ _)))))) hb3
  obtain ⟨f0, f1, f2, f3, -⟩ := hS4
  have hb02 := hb.out.trans (hb2.mono hb.out.size)
  have hb03 := Lib.hid (hb02.trans (hb3.mono hb02.size))
  clear hb3 b0 b1 e0 e1 hb2 hb02 hv3
  go_wp2_with fail
  refine (cr.out _ _ hv4).mono ?_
  rintro e w4 ⟨rfl, hb4⟩
  go_wp2_with fail
  go_ret2
  exact ⟨by rw [hR2.out]; rfl, hb03.out.trans (hb4.mono hb03.out.size)⟩
end Go.Proofs.YtgobpoeccdgeiaaGreatDoor
