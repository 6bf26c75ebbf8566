/- Package chiselref04: two. Package chiselref04: the functions on digits in one form; sum. Package chiselref04: Add, Sub, Neg, Mul. Package chiselref04: div. Package chiselref04: IDiv, Mod. -/
import Derived.Test.YtgobpoeccdgeiaaGreatDoorQl
import Derived.RegionTactic
import Derived.BigRegion
import Derived.Test.YtgobpoeccdgeiaaGreatDoorQk
import Derived.Deep.RegionHeld3
import Derived.Deep.RegionLaw
import Derived.Deep.CutRange

namespace Go.Proofs.YtgobpoeccdgeiaaGreatDoor
open Go.RowKit NumP DigP DurP Go.Proofs.YtgobpoeccdgeiaaGreatDoorW.PrintWords
set_option linter.unusedVariables false

theorem res_three {fn : Func} {p p2 t : Tmp} {ty ty2 : TypeId} (h : fn.results = #[.cell p ty, .cell p2 ty2, .tmp t]) (tmps : Array Value) (P : Program) (w : World) :
    (results fn tmps).run P w = ((asAddr (tmps.getD p undef)).run P w).andThen fun a w₁ => ((loadVar ty a).run P w₁).andThen fun v w₂ => ((asAddr (tmps.getD p2 undef)).run P w₂).andThen fun a2 w₃ => ((loadVar ty2 a2).run P w₃).andThen fun v2 w₄ => .ok (.tuple #[v, v2, tmps.getD t undef]) w₄ := by
  simp only [results, h]
  simp [Sem.run_bind, Result.andThen]
/-- What Canonical says of a number. -/
structure CanOf (w : World) (r : NumP.R) (b : Bool) (A : Option Addr) (k c : Nat) (ok : Bool) : Prop where
  yes : ok = true → ∃ d, r = .ok ⟨b, d⟩ ∧ k = lenD d ∧ DAt w (.slice A k c) (lenD d) d ∧ lenD d ≤ 50
  no : ok = false → ∃ k, r = .error k
theorem CanOf.below {w w' : World} {r : NumP.R} {b : Bool} {A : Option Addr} {k c : Nat} {ok : Bool} (h : CanOf w r b A k c ok) (hb : Below w.heap.size w w') : CanOf w' r b A k c ok :=
  ⟨fun e => by obtain ⟨d, h1, h2, h3, h4⟩ := h.yes e; exact ⟨d, h1, h2, h3.below hb, h4⟩, h.no⟩
theorem CanOf.put {w : World} {r : NumP.R} {b : Bool} {A : Option Addr} {k c : Nat} {ok : Bool} (h : CanOf w r b A k c ok) {a : Addr} {x : Value} (hx : w.cell? a = some x) (hn : ∀ d : Nat, x ≠ .int .i64 (d : Int)) (u : Value) : CanOf (w.setCell a u) r b A k c ok :=
  ⟨fun e => by obtain ⟨d, h1, h2, h3, h4⟩ := h.yes e; exact ⟨d, h1, h2, h3.put hx hn u, h4⟩, h.no⟩
theorem can_of (s : ByteArray) (W : World) (hs : s.size ≤ maxLen) : Calls Tryz.prog 109 #[.string s] W fun e w' => Below W.heap.size W w' ∧ ∃ b A k c ok, e = .returned (.tuple #[.agg #[.bool b, .slice A k c], .bool ok]) ∧ CanOf w' (canonN s.data.toList) b A k c ok := by
  refine (can_r s W hs).mono ?_
  rintro e w ⟨hb, h⟩
  refine ⟨hb, ?_⟩
  cases hr : canonN s.data.toList with
  | error k =>
    rw [hr] at h
    exact ⟨false, none, 0, 0, false, h, fun e => by (cases e), fun _ => ⟨k, rfl⟩⟩
  | ok x =>
    rw [hr] at h
    obtain ⟨v, e, hd⟩ := h
    obtain ⟨A, c, rfl, -⟩ := hd.at_
    exact ⟨x.neg, A, lenD x.d, c, true, e, fun _ => ⟨x.d, rfl, rfl, hd, lenD_50 (canonN_lt hr)⟩, fun e => by (cases e)⟩
def TwoPost (W : World) (r1 r2 : NumP.R) (e : Ending) (w' : World) : Prop := Below W.heap.size W w' ∧ ∃ b A k c b2 A2 k2 c2 ok ok2, e = .returned (.tuple #[.agg #[.bool b, .slice A k c], .agg #[.bool b2, .slice A2 k2 c2], .bool (ok && ok2)]) ∧ CanOf w' r1 b A k c ok ∧ CanOf w' r2 b2 A2 k2 c2 ok2
set_option maxHeartbeats 4000000 in
set_option maxRecDepth 100000 in
theorem two_r (s t : ByteArray) (W : World) (hs : s.size ≤ maxLen) (ht : t.size ≤ maxLen) : Calls Tryz.prog 95 #[.string s, .string t] W (TwoPost W (canonN s.data.toList) (canonN t.data.toList)) := by
  obtain ⟨R1, hR1⟩ : ∃ R, R = canonN s.data.toList := ⟨_, rfl⟩
  obtain ⟨R2, hR2⟩ : ∃ R, R = canonN t.data.toList := ⟨_, rfl⟩
  have c1 := fun W => can_of s W hs
  have c2 := fun W => can_of t W ht
  rw [← hR1] at c1 ⊢
  rw [← hR2] at c2 ⊢
  clear hR1 hR2
  obtain ⟨W1, hW1, hb1, hz1, hq0, hq1⟩ := box_num W false
  obtain ⟨q, hq⟩ : ∃ q, q = W.heap.size := ⟨_, rfl⟩
  rw [← hq] at hz1 hq0 hq1
  replace c1 := Lib.hid c1
  replace c2 := Lib.hid c2
  replace hb1 := Lib.hid hb1
  replace hz1 := Lib.hid hz1
  replace hq0 := Lib.hid hq0
  replace hq1 := Lib.hid hq1
  go_enter Tryz.func95, Tryz.ntmps95
  go_wp2_with fail
  rw [← hW1, ← hq]
  clear hW1
  replace hq := Lib.hid hq
  refine (c1.out W1).mono ?_
  rintro e w2 ⟨hb2, b1, A1, k1, x1, ok1, rfl, hc1⟩
  replace hb2 := Lib.hid hb2
  replace hc1 := Lib.hid hc1
  go_wp2_with fail
  obtain ⟨W3, hW3⟩ : ∃ w, w = w2.alloc (.cells #[.bool b1, .slice A1 k1 x1] 122) := ⟨_, rfl⟩
  obtain ⟨p, hp⟩ : ∃ p, p = w2.heap.size := ⟨_, rfl⟩
  rw [← hW3, ← hp]
  have hb3 : Hid (Below w2.heap.size w2 W3) := Lib.hid (by rw [hW3]; exact (Below.refl _ _).alloc (Nat.le_refl _) _)
  have hp3 : Hid (W3.heap[p]? = some (.cells #[.bool b1, .slice A1 k1 x1] 122 (0, 0))) := Lib.hid (by rw [hW3, hp]; exact (MapKept.heap_alloc _ _).1)
  replace hp := Lib.hid hp
  replace hW3 := Lib.hid hW3
  refine (c2.out W3).mono ?_
  rintro e w4 ⟨hb4, b2, A2, k2, x2, ok2, rfl, hc2⟩
  replace hb4 := Lib.hid hb4
  replace hc2 := Lib.hid hc2
  go_upto_region 3 with fail
  obtain ⟨W5, hW5⟩ : ∃ w, w = w4.alloc (.cells #[.bool b2, .slice A2 k2 x2] 122) := ⟨_, rfl⟩
  obtain ⟨r, hr⟩ : ∃ p, p = w4.heap.size := ⟨_, rfl⟩
  rw [← hW5, ← hr]
  have hb5 : Hid (Below w4.heap.size w4 W5) := Lib.hid (by rw [hW5]; exact (Below.refl _ _).alloc (Nat.le_refl _) _)
  have hr5 : W5.heap[r]? = some (.cells #[.bool b2, .slice A2 k2 x2] 122 (0, 0)) := by rw [hW5, hr]; exact (MapKept.heap_alloc _ _).1
  replace hr := Lib.hid hr
  clear hW5
  have hb35 : Hid (Below W3.heap.size W3 W5) := Lib.hid (hb4.out.trans (hb5.out.mono hb4.out.size))
  have hb25 : Hid (Below w2.heap.size w2 W5) := Lib.hid (hb3.out.trans (hb35.out.mono hb3.out.size))
  have hb15 : Hid (Below W1.heap.size W1 W5) := Lib.hid (hb2.out.trans (hb25.out.mono hb2.out.size))
  have hb05 : Hid (Below W.heap.size W W5) := Lib.hid (hb1.out.trans (hb15.out.mono hb1.out.size))
  have hp5 := (hb35.out.block _ (heap_lt hp3.out)).trans hp3.out
  have hq05 := (hb15.out.block _ (heap_lt hq0.out)).trans hq0.out
  have hq15 := (hb15.out.block _ (heap_lt hq1.out)).trans hq1.out
  have hd1 : Hid (CanOf W5 R1 b1 A1 k1 x1 ok1) := Lib.hid (hc1.out.below hb25.out)
  have hd2 : Hid (CanOf W5 R2 b2 A2 k2 x2 ok2) := Lib.hid (hc2.out.below hb5.out)
  have n1 : p ≠ q := by have := hb2.out.size; have := hz1.out; have := hp.out; omega
  have n2 : p ≠ q + 1 := by have := hb2.out.size; have := hz1.out; have := hp.out; omega
  have n3 : r ≠ q := by have := hb2.out.size; have := hb3.out.size; have := hb4.out.size; have := hz1.out; have := hp.out; have := hr.out; omega
  have n4 : r ≠ q + 1 := by have := hb2.out.size; have := hb3.out.size; have := hb4.out.size; have := hz1.out; have := hp.out; have := hr.out; omega
  obtain ⟨⟨u0, u1⟩, -⟩ := cells2 hp5
  obtain ⟨⟨v0, v1⟩, -⟩ := cells2 hr5
  obtain ⟨⟨y0, y1⟩, fy⟩ := cells2 hq05
  obtain ⟨⟨z0, z1⟩, fz⟩ := cells2 hq15
  have f0 := fy 0
  have f1 := fy 1
  have g0 := fz 0
  have g1 := fz 1
  have hge : Hid (W.heap.size ≤ q) := Lib.hid (Nat.le_of_eq hq.out.symm)
  have hfin : Hid (∀ w6, (w6 = (((W5.setCell ⟨q, 0, none⟩ (.bool b1)).setCell ⟨q, 1, none⟩ (.slice A1 k1 x1)).setCell ⟨q + 1, 0, none⟩ (.bool b2)).setCell ⟨q + 1, 1, none⟩ (.slice A2 k2 x2)) → w6.heap[q]? = some (.cells #[.bool b1, .slice A1 k1 x1] 122 (0, 0)) ∧ w6.heap[q + 1]? = some (.cells #[.bool b2, .slice A2 k2 x2] 122 (0, 0)) ∧ Below W.heap.size W w6 ∧ CanOf w6 R1 b1 A1 k1 x1 ok1 ∧ CanOf w6 R2 b2 A2 k2 x2 ok2) := Lib.hid (fun w6 e => by
    obtain ⟨w7, e7, s1, s2, s3⟩ := put2 hq05 (.bool b1) (.slice A1 k1 x1) (B := W.heap.size) hge.out
    have t1 : w7.heap[q + 1]? = some (.cells #[.bool false, .slice none 0 0] 122 (0, 0)) := by rw [s3 (q + 1) (by omega)]; exact hq15
    obtain ⟨w8, e8, s4, s5, s6⟩ := put2 t1 (.bool b2) (.slice A2 k2 x2) (B := W.heap.size) (Nat.le_succ_of_le hge.out)
    have ew : w6 = w8 := by rw [e, e8, e7]
    have m1 := cells2 (Lib.heap_setCell_same (i := 0) hq05 (.bool b1))
    have m2 := cells2 t1
    have m3 := cells2 (Lib.heap_setCell_same (i := 0) t1 (.bool b2))
    have keep : ∀ {R : NumP.R} {b : Bool} {A : Option Addr} {k c : Nat} {ok : Bool}, CanOf W5 R b A k c ok → CanOf w8 R b A k c ok := fun h => by
      have h7 := (h.put y0 (fun d h => by cases h) (.bool b1)).put m1.1.2 (fun d h => by cases h) (.slice A1 k1 x1)
      rw [← e7] at h7
      rw [e8]
      exact (h7.put m2.1.1 (fun d h => by cases h) _).put m3.1.2 (fun d h => by cases h) _
    rw [ew]
    exact ⟨by rw [s6 q (by omega)]; exact s1, s4, hb05.out.trans (s2.trans s5), keep hd1.out, keep hd2.out⟩)
  clear fy fz
  replace hp5 := Lib.hid hp5
  replace hr5 := Lib.hid hr5
  replace hq05 := Lib.hid hq05
  replace hq15 := Lib.hid hq15
  cases ok1 with
  | false =>
    go_region
    obtain ⟨w6, e6⟩ : ∃ w, w = (((W5.setCell ⟨q, 0, none⟩ (.bool b1)).setCell ⟨q, 1, none⟩ (.slice A1 k1 x1)).setCell ⟨q + 1, 0, none⟩ (.bool b2)).setCell ⟨q + 1, 1, none⟩ (.slice A2 k2 x2) := ⟨_, rfl⟩
    rw [← e6]
    obtain ⟨j1, j2, j3, j4, j5⟩ := hfin.out w6 e6
    obtain ⟨⟨i0, i1⟩, -⟩ := cells2 j1
    obtain ⟨⟨i2, i3⟩, -⟩ := cells2 j2
    replace j1 := Lib.hid j1
    replace j2 := Lib.hid j2
    clear e6 u0 u1 v0 v1 y0 y1 z0 z1 f0 f1 g0 g1 hfin
    go_wp2_with fail
    refine bodyPost_ret (v := .tuple #[.agg #[.bool b1, .slice A1 k1 x1], .agg #[.bool b2, .slice A2 k2 x2], .bool false]) ?ret rfl ?post
    case ret => rw [res_three rfl]; go_simp
    case post => exact ⟨j3.drew, b1, A1, k1, x1, b2, A2, k2, x2, false, ok2, rfl, j4.below ((Below.refl _ _).drew), j5.below ((Below.refl _ _).drew)⟩
  | true =>
    go_region
    obtain ⟨w6, e6⟩ : ∃ w, w = (((W5.setCell ⟨q, 0, none⟩ (.bool b1)).setCell ⟨q, 1, none⟩ (.slice A1 k1 x1)).setCell ⟨q + 1, 0, none⟩ (.bool b2)).setCell ⟨q + 1, 1, none⟩ (.slice A2 k2 x2) := ⟨_, rfl⟩
    rw [← e6]
    obtain ⟨j1, j2, j3, j4, j5⟩ := hfin.out w6 e6
    obtain ⟨⟨i0, i1⟩, -⟩ := cells2 j1
    obtain ⟨⟨i2, i3⟩, -⟩ := cells2 j2
    replace j1 := Lib.hid j1
    replace j2 := Lib.hid j2
    clear e6 u0 u1 v0 v1 y0 y1 z0 z1 f0 f1 g0 g1 hfin
    go_wp2_with fail
    refine bodyPost_ret (v := .tuple #[.agg #[.bool b1, .slice A1 k1 x1], .agg #[.bool b2, .slice A2 k2 x2], .bool ok2]) ?ret rfl ?post
    case ret => rw [res_three rfl]; go_simp
    case post => exact ⟨j3.drew, b1, A1, k1, x1, b2, A2, k2, x2, true, ok2, rfl, j4.below ((Below.refl _ _).drew), j5.below ((Below.refl _ _).drew)⟩
end Go.Proofs.YtgobpoeccdgeiaaGreatDoor

namespace Go.Proofs.YtgobpoeccdgeiaaGreatDoor
open Go.RowKit NumP DigP DurP Go.Proofs.YtgobpoeccdgeiaaGreatDoorW.PrintWords
set_option linter.unusedVariables false

/-- A slice of the k digits of n. -/
def SlPost (W : World) (k n : Nat) (e : Ending) (w' : World) : Prop := ∃ A c, e = .returned (.slice A k c) ∧ DAt w' (.slice A k c) k n ∧ Below W.heap.size W w'
theorem sl_of {W w' : World} {k n : Nat} {e : Ending} {v : Value} (he : e = .returned v) (hd : DAt w' v k n) (hb : Below W.heap.size W w') : SlPost W k n e w' := by
  obtain ⟨A, c, rfl, -⟩ := hd.at_
  exact ⟨A, c, he, hd, hb⟩
theorem DgPost.sl {W w' : World} {n : Nat} {e : Ending} (h : DgPost W n e w') : SlPost W (lenD n) n e w' := by
  obtain ⟨v, he, hd, hb⟩ := h
  exact sl_of he hd hb
theorem zeros_s (v : Value) (k n m : Nat) (W : World) (h : DAt W v k n) (hk : k ≤ 1000) (hm : m ≤ 1000) : Calls Tryz.prog 112 #[v, .int .i64 (m : Int)] W (SlPost W (k + m) (n * 10 ^ m)) :=
  (zeros_r v k n m W h hk hm).mono fun _ _ ⟨v', e, hd, hw⟩ => sl_of e (own_DAt hd) hw
theorem lenD_mono {a b : Nat} (h : a ≤ b) : lenD a ≤ lenD b := (lenD_le a (lenD b)).2 (Nat.lt_of_le_of_lt h (lenD_self b))
theorem lenD_add (a b k : Nat) (ha : lenD a ≤ k) (hb : lenD b ≤ k) : lenD (a + b) ≤ k + 1 := by
  refine (lenD_le _ _).2 ?_
  have h1 := (lenD_le a k).1 ha
  have h2 := (lenD_le b k).1 hb
  rw [Nat.pow_succ]; omega
/-- Two numbers, boxed. -/
theorem box_two4 (W : World) (xn yn : Bool) (vx vy : Value) : ∃ W2, W2 = (W.alloc (.cells #[.bool xn, vx] 122)).alloc (.cells #[.bool yn, vy] 122) ∧ Below W.heap.size W W2 ∧
    W2.heap[W.heap.size]? = some (.cells #[.bool xn, vx] 122 (0, 0)) ∧ W2.heap[W.heap.size + 1]? = some (.cells #[.bool yn, vy] 122 (0, 0)) := by
  have hb1 : Below W.heap.size W (W.alloc (.cells #[.bool xn, vx] 122)) := (Below.refl _ _).alloc (Nat.le_refl _) _
  have h1 : (W.alloc (.cells #[.bool xn, vx] 122)).heap[W.heap.size]? = some (.cells #[.bool xn, vx] 122 (0, 0)) := (MapKept.heap_alloc _ _).1
  obtain ⟨W1, hW1⟩ : ∃ W1, W1 = W.alloc (.cells #[.bool xn, vx] 122) := ⟨_, rfl⟩
  have hz : W1.heap.size = W.heap.size + 1 := by rw [hW1]; simp
  rw [← hW1] at hb1 h1 ⊢
  refine ⟨_, rfl, hb1.alloc hb1.size _, ?_, ?_⟩
  · rw [Below.heap_alloc _ _ _ (by omega)]; exact h1
  · rw [← hz]; exact (MapKept.heap_alloc _ _).1
set_option maxHeartbeats 4000000 in
set_option maxRecDepth 100000 in
theorem sum_r (W : World) (xn yn : Bool) (Ax Ay : Option Addr) (nx cx ny cy dx dy : Nat) (hx : DAt W (.slice Ax nx cx) nx dx) (hy : DAt W (.slice Ay ny cy) ny dy) (hdx : dx < 10 ^ nx) (hdy : dy < 10 ^ ny) (hnx : nx ≤ 1000) (hny : ny ≤ 1000) :
    Calls Tryz.prog 96 #[.agg #[.bool xn, .slice Ax nx cx], .agg #[.bool yn, .slice Ay ny cy]] W (OutE W (outN (sumN ⟨xn, dx⟩ ⟨yn, dy⟩))) := by
  obtain ⟨W2, hW2, hb2, hq, hp⟩ := box_two4 W xn yn (.slice Ax nx cx) (.slice Ay ny cy)
  obtain ⟨q, hqe⟩ : ∃ q, q = W.heap.size := ⟨_, rfl⟩
  rw [← hqe] at hq hp
  have hlt : Hid (q < W2.heap.size ∧ q + 1 < W2.heap.size) := Lib.hid ⟨heap_lt hq, heap_lt hp⟩
  obtain ⟨b0, b1, d0, d1⟩ := cells_of hq hp
  have hX2 : Hid (DAt W2 (.slice Ax nx cx) nx dx) := Lib.hid (hx.below hb2)
  have hY2 : Hid (DAt W2 (.slice Ay ny cy) ny dy) := Lib.hid (hy.below hb2)
  have hnx' : Hid (nx ≤ 100000) := Lib.hid (by omega)
  have hny' : Hid (ny ≤ 100000) := Lib.hid (by omega)
  have lx : Hid (lenD dx ≤ 1000) := Lib.hid (Nat.le_trans ((lenD_le dx nx).2 hdx) hnx)
  have ly : Hid (lenD dy ≤ 1000) := Lib.hid (Nat.le_trans ((lenD_le dy ny).2 hdy) hny)
  have hls : Hid (lenD (dx + dy) ≤ 1000000) := Lib.hid (Nat.le_trans (lenD_add dx dy 1000 lx.out ly.out) (by decide))
  have hlm1 : Hid (lenD (dx - dy) ≤ 1000000) := Lib.hid (Nat.le_trans (lenD_mono (Nat.sub_le dx dy)) (by have := lx.out; omega))
  have hlm2 : Hid (lenD (dy - dx) ≤ 1000000) := Lib.hid (Nat.le_trans (lenD_mono (Nat.sub_le dy dx)) (by have := ly.out; omega))
  have hS : Hid (W2.drew.cell? ⟨q, 0, none⟩ = some (.bool xn) ∧ W2.drew.cell? ⟨q, 1, none⟩ = some (.slice Ax nx cx) ∧ W2.drew.cell? ⟨q + 1, 0, none⟩ = some (.bool yn) ∧ W2.drew.cell? ⟨q + 1, 1, none⟩ = some (.slice Ay ny cy) ∧ Hid (Below W2.heap.size W2 W2.drew)) := Lib.hid ⟨b0, b1, d0, d1, Lib.hid (Below.refl _ _).drew⟩
  replace hq := Lib.hid hq
  replace hp := Lib.hid hp
  replace hdx := Lib.hid hdx
  replace hdy := Lib.hid hdy
  clear hx hy
  by_cases hsn : xn = yn
  · have hR : Hid (sumN ⟨xn, dx⟩ ⟨yn, dy⟩ = checkedN ⟨xn, dx + dy⟩) := Lib.hid (by unfold sumN; rw [if_pos hsn])
    subst hsn
    go_enter Tryz.func96, Tryz.ntmps96
    go_wp2_with fail
    rw [← hW2, ← hqe]
    clear hW2
    replace hqe := Lib.hid hqe
    clear b0 b1 d0 d1
    go_region_held3 (fun w' => w'.cell? ⟨q, 0, none⟩ = some (.bool xn) ∧ w'.cell? ⟨q, 1, none⟩ = some (.slice Ax nx cx) ∧ w'.cell? ⟨q + 1, 0, none⟩ = some (.bool xn) ∧ w'.cell? ⟨q + 1, 1, none⟩ = some (.slice Ay ny cy) ∧ Hid (Below W2.heap.size W2 w'))
      (first | exact hS.out | exact four_later hlt (by assumption) (by assumption))
      (first
        | (go_at_call 140; refine ((add_r _ _ nx ny dx dy _ (hX2.out.below (four_out (by assumption))) (hY2.out.below (four_out (by assumption))) hdx.out hdy.out hnx'.out hny'.out).mono (fun e w' h => DgPost.sl h)).mono ?_; rintro e w' ⟨A7, c7, rfl, hv7, hbb⟩)
        | (go_at_call 111; refine (result_r _ _ _ (dx + dy) _ (by assumption) (lenD_self _) hls.out).mono ?_; rintro e w' ⟨rfl, hbb⟩))
    rename_i hH
    have hbb := Lib.hid hH.2.2.2.2.out
    go_wp2_with fail
    go_ret2
    exact ⟨by rw [hR.out]; rfl, hb2.trans (hbb.out.mono hb2.size)⟩
  · have hne : (xn == yn) = false := by simpa using hsn
    have hcmp := cmp_r _ _ nx ny dx dy W2 hX2.out hY2.out hdx.out hdy.out (by omega) (by omega)
    obtain ⟨r, hr⟩ : ∃ r, r = cmpN dx dy := ⟨_, rfl⟩
    rw [← hr] at hcmp
    by_cases hle : dy ≤ dx
    · have hR : Hid (sumN ⟨xn, dx⟩ ⟨yn, dy⟩ = checkedN ⟨xn, dx - dy⟩) := Lib.hid (by unfold sumN; rw [if_neg hsn, if_pos hle])
      have hr0 : r ≥ 0 := by rw [hr]; unfold cmpN; rw [if_neg (by omega)]; split <;> decide
      replace hr := Lib.hid hr
      go_enter Tryz.func96, Tryz.ntmps96
      go_wp2_with fail
      rw [← hW2, ← hqe]
      clear hW2
      replace hqe := Lib.hid hqe
      refine hcmp.mono ?_
      rintro e w3 ⟨rfl, hb3⟩
      clear hcmp
      replace hS := Lib.hid (four_later hlt (And.intro b0 (And.intro b1 (And.intro d0 (And.intro d1 (Lib.hid (Below.refl _ _)))))) hb3.drew)
      go_wp2_with fail
      clear b0 b1 d0 d1 hr0
      go_region_held3 (fun w' => w'.cell? ⟨q, 0, none⟩ = some (.bool xn) ∧ w'.cell? ⟨q, 1, none⟩ = some (.slice Ax nx cx) ∧ w'.cell? ⟨q + 1, 0, none⟩ = some (.bool yn) ∧ w'.cell? ⟨q + 1, 1, none⟩ = some (.slice Ay ny cy) ∧ Hid (Below W2.heap.size W2 w'))
        (first | exact hS.out | exact four_later hlt (by assumption) (by assumption))
        (first
          | (go_at_call 142; refine ((sub_r _ _ nx ny dx dy _ (hX2.out.below (four_out (by assumption))) (hY2.out.below (four_out (by assumption))) hdx.out hdy.out hle hnx'.out hny'.out).mono (fun e w' h => DgPost.sl h)).mono ?_; rintro e w' ⟨A7, c7, rfl, hv7, hbb⟩)
          | (go_at_call 111; refine (result_r _ _ _ (dx - dy) _ (by assumption) (lenD_self _) hlm1.out).mono ?_; rintro e w' ⟨rfl, hbb⟩))
      rename_i hH
      have hbb := Lib.hid hH.2.2.2.2.out
      go_wp2_with fail
      go_ret2
      exact ⟨by rw [hR.out]; rfl, hb2.trans (hbb.out.mono hb2.size)⟩
    · have hR : Hid (sumN ⟨xn, dx⟩ ⟨yn, dy⟩ = checkedN ⟨yn, dy - dx⟩) := Lib.hid (by unfold sumN; rw [if_neg hsn, if_neg hle])
      have hr0 : ¬ (r ≥ 0) := by rw [hr]; unfold cmpN; rw [if_pos (by omega)]; decide
      have hle' : dx ≤ dy := by omega
      replace hr := Lib.hid hr
      go_enter Tryz.func96, Tryz.ntmps96
      go_wp2_with fail
      rw [← hW2, ← hqe]
      clear hW2
      replace hqe := Lib.hid hqe
      refine hcmp.mono ?_
      rintro e w3 ⟨rfl, hb3⟩
      clear hcmp
      replace hS := Lib.hid (four_later hlt (And.intro b0 (And.intro b1 (And.intro d0 (And.intro d1 (Lib.hid (Below.refl _ _)))))) hb3.drew)
      go_wp2_with fail
      clear b0 b1 d0 d1 hr0
      go_region_held3 (fun w' => w'.cell? ⟨q, 0, none⟩ = some (.bool xn) ∧ w'.cell? ⟨q, 1, none⟩ = some (.slice Ax nx cx) ∧ w'.cell? ⟨q + 1, 0, none⟩ = some (.bool yn) ∧ w'.cell? ⟨q + 1, 1, none⟩ = some (.slice Ay ny cy) ∧ Hid (Below W2.heap.size W2 w'))
        (first | exact hS.out | exact four_later hlt (by assumption) (by assumption))
        (first
          | (go_at_call 142; refine ((sub_r _ _ ny nx dy dx _ (hY2.out.below (four_out (by assumption))) (hX2.out.below (four_out (by assumption))) hdy.out hdx.out hle' hny'.out hnx'.out).mono (fun e w' h => DgPost.sl h)).mono ?_; rintro e w' ⟨A7, c7, rfl, hv7, hbb⟩)
          | (go_at_call 111; refine (result_r _ _ _ (dy - dx) _ (by assumption) (lenD_self _) hlm2.out).mono ?_; rintro e w' ⟨rfl, hbb⟩))
      rename_i hH
      have hbb := Lib.hid hH.2.2.2.2.out
      go_wp2_with fail
      go_ret2
      exact ⟨by rw [hR.out]; rfl, hb2.trans (hbb.out.mono hb2.size)⟩
end Go.Proofs.YtgobpoeccdgeiaaGreatDoor

namespace Go.Proofs.YtgobpoeccdgeiaaGreatDoor
open Go.RowKit NumP DigP DurP Go.Proofs.YtgobpoeccdgeiaaGreatDoorW.PrintWords
set_option linter.unusedVariables false

def bothR (r1 r2 : NumP.R) (f : NumP.Num → NumP.Num → NumP.R) : NumP.R := match r1, r2 with
  | .ok x, .ok y => f x y
  | _, _ => .error 1
theorem bothN_R (a b : List UInt8) (f : NumP.Num → NumP.Num → NumP.R) : bothN a b f = bothR (canonN a) (canonN b) f := rfl
theorem bothR_no1 {r1 r2 : NumP.R} (f : NumP.Num → NumP.Num → NumP.R) (h : ∃ k, r1 = .error k) : bothR r1 r2 f = .error 1 := by
  obtain ⟨k, rfl⟩ := h
  cases r2 <;> rfl
theorem bothR_no2 {r1 r2 : NumP.R} (f : NumP.Num → NumP.Num → NumP.R) (h : ∃ k, r2 = .error k) : bothR r1 r2 f = .error 1 := by
  obtain ⟨k, rfl⟩ := h
  cases r1 <;> rfl
set_option maxHeartbeats 4000000 in
set_option maxRecDepth 100000 in
theorem Add_r (s t : ByteArray) (W : World) (hs : s.size ≤ maxLen) (ht : t.size ≤ maxLen) : Calls Tryz.prog 58 #[.string s, .string t] W (OutE W (addT s.data.toList t.data.toList)) := by
  have htw := two_r s t W hs ht
  obtain ⟨R, hR⟩ : ∃ R, R = addT s.data.toList t.data.toList := ⟨_, rfl⟩
  rw [← hR]
  unfold addT at hR
  rw [bothN_R] at hR
  obtain ⟨R1, hR1⟩ : ∃ R, R = canonN s.data.toList := ⟨_, rfl⟩
  obtain ⟨R2, hR2⟩ : ∃ R, R = canonN t.data.toList := ⟨_, rfl⟩
  rw [← hR1, ← hR2] at hR htw
  clear hR1 hR2
  replace hR := Lib.hid hR
  go_enter Tryz.func58, Tryz.ntmps58
  go_wp2_with fail
  refine htw.mono ?_
  rintro e w ⟨hb, b, A, k, c, b2, A2, k2, c2, ok, ok2, rfl, h1, h2⟩
  clear htw
  replace hb := Lib.hid hb
  cases ok with
  | false =>
    have hR2 : Hid (R = ([], 1)) := Lib.hid (by rw [hR.out, bothR_no1 _ (h1.no rfl)]; rfl)
    obtain ⟨W2, hW2, hb2, -⟩ := box_two4 w b b2 (.slice A k c) (.slice A2 k2 c2)
    clear h1 h2
    go_wp2_with fail
    rw [← hW2]
    go_ret2
    exact ⟨by rw [hR2.out]; rfl, hb.out.trans (hb2.mono hb.out.size)⟩
  | true =>
  cases ok2 with
  | false =>
    have hR2 : Hid (R = ([], 1)) := Lib.hid (by rw [hR.out, bothR_no2 _ (h2.no rfl)]; rfl)
    obtain ⟨W2, hW2, hb2, -⟩ := box_two4 w b b2 (.slice A k c) (.slice A2 k2 c2)
    clear h1 h2
    go_wp2_with fail
    rw [← hW2]
    go_ret2
    exact ⟨by rw [hR2.out]; rfl, hb.out.trans (hb2.mono hb.out.size)⟩
  | true =>
  obtain ⟨d, rfl, hk, hd, h50⟩ := h1.yes rfl
  obtain ⟨d2, rfl, hk2, hd2, h502⟩ := h2.yes rfl
  clear h1 h2
  rw [← hk] at hd h50
  rw [← hk2] at hd2 h502
  have hR2 : Hid (R = outN (sumN ⟨b, d⟩ ⟨b2, d2⟩)) := Lib.hid (by rw [hR.out]; rfl)
  obtain ⟨W2, hW2, hb2, -⟩ := box_two4 w b b2 (.slice A k c) (.slice A2 k2 c2)
  have hsum := sum_r W2 b b2 A A2 k c k2 c2 d d2 (hd.below hb2) (hd2.below hb2) (by rw [hk]; exact lenD_self _) (by rw [hk2]; exact lenD_self _) (by omega) (by omega)
  replace hk := Lib.hid hk
  replace hk2 := Lib.hid hk2
  replace hd := Lib.hid hd
  replace hd2 := Lib.hid hd2
  go_wp2_with fail
  rw [← hW2]
  refine hsum.mono ?_
  rintro e w3 ⟨rfl, hb3⟩
  clear hsum
  go_wp2_with fail
  go_ret2
  have hb02 := hb.out.trans (hb2.mono hb.out.size)
  exact ⟨by rw [hR2.out]; rfl, hb02.trans (hb3.mono hb02.size)⟩
set_option maxHeartbeats 4000000 in
set_option maxRecDepth 100000 in
theorem Sub_r (s t : ByteArray) (W : World) (hs : s.size ≤ maxLen) (ht : t.size ≤ maxLen) : Calls Tryz.prog 51 #[.string s, .string t] W (OutE W (subT s.data.toList t.data.toList)) := by
  have htw := two_r s t W hs ht
  obtain ⟨R, hR⟩ : ∃ R, R = subT s.data.toList t.data.toList := ⟨_, rfl⟩
  rw [← hR]
  unfold subT at hR
  rw [bothN_R] at hR
  obtain ⟨R1, hR1⟩ : ∃ R, R = canonN s.data.toList := ⟨_, rfl⟩
  obtain ⟨R2, hR2⟩ : ∃ R, R = canonN t.data.toList := ⟨_, rfl⟩
  rw [← hR1, ← hR2] at hR htw
  clear hR1 hR2
  replace hR := Lib.hid hR
  go_enter Tryz.func51, Tryz.ntmps51
  go_wp2_with fail
  refine htw.mono ?_
  rintro e w ⟨hb, b, A, k, c, b2, A2, k2, c2, ok, ok2, rfl, h1, h2⟩
  clear htw
  replace hb := Lib.hid hb
  cases ok with
  | false =>
    have hR2 : Hid (R = ([], 1)) := Lib.hid (by rw [hR.out, bothR_no1 _ (h1.no rfl)]; rfl)
    obtain ⟨W2, hW2, hb2, -⟩ := box_two4 w b b2 (.slice A k c) (.slice A2 k2 c2)
    clear h1 h2
    go_wp2_with fail
    rw [← hW2]
    go_ret2
    exact ⟨by rw [hR2.out]; rfl, hb.out.trans (hb2.mono hb.out.size)⟩
  | true =>
  cases ok2 with
  | false =>
    have hR2 : Hid (R = ([], 1)) := Lib.hid (by rw [hR.out, bothR_no2 _ (h2.no rfl)]; rfl)
    obtain ⟨W2, hW2, hb2, -⟩ := box_two4 w b b2 (.slice A k c) (.slice A2 k2 c2)
    clear h1 h2
    go_wp2_with fail
    rw [← hW2]
    go_ret2
    exact ⟨by rw [hR2.out]; rfl, hb.out.trans (hb2.mono hb.out.size)⟩
  | true =>
  obtain ⟨d, rfl, hk, hd, h50⟩ := h1.yes rfl
  obtain ⟨d2, rfl, hk2, hd2, h502⟩ := h2.yes rfl
  clear h1 h2
  rw [← hk] at hd h50
  rw [← hk2] at hd2 h502
  have hR2 : Hid (R = outN (sumN ⟨b, d⟩ ⟨!b2, d2⟩)) := Lib.hid (by rw [hR.out]; rfl)
  obtain ⟨W2, hW2, hb2, -⟩ := box_two4 w b (!b2) (.slice A k c) (.slice A2 k2 c2)
  have hsum := sum_r W2 b (!b2) A A2 k c k2 c2 d d2 (hd.below hb2) (hd2.below hb2) (by rw [hk]; exact lenD_self _) (by rw [hk2]; exact lenD_self _) (by omega) (by omega)
  replace hk := Lib.hid hk
  replace hk2 := Lib.hid hk2
  replace hd := Lib.hid hd
  replace hd2 := Lib.hid hd2
  go_wp2_with fail
  rw [← hW2]
  refine hsum.mono ?_
  rintro e w3 ⟨rfl, hb3⟩
  clear hsum
  go_wp2_with fail
  go_ret2
  have hb02 := hb.out.trans (hb2.mono hb.out.size)
  exact ⟨by rw [hR2.out]; rfl, hb02.trans (hb3.mono hb02.size)⟩
end Go.Proofs.YtgobpoeccdgeiaaGreatDoor

namespace Go.Proofs.YtgobpoeccdgeiaaGreatDoor
open Go.RowKit NumP DigP DurP Go.Proofs.YtgobpoeccdgeiaaGreatDoorW.PrintWords
set_option linter.unusedVariables false

def DivPost (W : World) (n m : Nat) (e : Ending) (w' : World) : Prop := ∃ q r, e = .returned (.tuple #[q, r]) ∧ DAt w' q (lenD (n / m)) (n / m) ∧ DAt w' r (lenD (n % m)) (n % m) ∧ Below W.heap.size W w'
end Go.Proofs.YtgobpoeccdgeiaaGreatDoor

namespace Go.Proofs.YtgobpoeccdgeiaaGreatDoor
open Go.RowKit NumP DigP DurP Go.Proofs.YtgobpoeccdgeiaaGreatDoorW.PrintWords
set_option linter.unusedVariables false

theorem DivPost.sl {W w' : World} {n m : Nat} {e : Ending} (h : DivPost W n m e w') : ∃ A c A' c', e = .returned (.tuple #[.slice A (lenD (n / m)) c, .slice A' (lenD (n % m)) c']) ∧ DAt w' (.slice A (lenD (n / m)) c) (lenD (n / m)) (n / m) ∧ DAt w' (.slice A' (lenD (n % m)) c') (lenD (n % m)) (n % m) ∧ Below W.heap.size W w' := by
  obtain ⟨q, r, rfl, h1, h2, hb⟩ := h
  obtain ⟨A, c, rfl, -⟩ := h1.at_
  obtain ⟨A', c', rfl, -⟩ := h2.at_
  exact ⟨A, c, A', c', rfl, h1, h2, hb⟩
end Go.Proofs.YtgobpoeccdgeiaaGreatDoor
