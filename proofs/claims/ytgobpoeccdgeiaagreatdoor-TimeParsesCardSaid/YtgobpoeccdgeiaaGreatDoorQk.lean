/- Package chiselref04: digits as plain functions. Package chiselref04: digits in memory; trim, at. Package chiselref04: lists of digits, and one step of a sum, a difference and a product. Package chiselref04: fresh digits in memory. Package chiselref04: add, sub. Package chiselref04: cmp. Package chiselref04: the plain part of mul. Package chiselref04: mul. append(x, make([]int, n)...): an owned row of numbers, with zeros behind it. Package chiselref04: zeros. Package chiselref04: Up, rounding to even. Package chiselref04: cut, rounding to even. Package chiselref04: the plain part of read. Package chiselref04: read. -/
import Derived.Test.YtgobpoeccdgeiaaGreatDoorQg
import Derived.Test.YtgobpoeccdgeiaaGreatDoorQi
import Derived.BigQuiet
import Derived.Deep.QuietTactic
import Derived.Laws.AppendOwn
import Derived.Laws.AppendOwnNone
import Derived.Deep.CutRange

namespace Go.Proofs.YtgobpoeccdgeiaaGreatDoor.DigP
open NumP
set_option linter.unusedVariables false

/-- The digit of n at a place from the lowest one on. -/
def dg (n p : Nat) : Nat := n / 10 ^ p % 10
theorem dg_lt (n p : Nat) : dg n p < 10 := Nat.mod_lt _ (by decide)
theorem dg_out {n p : Nat} (h : n < 10 ^ p) : dg n p = 0 := by unfold dg; rw [Nat.div_eq_of_lt h]
theorem dg_top {n p : Nat} (h : n < 10 ^ (p + 1)) : dg n p = 0 ↔ n < 10 ^ p := by
  have hp : 0 < 10 ^ p := Nat.pow_pos (by decide)
  have h1 : n / 10 ^ p < 10 := by
    rw [Nat.div_lt_iff_lt_mul hp, Nat.mul_comm]; rw [Nat.pow_succ] at h; exact h
  unfold dg
  rw [Nat.mod_eq_of_lt h1]
  constructor
  · intro h2
    rcases Nat.lt_or_ge n (10 ^ p) with h3 | h3
    · exact h3
    · have := Nat.div_pos h3 hp; omega
  · intro h2; exact Nat.div_eq_of_lt h2
theorem lenD_step {n k : Nat} (h : n < 10 ^ (k + 1)) : (dg n k = 0 → lenD n ≤ k) ∧ (dg n k ≠ 0 → lenD n = k + 1) := by
  refine ⟨fun h0 => (lenD_le n k).2 ((dg_top h).1 h0), fun h0 => ?_⟩
  have h1 := (lenD_le n (k + 1)).2 h
  have h2 : ¬ lenD n ≤ k := fun h3 => h0 ((dg_top h).2 ((lenD_le n k).1 h3))
  omega
theorem mod_pow_succ (n i : Nat) : n % 10 ^ (i + 1) = n % 10 ^ i + 10 ^ i * dg n i := by
  unfold dg; rw [Nat.pow_succ, Nat.mod_mul]
theorem dg_mod {n i p : Nat} (h : p < i) : dg (n % 10 ^ i) p = dg n p := by
  unfold dg
  rw [show i = p + (i - p) by omega, Nat.pow_add, Nat.mod_mul_right_div_self]
  obtain ⟨m, hm⟩ : ∃ m, i - p = m + 1 := ⟨i - p - 1, by omega⟩
  rw [hm, Nat.pow_succ, Nat.mul_comm (10 ^ m) 10]
  exact Nat.mod_mul_right_mod _ _ _
theorem dg_of_mod {n m i : Nat} (h : n % 10 ^ i = m % 10 ^ i) {p : Nat} (hp : p < i) : dg n p = dg m p := by
  rw [← dg_mod hp, h, dg_mod hp]
end Go.Proofs.YtgobpoeccdgeiaaGreatDoor.DigP

namespace Go.Proofs.YtgobpoeccdgeiaaGreatDoor
open Go.RowKit NumP DigP Go.Proofs.YtgobpoeccdgeiaaGreatDoorW.PrintWords
set_option linter.unusedVariables false

/-- A slice of the k lowest digits of n, the highest first. -/
structure DAt (w : World) (v : Value) (k n : Nat) : Prop where
  at_ : ∃ A c, v = .slice A k c ∧ (k ≤ c ∧ (A = none → c = 0)) ∧ (0 < k → ∃ g off, A = some ⟨g, off, none⟩ ∧ ∀ i, i < k → w.cell? ⟨g, off + i, none⟩ = some (.int .i64 (dg n (k - 1 - i) : Nat)))
theorem DAt.below {w w' : World} {v : Value} {k n : Nat} (h : DAt w v k n) (hb : Below w.heap.size w w') : DAt w' v k n := by
  obtain ⟨A, c, e, h1, h2⟩ := h.at_
  refine ⟨A, c, e, h1, fun h0 => ?_⟩
  obtain ⟨g, off, ea, hc⟩ := h2 h0
  exact ⟨g, off, ea, fun i hi => (hb.cell (World.block_lt_of_cell? w _ (hc i hi))).trans (hc i hi)⟩
theorem DAt.nil (w : World) (n : Nat) : DAt w (.slice none 0 0) 0 n := ⟨none, 0, rfl, ⟨Nat.le_refl _, fun _ => rfl⟩, fun h => by omega⟩
def lenOf : Value → Nat
  | .slice _ n _ => n
  | _ => 0
/-- Where a slice lies. -/
def BlkGe (B : Nat) (v : Value) : Prop := ∀ a n c, v = .slice (some a) n c → B ≤ a.block
set_option maxRecDepth 100000 in
set_option maxHeartbeats 2000000 in
theorem trim_g (v : Value) (k n : Nat) (W : World) (h : DAt W v k n) (hn : n < 10 ^ k) (hk : k ≤ 1000000) : Calls Tryz.prog 146 #[v] W fun e w' => ∃ v', e = .returned v' ∧ DAt W v' (lenD n) n ∧ (∀ B, BlkGe B v → BlkGe B v') ∧ W = w' := by
  have hlen : lenD n ≤ k := (lenD_le n k).2 hn
  replace h := Lib.hid h
  obtain ⟨A0, c0, e0, -⟩ := h.out.at_
  subst e0
  go_enter Tryz.func146, Tryz.ntmps146
  go_wp2_with fail
  go_loopw [0] (fun v wr => ∃ j : Nat, lenD n ≤ j ∧ j ≤ k ∧ Hid (DAt W v j n) ∧ Hid (n < 10 ^ j) ∧ Hid (∀ B, BlkGe B (.slice A0 k c0) → BlkGe B v) ∧ wr = W) (fun v _ => lenOf v)
  case atStart => exact ⟨k, hlen, Nat.le_refl _, h, Lib.hid hn, Lib.hid (fun _ h => h), rfl⟩
  case round =>
    obtain ⟨j, hj1, hj2, hd, hnj, hge, rfl⟩ := hrel
    obtain ⟨A, c, e1, h1, h2⟩ := hd.out.at_
    subst e1
    have h1c := h1.1
    replace h1 := Lib.hid h1
    by_cases h0 : j = 0
    · have g1 : ¬ ((j : Int) > 0) := by omega
      have hl : lenD n = j := by omega
      replace h0 := Lib.hid h0
      replace h2 := Lib.hid h2
      replace hl := Lib.hid hl
      go_wp2_with fail
      go_ret
      exact ⟨_, rfl, by rw [hl.out]; exact hd.out, hge.out, rfl⟩
    · obtain ⟨g, off, rfl, hc⟩ := h2 (by omega)
      have q0 := hc 0 (by omega)
      obtain ⟨i, hi⟩ : ∃ i, j = i + 1 := ⟨j - 1, by omega⟩
      subst hi
      have hst := lenD_step hnj.out
      have q0 : wr.cell? ⟨g, off, none⟩ = some (.int .i64 (dg n i : Nat)) := q0
      have g1 : (((i + 1 : Nat) : Int) > 0) := by omega
      by_cases hz : dg n i = 0
      · have hle := hst.1 hz
        rw [hz] at q0
        have hnew : Hid (DAt wr (.slice (if c = 1 then some ⟨g, off, none⟩ else some ⟨g, off + 1, none⟩) i (c - 1)) i n) := Lib.hid ⟨_, _, rfl, ⟨by have := h1.out.1; omega, fun h => by split at h <;> cases h⟩, fun h => ⟨g, off + 1, by rw [if_neg (by have := h1.out.1; omega)], fun p hp => by
          have := hc (p + 1) (by omega)
          rw [show off + 1 + p = off + (p + 1) by omega, show i - 1 - p = i + 1 - 1 - (p + 1) by omega]
          exact this⟩⟩
        have hn2 : Hid (n < 10 ^ i) := Lib.hid ((lenD_le n i).1 hle)
        have hge2 : Hid (∀ B, BlkGe B (.slice A0 k c0) → BlkGe B (.slice (if c = 1 then some ⟨g, off, none⟩ else some ⟨g, off + 1, none⟩) i (c - 1))) := Lib.hid (fun B h a n' c' e => by
          have h3 := hge.out B h _ _ _ rfl
          injection e with e1 e2 e3
          split at e1 <;> (injection e1 with e1; rw [← e1]; exact h3))
        replace hc := Lib.hid hc
        replace hz := Lib.hid hz
        clear hst h2
        go_wp2_with fail
        exact ⟨⟨i, hle, by omega, hnew, hn2, hge2, trivial⟩, Nat.lt_succ_self i⟩
      · have hl : lenD n = i + 1 := hst.2 hz
        have g2 : (((dg n i : Nat) : Int) == 0) = false := by simpa using hz
        replace hc := Lib.hid hc
        replace hz := Lib.hid hz
        replace hl := Lib.hid hl
        clear hst h2
        go_wp2_with fail
        go_ret
        exact ⟨_, rfl, by rw [hl.out]; exact hd.out, hge.out, rfl⟩
theorem trim_r (v : Value) (k n : Nat) (W : World) (h : DAt W v k n) (hn : n < 10 ^ k) (hk : k ≤ 1000000) : Calls Tryz.prog 146 #[v] W fun e w' => ∃ v', e = .returned v' ∧ DAt W v' (lenD n) n ∧ W = w' :=
  (trim_g v k n W h hn hk).mono fun _ _ ⟨v', e, hd, _, hw⟩ => ⟨v', e, hd, hw⟩
set_option maxRecDepth 100000 in
set_option maxHeartbeats 2000000 in
theorem at_r (v : Value) (k n p : Nat) (W : World) (h : DAt W v k n) (hn : n < 10 ^ k) (hk : k ≤ 1000000) : Calls Tryz.prog 170 #[v, .int .i64 (p : Int)] W fun e w' => e = .returned (.int .i64 (dg n p : Nat)) ∧ W = w' := by
  obtain ⟨A, c, rfl, ⟨h1, -⟩, h2⟩ := h.at_
  by_cases hp : p < k
  · obtain ⟨g, off, rfl, hc⟩ := h2 (by omega)
    have q0 := hc (k - 1 - p) (by omega)
    rw [show k - 1 - (k - 1 - p) = p by omega] at q0
    obtain ⟨d, hd⟩ : ∃ d, d = dg n p := ⟨_, rfl⟩
    rw [← hd] at q0 ⊢
    obtain ⟨i, hi⟩ : ∃ i, i = k - 1 - p := ⟨_, rfl⟩
    rw [← hi] at q0
    have g1 : ((p : Int) < (k : Int)) := by omega
    have g2 : (k : Int) - 1 - (p : Int) = (i : Int) := by omega
    have g3 : ((i : Int) < (k : Int)) := by omega
    have g4 : i < k := by omega
    replace h2 := Lib.hid h2
    replace hc := Lib.hid hc
    replace hd := Lib.hid hd
    replace hi := Lib.hid hi
    go_enter Tryz.func170, Tryz.ntmps170
    go_wp2_with fail
    go_ret
    exact ⟨rfl, rfl⟩
  · have hz : dg n p = 0 := dg_out (Nat.lt_of_lt_of_le hn (Nat.pow_le_pow_right (by decide) (by omega)))
    have g1 : ¬ ((p : Int) < (k : Int)) := by omega
    rw [hz]
    replace h2 := Lib.hid h2
    replace hz := Lib.hid hz
    go_enter Tryz.func170, Tryz.ntmps170
    go_wp2_with fail
    go_ret
    exact ⟨rfl, rfl⟩
end Go.Proofs.YtgobpoeccdgeiaaGreatDoor

namespace Go.Proofs.YtgobpoeccdgeiaaGreatDoor.DigP
open NumP
set_option linter.unusedVariables false

/-- The N lowest digits of V, the highest first. -/
def fixN (N V : Nat) : List Nat := (List.range N).map fun i => dg V (N - 1 - i)
theorem fixN_len (N V : Nat) : (fixN N V).length = N := by simp [fixN]
theorem fixN_get {N V i : Nat} (h : i < N) : (fixN N V)[i]? = some (dg V (N - 1 - i)) := by simp [fixN, h]
theorem fixN_set {N V V' p : Nat} (hp : p < N) (h : ∀ q, q < N → q ≠ p → dg V' q = dg V q) : (fixN N V).set (N - 1 - p) (dg V' p) = fixN N V' := by
  apply List.ext_getElem?
  intro i
  by_cases hi : i < N
  · rw [List.getElem?_set, fixN_len]
    by_cases he : N - 1 - p = i
    · rw [if_pos he, if_pos (by omega), fixN_get hi, show N - 1 - i = p by omega]
    · rw [if_neg he, fixN_get hi, fixN_get hi, h (N - 1 - i) (by omega) (by omega)]
  · rw [List.getElem?_eq_none (by rw [List.length_set, fixN_len]; omega), List.getElem?_eq_none (by rw [fixN_len]; omega)]
theorem fixN_zero (N : Nat) : fixN N 0 = List.replicate N 0 := by
  apply List.ext_getElem?
  intro i
  by_cases hi : i < N
  · rw [fixN_get hi]; simp [dg, hi]
  · rw [List.getElem?_eq_none (by rw [fixN_len]; omega), List.getElem?_eq_none (by simp; omega)]
/-- A digit is laid above the others. -/
theorem dg_put {R d i p : Nat} (hR : R < 10 ^ i) (hd : d < 10) : dg (R + d * 10 ^ i) p = if p = i then d else if p < i then dg R p else 0 := by
  have hP : 0 < 10 ^ i := Nat.pow_pos (by decide)
  by_cases h1 : p = i
  · rw [if_pos h1, h1]
    unfold dg
    rw [Nat.add_mul_div_right _ _ hP, Nat.div_eq_of_lt hR, Nat.zero_add, Nat.mod_eq_of_lt hd]
  · rw [if_neg h1]
    by_cases h2 : p < i
    · rw [if_pos h2, ← dg_mod (i := i) h2, Nat.add_mul_mod_self_right, Nat.mod_eq_of_lt hR]
    · rw [if_neg h2]
      refine dg_out (Nat.lt_of_lt_of_le ?_ (Nat.pow_le_pow_right (by decide) (show i + 1 ≤ p by omega)))
      rw [Nat.pow_succ]
      have : d * 10 ^ i ≤ 9 * 10 ^ i := Nat.mul_le_mul_right _ (by omega)
      omega
theorem put_lt {R d i : Nat} (hR : R < 10 ^ i) (hd : d < 10) : R + d * 10 ^ i < 10 ^ (i + 1) := by
  rw [Nat.pow_succ]
  have : d * 10 ^ i ≤ 9 * 10 ^ i := Nat.mul_le_mul_right _ (by omega)
  omega
/-- The list with a digit laid above those that are there. -/
theorem fixN_put {N R d i : Nat} (hi : i < N) (hR : R < 10 ^ i) (hd : d < 10) : (fixN N R).set (N - 1 - i) d = fixN N (R + d * 10 ^ i) := by
  have := fixN_set (N := N) (V := R) (V' := R + d * 10 ^ i) hi (fun q hq hne => by
    rw [dg_put hR hd, if_neg hne]
    split
    · rfl
    · exact (dg_out (Nat.lt_of_lt_of_le hR (Nat.pow_le_pow_right (by decide) (by omega)))).symm)
  rwa [dg_put hR hd, if_pos rfl] at this
/-- One step of a sum. -/
theorem add_step {n m R c i s : Nat} (h : n % 10 ^ i + m % 10 ^ i = R + c * 10 ^ i) (hs : s = dg n i + dg m i + c) :
    n % 10 ^ (i + 1) + m % 10 ^ (i + 1) = (R + s % 10 * 10 ^ i) + s / 10 * 10 ^ (i + 1) := by
  rw [mod_pow_succ, mod_pow_succ, Nat.pow_succ]
  have e := Nat.div_add_mod s 10
  generalize 10 ^ i = P at *
  generalize n % P = x at *
  generalize m % P = y at *
  have e1 : s / 10 * (P * 10) = (10 * (s / 10)) * P := by rw [Nat.mul_comm P 10, ← Nat.mul_assoc, Nat.mul_comm (s / 10) 10]
  have e2 : s % 10 * P + (10 * (s / 10)) * P = s * P := by rw [← Nat.add_mul]; congr 1; omega
  have e3 : s * P = P * dg n i + P * dg m i + c * P := by rw [hs, Nat.add_mul, Nat.add_mul, Nat.mul_comm P, Nat.mul_comm P]
  omega
theorem add_end {n m R c N : Nat} (h : n % 10 ^ N + m % 10 ^ N = R + c * 10 ^ N) (hn : n < 10 ^ N) (hm : m < 10 ^ N) (hs : n + m < 10 ^ N) : R = n + m := by
  rw [Nat.mod_eq_of_lt hn, Nat.mod_eq_of_lt hm] at h
  rcases Nat.eq_zero_or_pos c with h0 | h0
  · rw [h0, Nat.zero_mul] at h; omega
  · have : 10 ^ N ≤ c * 10 ^ N := Nat.le_mul_of_pos_left _ h0
    omega
/-- One step of a difference: s below 0 borrows. -/
theorem sub_step {n m R b i b' d : Nat} (h : n % 10 ^ i + b * 10 ^ i = m % 10 ^ i + R) (hd : dg n i + 10 * b' = dg m i + b + d) :
    n % 10 ^ (i + 1) + b' * 10 ^ (i + 1) = m % 10 ^ (i + 1) + (R + d * 10 ^ i) := by
  rw [mod_pow_succ, mod_pow_succ, Nat.pow_succ]
  generalize 10 ^ i = P at *
  generalize n % P = x at *
  generalize m % P = y at *
  have e1 : b' * (P * 10) = (10 * b') * P := by rw [Nat.mul_comm P 10, ← Nat.mul_assoc, Nat.mul_comm b' 10]
  have e2 : P * dg n i + (10 * b') * P = P * dg m i + b * P + d * P := by
    rw [Nat.mul_comm P, Nat.mul_comm P, ← Nat.add_mul, ← Nat.add_mul, ← Nat.add_mul, hd]
  omega
theorem sub_end {n m R b k : Nat} (h : n % 10 ^ k + b * 10 ^ k = m % 10 ^ k + R) (hn : n < 10 ^ k) (hm : m ≤ n) (hR : R < 10 ^ k) : R = n - m := by
  rw [Nat.mod_eq_of_lt hn, Nat.mod_eq_of_lt (Nat.lt_of_le_of_lt hm hn)] at h
  rcases Nat.eq_zero_or_pos b with h0 | h0
  · rw [h0, Nat.zero_mul] at h; omega
  · have : 10 ^ k ≤ b * 10 ^ k := Nat.le_mul_of_pos_left _ h0
    omega
end Go.Proofs.YtgobpoeccdgeiaaGreatDoor.DigP

namespace Go.Proofs.YtgobpoeccdgeiaaGreatDoor
open Go.RowKit NumP DigP Go.Proofs.YtgobpoeccdgeiaaGreatDoorW.PrintWords
set_option linter.unusedVariables false

def ints (l : List Nat) : List Value := l.map fun d : Nat => Value.int .i64 (d : Int)
theorem ints_len (l : List Nat) : (ints l).length = l.length := by simp [ints]
theorem ints_set (l : List Nat) (k d : Nat) : ints (l.set k d) = (ints l).set k (.int .i64 (d : Int)) := by simp [ints, List.map_set]
theorem info_int : (Tryz.prog.info? 3).map (fun i => (i.zero, i.size, i.bytes)) = some (some (.int .i64 0), 1, 8) := by kernel_rfl
theorem make_ints (w : World) (n : Nat) (hn : n ≤ 1000000) : (Instr.makeSlice 120 (.int .i64 (n : Int)) (.int .i64 (n : Int))).run Tryz.prog w = .ok (.slice (some ⟨w.heap.size, 0, none⟩) n n) (w.alloc (.cells (madeCells #[.int .i64 0] n) 3)) := by
  obtain ⟨i0, hi, hz0, hz1, hz2⟩ := info_parts info_int
  have h := run_make (P := Tryz.prog) w 120 3 i0 (.int .i64 0) Tryz.underlying120 hi hz0 .i64 .i64 n n (by omega) (by omega) (by rw [hz2]; omega) (by omega)
  rw [h, hz1]
  simp [Value.cells]
theorem made_ints (w : World) (n : Nat) (hn : n ≤ 1000000) : (w.alloc (.cells (madeCells #[.int .i64 0] n) 3)).ownsRow w.heap.size 3 1 (.slice (some ⟨w.heap.size, 0, none⟩) n n) n (ints (fixN n 0)) := by
  rw [fixN_zero]
  refine ⟨by simp [ints], .inr ⟨w.heap.size, n, madeCells #[.int .i64 0] n, rfl, Nat.le_refl _, (MapKept.heap_alloc _ _).1, Nat.le_refl _, by unfold maxLen; omega, by rw [size_madeCells]; omega, ?_⟩⟩
  have e : (madeCells #[.int .i64 0] n).toList = List.replicate n (.int .i64 0) := by
    apply List.ext_getElem
    · simp [madeCells]
    · intro i h1 h2
      simp [madeCells, Nat.mod_one]
  rw [e, List.take_replicate]
  simp [ints]
theorem own_DAt {w : World} {base N V : Nat} {v : Value} (h : w.ownsRow base 3 1 v N (ints (fixN N V))) : DAt w v N V := by
  rcases h.2 with ⟨rfl, rfl⟩ | ⟨g, cap, cur, rfl, _, _, hnc, hcm, _⟩
  · exact DAt.nil w V
  · refine ⟨_, cap, rfl, ⟨hnc, fun h => by cases h⟩, fun _ => ⟨g, 0, rfl, fun i hi => ?_⟩⟩
    have h2 := h.cells (g := g) rfl i (.int .i64 (dg V (N - 1 - i) : Nat)) (by rw [ints, List.getElem?_map, fixN_get hi]; rfl)
    rw [show (⟨g, 0 + i, none⟩ : Addr) = (⟨g, 0, none⟩ : Addr).add i by cases i <;> simp [Addr.add]]
    exact h2
/-- A row of the function's own, with the digits of R so far. -/
structure OutRel (W wr : World) (g N R : Nat) : Prop where
  own : wr.ownsRow W.heap.size 3 1 (.slice (some ⟨g, 0, none⟩) N N) N (ints (fixN N R))
  below : Below W.heap.size W wr
  ge : W.heap.size ≤ g
theorem OutRel.cell {W wr : World} {g N R p : Nat} (h : OutRel W wr g N R) (hp : p < N) : wr.cell? ⟨g, p, none⟩ = some (.int .i64 (dg R (N - 1 - p) : Nat)) := by
  have h2 := h.own.cells (g := g) rfl p (.int .i64 (dg R (N - 1 - p) : Nat)) (by rw [ints, List.getElem?_map, fixN_get hp]; rfl)
  rw [show (⟨g, p, none⟩ : Addr) = (⟨g, 0, none⟩ : Addr).add p by cases p <;> simp [Addr.add]]
  exact h2
theorem OutRel.store {W wr : World} {g N R R' p : Nat} (h : OutRel W wr g N R) {d : Nat} (he : (fixN N R).set p d = fixN N R') : OutRel W (wr.setCell ⟨g, p, none⟩ (.int .i64 (d : Int))) g N R' := by
  have hst := h.own.stored p (.int .i64 (d : Int))
  refine ⟨by rw [← he, ints_set]; exact hst.1, h.below.setCell (p := ⟨g, p, none⟩) h.ge _, h.ge⟩
end Go.Proofs.YtgobpoeccdgeiaaGreatDoor

namespace Go.Proofs.YtgobpoeccdgeiaaGreatDoor
open Go.RowKit NumP DigP Go.Proofs.YtgobpoeccdgeiaaGreatDoorW.PrintWords
set_option linter.unusedVariables false

/-- A slice of the digits of n. -/
def DgPost (W : World) (n : Nat) (e : Ending) (w' : World) : Prop := ∃ v, e = .returned v ∧ DAt w' v (lenD n) n ∧ Below W.heap.size W w'
set_option maxRecDepth 100000 in
set_option maxHeartbeats 2000000 in
theorem add_r (v u : Value) (k j n m : Nat) (W : World) (hv : DAt W v k n) (hu : DAt W u j m) (hn : n < 10 ^ k) (hm : m < 10 ^ j) (hk : k ≤ 100000) (hj : j ≤ 100000) : Calls Tryz.prog 140 #[v, u] W (DgPost W (n + m)) := by
  obtain ⟨N, hN⟩ : ∃ N, N = max k j + 1 := ⟨_, rfl⟩
  have hNk : k < N ∧ j < N ∧ N ≤ 1000000 := by omega
  obtain ⟨N1, N2, N3⟩ := hNk
  have pk : (10 : Nat) ^ k ≤ 10 ^ (N - 1) := Nat.pow_le_pow_right (by decide) (by omega)
  have pj : (10 : Nat) ^ j ≤ 10 ^ (N - 1) := Nat.pow_le_pow_right (by decide) (by omega)
  have pN : (10 : Nat) ^ N = 10 ^ (N - 1) * 10 := by rw [← Nat.pow_succ]; congr 1; omega
  have hnN : n < 10 ^ N := by omega
  have hmN : m < 10 ^ N := by omega
  have hsN : n + m < 10 ^ N := by omega
  clear pk pj pN
  obtain ⟨A, ca, e1, ⟨h1, -⟩, h2⟩ := hv.at_
  obtain ⟨B, cb, e2, ⟨h3, -⟩, h4⟩ := hu.at_
  subst e1 e2
  have c1 : Hid (∀ p w, Below W.heap.size W w → Calls Tryz.prog 170 #[.slice A k ca, .int .i64 (p : Nat)] w fun e w' => e = .returned (.int .i64 (dg n p : Nat)) ∧ w = w') := Lib.hid (fun p w hb => at_r _ k n p w (hv.below hb) hn (by omega))
  have c2 : Hid (∀ p w, Below W.heap.size W w → Calls Tryz.prog 170 #[.slice B j cb, .int .i64 (p : Nat)] w fun e w' => e = .returned (.int .i64 (dg m p : Nat)) ∧ w = w') := Lib.hid (fun p w hb => at_r _ j m p w (hu.below hb) hm (by omega))
  have hmk := make_ints W N N3
  have eN : max (k : Int) (j : Int) + 1 = (N : Int) := by omega
  rw [← eN] at hmk
  obtain ⟨W1, hW1⟩ : ∃ W1, W1 = W.alloc (.cells (madeCells #[.int .i64 0] N) 3) := ⟨_, rfl⟩
  have hown := made_ints W N N3
  have hb1 : Below W.heap.size W W1 := by rw [hW1]; exact (Below.refl _ _).alloc (Nat.le_refl _) _
  obtain ⟨g, hg⟩ : ∃ g, g = W.heap.size := ⟨_, rfl⟩
  rw [← hW1] at hown hmk
  rw [← hg] at hmk
  have hrel : Hid (OutRel W W1 g N 0) := Lib.hid ⟨by rw [hg]; exact hown, hb1, by omega⟩
  replace hg := Lib.hid hg
  replace hv := Lib.hid hv
  replace hu := Lib.hid hu
  replace h2 := Lib.hid h2
  replace h4 := Lib.hid h4
  replace eN := Lib.hid eN
  clear hN hown hb1 hW1
  go_enter Tryz.func140, Tryz.ntmps140
  go_wp2_with fail
  rw [eN.out]
  clear hmk
  go_loopw [7, 8] (fun cy i wr => ∃ (p R c : Nat), i = .int .i64 p ∧ cy = .int .i64 c ∧ c ≤ 1 ∧ p ≤ N ∧ Hid (R < 10 ^ p) ∧ Hid (n % 10 ^ p + m % 10 ^ p = R + c * 10 ^ p) ∧ Hid (OutRel W wr g N R)) (fun _ i _ => N - (intOf i).toNat)
  case atStart => exact ⟨0, 0, 0, rfl, rfl, by decide, Nat.zero_le _, Lib.hid (by decide), Lib.hid (by simp [Nat.mod_one]), hrel⟩
  case round =>
    obtain ⟨p, R, c, rfl, rfl, hc, hp, hR, he, hr⟩ := hrel
    by_cases hlt : p < N
    · obtain ⟨x, hx⟩ : ∃ x, x = dg n p := ⟨_, rfl⟩
      obtain ⟨y, hy⟩ : ∃ y, y = dg m p := ⟨_, rfl⟩
      have x9 := dg_lt n p
      have y9 := dg_lt m p
      have k1 := c1.out p wr hr.out.below
      have k2 := c2.out p wr hr.out.below
      rw [← hx] at k1 x9
      rw [← hy] at k2 y9
      have hst := add_step he.out (show x + y + c = dg n p + dg m p + c by rw [hx, hy])
      have hr2 := hr.out.store (fixN_put (d := (x + y + c) % 10) hlt hR.out (Nat.mod_lt _ (by decide)))
      have hR2 := put_lt hR.out (Nat.mod_lt (x + y + c) (show 0 < 10 by decide))
      obtain ⟨q, hq⟩ : ∃ q, q = N - 1 - p := ⟨_, rfl⟩
      rw [← hq] at hr2
      have qc := hr.out.cell (p := q) (by omega)
      have qf := hr.out.own.frozenAt q
      rw [show (((x + y + c) % 10 : Nat) : Int) = ((x : Int) + (y : Int) + (c : Int)) % 10 by omega] at hr2
      have g1 : (N : Int) - 1 - (p : Int) = (q : Int) := by omega
      have g2 : q < N := by omega
      have g3 : ((q : Int) < (N : Int)) := by omega
      replace hx := Lib.hid hx
      replace hy := Lib.hid hy
      replace hst := Lib.hid hst
      replace hr2 := Lib.hid hr2
      replace hR2 := Lib.hid hR2
      replace hq := Lib.hid hq
      go_wp2_with fail
      refine k1.mono ?_
      rintro e w ⟨rfl, rfl⟩
      go_wp2_with fail
      refine k2.mono ?_
      rintro e w ⟨rfl, rfl⟩
      clear k1 k2
      go_wp2_with fail
      exact ⟨⟨p + 1, _, (x + y + c) / 10, by simp, by rw [show (((x + y + c) / 10 : Nat) : Int) = ((x : Int) + (y : Int) + (c : Int)) / 10 by omega], by omega, by omega, hR2, hst, hr2⟩, by simp [intOf]; omega⟩
    · have hpN : p = N := by omega
      subst hpN
      have hRe := add_end he.out hnN hmN hsN
      have hd := own_DAt hr.out.own
      rw [hRe] at hd
      have ht := trim_r _ p (n + m) wr hd hsN N3
      replace hRe := Lib.hid hRe
      clear hd
      go_wp2_with fail
      refine ht.mono ?_
      rintro e w ⟨r, rfl, hd, rfl⟩
      replace hd := Lib.hid hd
      obtain ⟨A3, c3, e3, -⟩ := hd.out.at_
      subst e3
      go_wp2_with fail
      go_ret
      exact ⟨_, rfl, hd.out, hr.out.below⟩
set_option maxRecDepth 100000 in
set_option maxHeartbeats 2000000 in
theorem sub_g (v u : Value) (k j n m : Nat) (W : World) (hv : DAt W v k n) (hu : DAt W u j m) (hn : n < 10 ^ k) (hm : m < 10 ^ j) (hmn : m ≤ n) (hk : k ≤ 100000) (hj : j ≤ 100000) : Calls Tryz.prog 142 #[v, u] W fun e w' => ∃ v', e = .returned v' ∧ DAt w' v' (lenD (n - m)) (n - m) ∧ Below W.heap.size W w' ∧ BlkGe W.heap.size v' := by
  obtain ⟨A, ca, e1, ⟨h1, -⟩, h2⟩ := hv.at_
  obtain ⟨B, cb, e2, ⟨h3, -⟩, h4⟩ := hu.at_
  subst e1 e2
  have c1 : Hid (∀ p w, Below W.heap.size W w → Calls Tryz.prog 170 #[.slice A k ca, .int .i64 (p : Nat)] w fun e w' => e = .returned (.int .i64 (dg n p : Nat)) ∧ w = w') := Lib.hid (fun p w hb => at_r _ k n p w (hv.below hb) hn (by omega))
  have c2 : Hid (∀ p w, Below W.heap.size W w → Calls Tryz.prog 170 #[.slice B j cb, .int .i64 (p : Nat)] w fun e w' => e = .returned (.int .i64 (dg m p : Nat)) ∧ w = w') := Lib.hid (fun p w hb => at_r _ j m p w (hu.below hb) hm (by omega))
  have hmk := make_ints W k (by omega)
  obtain ⟨W1, hW1⟩ : ∃ W1, W1 = W.alloc (.cells (madeCells #[.int .i64 0] k) 3) := ⟨_, rfl⟩
  have hown := made_ints W k (by omega)
  have hb1 : Below W.heap.size W W1 := by rw [hW1]; exact (Below.refl _ _).alloc (Nat.le_refl _) _
  obtain ⟨g, hg⟩ : ∃ g, g = W.heap.size := ⟨_, rfl⟩
  rw [← hW1] at hown hmk
  rw [← hg] at hmk
  have hrel : Hid (OutRel W W1 g k 0) := Lib.hid ⟨by rw [hg]; exact hown, hb1, by omega⟩
  replace hg := Lib.hid hg
  replace hv := Lib.hid hv
  replace hu := Lib.hid hu
  replace h2 := Lib.hid h2
  replace h4 := Lib.hid h4
  clear hown hb1 hW1
  go_enter Tryz.func142, Tryz.ntmps142
  go_wp2_with fail
  clear hmk
  go_loopw [6, 7] (fun bo i wr => ∃ (p R b : Nat), i = .int .i64 p ∧ bo = .int .i64 b ∧ b ≤ 1 ∧ p ≤ k ∧ Hid (R < 10 ^ p) ∧ Hid (n % 10 ^ p + b * 10 ^ p = m % 10 ^ p + R) ∧ Hid (OutRel W wr g k R)) (fun _ i _ => k - (intOf i).toNat)
  case atStart => exact ⟨0, 0, 0, rfl, rfl, by decide, Nat.zero_le _, Lib.hid (by decide), Lib.hid (by simp [Nat.mod_one]), hrel⟩
  case round =>
    obtain ⟨p, R, b, rfl, rfl, hb, hp, hR, he, hr⟩ := hrel
    by_cases hlt : p < k
    · obtain ⟨x, hx⟩ : ∃ x, x = dg n p := ⟨_, rfl⟩
      obtain ⟨y, hy⟩ : ∃ y, y = dg m p := ⟨_, rfl⟩
      have x9 := dg_lt n p
      have y9 := dg_lt m p
      have k1 := c1.out p wr hr.out.below
      have k2 := c2.out p wr hr.out.below
      rw [← hx] at k1 x9
      rw [← hy] at k2 y9
      obtain ⟨q, hq⟩ : ∃ q, q = k - 1 - p := ⟨_, rfl⟩
      have qc := hr.out.cell (p := q) (by omega)
      have qf := hr.out.own.frozenAt q
      have g1 : (k : Int) - 1 - (p : Int) = (q : Int) := by omega
      have g2 : q < k := by omega
      have g3 : ((q : Int) < (k : Int)) := by omega
      have step : Hid (∀ b' d : Nat, x + 10 * b' = y + b + d → d < 10 → R + d * 10 ^ p < 10 ^ (p + 1) ∧ n % 10 ^ (p + 1) + b' * 10 ^ (p + 1) = m % 10 ^ (p + 1) + (R + d * 10 ^ p) ∧ OutRel W (wr.setCell ⟨g, q, none⟩ (.int .i64 (d : Int))) g k (R + d * 10 ^ p)) := Lib.hid (fun b' d h h10 =>
        ⟨put_lt hR.out h10, sub_step he.out (by rw [← hx, ← hy]; exact h), hr.out.store (by rw [hq]; exact fixN_put hlt hR.out h10)⟩)
      replace hx := Lib.hid hx
      replace hy := Lib.hid hy
      replace hq := Lib.hid hq
      go_wp2_with fail
      refine k1.mono ?_
      rintro e w ⟨rfl, rfl⟩
      go_wp2_with fail
      refine k2.mono ?_
      rintro e w ⟨rfl, rfl⟩
      clear k1 k2
      by_cases hs : (x : Int) - (y : Int) - (b : Int) < 0
      · obtain ⟨d, hd⟩ : ∃ d : Nat, (x : Int) - (y : Int) - (b : Int) + 10 = (d : Int) := ⟨((x : Int) - y - b + 10).toNat, by omega⟩
        obtain ⟨s1, s2, s3⟩ := step.out 1 d (by omega) (by omega)
        replace s1 := Lib.hid s1
        replace s2 := Lib.hid s2
        replace s3 := Lib.hid s3
        go_wp2_with fail
        exact ⟨⟨p + 1, _, 1, by simp, rfl, by decide, by omega, s1, s2, s3⟩, by simp [intOf]; omega⟩
      · obtain ⟨d, hd⟩ : ∃ d : Nat, (x : Int) - (y : Int) - (b : Int) = (d : Int) := ⟨((x : Int) - y - b).toNat, by omega⟩
        obtain ⟨s1, s2, s3⟩ := step.out 0 d (by omega) (by omega)
        replace s1 := Lib.hid s1
        replace s2 := Lib.hid s2
        replace s3 := Lib.hid s3
        go_wp2_with fail
        exact ⟨⟨p + 1, _, 0, by simp, rfl, by decide, by omega, s1, s2, s3⟩, by simp [intOf]; omega⟩
    · have hpN : p = k := by omega
      subst hpN
      have hRe := sub_end he.out hn hmn hR.out
      have hd := own_DAt hr.out.own
      rw [hRe] at hd
      have ht := trim_g _ p (n - m) wr hd (by omega) (by omega)
      have hge : Hid (W.heap.size ≤ g) := Lib.hid hr.out.ge
      replace hRe := Lib.hid hRe
      clear hd
      go_wp2_with fail
      refine ht.mono ?_
      rintro e w ⟨r, rfl, hd, hgr, rfl⟩
      have hgr := Lib.hid (hgr W.heap.size (fun a n c e => by injection e with e1 _ _; injection e1 with e1; rw [← e1]; exact hge.out))
      replace hd := Lib.hid hd
      obtain ⟨A3, c3, e3, -⟩ := hd.out.at_
      subst e3
      go_wp2_with fail
      go_ret
      exact ⟨_, rfl, hd.out, hr.out.below, hgr.out⟩
theorem sub_r (v u : Value) (k j n m : Nat) (W : World) (hv : DAt W v k n) (hu : DAt W u j m) (hn : n < 10 ^ k) (hm : m < 10 ^ j) (hmn : m ≤ n) (hk : k ≤ 100000) (hj : j ≤ 100000) : Calls Tryz.prog 142 #[v, u] W (DgPost W (n - m)) :=
  (sub_g v u k j n m W hv hu hn hm hmn hk hj).mono fun _ _ ⟨v', e, hd, hb, _⟩ => ⟨v', e, hd, hb⟩
end Go.Proofs.YtgobpoeccdgeiaaGreatDoor

namespace Go.Proofs.YtgobpoeccdgeiaaGreatDoor
open Go.RowKit NumP DigP Go.Proofs.YtgobpoeccdgeiaaGreatDoorW.PrintWords
set_option linter.unusedVariables false

/-- How two numbers are ordered. -/
def cmpN (n m : Nat) : Int := if n < m then -1 else if n = m then 0 else 1
theorem div_step (n t : Nat) : n / 10 ^ t = 10 * (n / 10 ^ (t + 1)) + dg n t := by
  unfold dg
  rw [Nat.pow_succ, ← Nat.div_div_eq_div_mul]
  omega
theorem cmp_lt {n m t : Nat} (h : n / 10 ^ (t + 1) = m / 10 ^ (t + 1)) (hd : dg n t < dg m t) : n < m := by
  have h1 := div_step n t
  have h2 := div_step m t
  rcases Nat.lt_or_ge n m with h3 | h3
  · exact h3
  · have := Nat.div_le_div_right (c := 10 ^ t) h3
    omega
theorem cmp_eq {n m t : Nat} (h : n / 10 ^ (t + 1) = m / 10 ^ (t + 1)) (hd : dg n t = dg m t) : n / 10 ^ t = m / 10 ^ t := by
  rw [div_step n t, div_step m t, h, hd]
theorem len_lt {n m : Nat} (h : lenD n < lenD m) : n < m := by
  have h1 := (lenD_le n (lenD n)).1 (Nat.le_refl _)
  have h2 : ¬ m < 10 ^ lenD n := fun h3 => by have := (lenD_le m (lenD n)).2 h3; omega
  omega
theorem lenD_self (n : Nat) : n < 10 ^ lenD n := (lenD_le n (lenD n)).1 (Nat.le_refl _)
set_option maxRecDepth 100000 in
set_option maxHeartbeats 2000000 in
theorem cmp_r (v u : Value) (k j n m : Nat) (W : World) (hv : DAt W v k n) (hu : DAt W u j m) (hn : n < 10 ^ k) (hm : m < 10 ^ j) (hk : k ≤ 1000000) (hj : j ≤ 1000000) : Calls Tryz.prog 141 #[v, u] W fun e w' => e = .returned (.int .i64 (cmpN n m)) ∧ Below W.heap.size W w' := by
  have t1 := trim_r v k n W hv hn hk
  have t2 := trim_r u j m W hu hm hj
  have l1 : lenD n ≤ k := (lenD_le n k).2 hn
  have l2 : lenD m ≤ j := (lenD_le m j).2 hm
  obtain ⟨A0, c0, rfl, -⟩ := hv.at_
  obtain ⟨B0, d0, rfl, -⟩ := hu.at_
  obtain ⟨a, ha⟩ : ∃ a, a = lenD n := ⟨_, rfl⟩
  obtain ⟨b, hb⟩ : ∃ b, b = lenD m := ⟨_, rfl⟩
  rw [← ha] at t1 l1
  rw [← hb] at t2 l2
  obtain ⟨res, hres⟩ : ∃ r, r = cmpN n m := ⟨_, rfl⟩
  rw [← hres]
  unfold cmpN at hres
  replace hres := Lib.hid hres
  replace ha := Lib.hid ha
  replace hb := Lib.hid hb
  clear hv hu hn hm
  go_enter Tryz.func141, Tryz.ntmps141
  go_wp2_with fail
  refine t1.mono ?_
  rintro e w ⟨v', rfl, hv', rfl⟩
  go_wp2_with fail
  refine t2.mono ?_
  rintro e w ⟨u', rfl, hu', rfl⟩
  clear t1 t2
  obtain ⟨A, ca, rfl, -, h2⟩ := hv'.at_
  obtain ⟨B, cb, rfl, -, h4⟩ := hu'.at_
  replace h2 := Lib.hid h2
  replace h4 := Lib.hid h4
  replace hv' := Lib.hid hv'
  replace hu' := Lib.hid hu'
  by_cases hab : a = b
  · have g1 : (((a : Nat) : Int) == ((b : Nat) : Int)) = true := by simp [hab]
    subst hab
    go_wp2_with fail
    go_loopw [5] (fun i wr => ∃ p : Nat, i = .int .i64 p ∧ p ≤ a ∧ Hid (n / 10 ^ (a - p) = m / 10 ^ (a - p)) ∧ Hid (Below W.heap.size W wr)) (fun i _ => a - (intOf i).toNat)
    case atStart => exact ⟨0, rfl, Nat.zero_le _, Lib.hid (by rw [Nat.sub_zero, Nat.div_eq_of_lt (by rw [ha.out]; exact lenD_self n), Nat.div_eq_of_lt (by rw [hb.out]; exact lenD_self m)]), Lib.hid (Below.refl _ _)⟩
    case round =>
      obtain ⟨p, rfl, hp, he, hB⟩ := hrel
      by_cases hlt : p < a
      · obtain ⟨ga, oa, rfl, hca⟩ := h2.out (by omega)
        obtain ⟨gb, ob, rfl, hcb⟩ := h4.out (by omega)
        have qa := (hB.out.cell (World.block_lt_of_cell? W _ (hca p hlt))).trans (hca p hlt)
        have qb := (hB.out.cell (World.block_lt_of_cell? W _ (hcb p hlt))).trans (hcb p hlt)
        obtain ⟨t, ht⟩ : ∃ t, a - p = t + 1 := ⟨a - p - 1, by omega⟩
        rw [show a - 1 - p = t by omega] at qa qb
        have he' := he.out
        rw [ht] at he'
        obtain ⟨x, hx⟩ : ∃ x, x = dg n t := ⟨_, rfl⟩
        obtain ⟨y, hy⟩ : ∃ y, y = dg m t := ⟨_, rfl⟩
        rw [← hx] at qa
        rw [← hy] at qb
        have g2 : ((p : Int) < (a : Int)) := by omega
        replace hca := Lib.hid hca
        replace hcb := Lib.hid hcb
        replace he' := Lib.hid he'
        replace ht := Lib.hid ht
        by_cases hxy : x = y
        · have g3 : (((x : Nat) : Int) == ((y : Nat) : Int)) = true := by simp [hxy]
          have hnx : Hid (n / 10 ^ (a - (p + 1)) = m / 10 ^ (a - (p + 1))) := Lib.hid (by
            rw [show a - (p + 1) = t by have := ht.out; omega]
            exact cmp_eq he'.out (by rw [← hx, ← hy]; exact hxy))
          replace hx := Lib.hid hx
          replace hy := Lib.hid hy
          replace hxy := Lib.hid hxy
          go_wp2_with fail
          go_quiet (fail)
          go_wp2_with fail
          exact ⟨⟨p + 1, by simp, by omega, hnx, Lib.hid (below_drewN hB.out _)⟩, by simp [intOf]; omega⟩
        · have g3 : (((x : Nat) : Int) == ((y : Nat) : Int)) = false := by simp; omega
          have hord : Hid ((x < y → res = -1) ∧ (¬ x < y → res = 1)) := Lib.hid (by
            refine ⟨fun h => ?_, fun h => ?_⟩
            · rw [hres.out, if_pos (cmp_lt he'.out (by rw [← hx, ← hy]; exact h))]
            · have h2 : m < n := cmp_lt he'.out.symm (by rw [← hx, ← hy]; omega)
              rw [hres.out, if_neg (by omega), if_neg (by omega)])
          replace hx := Lib.hid hx
          replace hy := Lib.hid hy
          go_wp2_with fail
          go_quiet (fail)
          obtain ⟨w2, hw2⟩ : ∃ w2, w2 = wr.drewN nq := ⟨_, rfl⟩
          rw [← hw2]
          have qa2 : w2.cell? ⟨ga, oa + p, none⟩ = some (.int .i64 (x : Nat)) := by rw [hw2]; exact qa
          have qb2 : w2.cell? ⟨gb, ob + p, none⟩ = some (.int .i64 (y : Nat)) := by rw [hw2]; exact qb
          have hB2 := Lib.hid (show Below W.heap.size W w2 by rw [hw2]; exact below_drewN hB.out _)
          clear hw2 qa qb
          by_cases hlt2 : x < y
          · have hr := hord.out.1 hlt2
            subst hr
            have g4 : ((x : Nat) : Int) < ((y : Nat) : Int) := by omega
            replace hxy := Lib.hid hxy
            go_wp2_with fail
            go_quiet (fail)
            go_wp2_with fail
            go_ret
            exact ⟨rfl, below_drewN hB2.out _⟩
          · have hr := hord.out.2 hlt2
            subst hr
            have g4 : ¬ (((x : Nat) : Int) < ((y : Nat) : Int)) := by omega
            replace hxy := Lib.hid hxy
            go_wp2_with fail
            go_quiet (fail)
            go_wp2_with fail
            go_ret
            exact ⟨rfl, below_drewN hB2.out _⟩
      · have hpa : p = a := by omega
        have hnm : n = m := by
          have h := he.out
          rw [hpa, Nat.sub_self, Nat.pow_zero, Nat.div_one, Nat.div_one] at h
          exact h
        have hr : res = 0 := by rw [hres.out, if_neg (by omega), if_pos hnm]
        subst hr
        have g2 : ¬ ((p : Int) < (a : Int)) := by omega
        replace hnm := Lib.hid hnm
        replace hpa := Lib.hid hpa
        go_wp2_with fail
        go_ret
        exact ⟨rfl, hB.out⟩
  · have g1 : (((a : Nat) : Int) == ((b : Nat) : Int)) = false := by simp; omega
    by_cases hlt : a < b
    · have hr : res = -1 := by rw [hres.out, if_pos (len_lt (by rw [← ha.out, ← hb.out]; exact hlt))]
      subst hr
      have g2 : ((a : Int) < (b : Int)) := by omega
      go_wp2_with fail
      go_ret
      exact ⟨rfl, Below.refl _ _⟩
    · have hr : res = 1 := by
        have h2 : m < n := len_lt (by rw [← ha.out, ← hb.out]; omega)
        rw [hres.out, if_neg (by omega), if_neg (by omega)]
      subst hr
      have g2 : ¬ ((a : Int) < (b : Int)) := by omega
      go_wp2_with fail
      go_ret
      exact ⟨rfl, Below.refl _ _⟩
end Go.Proofs.YtgobpoeccdgeiaaGreatDoor

namespace Go.Proofs.YtgobpoeccdgeiaaGreatDoor.DigP
open NumP
set_option linter.unusedVariables false

theorem pow_pos10 (p : Nat) : 0 < 10 ^ p := Nat.pow_pos (by decide)
/-- V with another digit at a place. -/
def setD (V p d : Nat) : Nat := V / 10 ^ (p + 1) * 10 ^ (p + 1) + (d * 10 ^ p + V % 10 ^ p)
theorem split3 (V p : Nat) : V = V / 10 ^ (p + 1) * 10 ^ (p + 1) + (dg V p * 10 ^ p + V % 10 ^ p) := by
  have h1 := Nat.div_add_mod V (10 ^ (p + 1))
  have h2 := mod_pow_succ V p
  rw [Nat.mul_comm (10 ^ p)] at h2
  rw [Nat.mul_comm (10 ^ (p + 1))] at h1
  omega
theorem low_lt {d p L : Nat} (hd : d < 10) (hL : L < 10 ^ p) : d * 10 ^ p + L < 10 ^ (p + 1) := by
  rw [Nat.pow_succ]
  have : d * 10 ^ p ≤ 9 * 10 ^ p := Nat.mul_le_mul_right _ (by omega)
  omega
theorem setD_add (V p d : Nat) : setD V p d + dg V p * 10 ^ p = V + d * 10 ^ p := by
  have := split3 V p
  unfold setD
  omega
theorem setD_div (V p : Nat) {d : Nat} (hd : d < 10) : setD V p d / 10 ^ (p + 1) = V / 10 ^ (p + 1) := by
  unfold setD
  have h := low_lt hd (Nat.mod_lt V (pow_pos10 p))
  rw [Nat.add_comm, Nat.add_mul_div_right _ _ (pow_pos10 _), Nat.div_eq_of_lt h, Nat.zero_add]
theorem setD_mod (V p d : Nat) : setD V p d % 10 ^ p = V % 10 ^ p := by
  unfold setD
  rw [Nat.pow_succ, show V / (10 ^ p * 10) * (10 ^ p * 10) = V / (10 ^ p * 10) * 10 * 10 ^ p by rw [Nat.mul_assoc, Nat.mul_comm 10]]
  rw [← Nat.add_assoc, ← Nat.add_mul, Nat.add_comm, Nat.add_mul_mod_self_right, Nat.mod_mod]
theorem setD_same (V p : Nat) {d : Nat} (hd : d < 10) : dg (setD V p d) p = d := by
  unfold dg
  have h1 := setD_div V p hd
  unfold setD
  rw [Nat.pow_succ, show V / (10 ^ p * 10) * (10 ^ p * 10) = V / (10 ^ p * 10) * 10 * 10 ^ p by rw [Nat.mul_assoc, Nat.mul_comm 10]]
  rw [← Nat.add_assoc, ← Nat.add_mul, Nat.add_comm, Nat.add_mul_div_right _ _ (pow_pos10 p), Nat.div_eq_of_lt (Nat.mod_lt V (pow_pos10 p)), Nat.zero_add]
  omega
theorem setD_other (V p : Nat) {d q : Nat} (hd : d < 10) (hq : q ≠ p) : dg (setD V p d) q = dg V q := by
  rcases Nat.lt_or_ge q p with h | h
  · exact dg_of_mod (setD_mod V p d) h
  · have h1 := setD_div V p hd
    unfold dg
    rw [show q = (p + 1) + (q - (p + 1)) by omega, Nat.pow_add, ← Nat.div_div_eq_div_mul, ← Nat.div_div_eq_div_mul, h1]
theorem setD_lt {V p d K : Nat} (hd : d < 10) (hV : V < 10 ^ K) (hp : p < K) : setD V p d < 10 ^ K := by
  have h1 := setD_div V p hd
  have h2 : V / 10 ^ (p + 1) < 10 ^ (K - (p + 1)) := by
    rw [Nat.div_lt_iff_lt_mul (pow_pos10 _), ← Nat.pow_add, show K - (p + 1) + (p + 1) = K by omega]; exact hV
  rw [← h1] at h2
  rw [Nat.div_lt_iff_lt_mul (pow_pos10 _), ← Nat.pow_add, show K - (p + 1) + (p + 1) = K by omega] at h2
  exact h2
theorem fixN_setD {N V p d : Nat} (hp : p < N) (hd : d < 10) : (fixN N V).set (N - 1 - p) d = fixN N (setD V p d) := by
  have := fixN_set (N := N) (V := V) (V' := setD V p d) hp (fun q _ hq => setD_other V p hd hq)
  rwa [setD_same V p hd] at this
/-- One step of a row of a product. -/
theorem mul_step {V c n m i k s : Nat} (h : V + c * 10 ^ (i + k) = n % 10 ^ i * m + dg n i * (m % 10 ^ k) * 10 ^ i) (hs : s = dg V (i + k) + dg n i * dg m k + c) :
    setD V (i + k) (s % 10) + s / 10 * 10 ^ (i + k + 1) = n % 10 ^ i * m + dg n i * (m % 10 ^ (k + 1)) * 10 ^ i := by
  have h1 := setD_add V (i + k) (s % 10)
  rw [mod_pow_succ m k]
  have e := Nat.div_add_mod s 10
  have e1 : s / 10 * 10 ^ (i + k + 1) = (10 * (s / 10)) * 10 ^ (i + k) := by rw [Nat.pow_succ, Nat.mul_comm (10 ^ (i + k)) 10, ← Nat.mul_assoc, Nat.mul_comm (s / 10) 10]
  have e2 : s % 10 * 10 ^ (i + k) + (10 * (s / 10)) * 10 ^ (i + k) = s * 10 ^ (i + k) := by rw [← Nat.add_mul]; congr 1; omega
  have e3 : s * 10 ^ (i + k) = dg V (i + k) * 10 ^ (i + k) + dg n i * dg m k * 10 ^ (i + k) + c * 10 ^ (i + k) := by rw [hs, Nat.add_mul, Nat.add_mul]
  have e4 : dg n i * (m % 10 ^ k + 10 ^ k * dg m k) * 10 ^ i = dg n i * (m % 10 ^ k) * 10 ^ i + dg n i * dg m k * 10 ^ (i + k) := by
    rw [Nat.pow_add]
    generalize 10 ^ i = P
    generalize 10 ^ k = Q
    generalize dg n i = x
    generalize dg m k = y
    generalize m % Q = z
    rw [Nat.mul_add, Nat.add_mul]
    congr 1
    rw [Nat.mul_comm Q y, ← Nat.mul_assoc x y Q, Nat.mul_assoc (x * y) Q P, Nat.mul_comm Q P]
  rw [e4]
  omega
/-- A row is done. -/
theorem mul_row {V c n m i b : Nat} (h : V + c * 10 ^ (i + b) = n % 10 ^ i * m + dg n i * (m % 10 ^ b) * 10 ^ i) (hm : m < 10 ^ b) : V + c * 10 ^ (i + b) = n % 10 ^ (i + 1) * m := by
  rw [h, Nat.mod_eq_of_lt hm, mod_pow_succ, Nat.add_mul]
  congr 1
  rw [Nat.mul_comm (10 ^ i), Nat.mul_assoc, Nat.mul_assoc, Nat.mul_comm m]
theorem setD_top {V p d : Nat} (hV : V < 10 ^ p) : setD V p d = V + d * 10 ^ p := by
  unfold setD
  rw [Nat.div_eq_of_lt (Nat.lt_of_lt_of_le hV (Nat.pow_le_pow_right (by decide) (by omega))), Nat.mod_eq_of_lt hV]
  omega
theorem mul_lt {n m i b : Nat} (hm : m < 10 ^ b) : n % 10 ^ i * m < 10 ^ (i + b) := by
  rw [Nat.pow_add]
  exact Nat.mul_lt_mul'' (Nat.mod_lt _ (pow_pos10 i)) hm
end Go.Proofs.YtgobpoeccdgeiaaGreatDoor.DigP

namespace Go.Proofs.YtgobpoeccdgeiaaGreatDoor
open Go.RowKit NumP DigP Go.Proofs.YtgobpoeccdgeiaaGreatDoorW.PrintWords
set_option linter.unusedVariables false

theorem OutRel.drew {W wr : World} {g N R : Nat} (h : OutRel W wr g N R) (nq : Nat) : OutRel W (wr.drewN nq) g N R :=
  ⟨own_below h.own (below_drewN (Below.refl _ wr) nq), below_drewN h.below nq, h.ge⟩
set_option maxRecDepth 100000 in
set_option maxHeartbeats 4000000 in
theorem mul_r (v u : Value) (a b n m : Nat) (W : World) (hv : DAt W v a n) (hu : DAt W u b m) (hn : n < 10 ^ a) (hm : m < 10 ^ b) (ha : a ≤ 100000) (hb : b ≤ 100000) : Calls Tryz.prog 145 #[v, u] W (DgPost W (n * m)) := by
  obtain ⟨N, hN⟩ : ∃ N, N = a + b := ⟨_, rfl⟩
  obtain ⟨A, ca, e1, ⟨h1, -⟩, h2⟩ := hv.at_
  obtain ⟨B, cb, e2, ⟨h3, -⟩, h4⟩ := hu.at_
  subst e1 e2
  have c1 : Hid (∀ p w, Below W.heap.size W w → Calls Tryz.prog 170 #[.slice A a ca, .int .i64 (p : Nat)] w fun e w' => e = .returned (.int .i64 (dg n p : Nat)) ∧ w = w') := Lib.hid (fun p w hb => at_r _ a n p w (hv.below hb) hn (by omega))
  have c2 : Hid (∀ p w, Below W.heap.size W w → Calls Tryz.prog 170 #[.slice B b cb, .int .i64 (p : Nat)] w fun e w' => e = .returned (.int .i64 (dg m p : Nat)) ∧ w = w') := Lib.hid (fun p w hb => at_r _ b m p w (hu.below hb) hm (by omega))
  have hmk := make_ints W N (by omega)
  have eN : (a : Int) + (b : Int) = (N : Int) := by omega
  rw [← eN] at hmk
  obtain ⟨W1, hW1⟩ : ∃ W1, W1 = W.alloc (.cells (madeCells #[.int .i64 0] N) 3) := ⟨_, rfl⟩
  have hown := made_ints W N (by omega)
  have hb1 : Below W.heap.size W W1 := by rw [hW1]; exact (Below.refl _ _).alloc (Nat.le_refl _) _
  obtain ⟨g, hg⟩ : ∃ g, g = W.heap.size := ⟨_, rfl⟩
  rw [← hW1] at hown hmk
  rw [← hg] at hmk
  have hrel : Hid (OutRel W W1 g N 0) := Lib.hid ⟨by rw [hg]; exact hown, hb1, by omega⟩
  replace hg := Lib.hid hg
  replace hv := Lib.hid hv
  replace hu := Lib.hid hu
  replace h2 := Lib.hid h2
  replace h4 := Lib.hid h4
  replace eN := Lib.hid eN
  have hN3 : N ≤ 200000 := by omega
  replace hN := Lib.hid hN
  have hN2 : Hid (∀ i k, i < a → k < b → i + k < N) := Lib.hid (fun i k h h' => by have := hN.out; omega)
  clear hown hb1 hW1
  go_enter Tryz.func145, Tryz.ntmps145
  go_wp2_with fail
  clear hmk
  go_loopw [6] (fun iv wr => ∃ i : Nat, iv = .int .i64 i ∧ i ≤ a ∧ Hid (OutRel W wr g N (n % 10 ^ i * m))) (fun iv _ => a - (intOf iv).toNat)
  case atStart => exact ⟨0, rfl, Nat.zero_le _, by simpa [Nat.mod_one] using hrel⟩
  case round =>
    obtain ⟨i, rfl, hi, hr⟩ := hrel
    by_cases hlt : i < a
    · go_wp2_with fail
      go_loopw [7, 8] (fun cy kv wq => ∃ k V c : Nat, kv = .int .i64 k ∧ cy = .int .i64 c ∧ c ≤ 9 ∧ k ≤ b ∧ Hid (V < 10 ^ (i + b)) ∧ Hid (V + c * 10 ^ (i + k) = n % 10 ^ i * m + dg n i * (m % 10 ^ k) * 10 ^ i) ∧ Hid (OutRel W wq g N V)) (fun _ kv _ => b - (intOf kv).toNat)
      case atStart => exact ⟨0, _, 0, rfl, rfl, by decide, Nat.zero_le _, Lib.hid (mul_lt hm), Lib.hid (by simp [Nat.mod_one]), hr⟩
      case round =>
        obtain ⟨k, V, c, rfl, rfl, hc, hk, hV, he, hq⟩ := hrel
        by_cases hkb : k < b
        · obtain ⟨x, hx⟩ : ∃ x, x = dg n i := ⟨_, rfl⟩
          obtain ⟨y, hy⟩ : ∃ y, y = dg m k := ⟨_, rfl⟩
          obtain ⟨o, ho⟩ : ∃ o, o = dg V (i + k) := ⟨_, rfl⟩
          have x9 := dg_lt n i
          have y9 := dg_lt m k
          have o9 := dg_lt V (i + k)
          rw [← hx] at x9
          rw [← hy] at y9
          rw [← ho] at o9
          obtain ⟨z, hz⟩ : ∃ z, z = x * y := ⟨_, rfl⟩
          have z81 : z ≤ 81 := by rw [hz]; exact Nat.mul_le_mul (show x ≤ 9 by omega) (show y ≤ 9 by omega)
          have hzi : (x : Int) * (y : Int) = (z : Int) := by rw [hz]; push_cast; rfl
          obtain ⟨s, hs⟩ : ∃ s, s = o + z + c := ⟨_, rfl⟩
          have hik := hN2.out i k hlt hkb
          obtain ⟨p, hp⟩ : ∃ p, p = N - 1 - (i + k) := ⟨_, rfl⟩
          have qc := hq.out.cell (p := p) (by omega)
          rw [show N - 1 - p = i + k by omega, ← ho] at qc
          have qf := hq.out.own.frozenAt p
          have g1 : (N : Int) - 1 - (i : Int) - (k : Int) = (p : Int) := by omega
          have g2 : p < N := by omega
          have g3 : ((p : Int) < (N : Int)) := by omega
          have q1 : Hid (∀ nq, Calls Tryz.prog 170 #[.slice A a ca, .int .i64 (i : Nat)] (wr.drewN nq) fun e w' => e = .returned (.int .i64 (x : Nat)) ∧ w' = wr.drewN nq) := Lib.hid (fun nq => (c1.out i _ (below_drewN hq.out.below nq)).mono (fun e w' h => ⟨by rw [hx]; exact h.1, h.2.symm⟩))
          have q2 : Hid (∀ nq, Calls Tryz.prog 170 #[.slice B b cb, .int .i64 (k : Nat)] (wr.drewN nq) fun e w' => e = .returned (.int .i64 (y : Nat)) ∧ w' = wr.drewN nq) := Lib.hid (fun nq => (c2.out k _ (below_drewN hq.out.below nq)).mono (fun e w' h => ⟨by rw [hy]; exact h.1, h.2.symm⟩))
          have hst := mul_step he.out (show s = dg V (i + k) + dg n i * dg m k + c by rw [hs, ← ho, ← hx, ← hy, ← hz])
          have hV2 := setD_lt (d := s % 10) (Nat.mod_lt _ (by decide)) hV.out (show i + k < i + b by omega)
          have hr2 : Hid (∀ nq, OutRel W ((wr.drewN nq).setCell ⟨g, p, none⟩ (.int .i64 ((s % 10 : Nat) : Int))) g N (setD V (i + k) (s % 10))) := Lib.hid (fun nq => (hq.out.drew nq).store (by rw [hp]; exact fixN_setD (show i + k < N by omega) (Nat.mod_lt _ (by decide))))
          have es1 : ((s % 10 : Nat) : Int) = ((o : Int) + (z : Int) + (c : Int)) % 10 := by omega
          have es2 : ((s / 10 : Nat) : Int) = ((o : Int) + (z : Int) + (c : Int)) / 10 := by omega
          have s99 : s / 10 ≤ 9 := by omega
          rw [es1] at hr2
          replace hx := Lib.hid hx
          replace hy := Lib.hid hy
          replace ho := Lib.hid ho
          replace hz := Lib.hid hz
          replace hs := Lib.hid hs
          replace hp := Lib.hid hp
          replace es1 := Lib.hid es1
          replace es2 := Lib.hid es2
          replace hst := Lib.hid hst
          replace hV2 := Lib.hid hV2
          go_wp2_with fail
          go_quiet (first
            | (go_at_call_of 170 (Value.slice A a ca); exact Calls.quiet_of_same (q1.out _))
            | (go_at_call 170; exact Calls.quiet_of_same (q2.out _)))
          go_wp2_with fail
          exact ⟨⟨k + 1, _, s / 10, by simp, by rw [es2.out], s99, by omega, hV2, hst, Lib.hid (hr2.out nq)⟩, by simp [intOf]; omega⟩
        · have hkb2 : k = b := by omega
          subst hkb2
          have hrow := mul_row he.out hm
          have g0 : ¬ ((k : Int) < (k : Int)) := by omega
          rcases Nat.eq_zero_or_pos c with h0 | h0
          · have hv0 : V = n % 10 ^ (i + 1) * m := by rw [h0, Nat.zero_mul, Nat.add_zero] at hrow; exact hrow
            have hq2 : Hid (OutRel W wr g N (n % 10 ^ (i + 1) * m)) := Lib.hid (by rw [← hv0]; exact hq.out)
            have g1 : ¬ ((c : Int) > 0) := by omega
            replace hv0 := Lib.hid hv0
            replace hrow := Lib.hid hrow
            replace h0 := Lib.hid h0
            go_wp2_with fail
            exact ⟨⟨i + 1, by simp, by omega, hq2⟩, by simp [intOf]; omega⟩
          · have hik : i + k < N := by have := hN.out; omega
            obtain ⟨p, hp⟩ : ∃ p, p = N - 1 - (i + k) := ⟨_, rfl⟩
            have qc := hq.out.cell (p := p) (by omega)
            rw [show N - 1 - p = i + k by omega] at qc
            have qf := hq.out.own.frozenAt p
            have g1 : (N : Int) - 1 - (i : Int) - (k : Int) = (p : Int) := by omega
            have g2 : p < N := by omega
            have g3 : ((p : Int) < (N : Int)) := by omega
            have g4 : ((c : Int) > 0) := by omega
            have hq2 : Hid (OutRel W (wr.setCell ⟨g, p, none⟩ (.int .i64 (c : Int))) g N (n % 10 ^ (i + 1) * m)) := Lib.hid (by
              have := hq.out.store (p := p) (d := c) (by rw [hp]; exact fixN_setD hik (by omega))
              rw [setD_top hV.out, hrow] at this
              exact this)
            obtain ⟨o, ho⟩ : ∃ o, o = dg V (i + k) := ⟨_, rfl⟩
            rw [← ho] at qc
            replace ho := Lib.hid ho
            replace hp := Lib.hid hp
            replace hrow := Lib.hid hrow
            go_wp2_with fail
            exact ⟨⟨i + 1, by simp, by omega, hq2⟩, by simp [intOf]; omega⟩
    · have hia : i = a := by omega
      subst hia
      have hd := own_DAt hr.out.own
      rw [Nat.mod_eq_of_lt hn] at hd
      have hlt2 : n * m < 10 ^ N := by rw [hN.out, Nat.pow_add]; exact Nat.mul_lt_mul'' hn hm
      have ht := trim_r _ N (n * m) wr hd hlt2 (by omega)
      replace hlt2 := Lib.hid hlt2
      clear hd
      go_wp2_with fail
      refine ht.mono ?_
      rintro e w ⟨r, rfl, hd, rfl⟩
      replace hd := Lib.hid hd
      obtain ⟨A3, c3, e3, -⟩ := hd.out.at_
      subst e3
      go_wp2_with fail
      go_ret
      exact ⟨_, rfl, hd.out, hr.out.below⟩
end Go.Proofs.YtgobpoeccdgeiaaGreatDoor

namespace Go.Proofs.YtgobpoeccdgeiaaGreatDoor
open Go.RowKit NumP DigP Go.Proofs.YtgobpoeccdgeiaaGreatDoorW.PrintWords
set_option linter.unusedVariables false

theorem zero_cells (m : Nat) : Builtin.zeroCells #[.int .i64 0] m = (List.replicate m (Value.int .i64 0)).toArray := by
  apply Array.ext'
  apply List.ext_getElem
  · simp [Builtin.zeroCells]
  · intro i h1 h2
    simp [Builtin.zeroCells, Nat.mod_one]
theorem wrap_nat {m : Nat} (h : m ≤ 1000000) : IntKind.i64.wrap (m : Int) = m := IntWalk.i64_in _ (by omega)
theorem run_append_zeros (w : World) (base : Nat) (ty : TypeId) (v : Value) (n : Nat) (xs : List Value) (hown : w.ownsRow base 3 1 v n xs) (m : Nat) (hn : n ≤ 1000000) (hm : m ≤ 1000000) (hbase : base ≤ w.heap.size) :
    ∃ v' w', (Builtin.append_ #[120, 3] ty #[v, .int .i64 (m : Int)]).run Tryz.prog w = .ok v' w' ∧ w'.ownsRow base 3 1 v' (n + m) (xs ++ List.replicate m (.int .i64 0)) ∧ w.grownBy w' v.ownBlock := by
  obtain ⟨i, hi, hz0, hz1, hz2⟩ := info_parts info_int
  have hw := wrap_nat hm
  have hlx := hown.1
  rw [Nat.mul_one] at hlx
  have h48 : ¬ ((281474976710656 : Int) < (m : Int) * 8) := by omega
  have hneg : ¬ ((m : Int) < 0) := by omega
  have hA : ∀ w : World, (asInt (.int .i64 (m : Int))).run Tryz.prog w = .ok (m : Int) w := fun w => by simp [asInt, asIntOf, Sem.run_pure]
  have hzc : (Value.int .i64 0).cells = #[.int .i64 0] := rfl
  have grown : ∀ (old : Nat) (C : Array Value), C.toList = xs ++ List.replicate (m + (grownCap w (n + m) old 3 - (n + m))) (.int .i64 0) → (w.drew.alloc (.cells C 3)).ownsRow base 3 1 (.slice (some ⟨w.heap.size, 0, none⟩) (n + m) (grownCap w (n + m) old 3)) (n + m) (xs ++ List.replicate m (.int .i64 0)) := by
    intro old C hC
    have hge := grownCap_ge w (n + m) old 3
    have hcm : grownCap w (n + m) old 3 ≤ maxLen := grownCap_le_maxLen w (n + m) old 3 (by unfold maxLen; omega)
    refine ⟨by simp [hlx], .inr ⟨w.heap.size, _, C, rfl, hbase, (MapKept.heap_alloc w.drew _).1, hge, hcm, ?_, ?_⟩⟩
    · have := congrArg List.length hC
      simp [hlx] at this
      omega
    · rw [hC, ← List.replicate_append_replicate, ← List.append_assoc]
      exact List.take_left' (by simp [hlx])
  rcases hown.2 with ⟨rfl, rfl⟩ | ⟨g, cap, cur, rfl, hbg, hg, hnc, hcm, hcs, htake⟩
  · have hx : xs = [] := List.eq_nil_of_length_eq_zero hlx
    subst hx
    by_cases h0 : m = 0
    · subst h0
      refine ⟨.slice none 0 0, w, ?_, World.ownsRow_nil w base _ 1, ⟨rfl, rfl, rfl, Nat.le_refl _, fun _ _ _ => rfl⟩⟩
      have hA0 : ∀ w : World, (asInt (.int .i64 (0 : Int))).run Tryz.prog w = .ok (0 : Int) w := hA
      have hw0 : IntKind.i64.wrap 0 = 0 := by decide
      simp [Builtin.append_, run_underlying Tryz.underlying120, run_underlying Tryz.underlying3, sizeOf, typeInfo, hi, hz2, hA0, hw0]
    · have h63 : ¬ ((9223372036854775807 : Int) < (m : Int)) := by omega
      have hcap : ¬ (281474976710656 < Builtin.nextslicecap m 0 * 8) := by rw [nextslicecap_zero (by omega)]; omega
      refine ⟨.slice (some ⟨w.heap.size, 0, none⟩) m (grownCap w m 0 3), w.drew.alloc (.cells (Array.replicate (m + (grownCap w m 0 3 - m)) (.int .i64 0)) 3), ?_, ?_, ⟨rfl, rfl, rfl, by simp, fun k hk _ => heap_alloc_old w.drew _ hk⟩⟩
      · simp [Builtin.append_, run_underlying Tryz.underlying120, run_underlying Tryz.underlying3, sizeOf, typeInfo, zeroValue, hi, hz0, hz1, hz2, hA, hw, hneg, hzc, Builtin.firstCells, h0, h63, hcap, h48, Question.forced, newRow, grownCap, zero_cells]
      · have := grown 0 (Array.replicate (m + (grownCap w m 0 3 - m)) (.int .i64 0)) (by simp)
        simpa using this
  · by_cases hroom : n + m ≤ cap
    · by_cases h0 : m = 0
      · subst h0
        have hA0 : ∀ w : World, (asInt (.int .i64 (0 : Int))).run Tryz.prog w = .ok (0 : Int) w := hA
        have hw0 : IntKind.i64.wrap 0 = 0 := by decide
        refine ⟨.slice (some ⟨g, 0, none⟩) n cap, w, ?_, by simpa using hown, ⟨rfl, rfl, rfl, Nat.le_refl _, fun _ _ _ => rfl⟩⟩
        simp [Builtin.append_, run_underlying Tryz.underlying120, run_underlying Tryz.underlying3, sizeOf, typeInfo, hi, hz2, hA0, hw0, hnc, storeCells, Sem.run_pure]
      · have h1 : ∀ u ∈ List.replicate m (Value.int .i64 0), u.oneCell' = true := fun u hu => by rw [List.eq_of_mem_replicate hu]; rfl
        have hst := run_storeCells_at Tryz.prog g (n * 1) 3 (List.replicate m (Value.int .i64 0)) 0 cur w hg (by simp; omega) h1
        simp only [Nat.add_zero, Nat.mul_one, List.length_replicate] at hst
        refine ⟨.slice (some ⟨g, 0, none⟩) (n + m) cap, w.setRow g (cur.toList.take n ++ List.replicate m (Value.int .i64 0) ++ cur.toList.drop (n + m)).toArray, ?_, ?_, ⟨rfl, rfl, rfl, by simp, fun k _ hk => setRow_other w g k _ (fun e => hk (by simp [Value.ownBlock, e]))⟩⟩
        · simp [Builtin.append_, run_underlying Tryz.underlying120, run_underlying Tryz.underlying3, sizeOf, typeInfo, zeroValue, hi, hz0, hz1, hz2, hA, hw, hneg, hzc, hroom, h0, h48, zero_cells, Addr.add_lit, hst]
        · rw [Nat.mul_one] at htake
          refine ⟨by simp [hlx], .inr ⟨g, cap, _, rfl, hbg, setRow_heap w g cur _ _ _ hg, hroom, hcm, ?_, ?_⟩⟩
          · have hz : cur.toList.length = cap := by have := hcs; simp at this ⊢; omega
            simp only [List.size_toArray, List.length_append, List.length_take, List.length_drop, List.length_replicate]
            rw [hz]; omega
          · rw [htake]
            exact List.take_left' (by simp [hlx])
    · have holds : ∀ j u, xs[j]? = some u → w.cell? ((⟨g, 0, none⟩ : Addr).add j) = some u := hown.cells (g := g) rfl
      have hfo := run_firstCells_some (P := Tryz.prog) w.drew 1 n ⟨g, 0, none⟩ n cap xs (by omega) (by simpa using holds)
      have h63 : ¬ ((9223372036854775807 : Int) < (n : Int) + (m : Int)) := by omega
      have hcap : ¬ (281474976710656 < Builtin.nextslicecap (n + m) cap * 8) := by
        have := growslice_fits (need := n + m) (old := cap) (bytes := 8) (by omega) (by omega)
        omega
      have h0 : ¬ m = 0 := by omega
      refine ⟨.slice (some ⟨w.heap.size, 0, none⟩) (n + m) (grownCap w (n + m) cap 3), w.drew.alloc (.cells (xs.toArray ++ Array.replicate (m + (grownCap w (n + m) cap 3 - (n + m))) (.int .i64 0)) 3), ?_, ?_, ⟨rfl, rfl, rfl, by simp, fun k hk _ => heap_alloc_old w.drew _ hk⟩⟩
      · simp [Builtin.append_, run_underlying Tryz.underlying120, run_underlying Tryz.underlying3, sizeOf, typeInfo, zeroValue, hi, hz0, hz1, hz2, hA, hw, hneg, hzc, hroom, hfo, h0, h63, hcap, h48, Question.forced, newRow, grownCap, zero_cells]
      · exact grown cap _ (by simp)
theorem wp_append_zeros {w : World} {o : Oper} {a : Act} {K : Act → World → Prop} {Q : Exit → Act → World → Prop} (s x : Operand)
    (ho : o.op = .call { callee := .builtin .append, args := #[s, x], argTypes := #[120, 3] })
    (base : Nat) (v : Value) (n : Nat) (xs : List Value) (hs : a.eval s = v) (hown : w.ownsRow base 3 1 v n xs) (m : Nat) (hx : a.eval x = .int .i64 (m : Int)) (hn : n ≤ 1000000) (hm : m ≤ 1000000) (hbase : base ≤ w.heap.size)
    (h : ∀ v' w', w'.ownsRow base 3 1 v' (n + m) (xs ++ List.replicate m (.int .i64 0)) → w.grownBy w' v.ownBlock → K (a.put o.dst v') w') : o.wp Tryz.prog a w K Q := by
  obtain ⟨v', w', hr, h2, h3⟩ := run_append_zeros w base o.type v n xs hown m hn hm hbase
  unfold Oper.wp execOp
  simp only [ho, resolve, invoke, builtin, Sem.run_bind, Sem.run_pure, Result.andThen_ok, List.map_toArray, List.map_cons, List.map_nil, hs, hx, hr]
  exact h v' w' h2 h3
theorem wpList_append_zeros {w : World} {ops : Array Oper} {rest : List Oper} {o : Oper} {a : Act} {Q : Exit → Act → World → Prop} (hgd : o.guard = none) (s x : Operand)
    (ho : o.op = .call { callee := .builtin .append, args := #[s, x], argTypes := #[120, 3] })
    (base : Nat) (v : Value) (n : Nat) (xs : List Value) (hs : a.eval s = v) (hown : w.ownsRow base 3 1 v n xs) (m : Nat) (hx : a.eval x = .int .i64 (m : Int)) (hn : n ≤ 1000000) (hm : m ≤ 1000000) (hbase : base ≤ w.heap.size)
    (h : ∀ v' w', w'.ownsRow base 3 1 v' (n + m) (xs ++ List.replicate m (.int .i64 0)) → w.grownBy w' v.ownBlock → wpList Tryz.prog ops Q rest (a.put o.dst v') w') : wpList Tryz.prog ops Q (o :: rest) a w :=
  wpList_plain hgd fun _ hK => wp_append_zeros s x ho base v n xs hs hown m hx hn hm hbase fun v' w' h2 h3 => hK _ _ (h v' w' h2 h3)
/-- An empty row of the function's own. -/
theorem own_empty (w : World) : (w.alloc (.cells #[] 3)).ownsRow w.heap.size 3 1 (.slice (some ⟨w.heap.size, 0, none⟩) 0 0) 0 [] :=
  ⟨rfl, .inr ⟨w.heap.size, 0, #[], rfl, Nat.le_refl _, (MapKept.heap_alloc _ _).1, Nat.le_refl _, by unfold maxLen; omega, rfl, rfl⟩⟩
/-- What a slice of digits holds, as values. -/
theorem DAt.news {w : World} {A : Option Addr} {k c n : Nat} (h : DAt w (.slice A k c) k n) (ad : Addr) (hA : A = some ad) : ∀ j u, (ints (fixN k n))[j]? = some u → w.cell? (ad.add j) = some u := fun j u hu => by
  obtain ⟨A', c', e, _, h2⟩ := h.at_
  injection e with e1 e2 e3
  subst e1 e3
  have hj : j < k := by
    rcases Nat.lt_or_ge j k with hj | hj
    · exact hj
    · rw [List.getElem?_eq_none (by rw [ints_len, fixN_len]; exact hj)] at hu; cases hu
  obtain ⟨g, off, ea, hc⟩ := h2 (by omega)
  rw [hA] at ea
  cases ea
  rw [ints, List.getElem?_map, fixN_get hj] at hu
  rw [show (Addr.add ⟨g, off, none⟩ j) = ⟨g, off + j, none⟩ by cases j <;> simp [Addr.add]]
  rw [hc j hj]; exact hu
theorem ints_one (l : List Nat) : ∀ u ∈ ints l, u.oneCell' = true := fun u hu => by
  rw [ints, List.mem_map] at hu
  obtain ⟨d, _, rfl⟩ := hu
  rfl
theorem ints_zero (m : Nat) : List.replicate m (Value.int .i64 0) = ints (List.replicate m 0) := by simp [ints]
theorem ints_app (a b : List Nat) : ints (a ++ b) = ints a ++ ints b := by simp [ints]
theorem fixN_app {k n m : Nat} : fixN k n ++ List.replicate m 0 = fixN (k + m) (n * 10 ^ m) := by
  apply List.ext_getElem?
  intro i
  rcases Nat.lt_or_ge i k with h | h
  · rw [List.getElem?_append_left (by rw [fixN_len]; exact h), fixN_get h, fixN_get (by omega)]
    congr 1
    unfold dg
    rw [show k + m - 1 - i = m + (k - 1 - i) by omega, Nat.pow_add, ← Nat.div_div_eq_div_mul, Nat.mul_div_cancel _ (Nat.pow_pos (by decide))]
  · rw [List.getElem?_append_right (by rw [fixN_len]; exact h), fixN_len]
    rcases Nat.lt_or_ge i (k + m) with h2 | h2
    · rw [fixN_get h2]
      have e : dg (n * 10 ^ m) (k + m - 1 - i) = 0 := by
        unfold dg
        rw [show m = (k + m - 1 - i) + (m - (k + m - 1 - i)) by omega]
        rw [show k + ((k + m - 1 - i) + (m - (k + m - 1 - i))) - 1 - i = k + m - 1 - i by omega]
        rw [Nat.pow_add, Nat.mul_comm (10 ^ (k + m - 1 - i)), ← Nat.mul_assoc, Nat.mul_div_cancel _ (Nat.pow_pos (by decide))]
        obtain ⟨j, hj⟩ : ∃ j, m - (k + m - 1 - i) = j + 1 := ⟨m - (k + m - 1 - i) - 1, by omega⟩
        rw [hj, Nat.pow_succ, ← Nat.mul_assoc, Nat.mul_mod_left]
      rw [e]
      simp [show i - k < m by omega]
    · rw [List.getElem?_eq_none (by simp; omega), List.getElem?_eq_none (by rw [fixN_len]; exact h2)]
end Go.Proofs.YtgobpoeccdgeiaaGreatDoor

namespace Go.Proofs.YtgobpoeccdgeiaaGreatDoor
open Go.RowKit NumP DigP Go.Proofs.YtgobpoeccdgeiaaGreatDoorW.PrintWords
set_option linter.unusedVariables false

/-- A row of the function's own with the digits of n. -/
def OwnPost (W : World) (k n : Nat) (e : Ending) (w' : World) : Prop := ∃ v, e = .returned v ∧ w'.ownsRow W.heap.size 3 1 v k (ints (fixN k n)) ∧ Below W.heap.size W w'
set_option maxRecDepth 100000 in
set_option maxHeartbeats 2000000 in
theorem zeros_r (v : Value) (k n m : Nat) (W : World) (h : DAt W v k n) (hk : k ≤ 1000) (hm : m ≤ 1000) : Calls Tryz.prog 112 #[v, .int .i64 (m : Int)] W (OwnPost W (k + m) (n * 10 ^ m)) := by
  obtain ⟨A, c, rfl, ⟨h1, h1n⟩, h2⟩ := h.at_
  obtain ⟨i0, hi, hz0, hz1, hz2⟩ := info_parts info_int
  have hemp := own_empty W
  have hb1 : Below W.heap.size W (W.alloc (.cells #[] 3)) := (Below.refl _ _).alloc (Nat.le_refl _) _
  have hd1 := h.below hb1
  have hbs := hb1.size
  have hlen : (ints (fixN k n)).length = k * 1 := by rw [ints_len, fixN_len, Nat.mul_one]
  have hone := ints_one (fixN k n)
  have hfin : ints (fixN k n) ++ List.replicate m (.int .i64 0) = ints (fixN (k + m) (n * 10 ^ m)) := by rw [ints_zero, ← ints_app, fixN_app]
  replace h2 := Lib.hid h2
  replace hb1 := Lib.hid hb1
  replace hfin := Lib.hid hfin
  cases A with
  | none =>
    have hc0 := h1n rfl
    have hk0 : k = 0 := by omega
    subst hc0
    subst hk0
    replace hone := Lib.hid hone
    go_enter Tryz.func112, Tryz.ntmps112
    go_wp2_with (at_builtin; first
      | (refine wpList_append_own_none rfl _ _ 120 rfl W.heap.size 3 i0 1 Tryz.underlying120 hi _ _ _ rfl hemp rfl ?_)
      | (refine wpList_append_zeros rfl _ _ rfl W.heap.size _ _ _ rfl hemp m rfl (by omega) (by omega) hbs ?_; intro v2 w2 hown2 hgrow2))
    go_ret
    have hf := hfin.out
    rw [Nat.zero_add] at hf hown2
    rw [show ([] : List Value) = ints (fixN 0 n) from rfl, hf] at hown2
    exact ⟨_, rfl, hown2, Below.grown hb1.out hgrow2 hb1.out.size (fun j hj => by have := (hemp.lt _ hj).1; omega)⟩
  | some ad =>
    have hnews := hd1.news ad rfl
    go_enter Tryz.func112, Tryz.ntmps112
    go_wp2_with (at_builtin; first
      | (refine wpList_append_own _ rfl _ _ 120 rfl W.heap.size 3 i0 (.int .i64 0) 1 8 Tryz.underlying120 hi hz0 hz1 hz2 rfl (by decide) _ _ _ rfl hemp ad k c (ints (fixN k n)) rfl hlen hnews hone (by unfold maxLen; omega) (by omega) hbs ?_; intro v1 w1 hown1 hgrow1 hnil1; have hB1 := Below.grown hb1.out hgrow1 hb1.out.size (fun j hj => by have := (hemp.lt _ hj).1; omega); have hs1 := hB1.size; replace hB1 := Lib.hid hB1)
      | (refine wpList_append_zeros rfl _ _ rfl W.heap.size _ _ _ rfl hown1 m rfl (by omega) (by omega) hs1 ?_; intro v2 w2 hown2 hgrow2))
    go_ret
    rw [List.nil_append, hfin.out, Nat.zero_add] at hown2
    exact ⟨_, rfl, hown2, Below.grown hB1.out hgrow2 hB1.out.size (fun j hj => (hown1.lt _ hj).1)⟩
end Go.Proofs.YtgobpoeccdgeiaaGreatDoor

namespace Go.Proofs.YtgobpoeccdgeiaaGreatDoor
open Go.RowKit NumP DigP Go.Proofs.YtgobpoeccdgeiaaGreatDoorW.PrintWords
set_option linter.unusedVariables false

def upE (last : Nat) (half : Int) : Bool := decide (0 < half) || (decide (half = 0) && decide (last % 2 = 1))
set_option maxRecDepth 100000 in
set_option maxHeartbeats 2000000 in
theorem up_r (neg none : Bool) (last : Nat) (half : Int) (W : World) (hl : last < 10) : Calls Tryz.prog 144 #[.bool neg, .int .i64 (last : Int), .int .i64 half, .bool none, .string ⟨#[101, 118, 101, 110]⟩] W fun e w' => e = .returned (.bool (upE last half)) ∧ W = w' := by
  obtain ⟨b, hb⟩ : ∃ b, b = upE last half := ⟨_, rfl⟩
  rw [← hb]
  unfold upE at hb
  rcases Int.lt_trichotomy half 0 with h | h | h
  · have hb2 : b = false := by rw [hb]; simp; omega
    subst hb2
    have g1 : ¬ (half > 0) := by omega
    have g2 : (half == 0) = false := by simp; omega
    clear hb
    go_enter Tryz.func144, Tryz.ntmps144
    go_wp2_with fail
    go_ret
    exact ⟨rfl, rfl⟩
  · subst h
    by_cases h2 : last % 2 = 1
    · have hb2 : b = true := by rw [hb]; simp [h2]
      subst hb2
      have g3 : (((last : Nat) : Int) % 2 == 1) = true := by simp; omega
      clear hb
      go_enter Tryz.func144, Tryz.ntmps144
      go_wp2_with fail
      go_ret
      exact ⟨rfl, rfl⟩
    · have hb2 : b = false := by rw [hb]; simp [h2]
      subst hb2
      have g3 : (((last : Nat) : Int) % 2 == 1) = false := by simp; omega
      clear hb
      go_enter Tryz.func144, Tryz.ntmps144
      go_wp2_with fail
      go_ret
      exact ⟨rfl, rfl⟩
  · have hb2 : b = true := by rw [hb]; simp [h]
    subst hb2
    have g1 : half > 0 := h
    clear hb
    go_enter Tryz.func144, Tryz.ntmps144
    go_wp2_with fail
    go_ret
    exact ⟨rfl, rfl⟩
end Go.Proofs.YtgobpoeccdgeiaaGreatDoor

namespace Go.Proofs.YtgobpoeccdgeiaaGreatDoor
open Go.RowKit NumP DigP Go.Proofs.YtgobpoeccdgeiaaGreatDoorW.PrintWords
set_option linter.unusedVariables false

theorem fixN_ahead {j k D : Nat} (h : D < 10 ^ k) : fixN j 0 ++ fixN k D = fixN (j + k) D := by
  apply List.ext_getElem?
  intro i
  rcases Nat.lt_or_ge i j with h1 | h1
  · rw [List.getElem?_append_left (by rw [fixN_len]; exact h1), fixN_get h1, fixN_get (by omega)]
    rw [dg_out (n := D) (Nat.lt_of_lt_of_le h (Nat.pow_le_pow_right (by decide) (by omega)))]
    simp [dg]
  · rw [List.getElem?_append_right (by rw [fixN_len]; exact h1), fixN_len]
    rcases Nat.lt_or_ge i (j + k) with h2 | h2
    · rw [fixN_get h2, fixN_get (by omega)]
      congr 2; omega
    · rw [List.getElem?_eq_none (by rw [fixN_len]; omega), List.getElem?_eq_none (by rw [fixN_len]; exact h2)]
theorem dg_div (D n p : Nat) : dg (D / 10 ^ n) p = dg D (n + p) := by
  unfold dg; rw [Nat.div_div_eq_div_mul, ← Nat.pow_add]
theorem pow_half {n : Nat} (h : 1 ≤ n) : 2 * (5 * 10 ^ (n - 1)) = 10 ^ n := by
  obtain ⟨m, rfl⟩ : ∃ m, n = m + 1 := ⟨n - 1, by omega⟩
  rw [Nat.add_sub_cancel, Nat.pow_succ]; omega
/-- How a number is rounded to even. -/
theorem cut_even_is {D n : Nat} (neg : Bool) (h : 1 ≤ n) : cutN .even neg D (10 ^ n) = D / 10 ^ n + (upE (dg D n) (cmpN (D % 10 ^ n) (5 * 10 ^ (n - 1)))).toNat := by
  unfold cutN
  congr 1
  congr 1
  have hp := pow_half h
  unfold NumP.Way.up upE cmpN
  show (decide (10 ^ n < 2 * (D % 10 ^ n)) || (decide (2 * (D % 10 ^ n) = 10 ^ n) && decide (D / 10 ^ n % 2 = 1))) = _
  have hd : (dg D n % 2 = 1) ↔ (D / 10 ^ n % 2 = 1) := by unfold dg; omega
  rcases Nat.lt_trichotomy (D % 10 ^ n) (5 * 10 ^ (n - 1)) with h1 | h1 | h1
  · rw [if_pos h1]
    have a1 : ¬ 10 ^ n < 2 * (D % 10 ^ n) := by omega
    have a2 : ¬ 2 * (D % 10 ^ n) = 10 ^ n := by omega
    simp [a1, a2]
  · rw [if_neg (by omega), if_pos h1]
    have a1 : ¬ 10 ^ n < 2 * (D % 10 ^ n) := by omega
    have a2 : 2 * (D % 10 ^ n) = 10 ^ n := by omega
    simp [a2, hd]
  · rw [if_neg (by omega), if_neg (by omega)]
    have a1 : 10 ^ n < 2 * (D % 10 ^ n) := by omega
    simp [a1]
/-- The front and the back of a slice of digits. -/
theorem DAt.front {w : World} {g off K c D n : Nat} (h : DAt w (.slice (some ⟨g, off, none⟩) K c) K D) (hn : n ≤ K) : DAt w (.slice (some ⟨g, off, none⟩) (K - n) c) (K - n) (D / 10 ^ n) := by
  obtain ⟨A, c', e, ⟨h1, _⟩, h2⟩ := h.at_
  injection e with e1 e2 e3
  subst e1 e3
  refine ⟨_, _, rfl, ⟨by omega, fun h => by cases h⟩, fun h0 => ?_⟩
  obtain ⟨g', off', ea, hc⟩ := h2 (by omega)
  cases ea
  refine ⟨g, off, rfl, fun i hi => ?_⟩
  have := hc i (by omega)
  rw [dg_div, show n + (K - n - 1 - i) = K - 1 - i by omega]
  exact this
theorem DAt.back {w : World} {g off K c D n c2 : Nat} (h : DAt w (.slice (some ⟨g, off, none⟩) K c) K D) (hn : n ≤ K) (hc2 : n ≤ c2) : DAt w (.slice (some ⟨g, off + (K - n), none⟩) n c2) n (D % 10 ^ n) := by
  obtain ⟨A, c', e, ⟨h1, _⟩, h2⟩ := h.at_
  injection e with e1 e2 e3
  subst e1 e3
  refine ⟨_, _, rfl, ⟨hc2, fun h => by cases h⟩, fun h0 => ?_⟩
  obtain ⟨g', off', ea, hc⟩ := h2 (by omega)
  cases ea
  refine ⟨g, off + (K - n), rfl, fun i hi => ?_⟩
  have := hc (K - n + i) (by omega)
  rw [dg_mod (by omega), show n - 1 - i = K - 1 - (K - n + i) by omega, Nat.add_assoc]
  exact this
theorem own_digit (w : World) {d : Nat} (hd : d < 10) : (w.alloc (.cells #[.int .i64 (d : Int)] 3)).ownsRow w.heap.size 3 1 (.slice (some ⟨w.heap.size, 0, none⟩) 1 1) 1 (ints (fixN 1 d)) := by
  have e : fixN 1 d = [d] := by simp [fixN, dg, List.range, List.range.loop]; omega
  rw [e]
  exact ⟨rfl, .inr ⟨w.heap.size, 1, #[.int .i64 (d : Int)], rfl, Nat.le_refl _, (MapKept.heap_alloc _ _).1, Nat.le_refl _, by unfold maxLen; omega, rfl, rfl⟩⟩
set_option maxRecDepth 100000 in
set_option maxHeartbeats 4000000 in
theorem cut_low (neg : Bool) (v : Value) (k D n : Nat) (W : World) (h : DAt W v k D) (hD : D < 10 ^ k) (hn : 1 ≤ n) (hnk : n ≤ k) (hk : k ≤ 1000) : Calls Tryz.prog 110 #[.bool neg, v, .int .i64 (n : Int), .string ⟨#[101, 118, 101, 110]⟩] W (DgPost W (cutN .even neg D (10 ^ n))) := by
  obtain ⟨A, c, rfl, ⟨h1, -⟩, h2⟩ := h.at_
  obtain ⟨g, off, rfl, hc⟩ := h2 (by omega)
  have hst := Lib.hid (h.front hnk)
  have hof := Lib.hid (h.back (c2 := c - (k - n)) hnk (by omega))
  have g1 : ¬ ((n : Int) > (k : Int)) := by omega
  have e1 : k - (k - n) = n := by omega
  have e2 : max 0 ((n : Int) - 1) = ((n - 1 : Nat) : Int) := by omega
  have hR : Hid (cutN .even neg D (10 ^ n) = D / 10 ^ n + (upE (dg D n) (cmpN (D % 10 ^ n) (5 * 10 ^ (n - 1)))).toNat) := Lib.hid (cut_even_is neg hn)
  obtain ⟨last, hlast⟩ : ∃ l, l = dg D n := ⟨_, rfl⟩
  obtain ⟨half, hhalf⟩ : ∃ x, x = cmpN (D % 10 ^ n) (5 * 10 ^ (n - 1)) := ⟨_, rfl⟩
  rw [← hlast, ← hhalf] at hR
  have hl10 : last < 10 := by rw [hlast]; exact dg_lt _ _
  have hs : k - n ≤ 1000 := by omega
  have hSt : Hid (D / 10 ^ n < 10 ^ (k - n)) := Lib.hid (by rw [Nat.div_lt_iff_lt_mul (Nat.pow_pos (by decide)), ← Nat.pow_add, show k - n + n = k by omega]; exact hD)
  have hlc : Hid (0 < k - n → W.cell? ⟨g, off + (k - n - 1), none⟩ = some (.int .i64 (last : Nat))) := Lib.hid (fun h0 => by
    have := hc (k - n - 1) (by omega)
    rw [show k - 1 - (k - n - 1) = n by omega, ← hlast] at this
    exact this)
  have hl0 : Hid (¬ 0 < k - n → last = 0) := Lib.hid (fun h0 => by
    rw [hlast]; exact dg_out (by rw [show n = k by omega]; exact hD))
  replace hhalf := Lib.hid hhalf
  replace hlast := Lib.hid hlast
  replace hc := Lib.hid hc
  replace h2 := Lib.hid h2
  replace h := Lib.hid h
  go_enter Tryz.func110, Tryz.ntmps110
  go_upto_region 3 with fail
  go_quiet (fail)
  obtain ⟨W2, hW2⟩ : ∃ W2, W2 = W.drewN nq := ⟨_, rfl⟩
  rw [← hW2]
  have hB2 := Lib.hid (show Below W.heap.size W W2 by rw [hW2]; exact below_drewN (Below.refl _ _) nq)
  clear hW2
  have hfive := own_digit W2 (show 5 < 10 by decide)
  have hb2 : Below W2.heap.size W2 (W2.alloc (.cells #[.int .i64 5] 3)) := (Below.refl _ _).alloc (Nat.le_refl _) _
  have hbs := hb2.size
  replace hb2 := Lib.hid hb2
  go_wp2_with (at_builtin; refine wpList_append_zeros rfl _ _ rfl W2.heap.size _ 1 _ rfl hfive (n - 1) rfl (by omega) (by omega) hbs ?_; intro v3 w3 hown3 hgrow3)
  rw [ints_zero, ← ints_app, fixN_app, show 1 + (n - 1) = n by omega] at hown3
  have hB23 := Below.grown hb2.out hgrow3 hb2.out.size (fun j hj => (hfive.lt _ hj).1)
  have hB3 := Lib.hid (hB2.out.trans (hB23.mono hB2.out.size))
  have hd3 := own_DAt hown3
  have hcm := cmp_r _ v3 n n (D % 10 ^ n) (5 * 10 ^ (n - 1)) w3 (hof.out.below hB3.out) hd3 (Nat.mod_lt _ (Nat.pow_pos (by decide))) (by have := pow_half hn; have := Nat.pow_pos (n := n) (show 0 < 10 by decide); omega) (by omega) (by omega)
  rw [← hhalf.out] at hcm
  clear hown3 hgrow3 hB23 hd3 hfive hbs
  refine hcm.mono ?_
  rintro e w4 ⟨rfl, hb4⟩
  have hB4 := Lib.hid (hB3.out.trans (hb4.mono hB3.out.size))
  clear hcm hb4
  obtain ⟨i0, hi, hz0, hz1, hz2⟩ := info_parts info_int
  have ht := trim_r _ n (D % 10 ^ n) w4 (hof.out.below hB4.out) (Nat.mod_lt _ (Nat.pow_pos (by decide))) (by omega)
  have g5 : ((n : Int) > 0) := by omega
  obtain ⟨j, hj⟩ : ∃ j, j = k - n := ⟨_, rfl⟩
  rw [← hj] at hst hSt hlc hl0 hs ht ⊢
  rw [← hj] at e1
  replace hj := Lib.hid hj
  by_cases hj0 : 0 < j
  · have qc := (hB4.out.cell (World.block_lt_of_cell? W _ (hlc.out hj0))).trans (hlc.out hj0)
    have g2 : ((j : Int) > 0) := by omega
    have g3 : (j : Int) - 1 = ((j - 1 : Nat) : Int) := by omega
    have g4 : (((j - 1 : Nat) : Int) < (j : Int)) := by omega
    have g6 : j - 1 < j := by omega
    go_wp2_with fail
    refine ht.mono ?_
    rintro e w ⟨v', rfl, hd', rfl⟩
    obtain ⟨A', c', rfl, -⟩ := hd'.at_
    clear ht hd'
    go_wp2_with fail
    refine (up_r neg _ last half _ hl10).mono ?_
    rintro e w ⟨rfl, rfl⟩
    cases hup : upE last half with
    | true =>
      rw [hup] at hR
      have hone := own_digit w4 (show 1 < 10 by decide)
      have hb5 : Below w4.heap.size w4 (w4.alloc (.cells #[.int .i64 1] 3)) := (Below.refl _ _).alloc (Nat.le_refl _) _
      have hB5 := Lib.hid (hB4.out.trans (hb5.mono hB4.out.size))
      have had := add_r _ (.slice (some ⟨w4.heap.size, 0, none⟩) 1 1) j 1 (D / 10 ^ n) 1 (w4.alloc (.cells #[.int .i64 1] 3)) (hst.out.below hB5.out) (own_DAt hone) hSt.out (by decide) (by omega) (by decide)
      clear hone hb5
      go_wp2_with fail
      refine had.mono ?_
      rintro e w6 ⟨r, rfl, hr, hb6⟩
      replace hr := Lib.hid hr
      obtain ⟨A3, c3, e3, -⟩ := hr.out.at_
      subst e3
      go_wp2_with fail
      go_ret
      exact ⟨_, rfl, by rw [hR.out]; exact hr.out, by exact hB5.out.trans (hb6.mono hB5.out.size)⟩
    | false =>
      rw [hup] at hR
      have hemp := own_empty w4
      have hb5 : Below w4.heap.size w4 (w4.alloc (.cells #[] 3)) := (Below.refl _ _).alloc (Nat.le_refl _) _
      have hB5 := Lib.hid (hB4.out.trans (hb5.mono hB4.out.size))
      have hnews := (hst.out.below hB5.out).news _ rfl
      have hone := ints_one (fixN j (D / 10 ^ n))
      have hnl : (ints (fixN j (D / 10 ^ n))).length = j * 1 := by rw [ints_len, fixN_len, Nat.mul_one]
      have hbs := hb5.size
      clear hb5
      go_wp2_with (at_builtin; refine wpList_append_own _ rfl _ _ 120 rfl w4.heap.size 3 i0 (.int .i64 0) 1 8 Tryz.underlying120 hi hz0 hz1 hz2 rfl (by decide) _ _ _ rfl hemp ⟨g, off, none⟩ j c (ints (fixN j (D / 10 ^ n))) rfl hnl hnews hone (by unfold maxLen; omega) (by omega) hbs ?_; intro v6 w6 hown6 hgrow6 hnil6)
      rw [List.nil_append, Nat.zero_add] at hown6
      have hB6 := Lib.hid (Below.grown hB5.out hgrow6 hB5.out.size (fun k hk => Nat.le_trans hB4.out.size (hemp.lt _ hk).1))
      have ht2 := trim_r v6 j (D / 10 ^ n) w6 (own_DAt hown6) hSt.out (by omega)
      clear hown6 hgrow6 hnil6 hnews hone hemp
      refine ht2.mono ?_
      rintro e w7 ⟨r, rfl, hr, rfl⟩
      replace hr := Lib.hid hr
      obtain ⟨A3, c3, e3, -⟩ := hr.out.at_
      subst e3
      go_wp2_with fail
      go_ret
      exact ⟨_, rfl, by rw [hR.out]; exact hr.out, hB6.out⟩
  · have hj00 : j = 0 := by omega
    have g2 : ¬ ((j : Int) > 0) := by omega
    have hla := hl0.out hj0
    subst hla
    replace hj00 := Lib.hid hj00
    go_wp2_with fail
    refine ht.mono ?_
    rintro e w ⟨v', rfl, hd', rfl⟩
    obtain ⟨A', c', rfl, -⟩ := hd'.at_
    clear ht hd'
    go_wp2_with fail
    refine (up_r neg _ 0 half _ hl10).mono ?_
    rintro e w ⟨rfl, rfl⟩
    cases hup : upE 0 half with
    | true =>
      rw [hup] at hR
      have hone := own_digit w4 (show 1 < 10 by decide)
      have hb5 : Below w4.heap.size w4 (w4.alloc (.cells #[.int .i64 1] 3)) := (Below.refl _ _).alloc (Nat.le_refl _) _
      have hB5 := Lib.hid (hB4.out.trans (hb5.mono hB4.out.size))
      have had := add_r _ (.slice (some ⟨w4.heap.size, 0, none⟩) 1 1) j 1 (D / 10 ^ n) 1 (w4.alloc (.cells #[.int .i64 1] 3)) (hst.out.below hB5.out) (own_DAt hone) hSt.out (by decide) (by omega) (by decide)
      clear hone hb5
      go_wp2_with fail
      refine had.mono ?_
      rintro e w6 ⟨r, rfl, hr, hb6⟩
      replace hr := Lib.hid hr
      obtain ⟨A3, c3, e3, -⟩ := hr.out.at_
      subst e3
      go_wp2_with fail
      go_ret
      exact ⟨_, rfl, by rw [hR.out]; exact hr.out, by exact hB5.out.trans (hb6.mono hB5.out.size)⟩
    | false =>
      rw [hup] at hR
      have hemp := own_empty w4
      have hb5 : Below w4.heap.size w4 (w4.alloc (.cells #[] 3)) := (Below.refl _ _).alloc (Nat.le_refl _) _
      have hB5 := Lib.hid (hB4.out.trans (hb5.mono hB4.out.size))
      have hnews := (hst.out.below hB5.out).news _ rfl
      have hone := ints_one (fixN j (D / 10 ^ n))
      have hnl : (ints (fixN j (D / 10 ^ n))).length = j * 1 := by rw [ints_len, fixN_len, Nat.mul_one]
      have hbs := hb5.size
      clear hb5
      go_wp2_with (at_builtin; refine wpList_append_own _ rfl _ _ 120 rfl w4.heap.size 3 i0 (.int .i64 0) 1 8 Tryz.underlying120 hi hz0 hz1 hz2 rfl (by decide) _ _ _ rfl hemp ⟨g, off, none⟩ j c (ints (fixN j (D / 10 ^ n))) rfl hnl hnews hone (by unfold maxLen; omega) (by omega) hbs ?_; intro v6 w6 hown6 hgrow6 hnil6)
      rw [List.nil_append, Nat.zero_add] at hown6
      have hB6 := Lib.hid (Below.grown hB5.out hgrow6 hB5.out.size (fun k hk => Nat.le_trans hB4.out.size (hemp.lt _ hk).1))
      have ht2 := trim_r v6 j (D / 10 ^ n) w6 (own_DAt hown6) hSt.out (by omega)
      clear hown6 hgrow6 hnil6 hnews hone hemp
      refine ht2.mono ?_
      rintro e w7 ⟨r, rfl, hr, rfl⟩
      replace hr := Lib.hid hr
      obtain ⟨A3, c3, e3, -⟩ := hr.out.at_
      subst e3
      go_wp2_with fail
      go_ret
      exact ⟨_, rfl, by rw [hR.out]; exact hr.out, hB6.out⟩
set_option maxRecDepth 100000 in
set_option maxHeartbeats 4000000 in
theorem cut_high (neg : Bool) (v : Value) (k D n : Nat) (W : World) (h : DAt W v k D) (hD : D < 10 ^ k) (hn : 1 ≤ n) (hnk : k < n) (hn1 : n ≤ 1000) : Calls Tryz.prog 110 #[.bool neg, v, .int .i64 (n : Int), .string ⟨#[101, 118, 101, 110]⟩] W (DgPost W (cutN .even neg D (10 ^ n))) := by
  obtain ⟨A, c0, rfl, ⟨h1, h1n⟩, h2⟩ := h.at_
  obtain ⟨i0, hi, hz0, hz1, hz2⟩ := info_parts info_int
  have hDn : D < 10 ^ n := Nat.lt_of_lt_of_le hD (Nat.pow_le_pow_right (by decide) (by omega))
  have hq0 : D / 10 ^ n = 0 := Nat.div_eq_of_lt hDn
  have hm0 : D % 10 ^ n = D := Nat.mod_eq_of_lt hDn
  have e2 : max 0 ((n : Int) - 1) = ((n - 1 : Nat) : Int) := by omega
  have hR : Hid (cutN .even neg D (10 ^ n) = 0 + (upE 0 (cmpN D (5 * 10 ^ (n - 1)))).toNat) := Lib.hid (by
    have := cut_even_is (D := D) neg hn
    rw [hq0, hm0, dg_out hDn] at this
    exact this)
  obtain ⟨half, hhalf⟩ : ∃ x, x = cmpN D (5 * 10 ^ (n - 1)) := ⟨_, rfl⟩
  rw [← hhalf] at hR
  have hl10 : 0 < 10 := by decide
  have g1 : ((n : Int) > (k : Int)) := by omega
  have hmk := make_ints W (n - k) (by omega)
  rw [show ((n - k : Nat) : Int) = (n : Int) - (k : Int) by omega] at hmk
  have hown := made_ints W (n - k) (by omega)
  obtain ⟨W1, hW1⟩ : ∃ W1, W1 = W.alloc (.cells (madeCells #[.int .i64 0] (n - k)) 3) := ⟨_, rfl⟩
  have hb1 : Below W.heap.size W W1 := by rw [hW1]; exact (Below.refl _ _).alloc (Nat.le_refl _) _
  rw [← hW1] at hown hmk
  have hbs := hb1.size
  have hd1 := h.below hb1
  have hlen : (ints (fixN k D)).length = k * 1 := by rw [ints_len, fixN_len, Nat.mul_one]
  have hone0 := ints_one (fixN k D)
  have hkn : n - k + k = n := by omega
  have hlist : Hid (ints (fixN (n - k) 0) ++ ints (fixN k D) = ints (fixN n D)) := Lib.hid (by rw [← ints_app, fixN_ahead hD, hkn])
  replace hb1 := Lib.hid hb1
  replace hhalf := Lib.hid hhalf
  replace h2 := Lib.hid h2
  replace hq0 := Lib.hid hq0
  replace hm0 := Lib.hid hm0
  have rest : Hid (A = none → k = 0 ∧ c0 = 0) := Lib.hid (fun hA => ⟨by have := h1n hA; omega, h1n hA⟩)
  clear hW1 h1n
  have hfirst : Hid (∀ v1 w1, w1.ownsRow W.heap.size 3 1 v1 n (ints (fixN n D)) → Below W.heap.size W w1 → ∃ g c, v1 = .slice (some ⟨g, 0, none⟩) n c ∧ DAt w1 (.slice (some ⟨g, 0, none⟩) n c) n D ∧ n ≤ c) := Lib.hid (fun v1 w1 ho hb => by
    have hd := own_DAt ho
    obtain ⟨g, c, rfl⟩ := own_form1 ho (by omega)
    obtain ⟨A', c', e', ⟨q1, _⟩, _⟩ := hd.at_
    injection e' with _ _ e3
    subst e3
    exact ⟨g, c, rfl, hd, q1⟩)
  go_enter Tryz.func110, Tryz.ntmps110
  cases A with
  | none =>
    obtain ⟨hk0, hc0⟩ := rest.out rfl
    subst hk0
    subst hc0
    rw [show (n : Int) - ((0 : Nat) : Int) = (n : Int) by simp, Nat.sub_zero] at hmk
    rw [Nat.sub_zero] at hown
    go_upto_region 3 with (at_builtin; refine wpList_append_own_none rfl _ _ 120 rfl W.heap.size 3 i0 1 Tryz.underlying120 hi _ _ _ rfl hown rfl ?_)
    have hown1 := hown
    have hB1 := hb1
    obtain ⟨w1, hw1⟩ : ∃ w, w = W1 := ⟨_, rfl⟩
    obtain ⟨v1, hv1⟩ : ∃ v, v = Value.slice (some ⟨W.heap.size, 0, none⟩) n n := ⟨_, rfl⟩
    have hl := hlist.out
    rw [Nat.sub_zero, show ints (fixN 0 D) = [] from rfl, List.append_nil] at hl
    rw [← hw1, ← hv1, hl] at hown1
    rw [← hw1] at hB1
    rw [← hw1, ← hv1]
    clear hv1 hw1 hown hmk
    obtain ⟨g, c, rfl, hd, hnc⟩ := hfirst.out v1 w1 hown1 hB1.out
    have hof := Lib.hid hd
    have hst : Hid (DAt w1 (.slice (some ⟨g, 0, none⟩) 0 c) 0 0) := Lib.hid ⟨_, _, rfl, ⟨Nat.zero_le _, fun h => by cases h⟩, fun h => by omega⟩
    have comp : Hid (∀ w, Below w1.heap.size w1 w → Below W.heap.size W w) := Lib.hid (fun w h => hB1.out.trans (h.mono hB1.out.size))
    clear hown1 hd hfirst
    go_quiet (fail)
    obtain ⟨W2, hW2⟩ : ∃ W2, W2 = w1.drewN nq := ⟨_, rfl⟩
    rw [← hW2]
    have hB2 := Lib.hid (show Below w1.heap.size w1 W2 by rw [hW2]; exact below_drewN (Below.refl _ _) nq)
    clear hW2
    have hfive := own_digit W2 (show 5 < 10 by decide)
    have hb2 : Below W2.heap.size W2 (W2.alloc (.cells #[.int .i64 5] 3)) := (Below.refl _ _).alloc (Nat.le_refl _) _
    have hbs2 := hb2.size
    replace hb2 := Lib.hid hb2
    go_wp2_with (at_builtin; refine wpList_append_zeros rfl _ _ rfl W2.heap.size _ 1 _ rfl hfive (n - 1) rfl (by omega) (by omega) hbs2 ?_; intro v3 w3 hown3 hgrow3)
    rw [ints_zero, ← ints_app, fixN_app, show 1 + (n - 1) = n by omega] at hown3
    have hB23 := Below.grown hb2.out hgrow3 hb2.out.size (fun j hj => (hfive.lt _ hj).1)
    have hB3 := Lib.hid (hB2.out.trans (hB23.mono hB2.out.size))
    have hd3 := own_DAt hown3
    have hcm := cmp_r _ v3 n n D (5 * 10 ^ (n - 1)) w3 (hof.out.below hB3.out) hd3 hDn (by have := pow_half hn; have := Nat.pow_pos (n := n) (show 0 < 10 by decide); omega) (by omega) (by omega)
    rw [← hhalf.out] at hcm
    clear hown3 hgrow3 hB23 hd3 hfive hbs2
    refine hcm.mono ?_
    rintro e w4 ⟨rfl, hb4⟩
    have hB4 := Lib.hid (hB3.out.trans (hb4.mono hB3.out.size))
    clear hcm hb4
    have ht := trim_r _ n D w4 (hof.out.below hB4.out) hDn (by omega)
    have g5 : ((n : Int) > 0) := by omega
    go_wp2_with fail
    refine ht.mono ?_
    rintro e w ⟨v', rfl, hd', rfl⟩
    obtain ⟨A', c', rfl, -⟩ := hd'.at_
    clear ht hd'
    go_wp2_with fail
    refine (up_r neg _ 0 half _ hl10).mono ?_
    rintro e w ⟨rfl, rfl⟩
    cases hup : upE 0 half with
    | true =>
      rw [hup] at hR
      have hone := own_digit w4 (show 1 < 10 by decide)
      have hb5 : Below w4.heap.size w4 (w4.alloc (.cells #[.int .i64 1] 3)) := (Below.refl _ _).alloc (Nat.le_refl _) _
      have hB5 := Lib.hid (hB4.out.trans (hb5.mono hB4.out.size))
      have had := add_r _ (.slice (some ⟨w4.heap.size, 0, none⟩) 1 1) 0 1 0 1 (w4.alloc (.cells #[.int .i64 1] 3)) (hst.out.below hB5.out) (own_DAt hone) (by decide) (by decide) (by decide) (by decide)
      clear hone hb5
      go_wp2_with fail
      refine had.mono ?_
      rintro e w6 ⟨r, rfl, hr, hb6⟩
      replace hr := Lib.hid hr
      obtain ⟨A3, c3, e3, -⟩ := hr.out.at_
      subst e3
      go_wp2_with fail
      go_ret
      exact ⟨_, rfl, by rw [hR.out]; exact hr.out, by exact comp.out _ (hB5.out.trans (hb6.mono hB5.out.size))⟩
    | false =>
      rw [hup] at hR
      have hemp := own_empty w4
      have hb5 : Below w4.heap.size w4 (w4.alloc (.cells #[] 3)) := (Below.refl _ _).alloc (Nat.le_refl _) _
      have hB5 := Lib.hid (hB4.out.trans (hb5.mono hB4.out.size))
      have hnews := (hst.out.below hB5.out).news _ rfl
      have hone := ints_one (fixN 0 0)
      have hnl : (ints (fixN 0 0)).length = 0 * 1 := by rw [ints_len, fixN_len, Nat.mul_one]
      have hbs := hb5.size
      clear hb5
      go_wp2_with (at_builtin; refine wpList_append_own _ rfl _ _ 120 rfl w4.heap.size 3 i0 (.int .i64 0) 1 8 Tryz.underlying120 hi hz0 hz1 hz2 rfl (by decide) _ _ _ rfl hemp ⟨g, 0, none⟩ 0 c (ints (fixN 0 0)) rfl hnl hnews hone (by unfold maxLen; omega) (by omega) hbs ?_; intro v6 w6 hown6 hgrow6 hnil6)
      rw [List.nil_append, Nat.zero_add] at hown6
      have hB6 := Lib.hid (Below.grown hB5.out hgrow6 hB5.out.size (fun k hk => Nat.le_trans hB4.out.size (hemp.lt _ hk).1))
      have ht2 := trim_r v6 0 0 w6 (own_DAt hown6) (by decide) (by decide)
      clear hown6 hgrow6 hnil6 hnews hone hemp
      refine ht2.mono ?_
      rintro e w7 ⟨r, rfl, hr, rfl⟩
      replace hr := Lib.hid hr
      obtain ⟨A3, c3, e3, -⟩ := hr.out.at_
      subst e3
      go_wp2_with fail
      go_ret
      exact ⟨_, rfl, by rw [hR.out]; exact hr.out, comp.out _ hB6.out⟩
  | some ad =>
    have hnews := hd1.news ad rfl
    go_upto_region 3 with (at_builtin; go_loud (refine wpList_append_own _ rfl _ _ 120 rfl W.heap.size 3 i0 (.int .i64 0) 1 8 Tryz.underlying120 hi hz0 hz1 hz2 rfl (by decide) _ _ _ rfl hown ad k c0 (ints (fixN k D)) rfl hlen hnews hone0 (by unfold maxLen; omega) (by omega) hbs ?_); intro v1 w1 hown1 hgrow1 hnil1)
    rw [hkn, hlist.out] at hown1
    have hB1 := Lib.hid (Below.grown hb1.out hgrow1 hb1.out.size (fun j hj => (hown.lt _ hj).1))
    clear hgrow1 hnil1 hnews hown hmk hd1
    obtain ⟨g, c, rfl, hd, hnc⟩ := hfirst.out v1 w1 hown1 hB1.out
    have hof := Lib.hid hd
    have hst : Hid (DAt w1 (.slice (some ⟨g, 0, none⟩) 0 c) 0 0) := Lib.hid ⟨_, _, rfl, ⟨Nat.zero_le _, fun h => by cases h⟩, fun h => by omega⟩
    have comp : Hid (∀ w, Below w1.heap.size w1 w → Below W.heap.size W w) := Lib.hid (fun w h => hB1.out.trans (h.mono hB1.out.size))
    clear hown1 hd hfirst
    go_quiet (fail)
    obtain ⟨W2, hW2⟩ : ∃ W2, W2 = w1.drewN nq := ⟨_, rfl⟩
    rw [← hW2]
    have hB2 := Lib.hid (show Below w1.heap.size w1 W2 by rw [hW2]; exact below_drewN (Below.refl _ _) nq)
    clear hW2
    have hfive := own_digit W2 (show 5 < 10 by decide)
    have hb2 : Below W2.heap.size W2 (W2.alloc (.cells #[.int .i64 5] 3)) := (Below.refl _ _).alloc (Nat.le_refl _) _
    have hbs2 := hb2.size
    replace hb2 := Lib.hid hb2
    go_wp2_with (at_builtin; refine wpList_append_zeros rfl _ _ rfl W2.heap.size _ 1 _ rfl hfive (n - 1) rfl (by omega) (by omega) hbs2 ?_; intro v3 w3 hown3 hgrow3)
    rw [ints_zero, ← ints_app, fixN_app, show 1 + (n - 1) = n by omega] at hown3
    have hB23 := Below.grown hb2.out hgrow3 hb2.out.size (fun j hj => (hfive.lt _ hj).1)
    have hB3 := Lib.hid (hB2.out.trans (hB23.mono hB2.out.size))
    have hd3 := own_DAt hown3
    have hcm := cmp_r _ v3 n n D (5 * 10 ^ (n - 1)) w3 (hof.out.below hB3.out) hd3 hDn (by have := pow_half hn; have := Nat.pow_pos (n := n) (show 0 < 10 by decide); omega) (by omega) (by omega)
    rw [← hhalf.out] at hcm
    clear hown3 hgrow3 hB23 hd3 hfive hbs2
    refine hcm.mono ?_
    rintro e w4 ⟨rfl, hb4⟩
    have hB4 := Lib.hid (hB3.out.trans (hb4.mono hB3.out.size))
    clear hcm hb4
    have ht := trim_r _ n D w4 (hof.out.below hB4.out) hDn (by omega)
    have g5 : ((n : Int) > 0) := by omega
    go_wp2_with fail
    refine ht.mono ?_
    rintro e w ⟨v', rfl, hd', rfl⟩
    obtain ⟨A', c', rfl, -⟩ := hd'.at_
    clear ht hd'
    go_wp2_with fail
    refine (up_r neg _ 0 half _ hl10).mono ?_
    rintro e w ⟨rfl, rfl⟩
    cases hup : upE 0 half with
    | true =>
      rw [hup] at hR
      have hone := own_digit w4 (show 1 < 10 by decide)
      have hb5 : Below w4.heap.size w4 (w4.alloc (.cells #[.int .i64 1] 3)) := (Below.refl _ _).alloc (Nat.le_refl _) _
      have hB5 := Lib.hid (hB4.out.trans (hb5.mono hB4.out.size))
      have had := add_r _ (.slice (some ⟨w4.heap.size, 0, none⟩) 1 1) 0 1 0 1 (w4.alloc (.cells #[.int .i64 1] 3)) (hst.out.below hB5.out) (own_DAt hone) (by decide) (by decide) (by decide) (by decide)
      clear hone hb5
      go_wp2_with fail
      refine had.mono ?_
      rintro e w6 ⟨r, rfl, hr, hb6⟩
      replace hr := Lib.hid hr
      obtain ⟨A3, c3, e3, -⟩ := hr.out.at_
      subst e3
      go_wp2_with fail
      go_ret
      exact ⟨_, rfl, by rw [hR.out]; exact hr.out, by exact comp.out _ (hB5.out.trans (hb6.mono hB5.out.size))⟩
    | false =>
      rw [hup] at hR
      have hemp := own_empty w4
      have hb5 : Below w4.heap.size w4 (w4.alloc (.cells #[] 3)) := (Below.refl _ _).alloc (Nat.le_refl _) _
      have hB5 := Lib.hid (hB4.out.trans (hb5.mono hB4.out.size))
      have hnews := (hst.out.below hB5.out).news _ rfl
      have hone := ints_one (fixN 0 0)
      have hnl : (ints (fixN 0 0)).length = 0 * 1 := by rw [ints_len, fixN_len, Nat.mul_one]
      have hbs := hb5.size
      clear hb5
      go_wp2_with (at_builtin; refine wpList_append_own _ rfl _ _ 120 rfl w4.heap.size 3 i0 (.int .i64 0) 1 8 Tryz.underlying120 hi hz0 hz1 hz2 rfl (by decide) _ _ _ rfl hemp ⟨g, 0, none⟩ 0 c (ints (fixN 0 0)) rfl hnl hnews hone (by unfold maxLen; omega) (by omega) hbs ?_; intro v6 w6 hown6 hgrow6 hnil6)
      rw [List.nil_append, Nat.zero_add] at hown6
      have hB6 := Lib.hid (Below.grown hB5.out hgrow6 hB5.out.size (fun k hk => Nat.le_trans hB4.out.size (hemp.lt _ hk).1))
      have ht2 := trim_r v6 0 0 w6 (own_DAt hown6) (by decide) (by decide)
      clear hown6 hgrow6 hnil6 hnews hone hemp
      refine ht2.mono ?_
      rintro e w7 ⟨r, rfl, hr, rfl⟩
      replace hr := Lib.hid hr
      obtain ⟨A3, c3, e3, -⟩ := hr.out.at_
      subst e3
      go_wp2_with fail
      go_ret
      exact ⟨_, rfl, by rw [hR.out]; exact hr.out, comp.out _ hB6.out⟩
theorem cut_r (neg : Bool) (v : Value) (k D n : Nat) (W : World) (h : DAt W v k D) (hD : D < 10 ^ k) (hn : 1 ≤ n) (hk : k ≤ 1000) (hn1 : n ≤ 1000) : Calls Tryz.prog 110 #[.bool neg, v, .int .i64 (n : Int), .string ⟨#[101, 118, 101, 110]⟩] W (DgPost W (cutN .even neg D (10 ^ n))) := by
  by_cases hnk : n ≤ k
  · exact cut_low neg v k D n W h hD hn hnk hk
  · exact cut_high neg v k D n W h hD hn (by omega) hn1
end Go.Proofs.YtgobpoeccdgeiaaGreatDoor

namespace Go.Proofs.YtgobpoeccdgeiaaGreatDoor
open Go.RowKit NumP DigP DurP Go.Proofs.YtgobpoeccdgeiaaGreatDoorW.PrintWords
set_option linter.unusedVariables false

/-- What is read so far: digits, and behind a point, if there is one, more of them. -/
structure Scan (p : List UInt8) (pt : Bool) (w f : List UInt8) : Prop where
  dw : Dig w
  df : Dig f
  is : p = if pt then w ++ 46 :: f else w
  nf : pt = false → f = []
theorem Scan.start : Scan [] false [] [] := ⟨dig_nil, dig_nil, rfl, fun _ => rfl⟩
theorem Scan.point {p w f : List UInt8} (h : Scan p false w f) : Scan (p ++ [46]) true w f := ⟨h.dw, h.df, by rw [h.is, h.nf rfl]; rfl, fun h => by cases h⟩
theorem dig_snoc {w : List UInt8} {c : UInt8} (h : Dig w) (hc : isDig c = true) : Dig (w ++ [c]) := fun x hx => by
  rcases List.mem_append.1 hx with h1 | h1
  · exact h x h1
  · rw [List.mem_singleton.1 h1]; exact hc
theorem Scan.whole {p w f : List UInt8} {c : UInt8} (h : Scan p false w f) (hc : isDig c = true) : Scan (p ++ [c]) false (w ++ [c]) f := ⟨dig_snoc h.dw hc, h.df, by rw [h.is]; rfl, h.nf⟩
theorem Scan.frac {p w f : List UInt8} {c : UInt8} (h : Scan p true w f) (hc : isDig c = true) : Scan (p ++ [c]) true w (f ++ [c]) := ⟨h.dw, dig_snoc h.df hc, by rw [h.is]; simp, fun h => by cases h⟩
theorem no46 {w : List UInt8} (h : Dig w) : ∀ x ∈ w, x ≠ 46 := fun x hx => dig_ne (h x hx) (by decide)
theorem before_none : ∀ {w : List UInt8}, (∀ x ∈ w, x ≠ 46) → before 46 w = w ∧ behind 46 w = [] := fun {w} h => by
  have h1 := before_app 46 w [] h
  have h2 := behind_app 46 w [] h
  rw [List.append_nil] at h1 h2
  exact ⟨h1.trans (by simp [before]), h2⟩
theorem before_some {w f : List UInt8} (h : ∀ x ∈ w, x ≠ 46) : before 46 (w ++ 46 :: f) = w ∧ behind 46 (w ++ 46 :: f) = f := by
  rw [before_app 46 w _ h, behind_app 46 w _ h]
  exact ⟨by simp [before], by simp [behind]⟩
theorem Scan.parts {p w f : List UInt8} {pt : Bool} (h : Scan p pt w f) : before 46 p = w ∧ behind 46 p = f := by
  rw [h.is]
  cases pt
  · rw [h.nf rfl]; exact before_none (no46 h.dw)
  · exact before_some (no46 h.dw)
/-- A byte that does not belong there. -/
theorem Scan.bad {p w f r : List UInt8} {pt : Bool} {c : UInt8} (h : Scan p pt w f) (hc : isDig c = false) (h46 : c = 46 → pt = true) : (before 46 (p ++ c :: r) ++ behind 46 (p ++ c :: r)).all isDig = false := by
  have hmem : c ∈ before 46 (p ++ c :: r) ++ behind 46 (p ++ c :: r) := by
    rw [h.is]
    cases pt
    · have hne : c ≠ 46 := fun e => by have := h46 e; cases this
      have h1 := before_app 46 w (c :: r) (no46 h.dw)
      refine List.mem_append_left _ ?_
      show c ∈ before 46 (w ++ c :: r)
      rw [h1]
      refine List.mem_append_right _ ?_
      unfold before
      rw [List.takeWhile_cons, if_pos (by simpa using hne)]
      exact List.mem_cons_self ..
    · refine List.mem_append_right _ ?_
      show c ∈ behind 46 (w ++ 46 :: f ++ c :: r)
      rw [List.append_assoc]
      rw [show (46 :: f) ++ c :: r = 46 :: (f ++ c :: r) from rfl, (before_some (no46 h.dw)).2]
      simp
  rw [List.all_eq_false]
  exact ⟨c, hmem, by rw [hc]; decide⟩
theorem parse_bad {l : List UInt8} (hl : ¬ 200 < l.length) (h : (before 46 (unsigned l) ++ behind 46 (unsigned l)).all isDig = false) : parseN l = .error 5 := by
  unfold parseN
  rw [if_neg hl]
  simp only
  rw [if_pos (.inr h)]
theorem parse_empty {l : List UInt8} (hl : ¬ 200 < l.length) (h : before 46 (unsigned l) ++ behind 46 (unsigned l) = []) : parseN l = .error 5 := by
  unfold parseN
  rw [if_neg hl]
  simp only
  rw [if_pos (.inl h)]
theorem parse_scan {l w f : List UInt8} {pt : Bool} (hl : ¬ 200 < l.length) (h : Scan (unsigned l) pt w f) (h0 : w ++ f ≠ []) :
    parseN l = checkedN ⟨l.head? == some 45, if f.length ≤ 20 then valD (w ++ f) * 10 ^ (20 - f.length) else cutN .even (l.head? == some 45) (valD (w ++ f)) (10 ^ (f.length - 20))⟩ := by
  unfold parseN
  rw [if_neg hl]
  simp only [h.parts.1, h.parts.2]
  rw [if_neg]
  rintro (h1 | h1)
  · exact h0 h1
  · have : (w ++ f).all isDig = true := List.all_eq_true.2 fun x hx => by
      rcases List.mem_append.1 hx with h2 | h2
      · exact h.dw x h2
      · exact h.df x h2
    rw [this] at h1; cases h1
/-- One more digit in a row. -/
theorem fixN_snoc {K D d : Nat} (hd : d < 10) : fixN K D ++ [d] = fixN (K + 1) (10 * D + d) := by
  apply List.ext_getElem?
  intro i
  rcases Nat.lt_or_ge i K with h | h
  · rw [List.getElem?_append_left (by rw [fixN_len]; exact h), fixN_get h, fixN_get (by omega)]
    congr 1
    unfold dg
    rw [show K + 1 - 1 - i = (K - 1 - i) + 1 by omega, Nat.pow_succ, Nat.mul_comm (10 ^ (K - 1 - i)) 10, ← Nat.div_div_eq_div_mul, show (10 * D + d) / 10 = D by omega]
  · rw [List.getElem?_append_right (by rw [fixN_len]; exact h), fixN_len]
    rcases Nat.lt_or_ge i (K + 1) with h2 | h2
    · rw [fixN_get h2, show i - K = 0 by omega, show K + 1 - 1 - i = 0 by omega]
      show some d = some (dg (10 * D + d) 0)
      unfold dg
      rw [Nat.pow_zero, Nat.div_one]
      congr 1; omega
    · rw [List.getElem?_eq_none (by simp; omega), List.getElem?_eq_none (by rw [fixN_len]; exact h2)]
theorem valD_push (l : List UInt8) (c : UInt8) : valD (l ++ [c]) = 10 * valD l + (c.toNat - 48) := by
  rw [valD_app, valD_one, show [c].length = 1 from rfl, Nat.pow_one, Nat.mul_comm]
set_option maxRecDepth 100000 in
set_option maxHeartbeats 2000000 in
theorem digit4_r (c : UInt8) (W : World) : Calls Tryz.prog 152 #[.int .u8 c.toNat] W fun e w' => e = .returned (.bool (isDig c)) ∧ W = w' := by
  obtain ⟨b, hb⟩ : ∃ b, b = isDig c := ⟨_, rfl⟩
  rw [← hb]
  unfold isDig at hb
  by_cases h1 : 48 ≤ c.toNat
  · by_cases h2 : c.toNat ≤ 57
    · have hbt : b = true := by rw [hb]; simp [h1, h2]
      have k1 : ((c.toNat : Int) ≥ 48) := by omega
      have k2 : ((c.toNat : Int) ≤ 57) := by omega
      subst hbt
      clear hb
      go_enter Tryz.func152, Tryz.ntmps152
      go_wp2_with fail
      go_ret
      exact ⟨rfl, rfl⟩
    · have hbt : b = false := by rw [hb]; simp [h2]
      have k1 : ((c.toNat : Int) ≥ 48) := by omega
      have k2 : ¬ ((c.toNat : Int) ≤ 57) := by omega
      subst hbt
      clear hb
      go_enter Tryz.func152, Tryz.ntmps152
      go_wp2_with fail
      go_ret
      exact ⟨rfl, rfl⟩
  · have hbt : b = false := by rw [hb]; simp [h1]
    have k1 : ¬ ((c.toNat : Int) ≥ 48) := by omega
    subst hbt
    clear hb
    go_enter Tryz.func152, Tryz.ntmps152
    go_wp2_with fail
    go_ret
    exact ⟨rfl, rfl⟩
end Go.Proofs.YtgobpoeccdgeiaaGreatDoor

namespace Go.Proofs.YtgobpoeccdgeiaaGreatDoor
open Go.RowKit NumP DigP DurP Go.Proofs.YtgobpoeccdgeiaaGreatDoorW.PrintWords
set_option linter.unusedVariables false

/-- What a function leaves that returns a number and an error. -/
def RdPost (W : World) (r : NumP.R) (e : Ending) (w' : World) : Prop :=
  Below W.heap.size W w' ∧ match r with
    | .ok x => ∃ v, e = .returned (.tuple #[.agg #[.bool x.neg, v], .int .i64 0]) ∧ DAt w' v (lenD x.d) x.d
    | .error k => e = .returned (.tuple #[.agg #[.bool false, .slice none 0 0], .int .i64 k])
theorem box_num (W : World) (neg : Bool) : ∃ W3, W3 = (W.alloc (.cells #[.bool false, .slice none 0 0] 122)).alloc (.cells #[.bool neg, .slice none 0 0] 122) ∧ Below W.heap.size W W3 ∧ W3.heap.size = W.heap.size + 2 ∧
    W3.heap[W.heap.size]? = some (.cells #[.bool false, .slice none 0 0] 122 (0, 0)) ∧ W3.heap[W.heap.size + 1]? = some (.cells #[.bool neg, .slice none 0 0] 122 (0, 0)) := by
  refine ⟨_, rfl, ((Below.refl _ _).alloc (Nat.le_refl _) _).alloc (by simp) _, by simp, ?_, ?_⟩
  · rw [Below.heap_alloc _ _ _ (by simp)]
    exact (MapKept.heap_alloc _ _).1
  · have := (MapKept.heap_alloc (W.alloc (.cells #[.bool false, .slice none 0 0] 122)) (.cells #[.bool neg, .slice none 0 0] 122)).1
    simpa using this
/-- How the sign is read. -/
theorem sign_three (s : ByteArray) : ∃ (i0 : Nat) (cb : Bool), i0 ≤ s.size ∧ unsigned s.data.toList = s.data.toList.drop i0 ∧
    ((s.size = 0 ∧ i0 = 0 ∧ cb = false ∧ (s.data.toList.head? == some 45) = false) ∨
     (∃ h : 0 < s.size, (s[0] = 43 ∨ s[0] = 45) ∧ i0 = 1 ∧ cb = true ∧ (s.data.toList.head? == some 45) = decide (s[0] = 45)) ∨
     (∃ h : 0 < s.size, s[0] ≠ 43 ∧ s[0] ≠ 45 ∧ i0 = 0 ∧ cb = false ∧ (s.data.toList.head? == some 45) = false)) := by
  rcases Nat.eq_zero_or_pos s.size with h0 | h0
  · have hl : s.data.toList = [] := List.eq_nil_of_length_eq_zero (by rw [list_len]; exact h0)
    exact ⟨0, false, Nat.zero_le _, by rw [hl]; rfl, .inl ⟨h0, rfl, rfl, by rw [hl]; rfl⟩⟩
  · have hat := data_at s 0 h0
    rw [← List.head?_eq_getElem?] at hat
    obtain ⟨c, r, hl⟩ : ∃ c r, s.data.toList = c :: r := by
      cases h : s.data.toList with
      | nil => rw [h] at hat; cases hat
      | cons c r => exact ⟨c, r, rfl⟩
    have hc : c = s[0] := by rw [hl] at hat; exact Option.some.inj hat
    by_cases h1 : s[0] = 43 ∨ s[0] = 45
    · refine ⟨1, true, h0, ?_, .inr (.inl ⟨h0, h1, rfl, rfl, by rw [hat]; by_cases h : s[0] = 45 <;> simp [h]⟩)⟩
      rw [hl]
      rcases h1 with h1 | h1
      · rw [hc, h1]; rfl
      · rw [hc, h1]; rfl
    · have n1 : s[0] ≠ 43 := fun h => h1 (.inl h)
      have n2 : s[0] ≠ 45 := fun h => h1 (.inr h)
      refine ⟨0, false, Nat.zero_le _, ?_, .inr (.inr ⟨h0, n1, n2, rfl, rfl, by rw [hat]; simpa using n2⟩)⟩
      rw [hl, List.drop_zero]
      unfold unsigned
      split
      · rename_i e; injection e with e _; exact absurd (hc.symm.trans e) n2
      · rename_i e; injection e with e _; exact absurd (hc.symm.trans e) n1
      · rfl
theorem DAt.put {w : World} {v : Value} {k n : Nat} (h : DAt w v k n) {a : Addr} {x : Value} (hx : w.cell? a = some x) (hn : ∀ d : Nat, x ≠ .int .i64 (d : Int)) (u : Value) : DAt (w.setCell a u) v k n := by
  obtain ⟨A, c, e, h1, h2⟩ := h.at_
  refine ⟨A, c, e, h1, fun h0 => ?_⟩
  obtain ⟨g, off, ea, hc⟩ := h2 h0
  refine ⟨g, off, ea, fun i hi => ?_⟩
  rw [World.cell?_setCell_other]
  · exact hc i hi
  · intro e
    have := hc i hi
    rw [← e, hx] at this
    injection this with this
    exact hn _ this
structure BoxEnd (W w5 : World) (neg : Bool) (A : Option Addr) (n c N : Nat) : Prop where
  y0 : w5.heap[W.heap.size]? = some (.cells #[.bool false, .slice none 0 0] 122 (0, 0))
  y1 : w5.heap[W.heap.size + 1]? = some (.cells #[.bool neg, .slice A n c] 122 (0, 0))
  y2 : Below W.heap.size W w5
  y3 : DAt w5 (.slice A n c) n N
theorem BoxEnd.off {W w5 : World} {neg : Bool} {A : Option Addr} {n c N : Nat} (h : BoxEnd W w5 neg A n c N) : BoxEnd W (w5.setCell ⟨W.heap.size + 1, 0, none⟩ (.bool false)) false A n c N :=
  ⟨by rw [Below.heap_setCell _ _ _ _ (by simp)]; exact h.y0, Lib.heap_setCell_same (i := 0) h.y1 _, h.y2.setCell (p := ⟨W.heap.size + 1, 0, none⟩) (Nat.le_succ _) _, h.y3.put (cells2 h.y1).1.1 (fun d h => by cases h) _⟩
theorem BoxEnd.fin {W w5 : World} {neg b : Bool} {A : Option Addr} {n c N : Nat} (h : BoxEnd W w5 neg A n c N) (x : Value) :
    Below W.heap.size W ((w5.setCell ⟨W.heap.size, 0, none⟩ (.bool b)).setCell ⟨W.heap.size, 1, none⟩ x) ∧ DAt ((w5.setCell ⟨W.heap.size, 0, none⟩ (.bool b)).setCell ⟨W.heap.size, 1, none⟩ x) (.slice A n c) n N := by
  have h0 := cells2 h.y0
  have h1 := cells2 (Lib.heap_setCell_same (i := 0) h.y0 (.bool b))
  exact ⟨(h.y2.setCell (p := ⟨_, 0, none⟩) (Nat.le_refl _) _).setCell (p := ⟨_, 1, none⟩) (Nat.le_refl _) _, (h.y3.put h0.1.1 (fun d h => by cases h) _).put h1.1.2 (fun d h => by cases h) _⟩
theorem checked_no {neg : Bool} {N : Nat} (h : 50 < lenD N) : checkedN ⟨neg, N⟩ = .error 40 := by
  unfold checkedN
  rw [if_pos]
  rcases Nat.lt_or_ge N P50 with h1 | h1
  · have := (lenD_le N 50).2 h1; omega
  · exact h1
theorem checked_yes {neg : Bool} {N : Nat} (h : lenD N ≤ 50) : checkedN ⟨neg, N⟩ = .ok ⟨neg && decide (0 < N), N⟩ := by
  unfold checkedN
  rw [if_neg]
  have := (lenD_le N 50).1 h
  show ¬ P50 ≤ N
  unfold P50; omega
theorem lenD_pos (N : Nat) : 0 < lenD N ↔ 0 < N := by
  have := lenD_le N 0
  rw [Nat.pow_zero] at this
  omega
theorem mid_split (l : List UInt8) (i0 i : Nat) (c : UInt8) (h : i0 ≤ i) (hc : l[i]? = some c) : l.drop i0 = (l.drop i0).take (i - i0) ++ c :: l.drop (i + 1) := by
  have h1 := (List.take_append_drop (i - i0) (l.drop i0)).symm
  rw [List.drop_drop, show i0 + (i - i0) = i by omega] at h1
  obtain ⟨h2, h3⟩ := List.getElem?_eq_some_iff.1 hc
  rw [List.drop_eq_getElem_cons h2, h3] at h1
  exact h1
set_option maxRecDepth 100000 in
set_option maxHeartbeats 4000000 in
theorem read_r (s : ByteArray) (W : World) (hs : s.size ≤ 200) : Calls Tryz.prog 107 #[.string s] W (RdPost W (parseN s.data.toList)) := by
  obtain ⟨neg, hneg⟩ : ∃ b, b = (s.data.toList.head? == some 45) := ⟨_, rfl⟩
  obtain ⟨i0, cb, hi0, hun, hsg⟩ := sign_three s
  rw [← hneg] at hsg
  obtain ⟨l, hl⟩ : ∃ l, l = s.data.toList := ⟨_, rfl⟩
  have hlen : l.length = s.size := by rw [hl, list_len]
  have hll : ¬ 200 < l.length := by omega
  obtain ⟨R, hR⟩ : ∃ R, R = parseN l := ⟨_, rfl⟩
  rw [← hl, ← hR]
  rw [← hl] at hun hneg
  obtain ⟨W3, hW3, hB3, hz3, hq0, hq1⟩ := box_num W neg
  obtain ⟨W2, hW2, -⟩ := box_num W false
  obtain ⟨q, hq⟩ : ∃ q, q = W.heap.size := ⟨_, rfl⟩
  rw [← hq] at hz3 hq0 hq1
  have hat : Hid (∀ i (h : i < s.size), l[i]? = some s[i]) := Lib.hid (fun i h => by rw [hl]; exact data_at s i h)
  have h200 : ¬ ((s.size : Int) > 200) := by omega
  obtain ⟨ii0, hii, hz0, hz1, hz2⟩ := info_parts info_int
  replace hR := Lib.hid hR
  replace hl := Lib.hid hl
  replace hun := Lib.hid hun
  replace hneg := Lib.hid hneg
  replace hlen := Lib.hid hlen
  replace hll := Lib.hid hll
  replace hB3 := Lib.hid hB3
  replace hz3 := Lib.hid hz3
  replace hq0 := Lib.hid hq0
  replace hq1 := Lib.hid hq1
  replace hq := Lib.hid hq
  replace hW3 := Lib.hid hW3
  replace hW2 := Lib.hid hW2
  go_enter Tryz.func107, Tryz.ntmps107
  go_upto_region 5 with fail
  go_cut [26] from 14 to 25 (fun bv wx => bv = .bool cb ∧ wx = W2)
  case first =>
    rcases hsg with ⟨h0, -, rfl, -⟩ | ⟨h0, hc, -, rfl, -⟩ | ⟨h0, n1, n2, -, rfl, -⟩
    · have g1 : ¬ ((s.size : Int) > 0) := by omega
      replace h0 := Lib.hid h0
      go_wp2_with fail
      go_meet
      exact ⟨rfl, hW2.out.symm⟩
    · have g1 : ((s.size : Int) > 0) := by omega
      rcases hc with hc | hc
      · have g2 : ((s[0].toNat : Int) == 43) = true := by rw [hc]; rfl
        replace hc := Lib.hid hc
        go_wp2_with fail
        go_meet
        exact ⟨rfl, hW2.out.symm⟩
      · have g2 : ((s[0].toNat : Int) == 43) = false := by rw [hc]; rfl
        have g3 : ((s[0].toNat : Int) == 45) = true := by rw [hc]; rfl
        replace hc := Lib.hid hc
        go_wp2_with fail
        go_meet
        exact ⟨rfl, hW2.out.symm⟩
    · have g1 : ((s.size : Int) > 0) := by omega
      have g2 : ((s[0].toNat : Int) == 43) = false := by rw [show (43 : Int) = ((43 : UInt8).toNat : Int) from rfl, byte_eq]; simpa using n1
      have g3 : ((s[0].toNat : Int) == 45) = false := by rw [show (45 : Int) = ((45 : UInt8).toNat : Int) from rfl, byte_eq]; simpa using n2
      replace n1 := Lib.hid n1
      replace n2 := Lib.hid n2
      go_wp2_with fail
      go_meet
      exact ⟨rfl, hW2.out.symm⟩
  case rest =>
  obtain ⟨rfl, e3⟩ := hcut
  rw [hW2.out] at e3
  subst e3
  go_upto_if 26 with fail
  go_cut [5] from 27 to 30 (fun iv wx => iv = .int .i64 (i0 : Nat) ∧ wx = W3)
  case first =>
    rcases hsg with ⟨h0, rfl, rfl, hn⟩ | ⟨h0, hc, rfl, rfl, hn⟩ | ⟨h0, n1, n2, rfl, rfl, hn⟩
    · subst hn
      replace h0 := Lib.hid h0
      go_wp2_with fail
      go_meet
      exact ⟨rfl, hW3.out.symm⟩
    · rcases hc with hc | hc
      · have hnf : neg = false := by rw [hn, hc]; rfl
        have g3 : ((s[0].toNat : Int) == 45) = false := by rw [hc]; rfl
        clear hn
        subst hnf
        replace hc := Lib.hid hc
        go_wp2_with fail
        go_meet
        exact ⟨rfl, hW3.out.symm⟩
      · have hnf : neg = true := by rw [hn, hc]; rfl
        have g3 : ((s[0].toNat : Int) == 45) = true := by rw [hc]; rfl
        clear hn
        subst hnf
        replace hc := Lib.hid hc
        go_wp2_with fail
        go_meet
        exact ⟨rfl, hW3.out.symm⟩
    · subst hn
      replace n1 := Lib.hid n1
      replace n2 := Lib.hid n2
      go_wp2_with fail
      go_meet
      exact ⟨rfl, hW3.out.symm⟩
  case rest =>
  obtain ⟨rfl, e3⟩ := hcut
  subst e3
  clear hW3 hsg
  obtain ⟨B, hB⟩ : ∃ B, B = wc.heap.size := ⟨_, rfl⟩
  replace hB := Lib.hid hB
  have htk : Hid (∀ i, i0 ≤ i → ∀ h : i < s.size, (l.drop i0).take (i + 1 - i0) = (l.drop i0).take (i - i0) ++ [s[i]]) := Lib.hid (fun i h1 h2 => by
    have e := hat.out i h2
    rw [show i + 1 - i0 = (i - i0) + 1 by omega, List.take_add_one, List.getElem?_drop, show i0 + (i - i0) = i by omega, e]; rfl)
  go_wp2_with fail
  go_loopw [5, 6, 7, 8] (fun iv dv bv pv wr => ∃ (i K b D : Nat) (pt : Bool) (A : Option Addr) (c : Nat), iv = .int .i64 i ∧ dv = .slice A K c ∧ bv = .int .i64 b ∧ pv = .bool pt ∧ i0 ≤ i ∧ i ≤ s.size ∧ K ≤ i ∧ b ≤ i ∧
      Hid (∃ w f, Scan ((l.drop i0).take (i - i0)) pt w f ∧ f.length = b ∧ (w ++ f).length = K ∧ valD (w ++ f) = D) ∧ Hid (wr.ownsRow B 3 1 (.slice A K c) K (ints (fixN K D))) ∧ Hid (Below B wc wr)) (fun iv _ _ _ _ => s.size - (intOf iv).toNat)
  case atStart => exact ⟨i0, 0, 0, 0, false, none, 0, rfl, rfl, rfl, rfl, Nat.le_refl _, hi0, Nat.zero_le _, Nat.zero_le _, Lib.hid ⟨[], [], by rw [Nat.sub_self]; exact Scan.start, rfl, rfl, rfl⟩, Lib.hid ⟨rfl, .inl ⟨rfl, rfl⟩⟩, Lib.hid (Below.refl _ _)⟩
  case round =>
    obtain ⟨i, K, b, D, pt, A, c, rfl, rfl, rfl, rfl, hi1, hi2, hKi, hbi, hsc, hown, hbel⟩ := hrel
    by_cases hlt : i < s.size
    · have g1 : ((i : Int) < (s.size : Int)) := by omega
      have hnx := htk.out i hi1 hlt
      obtain ⟨ch, hch⟩ : ∃ ch, ch = s[i] := ⟨_, rfl⟩
      rw [← hch] at hnx
      by_cases h46 : ch = 46 ∧ pt = false
      · obtain ⟨h46, hpt⟩ := h46
        subst hpt
        have g2 : ((s[i].toNat : Int) == 46) = true := by rw [← hch, h46]; rfl
        rw [h46] at hnx
        have hsc2 : Hid (∃ w f, Scan ((l.drop i0).take (i + 1 - i0)) true w f ∧ f.length = b ∧ (w ++ f).length = K ∧ valD (w ++ f) = D) := Lib.hid (by
          obtain ⟨w, f, h1, h2, h3, h4⟩ := hsc.out
          exact ⟨w, f, by rw [hnx]; exact h1.point, h2, h3, h4⟩)
        replace hch := Lib.hid hch
        replace hnx := Lib.hid hnx
        replace h46 := Lib.hid h46
        go_wp2_with fail
        exact ⟨⟨i + 1, K, b, D, true, A, c, by simp, rfl, rfl, rfl, by omega, by omega, by omega, by omega, hsc2, hown, hbel⟩, by simp [intOf]; omega⟩
      · by_cases hd : isDig ch = true
        · have hne : ch ≠ 46 := dig_ne hd (by decide)
          have g2 : ((s[i].toNat : Int) == 46) = false := by rw [← hch, show (46 : Int) = ((46 : UInt8).toNat : Int) from rfl, byte_eq]; simpa using hne
          have hdg := hd
          unfold isDig at hdg
          simp only [Bool.and_eq_true, decide_eq_true_eq] at hdg
          obtain ⟨dd, hdd⟩ : ∃ dd, dd = ch.toNat - 48 := ⟨_, rfl⟩
          have hd10 : dd < 10 := by omega
          have hw : IntKind.u8.wrap ((s[i].toNat : Int) - 48) = (dd : Int) := by rw [← hch, IntWalk.u8_in _ (by omega)]; omega
          have hcall : ∀ w, Calls Tryz.prog 152 #[.int .u8 s[i].toNat] w fun e w' => e = .returned (.bool true) ∧ w = w' := fun w => by rw [← hch, ← hd]; exact digit4_r ch w
          have hvp : Hid (∀ w f : List UInt8, valD (w ++ f) = D → valD ((w ++ f) ++ [ch]) = 10 * D + dd) := Lib.hid (fun w f h => by rw [valD_push, h, hdd])
          have hb1 : Below wr.heap.size wr (wr.alloc (.cells #[.int .i64 (dd : Int)] 3)) := (Below.refl _ _).alloc (Nat.le_refl _) _
          have hBw : B ≤ wr.heap.size := by rw [hB.out]; exact hbel.out.size
          have hb2 := hbel.out.trans (hb1.mono hBw)
          have hown1 := own_below hown.out hb1
          have hone := own_digit wr hd10
          have hdA := own_DAt hone
          have hnews := hdA.news _ rfl
          have hcells := ints_one (fixN 1 dd)
          have hnl : (ints (fixN 1 dd)).length = 1 * 1 := by rw [ints_len, fixN_len]
          have hbs : B ≤ (wr.alloc (.cells #[.int .i64 (dd : Int)] 3)).heap.size := Nat.le_trans hBw hb1.size
          have hlist : Hid (ints (fixN K D) ++ ints (fixN 1 dd) = ints (fixN (K + 1) (10 * D + dd))) := Lib.hid (by
            rw [← ints_app, ← fixN_snoc hd10, show fixN 1 dd = [dd] by simp [fixN, dg, List.range, List.range.loop]; omega])
          have hK200 : K ≤ 200 := by omega
          replace hb2 := Lib.hid hb2
          replace hdd := Lib.hid hdd
          replace hnx := Lib.hid hnx
          replace h46 := Lib.hid h46
          replace hne := Lib.hid hne
          replace hd := Lib.hid hd
          replace hch := Lib.hid hch
          replace hB := Lib.hid hB
          have hend : Hid (∀ (v : Value) (w : World), w.ownsRow B 3 1 v (K + 1) (ints (fixN (K + 1) (10 * D + dd))) → ∃ (A' : Option Addr) (c' : Nat), v = .slice A' (K + 1) c') := Lib.hid (fun v w h => by
            obtain ⟨g, cap, e⟩ := own_form1 h (by omega)
            exact ⟨_, _, e⟩)
          clear hb1 hone hdA hBw
          cases pt with
          | false =>
            have hsc2 : Hid (∃ w f, Scan ((l.drop i0).take (i + 1 - i0)) false w f ∧ f.length = b ∧ (w ++ f).length = K + 1 ∧ valD (w ++ f) = 10 * D + dd) := Lib.hid (by
              obtain ⟨w, f, h1, h2, h3, h4⟩ := hsc.out
              have hf := h1.nf rfl
              subst hf
              refine ⟨w ++ [ch], [], by rw [hnx.out]; exact h1.whole hd.out, h2, ?_, ?_⟩
              · rw [List.append_nil] at h3 ⊢; rw [List.length_append, h3]; rfl
              · have := hvp.out w [] h4
                rw [List.append_nil] at this ⊢; exact this)
            go_wp2_with (first
              | (go_at_call 152; refine (hcall _).mono ?_; rintro e w2 ⟨rfl, rfl⟩)
              | (at_builtin; refine wpList_append_own _ rfl _ _ 120 rfl B 3 ii0 (.int .i64 0) 1 8 Tryz.underlying120 hii hz0 hz1 hz2 rfl (by decide) _ _ _ rfl hown1 ⟨wr.heap.size, 0, none⟩ 1 1 (ints (fixN 1 dd)) rfl hnl hnews hcells (by unfold maxLen; omega) (by omega) hbs ?_; intro v1 w1 hv1 hgrow1 hnil1; rw [hlist.out] at hv1; obtain ⟨A', c', rfl⟩ := hend.out v1 w1 hv1; have hbw := Lib.hid (Below.grown hb2.out hgrow1 hbs (fun j hj => (hown1.lt _ hj).1)); replace hv1 := Lib.hid hv1; clear hgrow1 hnil1))
            exact ⟨⟨i + 1, K + 1, b, 10 * D + dd, false, A', c', by simp, rfl, rfl, rfl, by omega, by omega, by omega, by omega, hsc2, hv1, hbw⟩, by simp [intOf]; omega⟩
          | true =>
            have hsc2 : Hid (∃ w f, Scan ((l.drop i0).take (i + 1 - i0)) true w f ∧ f.length = b + 1 ∧ (w ++ f).length = K + 1 ∧ valD (w ++ f) = 10 * D + dd) := Lib.hid (by
              obtain ⟨w, f, h1, h2, h3, h4⟩ := hsc.out
              refine ⟨w, f ++ [ch], by rw [hnx.out]; exact h1.frac hd.out, by rw [List.length_append, h2]; rfl, ?_, ?_⟩
              · rw [← List.append_assoc, List.length_append, h3]; rfl
              · have := hvp.out w f h4
                rw [← List.append_assoc]; exact this)
            go_wp2_with (first
              | (go_at_call 152; refine (hcall _).mono ?_; rintro e w2 ⟨rfl, rfl⟩)
              | (at_builtin; refine wpList_append_own _ rfl _ _ 120 rfl B 3 ii0 (.int .i64 0) 1 8 Tryz.underlying120 hii hz0 hz1 hz2 rfl (by decide) _ _ _ rfl hown1 ⟨wr.heap.size, 0, none⟩ 1 1 (ints (fixN 1 dd)) rfl hnl hnews hcells (by unfold maxLen; omega) (by omega) hbs ?_; intro v1 w1 hv1 hgrow1 hnil1; rw [hlist.out] at hv1; obtain ⟨A', c', rfl⟩ := hend.out v1 w1 hv1; have hbw := Lib.hid (Below.grown hb2.out hgrow1 hbs (fun j hj => (hown1.lt _ hj).1)); replace hv1 := Lib.hid hv1; clear hgrow1 hnil1))
            exact ⟨⟨i + 1, K + 1, b + 1, 10 * D + dd, true, A', c', by simp, rfl, by simp, rfl, by omega, by omega, by omega, by omega, hsc2, hv1, hbw⟩, by simp [intOf]; omega⟩
        · have hdf : isDig ch = false := by simpa using hd
          have hcall : ∀ w, Calls Tryz.prog 152 #[.int .u8 s[i].toNat] w fun e w' => e = .returned (.bool false) ∧ w = w' := fun w => by rw [← hch, ← hdf]; exact digit4_r ch w
          have hbad : Hid (parseN l = .error 5) := Lib.hid (by
            obtain ⟨w, f, h1, h2, h3, h4⟩ := hsc.out
            refine parse_bad hll.out ?_
            rw [hun.out]
            have e := mid_split l i0 i ch hi1 (by rw [hat.out i hlt, hch])
            rw [e]
            exact h1.bad hdf (fun h => by cases pt; exact absurd ⟨h, rfl⟩ h46; rfl))
          have hqw : wr.heap[W.heap.size]? = some (.cells #[.bool false, .slice none 0 0] 122 (0, 0)) := by
            rw [← hq.out]
            exact (hbel.out.block q (by rw [hB.out, hz3.out]; omega)).trans hq0.out
          obtain ⟨⟨c0, c1⟩, ff⟩ := cells2 hqw
          have f0 := ff 0
          have f1 := ff 1
          clear ff
          replace hqw := Lib.hid hqw
          have hbW := hB3.out.trans (hbel.out.mono (by rw [hB.out]; exact hB3.out.size))
          replace hbW := Lib.hid hbW
          replace hnx := Lib.hid hnx
          replace hdf := Lib.hid hdf
          replace hd := Lib.hid hd
          cases pt with
          | false =>
            have hne : ch ≠ 46 := fun h => h46 ⟨h, rfl⟩
            have g2 : ((s[i].toNat : Int) == 46) = false := by rw [← hch, show (46 : Int) = ((46 : UInt8).toNat : Int) from rfl, byte_eq]; simpa using hne
            replace h46 := Lib.hid h46
            replace hne := Lib.hid hne
            replace hch := Lib.hid hch
            go_wp2_with (go_at_call 152; refine (hcall _).mono ?_; rintro e w2 ⟨rfl, rfl⟩)
            refine bodyPost_ret (v := .tuple #[.agg #[.bool false, .slice none 0 0], .int .i64 5]) ?ret rfl ?post
            case ret => rw [res_two rfl]; go_simp
            case post => exact ⟨(hbW.out.setCell (p := ⟨_, 0, none⟩) (Nat.le_refl _) _).setCell (p := ⟨_, 1, none⟩) (Nat.le_refl _) _, by rw [hR.out, hbad.out]⟩
          | true =>
            replace h46 := Lib.hid h46
            replace hch := Lib.hid hch
            cases hq46 : ((s[i].toNat : Int) == 46) with
            | true =>
              go_wp2_with (go_at_call 152; refine (hcall _).mono ?_; rintro e w2 ⟨rfl, rfl⟩)
              refine bodyPost_ret (v := .tuple #[.agg #[.bool false, .slice none 0 0], .int .i64 5]) ?ret rfl ?post
              case ret => rw [res_two rfl]; go_simp
              case post => exact ⟨(hbW.out.setCell (p := ⟨_, 0, none⟩) (Nat.le_refl _) _).setCell (p := ⟨_, 1, none⟩) (Nat.le_refl _) _, by rw [hR.out, hbad.out]⟩
            | false =>
              go_wp2_with (go_at_call 152; refine (hcall _).mono ?_; rintro e w2 ⟨rfl, rfl⟩)
              refine bodyPost_ret (v := .tuple #[.agg #[.bool false, .slice none 0 0], .int .i64 5]) ?ret rfl ?post
              case ret => rw [res_two rfl]; go_simp
              case post => exact ⟨(hbW.out.setCell (p := ⟨_, 0, none⟩) (Nat.le_refl _) _).setCell (p := ⟨_, 1, none⟩) (Nat.le_refl _) _, by rw [hR.out, hbad.out]⟩
    · have hin : i = s.size := by omega
      have hqw : wr.heap[W.heap.size]? = some (.cells #[.bool false, .slice none 0 0] 122 (0, 0)) := by
        rw [← hq.out]
        exact (hbel.out.block q (by rw [hB.out, hz3.out]; omega)).trans hq0.out
      have hqx : wr.heap[W.heap.size + 1]? = some (.cells #[.bool neg, .slice none 0 0] 122 (0, 0)) := by
        rw [← hq.out]
        exact (hbel.out.block (q + 1) (by rw [hB.out, hz3.out]; omega)).trans hq1.out
      have hbW := Lib.hid (hB3.out.trans (hbel.out.mono (by rw [hB.out]; exact hB3.out.size)))
      have hscan : Hid (∃ w f, Scan (unsigned l) pt w f ∧ f.length = b ∧ (w ++ f).length = K ∧ valD (w ++ f) = D) := Lib.hid (by
        obtain ⟨w, f, h1, h2, h3, h4⟩ := hsc.out
        refine ⟨w, f, ?_, h2, h3, h4⟩
        rw [hun.out]
        rw [hin, List.take_of_length_le (by rw [List.length_drop, hlen.out]; exact Nat.le_refl _)] at h1
        exact h1)
      have hK200 : K ≤ 200 := by omega
      have hb200 : b ≤ 200 := by omega
      clear hsc
      replace hin := Lib.hid hin
      by_cases hK0 : K = 0
      · obtain ⟨⟨c0, c1⟩, ff⟩ := cells2 hqw
        have f0 := ff 0
        have f1 := ff 1
        clear ff
        have hbad : Hid (parseN l = .error 5) := Lib.hid (by
          obtain ⟨w, f, h1, h2, h3, h4⟩ := hscan.out
          refine parse_empty hll.out ?_
          rw [h1.parts.1, h1.parts.2]
          exact List.eq_nil_of_length_eq_zero (by rw [h3]; exact hK0))
        replace hqw := Lib.hid hqw
        replace hqx := Lib.hid hqx
        have g1 : ¬ ((i : Int) < (s.size : Int)) := by omega
        have g2 : ((K : Int) == 0) = true := by simpa using hK0
        replace hK0 := Lib.hid hK0
        go_wp2_with fail
        refine bodyPost_ret (v := .tuple #[.agg #[.bool false, .slice none 0 0], .int .i64 5]) ?ret rfl ?post
        case ret => rw [res_two rfl]; go_simp
        case post => exact ⟨(hbW.out.setCell (p := ⟨_, 0, none⟩) (Nat.le_refl _) _).setCell (p := ⟨_, 1, none⟩) (Nat.le_refl _) _, by rw [hR.out, hbad.out]⟩
      · obtain ⟨N, hN⟩ : ∃ N, N = if b ≤ 20 then D * 10 ^ (20 - b) else cutN .even neg D (10 ^ (b - 20)) := ⟨_, rfl⟩
        obtain ⟨n, hn⟩ : ∃ n, n = lenD N := ⟨_, rfl⟩
        have hRN : Hid (R = checkedN ⟨neg, N⟩) := Lib.hid (by
          obtain ⟨w, f, h1, h2, h3, h4⟩ := hscan.out
          rw [hR.out, parse_scan hll.out h1 (fun h => hK0 (by rw [← h3, h]; rfl)), h2, h4, ← hneg.out, ← hN])
        have hDK : D < 10 ^ K := by
          obtain ⟨w, f, h1, h2, h3, h4⟩ := hscan.out
          rw [← h3, ← h4]
          refine valD_lt _ fun x hx => ?_
          rcases List.mem_append.1 hx with h5 | h5
          · exact h1.dw x h5
          · exact h1.df x h5
        have g1 : ¬ ((i : Int) < (s.size : Int)) := by omega
        have g2 : ((K : Int) == 0) = false := by simpa using hK0
        have hdA := own_DAt hown.out
        replace hK0 := Lib.hid hK0
        replace hqw := Lib.hid hqw
        replace hqx := Lib.hid hqx
        replace hn := Lib.hid hn
        replace hN := Lib.hid hN
        replace hDK := Lib.hid hDK
        replace hdA := Lib.hid hdA
        have hmeet : Hid (∀ A c w4, DAt w4 (.slice A n c) n N → Below wr.heap.size wr w4 → (w4.setCell ⟨W.heap.size + 1, 1, none⟩ (.slice A n c)).heap[W.heap.size]? = some (.cells #[.bool false, .slice none 0 0] 122 (0, 0)) ∧
            (w4.setCell ⟨W.heap.size + 1, 1, none⟩ (.slice A n c)).heap[W.heap.size + 1]? = some (.cells #[.bool neg, .slice A n c] 122 (0, 0)) ∧ Below W.heap.size W (w4.setCell ⟨W.heap.size + 1, 1, none⟩ (.slice A n c)) ∧ DAt (w4.setCell ⟨W.heap.size + 1, 1, none⟩ (.slice A n c)) (.slice A n c) n N) := Lib.hid (fun A c w4 hd hb => by
          have y0 := (hb.block _ (heap_lt hqw.out)).trans hqw.out
          have y1 := (hb.block _ (heap_lt hqx.out)).trans hqx.out
          refine ⟨?_, Lib.heap_setCell_same (i := 1) y1 _, (hbW.out.trans (hb.mono hbW.out.size)).setCell (p := ⟨W.heap.size + 1, 1, none⟩) (Nat.le_succ _) _, hd.put (cells2 y1).1.2 (fun d h => by cases h) _⟩
          rw [Below.heap_setCell _ _ _ _ (by simp)]
          exact y0)
        go_upto_if 66 with fail
        go_cut [7] from 66 to 79 (fun bv wx => bv = .int .i64 b ∧ ∃ A c, Hid (wx.heap[W.heap.size]? = some (.cells #[.bool false, .slice none 0 0] 122 (0, 0))) ∧ Hid (wx.heap[W.heap.size + 1]? = some (.cells #[.bool neg, .slice A n c] 122 (0, 0))) ∧ Hid (Below W.heap.size W wx) ∧ Hid (DAt wx (.slice A n c) n N))
        case first =>
          by_cases hb20 : b ≤ 20
          · have g3 : ((b : Int) ≤ 20) := by omega
            have hz := zeros_r (.slice A K c) K D (20 - b) wr hdA.out (by omega) (by omega)
            rw [show ((20 - b : Nat) : Int) = 20 - (b : Int) by omega] at hz
            have hNe : D * 10 ^ (20 - b) = N := by rw [hN.out, if_pos hb20]
            have hlt : N < 10 ^ (K + (20 - b)) := by
              rw [← hNe, Nat.pow_add]
              exact (Nat.mul_lt_mul_right (Nat.pow_pos (by decide))).2 hDK.out
            rw [hNe] at hz
            replace hNe := Lib.hid hNe
            replace hlt := Lib.hid hlt
            go_wp2_with fail
            refine hz.mono ?_
            rintro e w2 ⟨v2, rfl, hv2, hb2⟩
            have ht := trim_r v2 _ N w2 (own_DAt hv2) hlt.out (by omega)
            rw [← hn.out] at ht
            replace hb2 := Lib.hid hb2
            clear hv2
            go_wp2_with fail
            refine ht.mono ?_
            rintro e w4 ⟨r, rfl, hr, rfl⟩
            obtain ⟨A3, c3, rfl, -⟩ := hr.at_
            obtain ⟨y0, y1, y2, y3⟩ := hmeet.out _ _ _ hr hb2.out
            have z1 := (hb2.out.block _ (heap_lt hqx.out)).trans hqx.out
            obtain ⟨⟨z0, z1⟩, zf⟩ := cells2 z1
            have z2 := zf 1
            clear zf
            replace y0 := Lib.hid y0
            replace y1 := Lib.hid y1
            replace y2 := Lib.hid y2
            replace y3 := Lib.hid y3
            replace hr := Lib.hid hr
            go_wp2_with fail
            go_meet
            exact ⟨rfl, _, _, y0, y1, y2, y3⟩
          · have g3 : ¬ ((b : Int) ≤ 20) := by omega
            have hz := cut_r neg (.slice A K c) K D (b - 20) wr hdA.out hDK.out (by omega) (by omega) (by omega)
            rw [show ((b - 20 : Nat) : Int) = (b : Int) - 20 by omega] at hz
            have hNe : cutN .even neg D (10 ^ (b - 20)) = N := by rw [hN.out, if_neg hb20]
            rw [hNe] at hz
            replace hNe := Lib.hid hNe
            obtain ⟨⟨z0, z1⟩, zf⟩ := cells2 hqx.out
            go_wp2_with fail
            refine hz.mono ?_
            rintro e w4 ⟨r, rfl, hr, hb2⟩
            rw [← hn.out] at hr
            clear z0 z1 zf
            obtain ⟨A3, c3, rfl, -⟩ := hr.at_
            obtain ⟨y0, y1, y2, y3⟩ := hmeet.out _ _ _ hr hb2
            have z1 := (hb2.block _ (heap_lt hqx.out)).trans hqx.out
            obtain ⟨⟨z0, z1⟩, zf⟩ := cells2 z1
            have z2 := zf 1
            clear zf
            replace y0 := Lib.hid y0
            replace y1 := Lib.hid y1
            replace y2 := Lib.hid y2
            replace y3 := Lib.hid y3
            replace hr := Lib.hid hr
            replace hb2 := Lib.hid hb2
            go_wp2_with fail
            go_meet
            exact ⟨rfl, _, _, y0, y1, y2, y3⟩
        case rest =>
        obtain ⟨rfl, A3, c3, y0, y1, y2, y3⟩ := hcut
        obtain ⟨w5, hw5⟩ : ∃ w, w = wc := ⟨_, rfl⟩
        rw [← hw5] at y0 y1 y2 y3 ⊢
        clear hw5
        obtain ⟨⟨c0, c1⟩, ff⟩ := cells2 y0.out
        obtain ⟨⟨d0, d1⟩, fg⟩ := cells2 y1.out
        have f0 := ff 0
        have f1 := ff 1
        have e0 := fg 0
        clear ff fg
        have hbox : Hid (BoxEnd W w5 neg A3 n c3 N) := Lib.hid ⟨y0.out, y1.out, y2.out, y3.out⟩
        have hnp := lenD_pos N
        rw [← hn.out] at hnp
        by_cases hn0 : n = 0
        · have h0 : ¬ 0 < N := by omega
          have hRv : Hid (R = .ok ⟨false, N⟩) := Lib.hid (by rw [hRN.out, checked_yes (by rw [← hn.out]; omega)]; simp [h0])
          have k1 : ((n : Int) == 0) = true := by simpa using hn0
          have k2 : ¬ ((n : Int) > 50) := by omega
          replace hn0 := Lib.hid hn0
          replace h0 := Lib.hid h0
          replace hnp := Lib.hid hnp
          go_wp2_with fail
          obtain ⟨q1, q2⟩ := hbox.out.off.fin (b := false) (.slice A3 n c3)
          refine bodyPost_ret (v := .tuple #[.agg #[.bool false, .slice A3 n c3], .int .i64 0]) ?ret rfl ?post
          case ret => rw [res_two rfl]; go_simp
          case post => exact ⟨q1, by rw [hRv.out]; exact ⟨_, rfl, by rw [← hn.out]; exact q2⟩⟩
        · have k1 : ((n : Int) == 0) = false := by simpa using hn0
          by_cases hn50 : n ≤ 50
          · have h0 : 0 < N := by omega
            have hRv : Hid (R = .ok ⟨neg, N⟩) := Lib.hid (by rw [hRN.out, checked_yes (by rw [← hn.out]; omega)]; simp [h0])
            have k2 : ¬ ((n : Int) > 50) := by omega
            replace hn0 := Lib.hid hn0
            replace h0 := Lib.hid h0
            replace hnp := Lib.hid hnp
            go_wp2_with fail
            obtain ⟨q1, q2⟩ := hbox.out.fin (b := neg) (.slice A3 n c3)
            refine bodyPost_ret (v := .tuple #[.agg #[.bool neg, .slice A3 n c3], .int .i64 0]) ?ret rfl ?post
            case ret => rw [res_two rfl]; go_simp
            case post => exact ⟨q1, by rw [hRv.out]; exact ⟨_, rfl, by rw [← hn.out]; exact q2⟩⟩
          · have hRv : Hid (R = .error 40) := Lib.hid (by rw [hRN.out, checked_no (by rw [← hn.out]; omega)])
            have k2 : ((n : Int) > 50) := by omega
            replace hn0 := Lib.hid hn0
            replace hnp := Lib.hid hnp
            go_wp2_with fail
            obtain ⟨q1, q2⟩ := hbox.out.fin (b := false) (.slice none 0 0)
            refine bodyPost_ret (v := .tuple #[.agg #[.bool false, .slice none 0 0], .int .i64 40]) ?ret rfl ?post
            case ret => rw [res_two rfl]; go_simp
            case post => exact ⟨q1, by rw [hRv.out]⟩
set_option maxRecDepth 100000 in
set_option maxHeartbeats 2000000 in
theorem read_long (s : ByteArray) (W : World) (hs : 200 < s.size) (hm : s.size ≤ maxLen) : Calls Tryz.prog 107 #[.string s] W (RdPost W (parseN s.data.toList)) := by
  have hR : Hid (parseN s.data.toList = .error 2) := Lib.hid (by
    unfold parseN
    rw [if_pos (by rw [list_len]; exact hs)])
  have h200 : ((s.size : Int) > 200) := by omega
  go_enter Tryz.func107, Tryz.ntmps107
  go_wp2_with fail
  refine bodyPost_ret (v := .tuple #[.agg #[.bool false, .slice none 0 0], .int .i64 2]) ?ret rfl ?post
  case ret => rw [res_two rfl]; go_simp
  case post => exact ⟨(Below.refl _ _).alloc (Nat.le_refl _) _, by rw [hR.out]⟩
theorem read_all (s : ByteArray) (W : World) (hm : s.size ≤ maxLen) : Calls Tryz.prog 107 #[.string s] W (RdPost W (parseN s.data.toList)) := by
  by_cases h : s.size ≤ 200
  · exact read_r s W h
  · exact read_long s W (by omega) hm
end Go.Proofs.YtgobpoeccdgeiaaGreatDoor
