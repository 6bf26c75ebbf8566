/- Package dur as plain functions on byte lists. Package dur: digits. Package dur: the closure of cut. Package dur: cut. Package dur: some; digits as numbers. Package dur: ParseMonths. Package dur: TextMonths. Chapter 06: what is laid, and strconv.Itoa. Package dur: the closure of TextSeconds. Package dur: TextSeconds. -/
import Derived.Test.YtgobpoeccdgeiaaGreatDoorQa
import Derived.Test.YtgobpoeccdgeiaaGreatDoorQg
import Derived.WalkSmall

namespace Go.Proofs.YtgobpoeccdgeiaaGreatDoor.DurP
open Go.Proofs.YtgobpoeccdgeiaaGreatDoor.NumP
set_option linter.unusedVariables false

/-- How many digits a text begins with. -/
def digN (l : List UInt8) : Nat := (l.takeWhile isDig).length
theorem digN_le (l : List UInt8) : digN l ≤ l.length := (List.takeWhile_prefix _).length_le
/-- Where a part ends. -/
def partEnd (letter : UInt8) (l : List UInt8) : Nat :=
  let n := digN l
  if letter = 83 ∧ 0 < n ∧ l[n]? = some 46 ∧ 0 < digN (l.drop (n + 1)) then n + (digN (l.drop (n + 1)) + 1) else n
/-- A part, and what is left. -/
def partP (letter : UInt8) (l : List UInt8) : List UInt8 × List UInt8 :=
  let n := partEnd letter l
  if 0 < n ∧ l[n]? = some letter then (l.take n, l.drop (n + 1)) else ([], l)
/-- The parts, and what is left. -/
def cutP : List UInt8 → List UInt8 → List (List UInt8) × List UInt8
  | [], l => ([], l)
  | c :: cs, l => ((partP c l).1 :: (cutP cs (partP c l).2).1, (cutP cs (partP c l).2).2)
/-- A number in decimal digits. -/
def decF : Nat → Nat → List UInt8
  | 0, n => [UInt8.ofNat (48 + n)]
  | f + 1, n => if n < 10 then [UInt8.ofNat (48 + n)] else decF f (n / 10) ++ [UInt8.ofNat (48 + n % 10)]
def decP (n : Nat) : List UInt8 := decF 20 n
end Go.Proofs.YtgobpoeccdgeiaaGreatDoor.DurP

namespace Go.Proofs.YtgobpoeccdgeiaaGreatDoor
open Go.RowKit NumP DurP Go.Proofs.YtgobpoeccdgeiaaGreatDoorW.PrintWords
set_option linter.unusedVariables false

end Go.Proofs.YtgobpoeccdgeiaaGreatDoor

namespace Go.Proofs.YtgobpoeccdgeiaaGreatDoor
open Go.RowKit NumP DurP Go.Proofs.YtgobpoeccdgeiaaGreatDoorW.PrintWords
set_option linter.unusedVariables false

theorem data_at (s : ByteArray) (n : Nat) (h : n < s.size) : s.data.toList[n]? = some s[n] := by
  rw [List.getElem?_eq_getElem (by rw [list_len]; exact h)]; rfl
theorem byte_eq (a b : UInt8) : ((a.toNat : Int) == (b.toNat : Int)) = decide (a = b) := by
  by_cases h : a = b
  · subst h; simp
  · have : a.toNat ≠ b.toNat := fun e => h (UInt8.toNat_inj.1 e)
    rw [decide_eq_false h, beq_eq_false_iff_ne]; omega
theorem take_mk (s : ByteArray) (m : Nat) : (⟨(s.data.toList.take m).toArray⟩ : ByteArray) = s.extract 0 m := data_inj (by rw [ByteArray.data_extract]; simp)
theorem drop_mk (s : ByteArray) (m : Nat) : (⟨(s.data.toList.drop m).toArray⟩ : ByteArray) = s.extract m s.size := data_inj (by rw [ByteArray.data_extract]; simp; rw [List.take_of_length_le (by rw [List.length_drop, list_len]; exact Nat.le_refl _)])
end Go.Proofs.YtgobpoeccdgeiaaGreatDoor

namespace Go.Proofs.YtgobpoeccdgeiaaGreatDoor
open Go.RowKit NumP DurP Go.Proofs.YtgobpoeccdgeiaaGreatDoorW.PrintWords
set_option linter.unusedVariables false

/-- Texts as values. -/
def strsL (l : List (List UInt8)) : List Value := l.map fun p => Value.string ⟨p.toArray⟩
structure CutRel (W : World) (ls l : List UInt8) (k : Nat) (v : Value) (wr : World) : Prop where
  own : wr.ownsRow (W.heap.size + 1) 9 1 v k (strsL (cutP (ls.take k) l).1)
  box : wr.heap[W.heap.size]? = some (.cells #[.string ⟨(cutP (ls.take k) l).2.toArray⟩] 9 (0, 0))
  below : Below W.heap.size W wr
theorem CutRel.lt {W : World} {ls l : List UInt8} {k : Nat} {v : Value} {wr : World} (h : CutRel W ls l k v wr) : W.heap.size < wr.heap.size := heap_lt h.box
end Go.Proofs.YtgobpoeccdgeiaaGreatDoor

namespace Go.Proofs.YtgobpoeccdgeiaaGreatDoor
open Go.RowKit NumP DurP Go.Proofs.YtgobpoeccdgeiaaGreatDoorW.PrintWords
set_option linter.unusedVariables false

theorem take_digN (l : List UInt8) : l.take (digN l) = l.takeWhile isDig := by
  unfold digN
  exact (List.prefix_iff_eq_take.1 (List.takeWhile_prefix (p := isDig))).symm
end Go.Proofs.YtgobpoeccdgeiaaGreatDoor

namespace Go.Proofs.YtgobpoeccdgeiaaGreatDoor
open Go.RowKit NumP DurP Go.Proofs.YtgobpoeccdgeiaaGreatDoorW.PrintWords
set_option linter.unusedVariables false

theorem has_one (l : List UInt8) (c : UInt8) : Lib.hasPrefix l [c] = (l.head? == some c) := by
  unfold Lib.hasPrefix
  cases l with
  | nil => rfl
  | cons b l => simp [List.isPrefixOf, Bool.beq_comm]
end Go.Proofs.YtgobpoeccdgeiaaGreatDoor

namespace Go.Proofs.YtgobpoeccdgeiaaGreatDoor
open Go.RowKit NumP DurP Go.Proofs.YtgobpoeccdgeiaaGreatDoorW.PrintWords
set_option linter.unusedVariables false

theorem decF_eq : ∀ (f n : Nat), n < 10 ^ (f + 1) → decF f n = Lib.decDigits n
  | 0, n, h => by
    rw [Lib.decDigits, dif_pos (by simpa using h)]; rfl
  | f + 1, n, h => by
    unfold decF
    by_cases h10 : n < 10
    · rw [if_pos h10, Lib.decDigits, dif_pos h10]
    · rw [if_neg h10, Lib.decDigits, dif_neg h10, decF_eq f (n / 10) (by rw [Nat.pow_succ] at h; omega)]
theorem decP_eq {n : Nat} (h : n < 1000000000000000000000) : decP n = Lib.decDigits n := decF_eq 20 n h
/-- strconv.Itoa, wherever the library's table stands. -/
def ItoaIn (W : World) : Prop := ∀ w, Below W.heap.size W w → ∀ n : Nat, n < 1000000000000000000 → Calls Tryz.prog 45 #[.int .i64 (n : Int)] w fun e w' => e = .returned (.string ⟨(decP n).toArray⟩) ∧ Below w.heap.size w w'
end Go.Proofs.YtgobpoeccdgeiaaGreatDoor

namespace Go.Proofs.YtgobpoeccdgeiaaGreatDoor
open Go.Sort Go.RowKit NumP DurP Go.Proofs.YtgobpoeccdgeiaaGreatDoorW.PrintWords
set_option linter.unusedVariables false

/-- What is known of the library's variables, with Itoa's table. -/
structure LaidD (w : World) : Prop where
  num : LaidW w
  tab : Lib.TabIs Tryz.prog w "internal/strconv.uint64pow10" .u64 Lib.pow10Tab
theorem tab_named : Tryz.prog.globalNamed "internal/strconv.uint64pow10" = some 4 := by kernel_rfl
theorem LaidD.below {w w' : World} (h : LaidD w) {B : Nat} (hb : Below B w w') (hB : 8 ≤ B) : LaidD w' :=
  ⟨h.num.below hb hB, var?_below hb tab_named (by omega) h.tab⟩
theorem below_grow (w : World) (k : Nat) (os : Array Obj) : Below w.heap.size w (grow (w.drewN k) os) :=
  (below_drewN (Below.refl _ w) k).trans ⟨rfl, rfl, rfl, by simp [grow], fun j hj => by
    show ((w.drewN k).heap ++ os)[j]? = _
    rw [Array.getElem?_append_left (by simpa using hj)]⟩
theorem LaidD.itoa {W : World} (h : LaidD W) : ItoaIn W := fun w hb n hn => by
  refine (Tryz.strconv_Itoa (n : Int) (by omega) (by omega) w ((h.below hb h.num.size).tab)).mono ?_
  rintro e w' ⟨rfl, k, os, rfl⟩
  refine ⟨?_, below_grow w k os⟩
  rw [decP_eq (by omega)]
  unfold Lib.itoa
  rw [if_neg (by omega), Int.toNat_natCast]
end Go.Proofs.YtgobpoeccdgeiaaGreatDoor

namespace Go.Proofs.YtgobpoeccdgeiaaGreatDoor
open Go.RowKit NumP DurP Go.Proofs.YtgobpoeccdgeiaaGreatDoorW.PrintWords
set_option linter.unusedVariables false

theorem textN_len {x : Num} (h : x.d < P50) : (textN x).length ≤ 60 := by
  have h1 : lenD x.d ≤ 50 := (lenD_le x.d 50).2 h
  have h2 : (fixD (max 21 (lenD x.d)) x.d).length ≤ 50 := by rw [fixD_len]; omega
  have h3 : ∀ l : List UInt8, (trimZ l).length ≤ l.length := fun l => by
    unfold trimZ
    rw [List.length_reverse]
    exact Nat.le_trans (List.dropWhile_suffix _).length_le (by rw [List.length_reverse]; exact Nat.le_refl _)
  unfold textN
  simp only
  generalize fixD (max 21 (lenD x.d)) x.d = s at h2
  have h4 := h3 (s.drop (s.length - 20))
  rw [List.length_drop] at h4
  rw [List.length_append, List.length_append, List.length_take]
  have h5 : (if x.neg = true then ([45] : List UInt8) else []).length ≤ 1 := by split <;> simp
  have h6 : (if trimZ (s.drop (s.length - 20)) = [] then ([] : List UInt8) else 46 :: trimZ (s.drop (s.length - 20))).length ≤ (trimZ (s.drop (s.length - 20))).length + 1 := by split <;> simp
  omega
theorem outN_len {r : R} (h : ∀ x, r = .ok x → x.d < P50) : (outN r).1.length ≤ 60 := by
  cases r with
  | ok x => exact textN_len (h x rfl)
  | error k => exact Nat.zero_le _
end Go.Proofs.YtgobpoeccdgeiaaGreatDoor

namespace Go.Proofs.YtgobpoeccdgeiaaGreatDoor
open Go.RowKit NumP DurP Go.Proofs.YtgobpoeccdgeiaaGreatDoorW.PrintWords
set_option linter.unusedVariables false

theorem parseT_len (a : List UInt8) : (parseT a).1.length ≤ 60 := outN_len fun z h => parseN_lt h
end Go.Proofs.YtgobpoeccdgeiaaGreatDoor
