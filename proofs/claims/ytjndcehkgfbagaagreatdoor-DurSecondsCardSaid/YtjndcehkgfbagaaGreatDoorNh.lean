/- Package dur as plain functions on byte lists. Package dur: digits. Package dur: the closure of cut. Package dur: cut. Package dur: some; digits as numbers. Package dur: ParseMonths. Package dur: TextMonths. Chapter 06: what is laid, and strconv.Itoa. Package dur: the closure of TextSeconds. Package dur: TextSeconds. -/
import Derived.Test.YtjndcehkgfbagaaGreatDoorNa
import Derived.Test.YtjndcehkgfbagaaGreatDoorNg
import Derived.WalkSmall

namespace Go.Proofs.YtjndcehkgfbagaaGreatDoor.DurP
open Go.Proofs.YtjndcehkgfbagaaGreatDoor.NumP
set_option linter.unusedVariables false

/-- How many digits a text begins with. -/
def digN (l : List UInt8) : Nat := (l.takeWhile isDig).length
theorem digN_le (l : List UInt8) : digN l ≤ l.length := (List.takeWhile_prefix _).length_le
theorem digN_cons (c : UInt8) (l : List UInt8) : digN (c :: l) = if isDig c = true then digN l + 1 else 0 := by
  unfold digN
  rw [List.takeWhile_cons]
  split <;> rfl
/-- Where a part ends. -/
def partEnd (letter : UInt8) (l : List UInt8) : Nat :=
  let n := digN l
  if letter = 83 ∧ 0 < n ∧ l[n]? = some 46 ∧ 0 < digN (l.drop (n + 1)) then n + (digN (l.drop (n + 1)) + 1) else n
/-- A part, and what is left. -/
def partP (letter : UInt8) (l : List UInt8) : List UInt8 × List UInt8 :=
  let n := partEnd letter l
  if 0 < n ∧ l[n]? = some letter then (l.take n, l.drop (n + 1)) else ([], l)
/-- The parts, and what is left. -/
def cutP : List UInt8 → List UInt8 → List (List UInt8) × List UInt8
  | [], l => ([], l)
  | c :: cs, l => ((partP c l).1 :: (cutP cs (partP c l).2).1, (cutP cs (partP c l).2).2)
def someP (ps : List (List UInt8)) : Bool := ps.any (fun p => !p.isEmpty)
def most : Int := 9999999999
def trim0 (l : List UInt8) : List UInt8 := l.dropWhile (· == 48)
/-- The months of a form; behind it the error. -/
def monthsP (l : List UInt8) : Int × Int :=
  if 200 < l.length then (0, 2) else
    let minus := l.head? == some 45
    let body := if minus then l.drop 1 else l
    let ok := body.head? == some 80
    let body := if ok then body.drop 1 else body
    let c := cutP [89, 77] body
    if ok = false ∨ c.2 ≠ [] ∨ someP c.1 = false then (0, 5) else
      let y := trim0 (c.1.getD 0 [])
      let m := trim0 (c.1.getD 1 [])
      if 11 < y.length ∨ 11 < m.length then (0, 6) else
        let n : Int := 12 * (valD y : Int) + (valD m : Int)
        if most < n then (0, 6) else (if minus then -n else n, 0)
/-- A number in decimal digits. -/
def decF : Nat → Nat → List UInt8
  | 0, n => [UInt8.ofNat (48 + n)]
  | f + 1, n => if n < 10 then [UInt8.ofNat (48 + n)] else decF f (n / 10) ++ [UInt8.ofNat (48 + n % 10)]
def decP (n : Nat) : List UInt8 := decF 20 n
def textMP (n : Int) : List UInt8 × Int :=
  if n < -most ∨ most < n then ([], 6) else if n = 0 then ([80, 48, 77], 0) else
    let k := n.natAbs
    ((if n < 0 then [45, 80] else [80]) ++ (if 12 ≤ k then decP (k / 12) ++ [89] else []) ++ (if k % 12 ≠ 0 then decP (k % 12) ++ [77] else []), 0)
def sizes : List (List UInt8) := [[56, 54, 52, 48, 48], [51, 54, 48, 48], [54, 48], [49]]
/-- The parts, times their sizes, added up. -/
def addUp : List (List UInt8) → List (List UInt8) → List UInt8 → List UInt8 × Int
  | p :: ps, t :: ts, sum =>
    if p = [] then addUp ps ts sum else
      let x := parseT p
      if x.2 ≠ 0 then ([], 40) else
        let y := mulT x.1 t
        if y.2 ≠ 0 then ([], 40) else
          let z := addT sum y.1
          if z.2 ≠ 0 then ([], 40) else addUp ps ts z.1
  | _, _, sum => (sum, 0)
def secondsP (l : List UInt8) : List UInt8 × Int :=
  if 200 < l.length then ([], 2) else
    let minus := l.head? == some 45
    let body := if minus then l.drop 1 else l
    let ok := body.head? == some 80
    let body := if ok then body.drop 1 else body
    let c := cutP [68] body
    let is := c.2.head? == some 84
    let m := if is then cutP [72, 77, 83] (c.2.drop 1) else ([], c.2)
    if is = true ∧ someP m.1 = false then ([], 5) else
      let parts := c.1 ++ m.1
      if ok = false ∨ m.2 ≠ [] ∨ someP parts = false then ([], 5) else
        let r := addUp parts sizes [48]
        if r.2 ≠ 0 then r else if minus then negT r.1 else r
/-- One part of a text: the part, and what is left. -/
def pieceP (size : List UInt8) (letter : UInt8) (left : List UInt8) : List UInt8 × List UInt8 :=
  let q := if letter = 83 then left else (idivT left size).1
  (if q = [48] then [] else q ++ [letter], (modT left size).1)
def textSP (l : List UInt8) : List UInt8 × Int :=
  let x := parseT l
  if x.2 ≠ 0 ∨ x.1 ≠ l then ([], 1) else if l = [48] then ([80, 84, 48, 83], 0) else
    let minus := l.head? == some 45
    let left := if minus then l.drop 1 else l
    let d := pieceP [56, 54, 52, 48, 48] 68 left
    let h := pieceP [51, 54, 48, 48] 72 d.2
    let m := pieceP [54, 48] 77 h.2
    let s := pieceP [54, 48] 83 m.2
    let time := h.1 ++ m.1 ++ s.1
    let time := if time = [] then [] else 84 :: time
    ((if minus then [45, 80] else [80]) ++ d.1 ++ time, 0)
/-- What works checks. -/
theorem works_plain : monthsP [80, 49, 89, 50, 77] = (14, 0) ∧ textMP 14 = ([80, 49, 89, 50, 77], 0) ∧
    secondsP [80, 49, 68, 84, 50, 72, 51, 77, 52, 46, 53, 83] = ([57, 51, 55, 56, 52, 46, 53], 0) ∧ textSP [57, 51, 55, 56, 52, 46, 53] = ([80, 49, 68, 84, 50, 72, 51, 77, 52, 46, 53, 83], 0) := by decide +kernel
end Go.Proofs.YtjndcehkgfbagaaGreatDoor.DurP

namespace Go.Proofs.YtjndcehkgfbagaaGreatDoor
open Go.RowKit NumP DurP Go.Proofs.YtjndcehkgfbagaaGreatDoorW.PrintWords
set_option linter.unusedVariables false

theorem dig_step {l : List UInt8} {n : Nat} (h : n < l.length) : n + digN (l.drop n) = if isDig l[n] = true then (n + 1) + digN (l.drop (n + 1)) else n := by
  rw [List.drop_eq_getElem_cons h, digN_cons]
  split <;> omega
set_option maxHeartbeats 1000000 in
set_option maxRecDepth 100000 in
theorem digits_d (s : ByteArray) (W : World) (hs : s.size ≤ maxLen) : Calls Tryz.prog 60 #[.string s] W fun e w' => e = .returned (.int .i64 (digN s.data.toList)) ∧ W = w' := by
  unfold maxLen at hs
  go_enter Tryz.func60, Tryz.ntmps60
  go_wp2_with fail
  go_loop [3] (fun i => ∃ n : Nat, i = .int .i64 n ∧ n ≤ s.size ∧ Hid (n + digN (s.data.toList.drop n) = digN s.data.toList)) (fun i => s.size - (intOf i).toNat)
  case atStart => exact ⟨0, rfl, Nat.zero_le _, Lib.hid (by simp)⟩
  case round =>
    obtain ⟨n, rfl, hn, hd⟩ := hrel
    by_cases h0 : n < s.size
    · have hg : Hid (n + digN (s.data.toList.drop n) = if isDig s[n] = true then (n + 1) + digN (s.data.toList.drop (n + 1)) else n) := Lib.hid (dig_step (by rw [list_len]; exact h0))
      by_cases h1 : (48 : Int) ≤ (s[n].toNat : Int)
      · by_cases h2 : (s[n].toNat : Int) ≤ 57
        · have hD : Hid (isDig s[n] = true) := Lib.hid (by unfold isDig; rw [decide_eq_true (by omega), decide_eq_true (by omega)]; rfl)
          go_wp2_with fail
          exact ⟨⟨n + 1, by simp, by omega, Lib.hid (by rw [← hd.out, hg.out, if_pos hD.out])⟩, by simp [intOf]; omega⟩
        · have hD : Hid (isDig s[n] = false) := Lib.hid (by unfold isDig; rw [decide_eq_false (p := s[n].toNat ≤ 57) (by omega), Bool.and_false])
          go_wp2_with fail
          go_ret
          exact ⟨by rw [← hd.out, hg.out, if_neg (by rw [hD.out]; decide)]; rfl, rfl⟩
      · have hD : Hid (isDig s[n] = false) := Lib.hid (by unfold isDig; rw [decide_eq_false (p := 48 ≤ s[n].toNat) (by omega), Bool.false_and])
        go_wp2_with fail
        go_ret
        exact ⟨by rw [← hd.out, hg.out, if_neg (by rw [hD.out]; decide)]; rfl, rfl⟩
    · have hE : Hid (digN s.data.toList = n) := Lib.hid (by rw [← hd.out, List.drop_eq_nil_of_le (by rw [list_len]; omega)]; rfl)
      go_wp2_with fail
      go_ret
      exact ⟨by rw [hE.out]; rfl, rfl⟩
end Go.Proofs.YtjndcehkgfbagaaGreatDoor

namespace Go.Proofs.YtjndcehkgfbagaaGreatDoor
open Go.RowKit NumP DurP Go.Proofs.YtjndcehkgfbagaaGreatDoorW.PrintWords
set_option linter.unusedVariables false

theorem data_at (s : ByteArray) (n : Nat) (h : n < s.size) : s.data.toList[n]? = some s[n] := by
  rw [List.getElem?_eq_getElem (by rw [list_len]; exact h)]; rfl
theorem data_end (s : ByteArray) (n : Nat) (h : s.size ≤ n) : s.data.toList[n]? = none := List.getElem?_eq_none (by rw [list_len]; exact h)
theorem byte_eq (a b : UInt8) : ((a.toNat : Int) == (b.toNat : Int)) = decide (a = b) := by
  by_cases h : a = b
  · subst h; simp
  · have : a.toNat ≠ b.toNat := fun e => h (UInt8.toNat_inj.1 e)
    rw [decide_eq_false h, beq_eq_false_iff_ne]; omega
theorem take_mk (s : ByteArray) (m : Nat) : (⟨(s.data.toList.take m).toArray⟩ : ByteArray) = s.extract 0 m := data_inj (by rw [ByteArray.data_extract]; simp)
theorem drop_mk (s : ByteArray) (m : Nat) : (⟨(s.data.toList.drop m).toArray⟩ : ByteArray) = s.extract m s.size := data_inj (by rw [ByteArray.data_extract]; simp; rw [List.take_of_length_le (by rw [List.length_drop, list_len]; exact Nat.le_refl _)])
/-- What next leaves: a part, and the rest in its variable. -/
def NextPost (W : World) (p : Nat) (part rest : ByteArray) (e : Ending) (w' : World) : Prop :=
  e = .returned (.string part) ∧ w'.heap[p]? = some (.cells #[.string rest] 9 (0, 0)) ∧ Below p W w' ∧ w'.heap.size = W.heap.size ∧ ∀ k, k ≠ p → w'.heap[k]? = W.heap[k]?
theorem next_kept {W : World} {p : Nat} {s : ByteArray} (h : W.heap[p]? = some (.cells #[.string s] 9 (0, 0))) (part : ByteArray) : NextPost W p part s (.returned (.string part)) W := ⟨rfl, h, Below.refl _ _, rfl, fun _ _ => rfl⟩
theorem next_put {W : World} {p : Nat} {s : ByteArray} (h : W.heap[p]? = some (.cells #[.string s] 9 (0, 0))) (part rest : ByteArray) : NextPost W p part rest (.returned (.string part)) (W.setCell ⟨p, 0, none⟩ (.string rest)) :=
  ⟨rfl, Lib.heap_setCell_same (i := 0) h _, (Below.refl _ _).setCell (p := ⟨p, 0, none⟩) (Nat.le_refl _) _, by simp, fun k hk => Below.heap_setCell _ _ _ _ hk⟩
theorem partP_no {c : UInt8} {l : List UInt8} {m : Nat} (h : partEnd c l = m) (h2 : ¬ (0 < m ∧ l[m]? = some c)) : partP c l = ([], l) := by
  unfold partP
  simp only [h]
  rw [if_neg h2]
theorem partP_yes {c : UInt8} {l : List UInt8} {m : Nat} (h : partEnd c l = m) (h1 : 0 < m) (h2 : l[m]? = some c) : partP c l = (l.take m, l.drop (m + 1)) := by
  unfold partP
  simp only [h]
  rw [if_pos ⟨h1, h2⟩]
theorem partEnd_no {c : UInt8} {l : List UInt8} {n : Nat} (hn : n = digN l) (h : ¬ (c = 83 ∧ 0 < n ∧ l[n]? = some 46 ∧ 0 < digN (l.drop (n + 1)))) : partEnd c l = n := by
  unfold partEnd
  simp only [← hn]
  rw [if_neg h]
theorem partEnd_yes {c : UInt8} {l : List UInt8} {n k : Nat} (hn : n = digN l) (hk : k = digN (l.drop (n + 1))) (h1 : c = 83) (h2 : 0 < n) (h3 : l[n]? = some 46) (h4 : 0 < k) : partEnd c l = n + (k + 1) := by
  unfold partEnd
  simp only [← hn, ← hk]
  rw [if_pos ⟨h1, h2, h3, h4⟩]
set_option maxHeartbeats 1000000 in
set_option maxRecDepth 100000 in
theorem next0 (c : UInt8) (s : ByteArray) (W : World) (p n k : Nat) (hp : W.heap[p]? = some (.cells #[.string s] 9 (0, 0))) (hs : s.size ≤ 1000) (hn : n = digN s.data.toList) (hk : k = digN (s.data.toList.drop (n + 1))) (h83 : ¬ c = 83) :
    Calls Tryz.prog 59 #[.int .u8 c.toNat, .pointer (some ⟨p, 0, none⟩)] W (NextPost W p ⟨(partP c s.data.toList).1.toArray⟩ ⟨(partP c s.data.toList).2.toArray⟩) := by
  have hd1 := digits_d s W (by show _ ≤ 2 ^ 63 - 1; omega)
  rw [← hn] at hd1
  have hd2 := digits_d (s.extract (n + 1) s.size) W (by rw [ByteArray.size_extract]; show _ ≤ 2 ^ 63 - 1; omega)
  rw [← drop_mk] at hd2
  rw [show (⟨(s.data.toList.drop (n + 1)).toArray⟩ : ByteArray).data.toList = s.data.toList.drop (n + 1) by simp, ← hk, drop_mk] at hd2
  have c0 : W.cell? ⟨p, 0, none⟩ = some (.string s) := by rw [Lib.cell_of_heap hp]; rfl
  have f0 := Lib.frozen_of_heap hp 0
  have hnl : n ≤ s.size := by rw [hn, ← list_len]; exact digN_le _
  have hkl : k ≤ s.size - (n + 1) := by rw [hk, ← list_len, ← List.length_drop]; exact digN_le _
  have hE : Hid (partEnd c s.data.toList = n) := Lib.hid (partEnd_no hn (fun h => h83 h.1))
  replace hp := Lib.hid hp
  replace hn := Lib.hid hn
  replace hk := Lib.hid hk
  have g0 : ((c.toNat : Int) == 83) = false := by rw [show (83 : Int) = ((83 : UInt8).toNat : Int) from rfl, byte_eq]; exact decide_eq_false h83
  rcases Nat.eq_zero_or_pos (n) with hz | hz
  · have hP := partP_no hE.out (fun h => by omega)
    rw [hP, show (⟨(([] : List UInt8), s.data.toList).1.toArray⟩ : ByteArray) = ⟨#[]⟩ from rfl, show (⟨(([] : List UInt8), s.data.toList).2.toArray⟩ : ByteArray) = s from data_inj (by simp)]
    clear hP
    have e1 : (((n : Int)) == 0) = true := by simp; omega
    go_enter Tryz.func59, Tryz.ntmps59
    go_wp2_with fail
    refine hd1.mono ?_
    rintro e w ⟨rfl, rfl⟩
    clear hd1
    go_wp2_with fail
    all_goals (go_ret; exact next_kept hp.out _)
  · rcases Nat.lt_or_ge (n) s.size with hlt | hge
    · by_cases hne : s[n] = c
      · have hP := partP_yes hE.out (by omega) (by rw [data_at s _ hlt, hne])
        rw [hP, show (⟨(s.data.toList.take (n), s.data.toList.drop (n + 1)).1.toArray⟩ : ByteArray) = s.extract 0 (n) from take_mk s _, show (⟨(s.data.toList.take (n), s.data.toList.drop (n + 1)).2.toArray⟩ : ByteArray) = s.extract (n + 1) s.size from drop_mk s _]
        clear hP
        have e1 : (((n : Int)) == 0) = false := by simp; omega
        have e2 : (((n : Int)) == (s.size : Int)) = false := by simp; omega
        have e3 : ((s[n].toNat : Int) == (c.toNat : Int)) = true := by rw [hne]; simp
        go_enter Tryz.func59, Tryz.ntmps59
        go_wp2_with fail
        refine hd1.mono ?_
        rintro e w ⟨rfl, rfl⟩
        clear hd1
        go_wp2_with fail
        all_goals (go_ret; exact next_put hp.out _ _)
      · have hP := partP_no hE.out (fun h => hne (by rw [data_at s _ hlt] at h; exact Option.some.inj h.2))
        rw [hP, show (⟨(([] : List UInt8), s.data.toList).1.toArray⟩ : ByteArray) = ⟨#[]⟩ from rfl, show (⟨(([] : List UInt8), s.data.toList).2.toArray⟩ : ByteArray) = s from data_inj (by simp)]
        clear hP
        have e1 : (((n : Int)) == 0) = false := by simp; omega
        have e2 : (((n : Int)) == (s.size : Int)) = false := by simp; omega
        have e3 : ((s[n].toNat : Int) == (c.toNat : Int)) = false := by rw [show (c.toNat : Int) = ((c).toNat : Int) from rfl, byte_eq]; exact decide_eq_false hne
        go_enter Tryz.func59, Tryz.ntmps59
        go_wp2_with fail
        refine hd1.mono ?_
        rintro e w ⟨rfl, rfl⟩
        clear hd1
        go_wp2_with fail
        all_goals (go_ret; exact next_kept hp.out _)
    · have hz2 : n = s.size := by omega
      have hP := partP_no hE.out (fun h => by rw [data_end s _ (by omega)] at h; cases h.2)
      rw [hP, show (⟨(([] : List UInt8), s.data.toList).1.toArray⟩ : ByteArray) = ⟨#[]⟩ from rfl, show (⟨(([] : List UInt8), s.data.toList).2.toArray⟩ : ByteArray) = s from data_inj (by simp)]
      clear hP
      have e1 : (((n : Int)) == 0) = false := by simp; omega
      have e2 : (((n : Int)) == (s.size : Int)) = true := by simp; omega
      go_enter Tryz.func59, Tryz.ntmps59
      go_wp2_with fail
      refine hd1.mono ?_
      rintro e w ⟨rfl, rfl⟩
      clear hd1
      go_wp2_with fail
      all_goals (go_ret; exact next_kept hp.out _)
set_option maxHeartbeats 1000000 in
set_option maxRecDepth 100000 in
theorem next1 (c : UInt8) (s : ByteArray) (W : World) (p n k : Nat) (hp : W.heap[p]? = some (.cells #[.string s] 9 (0, 0))) (hs : s.size ≤ 1000) (hn : n = digN s.data.toList) (hk : k = digN (s.data.toList.drop (n + 1))) (h83 : c = 83) (h0 : n = 0) :
    Calls Tryz.prog 59 #[.int .u8 c.toNat, .pointer (some ⟨p, 0, none⟩)] W (NextPost W p ⟨(partP c s.data.toList).1.toArray⟩ ⟨(partP c s.data.toList).2.toArray⟩) := by
  have hd1 := digits_d s W (by show _ ≤ 2 ^ 63 - 1; omega)
  rw [← hn] at hd1
  have hd2 := digits_d (s.extract (n + 1) s.size) W (by rw [ByteArray.size_extract]; show _ ≤ 2 ^ 63 - 1; omega)
  rw [← drop_mk] at hd2
  rw [show (⟨(s.data.toList.drop (n + 1)).toArray⟩ : ByteArray).data.toList = s.data.toList.drop (n + 1) by simp, ← hk, drop_mk] at hd2
  have c0 : W.cell? ⟨p, 0, none⟩ = some (.string s) := by rw [Lib.cell_of_heap hp]; rfl
  have f0 := Lib.frozen_of_heap hp 0
  have hnl : n ≤ s.size := by rw [hn, ← list_len]; exact digN_le _
  have hkl : k ≤ s.size - (n + 1) := by rw [hk, ← list_len, ← List.length_drop]; exact digN_le _
  have hE : Hid (partEnd c s.data.toList = n) := Lib.hid (partEnd_no hn (fun h => by omega))
  replace hp := Lib.hid hp
  replace hn := Lib.hid hn
  replace hk := Lib.hid hk
  subst h83
  have g1 : ¬ ((n : Int) > 0) := by omega
  have hz : n = 0 := by omega
  have hP := partP_no hE.out (fun h => by omega)
  rw [hP, show (⟨(([] : List UInt8), s.data.toList).1.toArray⟩ : ByteArray) = ⟨#[]⟩ from rfl, show (⟨(([] : List UInt8), s.data.toList).2.toArray⟩ : ByteArray) = s from data_inj (by simp)]
  clear hP
  have e1 : (((n : Int)) == 0) = true := by simp; omega
  go_enter Tryz.func59, Tryz.ntmps59
  go_wp2_with fail
  refine hd1.mono ?_
  rintro e w ⟨rfl, rfl⟩
  clear hd1
  go_wp2_with fail
  all_goals (go_ret; exact next_kept hp.out _)
set_option maxHeartbeats 1000000 in
set_option maxRecDepth 100000 in
theorem next2 (c : UInt8) (s : ByteArray) (W : World) (p n k : Nat) (hp : W.heap[p]? = some (.cells #[.string s] 9 (0, 0))) (hs : s.size ≤ 1000) (hn : n = digN s.data.toList) (hk : k = digN (s.data.toList.drop (n + 1))) (h83 : c = 83) (h0 : 0 < n) (h1 : n = s.size) :
    Calls Tryz.prog 59 #[.int .u8 c.toNat, .pointer (some ⟨p, 0, none⟩)] W (NextPost W p ⟨(partP c s.data.toList).1.toArray⟩ ⟨(partP c s.data.toList).2.toArray⟩) := by
  have hd1 := digits_d s W (by show _ ≤ 2 ^ 63 - 1; omega)
  rw [← hn] at hd1
  have hd2 := digits_d (s.extract (n + 1) s.size) W (by rw [ByteArray.size_extract]; show _ ≤ 2 ^ 63 - 1; omega)
  rw [← drop_mk] at hd2
  rw [show (⟨(s.data.toList.drop (n + 1)).toArray⟩ : ByteArray).data.toList = s.data.toList.drop (n + 1) by simp, ← hk, drop_mk] at hd2
  have c0 : W.cell? ⟨p, 0, none⟩ = some (.string s) := by rw [Lib.cell_of_heap hp]; rfl
  have f0 := Lib.frozen_of_heap hp 0
  have hnl : n ≤ s.size := by rw [hn, ← list_len]; exact digN_le _
  have hkl : k ≤ s.size - (n + 1) := by rw [hk, ← list_len, ← List.length_drop]; exact digN_le _
  have hE : Hid (partEnd c s.data.toList = n) := Lib.hid (partEnd_no hn (fun h => by rw [data_end s _ (by omega)] at h; cases h.2.2.1))
  replace hp := Lib.hid hp
  replace hn := Lib.hid hn
  replace hk := Lib.hid hk
  subst h83
  have g1 : (n : Int) > 0 := by omega
  have g2 : ¬ ((n : Int) < (s.size : Int)) := by omega
  have hz : n = s.size := by omega
  have hP := partP_no hE.out (fun h => by rw [data_end s _ (by omega)] at h; cases h.2)
  rw [hP, show (⟨(([] : List UInt8), s.data.toList).1.toArray⟩ : ByteArray) = ⟨#[]⟩ from rfl, show (⟨(([] : List UInt8), s.data.toList).2.toArray⟩ : ByteArray) = s from data_inj (by simp)]
  clear hP
  have e1 : (((n : Int)) == 0) = false := by simp; omega
  have e2 : (((n : Int)) == (s.size : Int)) = true := by simp; omega
  go_enter Tryz.func59, Tryz.ntmps59
  go_wp2_with fail
  refine hd1.mono ?_
  rintro e w ⟨rfl, rfl⟩
  clear hd1
  go_wp2_with fail
  all_goals (go_ret; exact next_kept hp.out _)
set_option maxHeartbeats 1000000 in
set_option maxRecDepth 100000 in
theorem next3 (c : UInt8) (s : ByteArray) (W : World) (p n k : Nat) (hp : W.heap[p]? = some (.cells #[.string s] 9 (0, 0))) (hs : s.size ≤ 1000) (hn : n = digN s.data.toList) (hk : k = digN (s.data.toList.drop (n + 1))) (h83 : c = 83) (h0 : 0 < n) (h1 : n < s.size) (h46 : ¬ s[n] = 46) :
    Calls Tryz.prog 59 #[.int .u8 c.toNat, .pointer (some ⟨p, 0, none⟩)] W (NextPost W p ⟨(partP c s.data.toList).1.toArray⟩ ⟨(partP c s.data.toList).2.toArray⟩) := by
  have hd1 := digits_d s W (by show _ ≤ 2 ^ 63 - 1; omega)
  rw [← hn] at hd1
  have hd2 := digits_d (s.extract (n + 1) s.size) W (by rw [ByteArray.size_extract]; show _ ≤ 2 ^ 63 - 1; omega)
  rw [← drop_mk] at hd2
  rw [show (⟨(s.data.toList.drop (n + 1)).toArray⟩ : ByteArray).data.toList = s.data.toList.drop (n + 1) by simp, ← hk, drop_mk] at hd2
  have c0 : W.cell? ⟨p, 0, none⟩ = some (.string s) := by rw [Lib.cell_of_heap hp]; rfl
  have f0 := Lib.frozen_of_heap hp 0
  have hnl : n ≤ s.size := by rw [hn, ← list_len]; exact digN_le _
  have hkl : k ≤ s.size - (n + 1) := by rw [hk, ← list_len, ← List.length_drop]; exact digN_le _
  have hE : Hid (partEnd c s.data.toList = n) := Lib.hid (partEnd_no hn (fun h => h46 (by have := h.2.2.1; rw [data_at s _ h1] at this; exact Option.some.inj this)))
  replace hp := Lib.hid hp
  replace hn := Lib.hid hn
  replace hk := Lib.hid hk
  subst h83
  have g1 : (n : Int) > 0 := by omega
  have g2 : (n : Int) < (s.size : Int) := by omega
  have g3 : ((s[n].toNat : Int) == 46) = false := by rw [show (46 : Int) = ((46 : UInt8).toNat : Int) from rfl, byte_eq]; exact decide_eq_false h46
  rcases Nat.eq_zero_or_pos (n) with hz | hz
  · omega
  · rcases Nat.lt_or_ge (n) s.size with hlt | hge
    · by_cases hne : s[n] = 83
      · have hP := partP_yes hE.out (by omega) (by rw [data_at s _ hlt, hne])
        rw [hP, show (⟨(s.data.toList.take (n), s.data.toList.drop (n + 1)).1.toArray⟩ : ByteArray) = s.extract 0 (n) from take_mk s _, show (⟨(s.data.toList.take (n), s.data.toList.drop (n + 1)).2.toArray⟩ : ByteArray) = s.extract (n + 1) s.size from drop_mk s _]
        clear hP
        have e1 : (((n : Int)) == 0) = false := by simp; omega
        have e2 : (((n : Int)) == (s.size : Int)) = false := by simp; omega
        have e3 : ((s[n].toNat : Int) == (83 : Int)) = true := by rw [hne]; simp
        go_enter Tryz.func59, Tryz.ntmps59
        go_wp2_with fail
        refine hd1.mono ?_
        rintro e w ⟨rfl, rfl⟩
        clear hd1
        go_wp2_with fail
        all_goals (go_ret; exact next_put hp.out _ _)
      · have hP := partP_no hE.out (fun h => hne (by rw [data_at s _ hlt] at h; exact Option.some.inj h.2))
        rw [hP, show (⟨(([] : List UInt8), s.data.toList).1.toArray⟩ : ByteArray) = ⟨#[]⟩ from rfl, show (⟨(([] : List UInt8), s.data.toList).2.toArray⟩ : ByteArray) = s from data_inj (by simp)]
        clear hP
        have e1 : (((n : Int)) == 0) = false := by simp; omega
        have e2 : (((n : Int)) == (s.size : Int)) = false := by simp; omega
        have e3 : ((s[n].toNat : Int) == (83 : Int)) = false := by rw [show (83 : Int) = (((83 : UInt8)).toNat : Int) from rfl, byte_eq]; exact decide_eq_false hne
        go_enter Tryz.func59, Tryz.ntmps59
        go_wp2_with fail
        refine hd1.mono ?_
        rintro e w ⟨rfl, rfl⟩
        clear hd1
        go_wp2_with fail
        all_goals (go_ret; exact next_kept hp.out _)
    · omega
set_option maxHeartbeats 1000000 in
set_option maxRecDepth 100000 in
theorem next4 (c : UInt8) (s : ByteArray) (W : World) (p n k : Nat) (hp : W.heap[p]? = some (.cells #[.string s] 9 (0, 0))) (hs : s.size ≤ 1000) (hn : n = digN s.data.toList) (hk : k = digN (s.data.toList.drop (n + 1))) (h83 : c = 83) (h0 : 0 < n) (h1 : n < s.size) (h46 : s[n] = 46) (hk0 : k = 0) :
    Calls Tryz.prog 59 #[.int .u8 c.toNat, .pointer (some ⟨p, 0, none⟩)] W (NextPost W p ⟨(partP c s.data.toList).1.toArray⟩ ⟨(partP c s.data.toList).2.toArray⟩) := by
  have hd1 := digits_d s W (by show _ ≤ 2 ^ 63 - 1; omega)
  rw [← hn] at hd1
  have hd2 := digits_d (s.extract (n + 1) s.size) W (by rw [ByteArray.size_extract]; show _ ≤ 2 ^ 63 - 1; omega)
  rw [← drop_mk] at hd2
  rw [show (⟨(s.data.toList.drop (n + 1)).toArray⟩ : ByteArray).data.toList = s.data.toList.drop (n + 1) by simp, ← hk, drop_mk] at hd2
  have c0 : W.cell? ⟨p, 0, none⟩ = some (.string s) := by rw [Lib.cell_of_heap hp]; rfl
  have f0 := Lib.frozen_of_heap hp 0
  have hnl : n ≤ s.size := by rw [hn, ← list_len]; exact digN_le _
  have hkl : k ≤ s.size - (n + 1) := by rw [hk, ← list_len, ← List.length_drop]; exact digN_le _
  have hE : Hid (partEnd c s.data.toList = n) := Lib.hid (partEnd_no hn (fun h => by have := h.2.2.2; omega))
  replace hp := Lib.hid hp
  replace hn := Lib.hid hn
  replace hk := Lib.hid hk
  subst h83
  have g1 : (n : Int) > 0 := by omega
  have g2 : (n : Int) < (s.size : Int) := by omega
  have g3 : ((s[n].toNat : Int) == 46) = true := by rw [h46]; rfl
  have g4 : ¬ ((k : Int) > 0) := by omega
  rcases Nat.eq_zero_or_pos (n) with hz | hz
  · omega
  · rcases Nat.lt_or_ge (n) s.size with hlt | hge
    · by_cases hne : s[n] = 83
      · exact absurd (h46.symm.trans hne) (by decide)
      · have hP := partP_no hE.out (fun h => hne (by rw [data_at s _ hlt] at h; exact Option.some.inj h.2))
        rw [hP, show (⟨(([] : List UInt8), s.data.toList).1.toArray⟩ : ByteArray) = ⟨#[]⟩ from rfl, show (⟨(([] : List UInt8), s.data.toList).2.toArray⟩ : ByteArray) = s from data_inj (by simp)]
        clear hP
        have e1 : (((n : Int)) == 0) = false := by simp; omega
        have e2 : (((n : Int)) == (s.size : Int)) = false := by simp; omega
        have e3 : ((s[n].toNat : Int) == (83 : Int)) = false := by rw [show (83 : Int) = (((83 : UInt8)).toNat : Int) from rfl, byte_eq]; exact decide_eq_false hne
        go_enter Tryz.func59, Tryz.ntmps59
        go_wp2_with fail
        refine hd1.mono ?_
        rintro e w ⟨rfl, rfl⟩
        clear hd1
        go_wp2_with fail
        refine hd2.mono ?_
        rintro e w ⟨rfl, rfl⟩
        clear hd2
        go_wp2_with fail
        all_goals (go_ret; exact next_kept hp.out _)
    · omega
set_option maxHeartbeats 1000000 in
set_option maxRecDepth 100000 in
theorem next5 (c : UInt8) (s : ByteArray) (W : World) (p n k : Nat) (hp : W.heap[p]? = some (.cells #[.string s] 9 (0, 0))) (hs : s.size ≤ 1000) (hn : n = digN s.data.toList) (hk : k = digN (s.data.toList.drop (n + 1))) (h83 : c = 83) (h0 : 0 < n) (h1 : n < s.size) (h46 : s[n] = 46) (hk0 : 0 < k) :
    Calls Tryz.prog 59 #[.int .u8 c.toNat, .pointer (some ⟨p, 0, none⟩)] W (NextPost W p ⟨(partP c s.data.toList).1.toArray⟩ ⟨(partP c s.data.toList).2.toArray⟩) := by
  have hd1 := digits_d s W (by show _ ≤ 2 ^ 63 - 1; omega)
  rw [← hn] at hd1
  have hd2 := digits_d (s.extract (n + 1) s.size) W (by rw [ByteArray.size_extract]; show _ ≤ 2 ^ 63 - 1; omega)
  rw [← drop_mk] at hd2
  rw [show (⟨(s.data.toList.drop (n + 1)).toArray⟩ : ByteArray).data.toList = s.data.toList.drop (n + 1) by simp, ← hk, drop_mk] at hd2
  have c0 : W.cell? ⟨p, 0, none⟩ = some (.string s) := by rw [Lib.cell_of_heap hp]; rfl
  have f0 := Lib.frozen_of_heap hp 0
  have hnl : n ≤ s.size := by rw [hn, ← list_len]; exact digN_le _
  have hkl : k ≤ s.size - (n + 1) := by rw [hk, ← list_len, ← List.length_drop]; exact digN_le _
  have hE : Hid (partEnd c s.data.toList = n + (k + 1)) := Lib.hid (partEnd_yes hn hk h83 h0 (by rw [data_at s _ h1, h46]) hk0)
  replace hp := Lib.hid hp
  replace hn := Lib.hid hn
  replace hk := Lib.hid hk
  subst h83
  have g1 : (n : Int) > 0 := by omega
  have g2 : (n : Int) < (s.size : Int) := by omega
  have g3 : ((s[n].toNat : Int) == 46) = true := by rw [h46]; rfl
  have g4 : (k : Int) > 0 := by omega
  rcases Nat.eq_zero_or_pos (n + (k + 1)) with hz | hz
  · omega
  · rcases Nat.lt_or_ge (n + (k + 1)) s.size with hlt | hge
    · by_cases hne : s[n + (k + 1)] = 83
      · have hP := partP_yes hE.out (by omega) (by rw [data_at s _ hlt, hne])
        rw [hP, show (⟨(s.data.toList.take (n + (k + 1)), s.data.toList.drop (n + (k + 1) + 1)).1.toArray⟩ : ByteArray) = s.extract 0 (n + (k + 1)) from take_mk s _, show (⟨(s.data.toList.take (n + (k + 1)), s.data.toList.drop (n + (k + 1) + 1)).2.toArray⟩ : ByteArray) = s.extract (n + (k + 1) + 1) s.size from drop_mk s _]
        clear hP
        have e1 : (((n : Int) + ((k : Int) + 1)) == 0) = false := by simp; omega
        have e2 : (((n : Int) + ((k : Int) + 1)) == (s.size : Int)) = false := by simp; omega
        have e3 : ((s[n + (k + 1)].toNat : Int) == (83 : Int)) = true := by rw [hne]; simp
        go_enter Tryz.func59, Tryz.ntmps59
        go_wp2_with fail
        refine hd1.mono ?_
        rintro e w ⟨rfl, rfl⟩
        clear hd1
        go_wp2_with fail
        refine hd2.mono ?_
        rintro e w ⟨rfl, rfl⟩
        clear hd2
        go_wp2_with fail
        all_goals (go_ret; exact next_put hp.out _ _)
      · have hP := partP_no hE.out (fun h => hne (by rw [data_at s _ hlt] at h; exact Option.some.inj h.2))
        rw [hP, show (⟨(([] : List UInt8), s.data.toList).1.toArray⟩ : ByteArray) = ⟨#[]⟩ from rfl, show (⟨(([] : List UInt8), s.data.toList).2.toArray⟩ : ByteArray) = s from data_inj (by simp)]
        clear hP
        have e1 : (((n : Int) + ((k : Int) + 1)) == 0) = false := by simp; omega
        have e2 : (((n : Int) + ((k : Int) + 1)) == (s.size : Int)) = false := by simp; omega
        have e3 : ((s[n + (k + 1)].toNat : Int) == (83 : Int)) = false := by rw [show (83 : Int) = (((83 : UInt8)).toNat : Int) from rfl, byte_eq]; exact decide_eq_false hne
        go_enter Tryz.func59, Tryz.ntmps59
        go_wp2_with fail
        refine hd1.mono ?_
        rintro e w ⟨rfl, rfl⟩
        clear hd1
        go_wp2_with fail
        refine hd2.mono ?_
        rintro e w ⟨rfl, rfl⟩
        clear hd2
        go_wp2_with fail
        all_goals (go_ret; exact next_kept hp.out _)
    · have hz2 : n + (k + 1) = s.size := by omega
      have hP := partP_no hE.out (fun h => by rw [data_end s _ (by omega)] at h; cases h.2)
      rw [hP, show (⟨(([] : List UInt8), s.data.toList).1.toArray⟩ : ByteArray) = ⟨#[]⟩ from rfl, show (⟨(([] : List UInt8), s.data.toList).2.toArray⟩ : ByteArray) = s from data_inj (by simp)]
      clear hP
      have e1 : (((n : Int) + ((k : Int) + 1)) == 0) = false := by simp; omega
      have e2 : (((n : Int) + ((k : Int) + 1)) == (s.size : Int)) = true := by simp; omega
      go_enter Tryz.func59, Tryz.ntmps59
      go_wp2_with fail
      refine hd1.mono ?_
      rintro e w ⟨rfl, rfl⟩
      clear hd1
      go_wp2_with fail
      refine hd2.mono ?_
      rintro e w ⟨rfl, rfl⟩
      clear hd2
      go_wp2_with fail
      all_goals (go_ret; exact next_kept hp.out _)
theorem next_d (c : UInt8) (s : ByteArray) (W : World) (p : Nat) (hp : W.heap[p]? = some (.cells #[.string s] 9 (0, 0))) (hs : s.size ≤ 1000) :
    Calls Tryz.prog 59 #[.int .u8 c.toNat, .pointer (some ⟨p, 0, none⟩)] W (NextPost W p ⟨(partP c s.data.toList).1.toArray⟩ ⟨(partP c s.data.toList).2.toArray⟩) := by
  obtain ⟨n, hn⟩ : ∃ n, n = digN s.data.toList := ⟨_, rfl⟩
  obtain ⟨k, hk⟩ : ∃ k, k = digN (s.data.toList.drop (n + 1)) := ⟨_, rfl⟩
  have hnl : n ≤ s.size := by rw [hn, ← list_len]; exact digN_le _
  by_cases h83 : c = 83
  · rcases Nat.eq_zero_or_pos n with h0 | h0
    · exact next1 c s W p n k hp hs hn hk h83 h0
    · rcases Nat.lt_or_ge n s.size with h1 | h1
      · by_cases h46 : s[n] = 46
        · rcases Nat.eq_zero_or_pos k with hk0 | hk0
          · exact next4 c s W p n k hp hs hn hk h83 h0 h1 h46 hk0
          · exact next5 c s W p n k hp hs hn hk h83 h0 h1 h46 hk0
        · exact next3 c s W p n k hp hs hn hk h83 h0 h1 h46
      · exact next2 c s W p n k hp hs hn hk h83 h0 (by omega)
  · exact next0 c s W p n k hp hs hn hk h83
end Go.Proofs.YtjndcehkgfbagaaGreatDoor

namespace Go.Proofs.YtjndcehkgfbagaaGreatDoor
open Go.RowKit NumP DurP Go.Proofs.YtjndcehkgfbagaaGreatDoorW.PrintWords
set_option linter.unusedVariables false

theorem info_str : (Tryz.prog.info? 9).map (fun i => (i.zero, i.size, i.bytes)) = some (some (.string ⟨#[]⟩), 1, 16) := by kernel_rfl
/-- Texts as values. -/
def strsL (l : List (List UInt8)) : List Value := l.map fun p => Value.string ⟨p.toArray⟩
theorem strsL_len (l : List (List UInt8)) : (strsL l).length = l.length := by simp [strsL]
theorem cutP_snoc (c : UInt8) : ∀ (ls : List UInt8) (l : List UInt8), cutP (ls ++ [c]) l = ((cutP ls l).1 ++ [(partP c (cutP ls l).2).1], (partP c (cutP ls l).2).2)
  | [], l => rfl
  | d :: ls, l => by
    have h := cutP_snoc c ls (partP d l).2
    show ((partP d l).1 :: (cutP (ls ++ [c]) (partP d l).2).1, (cutP (ls ++ [c]) (partP d l).2).2) = _
    rw [h]
    rfl
theorem cutP_len : ∀ (ls : List UInt8) (l : List UInt8), (cutP ls l).1.length = ls.length
  | [], l => rfl
  | d :: ls, l => by show ((partP d l).1 :: (cutP ls (partP d l).2).1).length = _; rw [List.length_cons, cutP_len ls]; rfl
theorem partP_rest (c : UInt8) (l : List UInt8) : (partP c l).2.length ≤ l.length := by
  unfold partP
  simp only
  split
  · simp
  · exact Nat.le_refl _
theorem cutP_rest : ∀ (ls : List UInt8) (l : List UInt8), (cutP ls l).2.length ≤ l.length
  | [], l => Nat.le_refl _
  | d :: ls, l => Nat.le_trans (cutP_rest ls _) (partP_rest d l)
structure CutRel (W : World) (ls l : List UInt8) (k : Nat) (v : Value) (wr : World) : Prop where
  own : wr.ownsRow (W.heap.size + 1) 9 1 v k (strsL (cutP (ls.take k) l).1)
  box : wr.heap[W.heap.size]? = some (.cells #[.string ⟨(cutP (ls.take k) l).2.toArray⟩] 9 (0, 0))
  below : Below W.heap.size W wr
theorem CutRel.lt {W : World} {ls l : List UInt8} {k : Nat} {v : Value} {wr : World} (h : CutRel W ls l k v wr) : W.heap.size < wr.heap.size := heap_lt h.box
theorem one_new (w : World) (x : ByteArray) : ∀ j u, [Value.string x][j]? = some u → (w.alloc (.cells #[.string x] 9)).cell? (Addr.add ⟨w.heap.size, 0, none⟩ j) = some u := by
  intro j u h
  cases j with
  | zero =>
    rw [show (Addr.add ⟨w.heap.size, 0, none⟩ 0) = ⟨w.heap.size, 0, none⟩ from rfl, World.cell?_alloc_at _ _ _ _ rfl]
    simpa using h
  | succ j => simp at h
set_option maxHeartbeats 2000000 in
set_option maxRecDepth 100000 in
theorem cut_d (s : ByteArray) (ls : List UInt8) (W : World) (g : Nat) (hg : g < W.heap.size) (hls : ∀ i (h : i < ls.length), W.cell? ⟨g, i, none⟩ = some (.int .u8 (ls[i].toNat : Int))) (hl : ls.length ≤ 10) (hs : s.size ≤ 1000) :
    Calls Tryz.prog 28 #[.string s, .slice (some ⟨g, 0, none⟩) ls.length ls.length] W fun e w' => ∃ v, e = .returned (.tuple #[v, .string ⟨(cutP ls s.data.toList).2.toArray⟩]) ∧
      w'.ownsRow (W.heap.size + 1) 9 1 v ls.length (strsL (cutP ls s.data.toList).1) ∧ Below W.heap.size W w' := by
  obtain ⟨W1, hW1⟩ : ∃ W1, W1 = W.alloc (.cells #[.string s] 9) := ⟨_, rfl⟩
  obtain ⟨q, hq⟩ : ∃ q, q = W.heap.size := ⟨_, rfl⟩
  have hb1 : Below W.heap.size W W1 := by rw [hW1]; exact (Below.refl _ _).alloc (Nat.le_refl _) _
  have hx1 : W1.heap[W.heap.size]? = some (.cells #[.string s] 9 (0, 0)) := by rw [hW1]; exact (MapKept.heap_alloc _ _).1
  obtain ⟨l, hll⟩ : ∃ l, l = s.data.toList := ⟨_, rfl⟩
  have hlen : l.length ≤ 1000 := by rw [hll, list_len]; exact hs
  have hstart : Hid (CutRel W ls l 0 (.slice none 0 0) W1) := Lib.hid ⟨World.ownsRow_nil _ _ _ _, by show W1.heap[W.heap.size]? = some (Obj.cells #[.string ⟨l.toArray⟩] 9 (0, 0)); rw [show (⟨l.toArray⟩ : ByteArray) = s from data_inj (by simp [hll])]; exact hx1, hb1⟩
  obtain ⟨n, hn⟩ : ∃ n, n = ls.length := ⟨_, rfl⟩
  replace hls := Lib.hid hls
  rw [← hll, ← hn]
  rw [← hn] at hl
  replace hn := Lib.hid hn
  replace hll := Lib.hid hll
  obtain ⟨i0, hi, hz0, hz1, hz2⟩ := info_parts info_str
  go_enter Tryz.func28, Tryz.ntmps28
  go_wp2_with fail
  rw [← hW1, ← hq]
  clear hW1 hx1 hb1
  go_loopw [4, 12] (fun v i wr => ∃ k : Nat, i = .int .i64 k ∧ k ≤ n ∧ Hid (CutRel W ls l k v wr)) (fun _ i _ => n - (intOf i).toNat)
  case atStart => exact ⟨0, rfl, Nat.zero_le _, hstart⟩
  case round =>
    obtain ⟨k, rfl, hk, hh⟩ := hrel
    clear hstart
    by_cases hlt : k < n
    · obtain ⟨c, hc⟩ : ∃ c, c = ls[k]'(by rw [← hn.out]; exact hlt) := ⟨_, rfl⟩
      have hcell : wr.cell? ⟨g, k, none⟩ = some (.int .u8 (c.toNat : Int)) := by
        rw [hh.out.below.cell (p := ⟨g, k, none⟩) (by show g < _; exact hg), hls.out k (by rw [← hn.out]; exact hlt), hc]
      obtain ⟨rest, hrest⟩ : ∃ rest, rest = (cutP (ls.take k) l).2 := ⟨_, rfl⟩
      have hbox := hh.out.box
      rw [← hq, ← hrest] at hbox
      have hrl : (⟨rest.toArray⟩ : ByteArray).size ≤ 1000 := by
        rw [← list_len]
        show rest.length ≤ 1000
        rw [hrest]; exact Nat.le_trans (cutP_rest _ _) hlen
      have hnx := next_d c ⟨rest.toArray⟩ wr q hbox hrl
      rw [show (⟨rest.toArray⟩ : ByteArray).data.toList = rest by simp] at hnx
      replace hc := Lib.hid hc
      replace hrest := Lib.hid hrest
      replace hbox := Lib.hid hbox
      replace hq := Lib.hid hq
      go_wp2_with fail
      refine hnx.mono ?_
      rintro e w2 ⟨rfl, hb2, hbl2, hz2', hk2⟩
      clear hnx
      obtain ⟨part, hpart⟩ : ∃ part, part = (partP c rest).1 := ⟨_, rfl⟩
      rw [← hpart]
      replace hpart := Lib.hid hpart
      have ho : w2.ownsRow (q + 1) 9 1 u4 k (strsL (cutP (ls.take k) l).1) := by
        have ho := hh.out.own
        rw [← hq.out] at ho
        refine ho.kept (row := some q) ⟨hbl2.os, hbl2.tape, hbl2.output, hbl2.size, fun j hj hne => hk2 j (fun e => hne (by rw [e]))⟩ (.inr fun e => ?_)
        have := (ho.lt q e).1
        omega
      have hq2 : q < w2.heap.size := heap_lt hb2
      have hbW2 : Hid (Below W.heap.size W w2) := Lib.hid (hh.out.below.trans (hbl2.mono (by rw [hq.out]; exact Nat.le_refl _)))
      clear hbl2 hk2 hz2'
      replace hb2 := Lib.hid hb2
      go_wp2_with (at_builtin; go_loud (refine wpList_append_own _ rfl _ _ 32 rfl (q + 1) 9 i0 (.string ⟨#[]⟩) 1 16 Tryz.underlying32 hi hz0 hz1 hz2 rfl (by decide) _ _ _ rfl (ho.alloc _) ⟨w2.heap.size, 0, none⟩ 1 1 [.string ⟨part.toArray⟩] rfl rfl (one_new _ _) (fun y hy => by simp at hy; subst hy; rfl) (by unfold maxLen; omega) (by omega) (by simp; omega) ?_); intro v' w3 hown' hgrow3 hnil3)
      have htk : ls.take (k + 1) = ls.take k ++ [c] := by
        rw [List.take_add_one, List.getElem?_eq_getElem (by rw [← hn.out]; exact hlt), ← hc.out]; rfl
      have hcp : cutP (ls.take (k + 1)) l = ((cutP (ls.take k) l).1 ++ [part], (partP c rest).2) := by rw [htk, cutP_snoc, ← hrest.out, ← hpart.out]
      have hq3 : w3.heap[q]? = some (.cells #[.string ⟨(partP c rest).2.toArray⟩] 9 (0, 0)) := by
        rw [hgrow3.block q (by simp; omega) (fun e => by have := (ho.lt q e.symm).1; omega), Below.heap_alloc _ _ _ hq2]
        exact hb2.out
      have hb3 : Below W.heap.size W w3 := Below.grown (hbW2.out.alloc hbW2.out.size _) hgrow3 (by have := hbW2.out.size; simp; omega) (fun j hj => by have := (ho.lt _ hj).1; have := hq.out; omega)
      go_roundw
      case rel => exact ⟨k + 1, by simp, by omega, Lib.hid ⟨by rw [hcp, ← hq.out]; simpa [strsL] using hown', by rw [hcp, ← hq.out]; exact hq3, hb3⟩⟩
      case measure => simp [intOf]; omega
    · have hkn : k = n := by omega
      have hbox := hh.out.box
      have hqc : wr.cell? ⟨q, 0, none⟩ = some (.string ⟨(cutP ls l).2.toArray⟩) := by
        rw [hkn, hn.out, List.take_length, ← hq] at hbox
        rw [Lib.cell_of_heap hbox]; rfl
      replace hq := Lib.hid hq
      replace hbox := Lib.hid hbox
      replace hkn := Lib.hid hkn
      obtain ⟨rs, hrs⟩ : ∃ rs, rs = (cutP ls l).2 := ⟨_, rfl⟩
      rw [← hrs] at hqc
      replace hrs := Lib.hid hrs
      go_wp2_with fail
      go_region
      go_wp2_with fail
      go_ret2
      have ho := hh.out.own
      rw [hkn.out] at ho
      rw [show ls.take n = ls by rw [hn.out, List.take_length]] at ho
      exact ⟨u4, by rw [← hrs.out]; rfl, own_below ho (Below.refl _ _).drew, hh.out.below.drew⟩
end Go.Proofs.YtjndcehkgfbagaaGreatDoor

namespace Go.Proofs.YtjndcehkgfbagaaGreatDoor
open Go.RowKit NumP DurP Go.Proofs.YtjndcehkgfbagaaGreatDoorW.PrintWords
set_option linter.unusedVariables false

theorem decFrom_dig : ∀ (l : List UInt8) (n : Nat), (∀ c ∈ l, isDig c = true) → Lib.decFrom n l = some (valF n l)
  | [], n, _ => rfl
  | c :: l, n, h => by
    have h1 := h c (List.mem_cons_self ..)
    have h2 : Lib.digitVal c = some (c.toNat - 48) := by
      simp only [isDig, Bool.and_eq_true, decide_eq_true_eq] at h1
      simp [Lib.digitVal, h1]
    show (match Lib.digitVal c with
      | some d => Lib.decFrom (n * 10 + d) l
      | none => none) = _
    rw [h2]
    show Lib.decFrom (n * 10 + (c.toNat - 48)) l = valF (10 * n + (c.toNat - 48)) l
    rw [Nat.mul_comm n 10]
    exact decFrom_dig l _ fun x hx => h x (List.mem_cons_of_mem _ hx)
theorem atoi_dig (x : List UInt8) (h : ∀ c ∈ x, isDig c = true) : Lib.atoi (48 :: x) = some (valD x : Int) := by
  have h1 : ∀ c ∈ (48 :: x : List UInt8), isDig c = true := fun c hc => by
    rcases List.mem_cons.1 hc with rfl | hc
    · rfl
    · exact h c hc
  show (Lib.decNat (48 :: x)).map (fun (m : Nat) => (m : Int)) = _
  show (Lib.decFrom 0 (48 :: x)).map (fun (m : Nat) => (m : Int)) = _
  rw [decFrom_dig _ _ h1]
  rfl
theorem takeWhile_mem {p : UInt8 → Bool} : ∀ (l : List UInt8), ∀ c ∈ l.takeWhile p, p c = true
  | [], c, h => by simp at h
  | d :: l, c, h => by
    rw [List.takeWhile_cons] at h
    split at h
    · rcases List.mem_cons.1 h with rfl | h
      · assumption
      · exact takeWhile_mem l c h
    · simp at h
theorem take_digN (l : List UInt8) : l.take (digN l) = l.takeWhile isDig := by
  unfold digN
  exact (List.prefix_iff_eq_take.1 (List.takeWhile_prefix (p := isDig))).symm
/-- The bytes of a part are digits, unless it can have a fraction. -/
theorem partP_dig {c : UInt8} (hc : c ≠ 83) (l : List UInt8) : ∀ x ∈ (partP c l).1, isDig x = true := by
  have hE : partEnd c l = digN l := partEnd_no rfl (fun h => hc h.1)
  intro x hx
  by_cases h : 0 < digN l ∧ l[digN l]? = some c
  · rw [partP_yes hE h.1 h.2] at hx
    rw [show ((l.take (digN l), l.drop (digN l + 1)) : List UInt8 × List UInt8).1 = l.take (digN l) from rfl, take_digN] at hx
    exact takeWhile_mem l x hx
  · rw [partP_no hE h] at hx
    simp at hx
theorem partP_len (c : UInt8) (l : List UInt8) : (partP c l).1.length ≤ l.length := by
  unfold partP
  simp only
  split
  · simp; omega
  · simp
theorem trim0_mem (l : List UInt8) : ∀ x ∈ trim0 l, x ∈ l := fun x hx => (List.dropWhile_suffix _).subset hx
theorem join_flat : ∀ (ps : List (List UInt8)), Lib.join ps [] = ps.flatten
  | [] => rfl
  | p :: ps => by
    rw [Lib.join_cons]
    show p ++ (ps.map ([] ++ ·)).flatten = _
    simp
theorem flat_some : ∀ (ps : List (List UInt8)), (ps.flatten == []) = !someP ps
  | [] => rfl
  | p :: ps => by
    have h := flat_some ps
    cases p with
    | nil => simpa [someP] using h
    | cons x p => simp [someP]
set_option maxHeartbeats 1000000 in
set_option maxRecDepth 100000 in
theorem some_d (ps : List (List UInt8)) (n g c : Nat) (W : World) (base : Nat) (ho : W.ownsRow base 9 1 (.slice (some ⟨g, 0, none⟩) n c) n (strsL ps)) (hn : n = ps.length) (hl : ps.length ≤ 100) (hs : ps.flatten.length ≤ 100000) :
    Calls Tryz.prog 29 #[.slice (some ⟨g, 0, none⟩) n c] W fun e w' => e = .returned (.bool (someP ps)) ∧ Below W.heap.size W w' := by
  obtain ⟨xs, hxs⟩ : ∃ xs : List ByteArray, xs = ps.map (fun p => ⟨p.toArray⟩) := ⟨_, rfl⟩
  have hxl : xs.length = n := by rw [hxs, hn]; simp
  have hxd : xs.map (·.data.toList) = ps := by rw [hxs, List.map_map]; simp [Function.comp_def]
  have hcap : n ≤ c := by
    rcases ho.2 with ⟨h, h0⟩ | ⟨g', cap, cur, h, _, _, h4, _⟩
    · omega
    · injection h with _ _ h; omega
  have hce : ∀ (j : Nat) (x : ByteArray), xs[j]? = some x → W.cell? ⟨g, 0 + j, none⟩ = some (.string x) := fun j x hx => by
    have hs2 : (strsL ps)[j]? = some (.string x) := by
      rw [hxs, List.getElem?_map] at hx
      rw [strsL, List.getElem?_map]
      cases hp : ps[j]? with
      | none => rw [hp] at hx; cases hx
      | some p => rw [hp] at hx; injection hx with hx; rw [← hx]; rfl
    have h2 := ho.cells (g := g) rfl j (.string x) hs2
    rw [show (⟨g, 0 + j, none⟩ : Addr) = (⟨g, 0, none⟩ : Addr).add j by cases j <;> simp [Addr.add]]
    exact h2
  have hlt := (ho.lt g rfl).2
  have h14 : xs.length ≤ 140737488355328 := by omega
  have hjl : (Lib.join (xs.map (·.data.toList)) (⟨#[]⟩ : ByteArray).data.toList).length ≤ 140737488355328 := by
    rw [hxd, show (⟨#[]⟩ : ByteArray).data.toList = [] from rfl, join_flat]; omega
  have hcc : xs.length ≤ c := by omega
  have hj := Tryz.strings_Join g 0 c xs ⟨#[]⟩ W hce hlt h14 hcc hjl
  rw [hxl, hxd, show (⟨#[]⟩ : ByteArray).data.toList = [] from rfl, join_flat] at hj
  obtain ⟨z, hz⟩ : ∃ z : ByteArray, z = ⟨ps.flatten.toArray⟩ := ⟨_, rfl⟩
  have hzl : (z.toList == []) = !someP ps := by rw [ByteArray.toList_eq, hz]; simpa using flat_some ps
  rw [← hz] at hj
  replace hz := Lib.hid hz
  replace ho := Lib.hid ho
  clear hce hlt h14 hjl hcc hcap hxs hxl hxd hl hs hn
  obtain ⟨b, hb⟩ : ∃ b, b = someP ps := ⟨_, rfl⟩
  rw [← hb] at hzl ⊢
  clear hb
  go_enter Tryz.func29, Tryz.ntmps29
  go_wp2_with fail
  refine hj.mono ?_
  rintro e w ⟨rfl, hb1⟩
  clear hj
  go_wp2_with fail
  go_ret
  exact ⟨rfl, hb1⟩
end Go.Proofs.YtjndcehkgfbagaaGreatDoor

namespace Go.Proofs.YtjndcehkgfbagaaGreatDoor
open Go.RowKit NumP DurP Go.Proofs.YtjndcehkgfbagaaGreatDoorW.PrintWords
set_option linter.unusedVariables false

theorem has_one (l : List UInt8) (c : UInt8) : Lib.hasPrefix l [c] = (l.head? == some c) := by
  unfold Lib.hasPrefix
  cases l with
  | nil => rfl
  | cons b l => simp [List.isPrefixOf, Bool.beq_comm]
theorem trim_if (l : List UInt8) (c : UInt8) : Lib.trimPrefix l [c] = if (l.head? == some c) = true then l.drop 1 else l := by
  rw [trim_one]
  by_cases h : l.head? = some c
  · rw [if_pos h, if_pos (by simp [h])]
  · rw [if_neg h, if_neg (by simpa using h)]
/-- What ParseMonths and ParseSeconds return. -/
def IntPost (W : World) (r : Int × Int) (e : Ending) (w' : World) : Prop := e = .returned (.tuple #[.int .i64 r.1, .int .i64 r.2]) ∧ Below W.heap.size W w'
/-- The months of two parts. -/
def monthsR (mi ok : Bool) (Y M R : List UInt8) : Int × Int :=
  if ok = false ∨ R ≠ [] ∨ someP [Y, M] = false then (0, 5) else
    if 11 < (trim0 Y).length ∨ 11 < (trim0 M).length then (0, 6) else
      if most < 12 * (valD (trim0 Y) : Int) + (valD (trim0 M) : Int) then (0, 6) else (if mi then -(12 * (valD (trim0 Y) : Int) + (valD (trim0 M) : Int)) else 12 * (valD (trim0 Y) : Int) + (valD (trim0 M) : Int), 0)
theorem monthsP_eq {l b1 b2 Y M R : List UInt8} {mi ok : Bool} (hl : ¬ 200 < l.length) (h1 : mi = (l.head? == some 45)) (h2 : b1 = if mi = true then l.drop 1 else l) (h3 : ok = (b1.head? == some 80)) (h4 : b2 = if ok = true then b1.drop 1 else b1)
    (h5 : cutP [89, 77] b2 = ([Y, M], R)) : monthsP l = monthsR mi ok Y M R := by
  unfold monthsP
  rw [if_neg hl]
  simp only [← h1, ← h2, ← h3, ← h4, h5]
  rfl
theorem cut2 (b : List UInt8) : cutP [89, 77] b = ([(partP 89 b).1, (partP 77 (partP 89 b).2).1], (partP 77 (partP 89 b).2).2) := rfl
theorem trim0_len (l : List UInt8) : (trim0 l).length ≤ l.length := (List.dropWhile_suffix _).length_le
theorem valD_11 {x : List UInt8} (h : ∀ c ∈ x, isDig c = true) (hl : x.length ≤ 11) : valD x < 100000000000 := Nat.lt_of_lt_of_le (valD_lt x h) (by
  have : (10 : Nat) ^ x.length ≤ 10 ^ 11 := Nat.pow_le_pow_right (by decide) hl
  omega)
set_option maxRecDepth 100000 in
/-- One number of the loop. -/
theorem atoi_zero (x : ByteArray) (h : ∀ c ∈ x.data.toList, isDig c = true) (hl : x.size ≤ 11) (w : World) :
    Calls Tryz.prog 31 #[.string (⟨#[48]⟩ ++ x)] w fun e w' => e = .returned (.tuple #[.int .i64 (valD x.data.toList : Int), .nilIface]) ∧ Below w.heap.size w w' := by
  have hd : (⟨#[48]⟩ ++ x : ByteArray).data.toList = 48 :: x.data.toList := by rw [ByteArray.data_append]; simp
  obtain ⟨z, hz⟩ : ∃ z, z = (⟨#[48]⟩ ++ x : ByteArray) := ⟨_, rfl⟩
  obtain ⟨n, hn⟩ : ∃ n, n = valD x.data.toList := ⟨_, rfl⟩
  have hzs : z.size ≤ 18 := by
    rw [hz, ByteArray.size_append]
    have : (⟨#[48]⟩ : ByteArray).size = 1 := rfl
    omega
  have hza : Lib.atoi z.data.toList = some (n : Int) := by rw [hz, hd, hn]; exact atoi_dig _ h
  rw [← hz, ← hn]
  clear hz hn hd
  refine (Tryz.strconv_Atoi z (n : Int) hzs hza w).mono ?_
  rintro e w' ⟨rfl, t, rfl⟩
  exact ⟨rfl, ⟨rfl, rfl, rfl, by rw [Lib.bytesWorld_size]; omega, fun k hk => Lib.bytesWorld_at_old w 5 t k hk⟩⟩
set_option maxHeartbeats 2000000 in
set_option maxRecDepth 100000 in
theorem months_long (s : ByteArray) (W : World) (hs : s.size ≤ maxLen) (h : 200 < s.size) : Calls Tryz.prog 13 #[.string s] W (IntPost W (monthsP s.data.toList)) := by
  unfold maxLen at hs
  have hR : Hid (monthsP s.data.toList = (0, 2)) := Lib.hid (by unfold monthsP; rw [if_pos (by rw [list_len]; exact h)])
  have h1 : (s.size : Int) > 200 := by omega
  go_enter Tryz.func13, Tryz.ntmps13
  go_wp2_with fail
  go_ret2
  exact ⟨by rw [hR.out]; rfl, Below.refl _ _⟩
set_option maxHeartbeats 2000000 in
set_option maxRecDepth 100000 in
theorem months_d (s : ByteArray) (W : World) (hs : ¬ 200 < s.size) : Calls Tryz.prog 13 #[.string s] W (IntPost W (monthsP s.data.toList)) := by
  have hp1 := (Tryz.strings_CutPrefix s ⟨#[45]⟩ W).mono (fun e w' h => (⟨h.1, h.2.symm⟩ : _ ∧ W = w'))
  rw [show (⟨#[45]⟩ : ByteArray).data.toList = [45] from rfl, has_one, trim_if] at hp1
  obtain ⟨mi, hmi⟩ : ∃ mi, mi = (s.data.toList.head? == some 45) := ⟨_, rfl⟩
  obtain ⟨b1, hb1⟩ : ∃ b1, b1 = (if mi = true then s.data.toList.drop 1 else s.data.toList) := ⟨_, rfl⟩
  rw [← hmi, ← hb1] at hp1
  have hb1l : b1.length ≤ 200 := by
    have : s.data.toList.length ≤ 200 := by rw [list_len]; omega
    rw [hb1]; split
    · rw [List.length_drop]; omega
    · exact this
  obtain ⟨B1, hB1⟩ : ∃ B1 : ByteArray, B1 = ⟨b1.toArray⟩ := ⟨_, rfl⟩
  have hB1d : B1.data.toList = b1 := by rw [hB1]
  have hp2 := (Tryz.strings_CutPrefix B1 ⟨#[80]⟩ W).mono (fun e w' h => (⟨h.1, h.2.symm⟩ : _ ∧ W = w'))
  rw [show (⟨#[80]⟩ : ByteArray).data.toList = [80] from rfl, has_one, trim_if, hB1d] at hp2
  rw [← hB1] at hp1
  obtain ⟨ok, hok⟩ : ∃ ok, ok = (b1.head? == some 80) := ⟨_, rfl⟩
  obtain ⟨b2, hb2⟩ : ∃ b2, b2 = (if ok = true then b1.drop 1 else b1) := ⟨_, rfl⟩
  rw [← hok, ← hb2] at hp2
  have hb2l : b2.length ≤ 200 := by
    rw [hb2]; split
    · rw [List.length_drop]; omega
    · exact hb1l
  obtain ⟨B2, hB2⟩ : ∃ B2 : ByteArray, B2 = ⟨b2.toArray⟩ := ⟨_, rfl⟩
  have hB2d : B2.data.toList = b2 := by rw [hB2]
  rw [← hB2] at hp2
  obtain ⟨Y, hY⟩ : ∃ Y, Y = (partP 89 b2).1 := ⟨_, rfl⟩
  obtain ⟨M, hM⟩ : ∃ M, M = (partP 77 (partP 89 b2).2).1 := ⟨_, rfl⟩
  obtain ⟨R, hR⟩ : ∃ R, R = (partP 77 (partP 89 b2).2).2 := ⟨_, rfl⟩
  have h5 : cutP [89, 77] b2 = ([Y, M], R) := by rw [cut2, ← hY, ← hM, ← hR]
  have hres : Hid (monthsP s.data.toList = monthsR mi ok Y M R) := Lib.hid (monthsP_eq (by rw [list_len]; exact hs) hmi hb1 hok hb2 h5)
  have hYd : Hid (∀ c ∈ trim0 Y, isDig c = true) := Lib.hid (fun c hc => partP_dig (c := 89) (by decide) b2 c (by rw [← hY]; exact trim0_mem _ c hc))
  have hMd : Hid (∀ c ∈ trim0 M, isDig c = true) := Lib.hid (fun c hc => partP_dig (c := 77) (by decide) (partP 89 b2).2 c (by rw [← hM]; exact trim0_mem _ c hc))
  have hYl : Y.length ≤ 200 := by rw [hY]; exact Nat.le_trans (partP_len _ _) hb2l
  have hMl : M.length ≤ 200 := by rw [hM]; exact Nat.le_trans (partP_len _ _) (Nat.le_trans (partP_rest _ _) hb2l)
  -- the letters
  obtain ⟨W1, hW1⟩ : ∃ W1, W1 = W.alloc (.cells #[.int .u8 89, .int .u8 77] 5) := ⟨_, rfl⟩
  have hbe1 : Below W.heap.size W W1 := by rw [hW1]; exact (Below.refl _ _).alloc (Nat.le_refl _) _
  have hx1 : W1.heap[W.heap.size]? = some (.cells #[.int .u8 89, .int .u8 77] 5 (0, 0)) := by rw [hW1]; exact (MapKept.heap_alloc _ _).1
  have hcu := cut_d B2 [89, 77] W1 W.heap.size (heap_lt hx1) (fun i h => by
    rw [Lib.cell_of_heap hx1]
    match i, h with
    | 0, _ => rfl
    | 1, _ => rfl) (by decide) (by rw [← list_len, hB2d]; omega)
  rw [hB2d, h5] at hcu
  clear hB1d hB2d hY hM hR h5 hb1l hb2l hmi hb1 hok hb2 hB1 hB2 hx1
  have h0 : ¬ ((s.size : Int) > 200) := by omega
  clear hs
  go_enter Tryz.func13, Tryz.ntmps13
  go_wp2_with fail
  refine hp1.mono ?_
  rintro e w ⟨rfl, rfl⟩
  clear hp1
  go_wp2_with fail
  refine hp2.mono ?_
  rintro e w ⟨rfl, rfl⟩
  clear hp2
  go_wp2_with fail
  rw [← hW1]
  refine hcu.mono ?_
  rintro e w2 ⟨v, rfl, ho, hbe2⟩
  clear hcu
  obtain ⟨g, cap, rfl⟩ := own_form1 ho (by decide)
  have hbW2 : Hid (Below W.heap.size W w2) := Lib.hid (hbe1.trans (hbe2.mono hbe1.size))
  have hso := some_d [Y, M] 2 g cap w2 _ ho rfl (by simp) (by simp; omega)
  obtain ⟨RB, hRB⟩ : ∃ RB : ByteArray, RB = ⟨R.toArray⟩ := ⟨_, rfl⟩
  have hRl : RB.toList = R := by rw [hRB, ByteArray.toList_mk]
  rw [← hRB]
  replace hRB := Lib.hid hRB
  replace ho := Lib.hid ho
  clear hbe1 hbe2 hW1
  obtain ⟨sm, hsm⟩ : ∃ sm, sm = someP [Y, M] := ⟨_, rfl⟩
  rw [← hsm] at hso
  cases ok with
  | false =>
    have hQ : Hid (monthsR mi false Y M R = (0, 5)) := Lib.hid (by unfold monthsR; rw [if_pos (.inl rfl)])
    clear hRl hso hsm
    go_wp2_with fail
    go_ret2
    exact ⟨by rw [hres.out, hQ.out]; rfl, hbW2.out⟩
  | true =>
    by_cases hRe : R = []
    · have g1 : (RB.toList == []) = true := by rw [hRl, hRe]; rfl
      clear hRl
      cases sm with
      | false =>
        have hQ : Hid (monthsR mi true Y M R = (0, 5)) := Lib.hid (by unfold monthsR; rw [if_pos (.inr (.inr hsm.symm))])
        replace hsm := Lib.hid hsm
        replace hRe := Lib.hid hRe
        go_wp2_with fail
        refine hso.mono ?_
        rintro e w3 ⟨rfl, hb3⟩
        clear hso
        go_wp2_with fail
        go_ret2
        exact ⟨by rw [hres.out, hQ.out]; rfl, hbW2.out.trans (hb3.mono hbW2.out.size)⟩
      | true =>
        have hQ : Hid (monthsR mi true Y M R = if 11 < (trim0 Y).length ∨ 11 < (trim0 M).length then (0, 6) else
            if most < 12 * (valD (trim0 Y) : Int) + (valD (trim0 M) : Int) then (0, 6) else (if mi then -(12 * (valD (trim0 Y) : Int) + (valD (trim0 M) : Int)) else 12 * (valD (trim0 Y) : Int) + (valD (trim0 M) : Int), 0)) := Lib.hid (by
          unfold monthsR
          rw [if_neg]
          rintro (h | h | h)
          · cases h
          · exact h hRe
          · rw [← hsm] at h; cases h)
        replace hsm := Lib.hid hsm
        replace hRe := Lib.hid hRe
        go_wp2_with fail
        refine hso.mono ?_
        rintro e w3 ⟨rfl, hb3⟩
        clear hso
        have hb03 := Lib.hid (hbW2.out.trans (hb3.mono hbW2.out.size))
        have ho3 := Lib.hid (own_below ho.out hb3)
        clear hb3
        go_wp2_with fail
        obtain ⟨W4, hW4⟩ : ∃ W4, W4 = w3.alloc (.cells #[.int .i64 12, .int .i64 1] 3) := ⟨_, rfl⟩
        obtain ⟨h, hh⟩ : ∃ h, h = w3.heap.size := ⟨_, rfl⟩
        rw [← hW4, ← hh]
        have hb4 : Below w3.heap.size w3 W4 := by rw [hW4]; exact (Below.refl _ _).alloc (Nat.le_refl _) _
        have hx4 : W4.heap[h]? = some (.cells #[.int .i64 12, .int .i64 1] 3 (0, 0)) := by rw [hW4, hh]; exact (MapKept.heap_alloc _ _).1
        have hb04 := Lib.hid (hb03.out.trans (hb4.mono hb03.out.size))
        have ho4 := own_below ho3.out hb4
        have hg4 := Lib.hid (ho4.lt g rfl).2
        have hh4 := Lib.hid (heap_lt hx4)
        have hc0 : Hid (W4.cell? ⟨g, 0, none⟩ = some (.string ⟨Y.toArray⟩)) := Lib.hid (by rw [ho4.cellAt 0 (by decide)]; rfl)
        have hc1 : Hid (W4.cell? ⟨g, 1, none⟩ = some (.string ⟨M.toArray⟩)) := Lib.hid (by rw [ho4.cellAt 1 (by decide)]; rfl)
        have ht0 : Hid (W4.cell? ⟨h, 0, none⟩ = some (.int .i64 12)) := Lib.hid (by rw [Lib.cell_of_heap hx4]; rfl)
        have ht1 : Hid (W4.cell? ⟨h, 1, none⟩ = some (.int .i64 1)) := Lib.hid (by rw [Lib.cell_of_heap hx4]; rfl)
        clear hW4 hb4 hx4 ho4 hh
        obtain ⟨y, hy⟩ : ∃ y : ByteArray, y = ⟨(trim0 Y).toArray⟩ := ⟨_, rfl⟩
        obtain ⟨m, hm⟩ : ∃ m : ByteArray, m = ⟨(trim0 M).toArray⟩ := ⟨_, rfl⟩
        have hyd : y.data.toList = trim0 Y := by rw [hy]
        have hmd : m.data.toList = trim0 M := by rw [hm]
        have hty : Hid (∀ w, Calls Tryz.prog 30 #[.string ⟨Y.toArray⟩, .string ⟨#[48]⟩] w fun e w' => e = .returned (.string y) ∧ w = w') := Lib.hid (fun w => (Tryz.strings_TrimLeft_one ⟨Y.toArray⟩ 48 (by decide) w).mono (fun e w' h => ⟨by rw [h.1, hy]; rfl, h.2.symm⟩))
        have htm : Hid (∀ w, Calls Tryz.prog 30 #[.string ⟨M.toArray⟩, .string ⟨#[48]⟩] w fun e w' => e = .returned (.string m) ∧ w = w') := Lib.hid (fun w => (Tryz.strings_TrimLeft_one ⟨M.toArray⟩ 48 (by decide) w).mono (fun e w' h => ⟨by rw [h.1, hm]; rfl, h.2.symm⟩))
        have hys : y.size ≤ 200 := by rw [← list_len, hyd]; exact Nat.le_trans (trim0_len _) hYl
        have hms : m.size ≤ 200 := by rw [← list_len, hmd]; exact Nat.le_trans (trim0_len _) hMl
        obtain ⟨vy, hvy⟩ : ∃ vy, vy = valD y.data.toList := ⟨_, rfl⟩
        obtain ⟨vm, hvm⟩ : ∃ vm, vm = valD m.data.toList := ⟨_, rfl⟩
        have hay : Hid (y.size ≤ 11 → vy < 100000000000 ∧ ∀ w, Calls Tryz.prog 31 #[.string (⟨#[48]⟩ ++ y)] w fun e w' => e = .returned (.tuple #[.int .i64 (vy : Int), .nilIface]) ∧ Below w.heap.size w w') := Lib.hid (fun h => ⟨by rw [hvy]; exact valD_11 (by rw [hyd]; exact hYd.out) (by rw [list_len]; exact h), fun w => by rw [hvy]; exact atoi_zero y (by rw [hyd]; exact hYd.out) h w⟩)
        have ham : Hid (m.size ≤ 11 → vm < 100000000000 ∧ ∀ w, Calls Tryz.prog 31 #[.string (⟨#[48]⟩ ++ m)] w fun e w' => e = .returned (.tuple #[.int .i64 (vm : Int), .nilIface]) ∧ Below w.heap.size w w') := Lib.hid (fun h => ⟨by rw [hvm]; exact valD_11 (by rw [hmd]; exact hMd.out) (by rw [list_len]; exact h), fun w => by rw [hvm]; exact atoi_zero m (by rw [hmd]; exact hMd.out) h w⟩)
        have hF : Hid (monthsP s.data.toList = if 11 < y.size ∨ 11 < m.size then (0, 6) else if most < 12 * (vy : Int) + (vm : Int) then (0, 6) else (if mi then -(12 * (vy : Int) + (vm : Int)) else 12 * (vy : Int) + (vm : Int), 0)) := Lib.hid (by
          rw [hres.out, hQ.out, hvy, hvm, hyd, hmd, ← list_len y, ← list_len m, hyd, hmd])
        have hky : (9223372036854775807 < 1 + y.size) = False := eq_false (by omega)
        have hkm : (9223372036854775807 < 1 + m.size) = False := eq_false (by omega)
        clear hyd hmd hvy hvm hy hm hYd hMd hYl hMl hQ hres
        go_loopw [9, 47] (fun nv i wr => ∃ k a : Nat, nv = .int .i64 a ∧ i = .int .i64 k ∧ k ≤ 2 ∧ Hid ((k = 0 → a = 0) ∧ (1 ≤ k → y.size ≤ 11) ∧ (k = 1 → a = 12 * vy) ∧ (k = 2 → m.size ≤ 11 ∧ a = 12 * vy + vm)) ∧ Hid (Below W4.heap.size W4 wr)) (fun _ i _ => 2 - (intOf i).toNat)
        case atStart => exact ⟨0, 0, rfl, rfl, by decide, Lib.hid ⟨fun _ => rfl, fun h => by omega, fun h => by omega, fun h => by omega⟩, Lib.hid (Below.refl _ _)⟩
        case round =>
          obtain ⟨k, a, rfl, rfl, hk, hka, hbr⟩ := hrel
          have hb0r := Lib.hid (hb04.out.trans (hbr.out.mono hb04.out.size))
          have hk3 : k = 0 ∨ k = 1 ∨ k = 2 := by omega
          rcases hk3 with rfl | rfl | rfl
          · have ha := hka.out.1 rfl
            subst ha
            have q0 : wr.cell? ⟨g, 0, none⟩ = some (.string ⟨Y.toArray⟩) := (hbr.out.cell (p := ⟨g, 0, none⟩) hg4.out).trans hc0.out
            have q1 : wr.cell? ⟨h, 0, none⟩ = some (.int .i64 12) := (hbr.out.cell (p := ⟨h, 0, none⟩) hh4.out).trans ht0.out
            go_wp2_with fail
            refine (hty.out _).mono ?_
            rintro e w' ⟨rfl, rfl⟩
            by_cases hy11 : y.size ≤ 11
            · have g2 : ¬ ((y.size : Int) > 11) := by omega
              obtain ⟨hv, hat⟩ := hay.out hy11
              replace hat := Lib.hid hat
              go_wp2_with fail
              refine (hat.out _).mono ?_
              rintro e w5 ⟨rfl, hb5⟩
              go_wp2_with fail
              exact ⟨⟨1, 12 * vy, by simp, rfl, by decide, Lib.hid ⟨fun h => by omega, fun _ => hy11, fun _ => rfl, fun h => by omega⟩, Lib.hid (hbr.out.trans (hb5.mono hbr.out.size))⟩, by simp [intOf]⟩
            · have g2 : (y.size : Int) > 11 := by omega
              go_wp2_with fail
              go_ret2
              exact ⟨by rw [hF.out, if_pos (.inl (by omega))]; rfl, hb0r.out⟩
          · have ha := hka.out.2.2.1 rfl
            have hy11 := hka.out.2.1 (by decide)
            have hvy := (hay.out hy11).1
            subst ha
            have q0 : wr.cell? ⟨g, 1, none⟩ = some (.string ⟨M.toArray⟩) := (hbr.out.cell (p := ⟨g, 1, none⟩) hg4.out).trans hc1.out
            have q1 : wr.cell? ⟨h, 1, none⟩ = some (.int .i64 1) := (hbr.out.cell (p := ⟨h, 1, none⟩) hh4.out).trans ht1.out
            go_wp2_with fail
            refine (htm.out _).mono ?_
            rintro e w' ⟨rfl, rfl⟩
            by_cases hm11 : m.size ≤ 11
            · have g2 : ¬ ((m.size : Int) > 11) := by omega
              obtain ⟨hv, hat⟩ := ham.out hm11
              replace hat := Lib.hid hat
              go_wp2_with fail
              refine (hat.out _).mono ?_
              rintro e w5 ⟨rfl, hb5⟩
              go_wp2_with fail
              exact ⟨⟨2, 12 * vy + vm, by simp, rfl, by decide, Lib.hid ⟨fun h => by omega, fun _ => hy11, fun h => by omega, fun _ => ⟨hm11, rfl⟩⟩, Lib.hid (hbr.out.trans (hb5.mono hbr.out.size))⟩, by simp [intOf]⟩
            · have g2 : (m.size : Int) > 11 := by omega
              go_wp2_with fail
              go_ret2
              exact ⟨by rw [hF.out, if_pos (.inr (by omega))]; rfl, hb0r.out⟩
          · obtain ⟨hm11, ha⟩ := hka.out.2.2.2 rfl
            have hy11 := hka.out.2.1 (by decide)
            have hvy := (hay.out hy11).1
            have hvm := (ham.out hm11).1
            have hc : Hid (monthsP s.data.toList = if most < (a : Int) then (0, 6) else (if mi then -(a : Int) else (a : Int), 0)) := Lib.hid (by
              rw [hF.out, if_neg (by omega), ha]
              have : ((12 * vy + vm : Nat) : Int) = 12 * (vy : Int) + (vm : Int) := by omega
              rw [this])
            have hal : a < 10000000000000 := by omega
            replace ha := Lib.hid ha
            by_cases hmo : (a : Int) > 9999999999
            · have hv : Hid (monthsP s.data.toList = (0, 6)) := Lib.hid (by rw [hc.out, if_pos (by unfold most; omega)])
              go_wp2_with fail
              go_ret2
              exact ⟨by rw [hv.out]; rfl, hb0r.out⟩
            · have hv : Hid (monthsP s.data.toList = (if mi then -(a : Int) else (a : Int), 0)) := Lib.hid (by rw [hc.out, if_neg (by unfold most; omega)])
              cases mi with
              | false =>
                go_wp2_with fail
                go_ret2
                exact ⟨by rw [hv.out]; rfl, hb0r.out⟩
              | true =>
                go_wp2_with fail
                go_ret2
                exact ⟨by rw [hv.out]; rfl, hb0r.out⟩
    · have g1 : (RB.toList == []) = false := by rw [hRl]; simpa using hRe
      have hQ : Hid (monthsR mi true Y M R = (0, 5)) := Lib.hid (by unfold monthsR; rw [if_pos (.inr (.inl hRe))])
      clear hRl hso hsm
      replace hRe := Lib.hid hRe
      go_wp2_with fail
      go_ret2
      exact ⟨by rw [hres.out, hQ.out]; rfl, hbW2.out⟩
theorem ParseMonths_d (s : ByteArray) (W : World) (hs : s.size ≤ maxLen) : Calls Tryz.prog 13 #[.string s] W (IntPost W (monthsP s.data.toList)) := by
  by_cases h : 200 < s.size
  · exact months_long s W hs h
  · exact months_d s W h
end Go.Proofs.YtjndcehkgfbagaaGreatDoor

namespace Go.Proofs.YtjndcehkgfbagaaGreatDoor
open Go.RowKit NumP DurP Go.Proofs.YtjndcehkgfbagaaGreatDoorW.PrintWords
set_option linter.unusedVariables false

theorem decF_eq : ∀ (f n : Nat), n < 10 ^ (f + 1) → decF f n = Lib.decDigits n
  | 0, n, h => by
    rw [Lib.decDigits, dif_pos (by simpa using h)]; rfl
  | f + 1, n, h => by
    unfold decF
    by_cases h10 : n < 10
    · rw [if_pos h10, Lib.decDigits, dif_pos h10]
    · rw [if_neg h10, Lib.decDigits, dif_neg h10, decF_eq f (n / 10) (by rw [Nat.pow_succ] at h; omega)]
theorem decP_eq {n : Nat} (h : n < 1000000000000000000000) : decP n = Lib.decDigits n := decF_eq 20 n h
theorem decF_len : ∀ (f n : Nat), (decF f n).length ≤ f + 1
  | 0, n => Nat.le_refl _
  | f + 1, n => by
    unfold decF
    split
    · simp
    · have := decF_len f (n / 10)
      simp; omega
/-- strconv.Itoa, wherever the library's table stands. -/
def ItoaIn (W : World) : Prop := ∀ w, Below W.heap.size W w → ∀ n : Nat, n < 1000000000000000000 → Calls Tryz.prog 36 #[.int .i64 (n : Int)] w fun e w' => e = .returned (.string ⟨(decP n).toArray⟩) ∧ Below w.heap.size w w'
theorem mk_app (a b : List UInt8) : (⟨(a ++ b).toArray⟩ : ByteArray) = ⟨a.toArray⟩ ++ ⟨b.toArray⟩ := data_inj (by rw [ByteArray.data_append]; simp)
/-- The text of k months behind a sign. -/
def monthsT (P : List UInt8) (k : Nat) : List UInt8 := P ++ ((if 12 ≤ k then decP (k / 12) ++ [89] else []) ++ (if k % 12 ≠ 0 then decP (k % 12) ++ [77] else []))
theorem textMP_pos {k : Nat} (h0 : 0 < k) (hk : (k : Int) ≤ 9999999999) : textMP k = (monthsT [80] k, 0) := by
  unfold textMP most monthsT
  rw [if_neg (by omega), if_neg (by omega), if_neg (show ¬ ((k : Int) < 0) by omega), Int.natAbs_natCast]
  simp only [List.append_assoc]
theorem textMP_neg {k : Nat} (h0 : 0 < k) (hk : (k : Int) ≤ 9999999999) : textMP (-(k : Int)) = (monthsT [45, 80] k, 0) := by
  unfold textMP most monthsT
  rw [if_neg (by omega), if_neg (by omega), if_pos (show (-(k : Int) < 0) by omega), Int.natAbs_neg, Int.natAbs_natCast]
  simp only [List.append_assoc]
set_option maxHeartbeats 2000000 in
set_option maxRecDepth 100000 in
theorem text_pos (k : Nat) (W : World) (hI : ItoaIn W) (h0 : 0 < k) (hk : (k : Int) ≤ 9999999999) : Calls Tryz.prog 16 #[.int .i64 ((k : Int))] W (StrPost W (textMP ((k : Int)))) := by
  obtain ⟨A, hA⟩ : ∃ A : ByteArray, A = ⟨(decP (k / 12)).toArray⟩ := ⟨_, rfl⟩
  obtain ⟨B, hB⟩ : ∃ B : ByteArray, B = ⟨(decP (k % 12)).toArray⟩ := ⟨_, rfl⟩
  have hAs : A.size ≤ 21 := by rw [← list_len, hA]; exact decF_len 20 _
  have hBs : B.size ≤ 21 := by rw [← list_len, hB]; exact decF_len 20 _
  have hia : ∀ w, Below W.heap.size W w → Calls Tryz.prog 36 #[.int .i64 ((k : Int) / 12)] w fun e w' => e = .returned (.string A) ∧ Below w.heap.size w w' := fun w hb => by rw [hA, show (k : Int) / 12 = ((k / 12 : Nat) : Int) by omega]; exact hI w hb _ (by omega)
  have hib : ∀ w, Below W.heap.size W w → Calls Tryz.prog 36 #[.int .i64 ((k : Int) % 12)] w fun e w' => e = .returned (.string B) ∧ Below w.heap.size w w' := fun w hb => by rw [hB, show (k : Int) % 12 = ((k % 12 : Nat) : Int) by omega]; exact hI w hb _ (by omega)
  have h1 : ¬ ((k : Int) < -9999999999) := by omega
  have h2 : ¬ ((k : Int) > 9999999999) := by omega
  have h3 : ((k : Int) == 0) = false := by simp; omega
  have h4 : ¬ ((k : Int) < 0) := by omega
  replace hA := Lib.hid hA
  replace hB := Lib.hid hB
  replace hia := Lib.hid hia
  replace hib := Lib.hid hib
  have e1 : (9223372036854775807 < A.size + 1) = False := eq_false (by omega)
  have e2 : (9223372036854775807 < 1 + (A.size + 1)) = False := eq_false (by omega)
  have e3 : (9223372036854775807 < B.size + 1) = False := eq_false (by omega)
  have e4 : (9223372036854775807 < 1 + (B.size + 1)) = False := eq_false (by omega)
  have e5 : (9223372036854775807 < 1 + (A.size + 1) + (B.size + 1)) = False := eq_false (by omega)
  clear hAs hBs
  by_cases h12 : (k : Int) ≥ 12
  · by_cases hr : (k : Int) % 12 = 0
    · have hr' : ((k : Int) % 12 == 0) = true := by simpa using hr
      go_enter Tryz.func16, Tryz.ntmps16
      go_wp2_with fail
      refine (hia.out _ (Below.refl _ _)).mono ?_
      rintro e w1 ⟨rfl, hb1⟩
      go_wp2_with fail
      have hv : textMP ((k : Int)) = (monthsT [80] k, 0) := textMP_pos h0 hk
      go_ret2
      exact ⟨by rw [hv]; unfold monthsT; rw [if_pos (by omega), if_neg (show ¬ (k % 12 ≠ 0) by omega), List.append_nil, mk_app, mk_app, ← hA.out]; rfl, hb1⟩
    · have hr' : ((k : Int) % 12 == 0) = false := by simpa using hr
      go_enter Tryz.func16, Tryz.ntmps16
      go_wp2_with fail
      refine (hia.out _ (Below.refl _ _)).mono ?_
      rintro e w1 ⟨rfl, hb1⟩
      go_wp2_with fail
      refine (hib.out _ hb1).mono ?_
      rintro e w2 ⟨rfl, hb2⟩
      go_wp2_with fail
      have hv : textMP ((k : Int)) = (monthsT [80] k, 0) := textMP_pos h0 hk
      go_ret2
      exact ⟨by rw [hv]; unfold monthsT; rw [if_pos (by omega), if_pos (show k % 12 ≠ 0 by omega), ← List.append_assoc, mk_app, mk_app, mk_app, mk_app, ← hA.out, ← hB.out]; rfl, hb1.trans (hb2.mono hb1.size)⟩
  · have hr' : ((k : Int) % 12 == 0) = false := by simp; omega
    go_enter Tryz.func16, Tryz.ntmps16
    go_wp2_with fail
    refine (hib.out _ (Below.refl _ _)).mono ?_
    rintro e w2 ⟨rfl, hb2⟩
    go_wp2_with fail
    have hv : textMP ((k : Int)) = (monthsT [80] k, 0) := textMP_pos h0 hk
    go_ret2
    exact ⟨by rw [hv]; unfold monthsT; rw [if_neg (by omega), if_pos (show k % 12 ≠ 0 by omega), List.nil_append, mk_app, mk_app, ← hB.out]; rfl, hb2⟩
set_option maxHeartbeats 2000000 in
set_option maxRecDepth 100000 in
theorem text_neg (k : Nat) (W : World) (hI : ItoaIn W) (h0 : 0 < k) (hk : (k : Int) ≤ 9999999999) : Calls Tryz.prog 16 #[.int .i64 (-(k : Int))] W (StrPost W (textMP (-(k : Int)))) := by
  obtain ⟨A, hA⟩ : ∃ A : ByteArray, A = ⟨(decP (k / 12)).toArray⟩ := ⟨_, rfl⟩
  obtain ⟨B, hB⟩ : ∃ B : ByteArray, B = ⟨(decP (k % 12)).toArray⟩ := ⟨_, rfl⟩
  have hAs : A.size ≤ 21 := by rw [← list_len, hA]; exact decF_len 20 _
  have hBs : B.size ≤ 21 := by rw [← list_len, hB]; exact decF_len 20 _
  have hia : ∀ w, Below W.heap.size W w → Calls Tryz.prog 36 #[.int .i64 ((k : Int) / 12)] w fun e w' => e = .returned (.string A) ∧ Below w.heap.size w w' := fun w hb => by rw [hA, show (k : Int) / 12 = ((k / 12 : Nat) : Int) by omega]; exact hI w hb _ (by omega)
  have hib : ∀ w, Below W.heap.size W w → Calls Tryz.prog 36 #[.int .i64 ((k : Int) % 12)] w fun e w' => e = .returned (.string B) ∧ Below w.heap.size w w' := fun w hb => by rw [hB, show (k : Int) % 12 = ((k % 12 : Nat) : Int) by omega]; exact hI w hb _ (by omega)
  have h1 : ¬ (-(k : Int) < -9999999999) := by omega
  have h2 : ¬ (-(k : Int) > 9999999999) := by omega
  have h3 : (-(k : Int) == 0) = false := by simp; omega
  have h4 : -(k : Int) < 0 := by omega
  replace hA := Lib.hid hA
  replace hB := Lib.hid hB
  replace hia := Lib.hid hia
  replace hib := Lib.hid hib
  have e1 : (9223372036854775807 < A.size + 1) = False := eq_false (by omega)
  have e2 : (9223372036854775807 < 2 + (A.size + 1)) = False := eq_false (by omega)
  have e3 : (9223372036854775807 < B.size + 1) = False := eq_false (by omega)
  have e4 : (9223372036854775807 < 2 + (B.size + 1)) = False := eq_false (by omega)
  have e5 : (9223372036854775807 < 2 + (A.size + 1) + (B.size + 1)) = False := eq_false (by omega)
  clear hAs hBs
  by_cases h12 : (k : Int) ≥ 12
  · by_cases hr : (k : Int) % 12 = 0
    · have hr' : ((k : Int) % 12 == 0) = true := by simpa using hr
      go_enter Tryz.func16, Tryz.ntmps16
      go_wp2_with fail
      refine (hia.out _ (Below.refl _ _)).mono ?_
      rintro e w1 ⟨rfl, hb1⟩
      go_wp2_with fail
      have hv : textMP (-(k : Int)) = (monthsT [45, 80] k, 0) := textMP_neg h0 hk
      go_ret2
      exact ⟨by rw [hv]; unfold monthsT; rw [if_pos (by omega), if_neg (show ¬ (k % 12 ≠ 0) by omega), List.append_nil, mk_app, mk_app, ← hA.out]; rfl, hb1⟩
    · have hr' : ((k : Int) % 12 == 0) = false := by simpa using hr
      go_enter Tryz.func16, Tryz.ntmps16
      go_wp2_with fail
      refine (hia.out _ (Below.refl _ _)).mono ?_
      rintro e w1 ⟨rfl, hb1⟩
      go_wp2_with fail
      refine (hib.out _ hb1).mono ?_
      rintro e w2 ⟨rfl, hb2⟩
      go_wp2_with fail
      have hv : textMP (-(k : Int)) = (monthsT [45, 80] k, 0) := textMP_neg h0 hk
      go_ret2
      exact ⟨by rw [hv]; unfold monthsT; rw [if_pos (by omega), if_pos (show k % 12 ≠ 0 by omega), ← List.append_assoc, mk_app, mk_app, mk_app, mk_app, ← hA.out, ← hB.out]; rfl, hb1.trans (hb2.mono hb1.size)⟩
  · have hr' : ((k : Int) % 12 == 0) = false := by simp; omega
    go_enter Tryz.func16, Tryz.ntmps16
    go_wp2_with fail
    refine (hib.out _ (Below.refl _ _)).mono ?_
    rintro e w2 ⟨rfl, hb2⟩
    go_wp2_with fail
    have hv : textMP (-(k : Int)) = (monthsT [45, 80] k, 0) := textMP_neg h0 hk
    go_ret2
    exact ⟨by rw [hv]; unfold monthsT; rw [if_neg (by omega), if_pos (show k % 12 ≠ 0 by omega), List.nil_append, mk_app, mk_app, ← hB.out]; rfl, hb2⟩
set_option maxHeartbeats 2000000 in
set_option maxRecDepth 100000 in
theorem TextMonths_d (n : Int) (W : World) (hI : ItoaIn W) : Calls Tryz.prog 16 #[.int .i64 n] W (StrPost W (textMP n)) := by
  by_cases h1 : n < -9999999999
  · have hv : Hid (textMP n = ([], 6)) := Lib.hid (by unfold textMP most; rw [if_pos (.inl h1)])
    go_enter Tryz.func16, Tryz.ntmps16
    go_wp2_with fail
    go_ret2
    exact ⟨by rw [hv.out]; rfl, Below.refl _ _⟩
  · by_cases h2 : n > 9999999999
    · have hv : Hid (textMP n = ([], 6)) := Lib.hid (by unfold textMP most; rw [if_pos (.inr h2)])
      go_enter Tryz.func16, Tryz.ntmps16
      go_wp2_with fail
      go_ret2
      exact ⟨by rw [hv.out]; rfl, Below.refl _ _⟩
    · rcases Int.lt_trichotomy n 0 with h | h | h
      · obtain ⟨k, rfl⟩ : ∃ k : Nat, n = -(k : Int) := ⟨n.natAbs, by omega⟩
        exact text_neg k W hI (by omega) (by omega)
      · subst h
        have hv : Hid (textMP 0 = ([80, 48, 77], 0)) := Lib.hid (by decide)
        go_enter Tryz.func16, Tryz.ntmps16
        go_wp2_with fail
        go_ret2
        exact ⟨by rw [hv.out]; rfl, Below.refl _ _⟩
      · obtain ⟨k, rfl⟩ : ∃ k : Nat, n = (k : Int) := ⟨n.toNat, by omega⟩
        exact text_pos k W hI (by omega) (by omega)
end Go.Proofs.YtjndcehkgfbagaaGreatDoor

namespace Go.Proofs.YtjndcehkgfbagaaGreatDoor
open Go.Sort Go.RowKit NumP DurP Go.Proofs.YtjndcehkgfbagaaGreatDoorW.PrintWords
set_option linter.unusedVariables false

/-- What is known of the library's variables, with Itoa's table. -/
structure LaidD (w : World) : Prop where
  num : LaidW w
  tab : Lib.TabIs Tryz.prog w "internal/strconv.uint64pow10" .u64 Lib.pow10Tab
theorem tab_named : Tryz.prog.globalNamed "internal/strconv.uint64pow10" = some 4 := by kernel_rfl
theorem LaidD.below {w w' : World} (h : LaidD w) {B : Nat} (hb : Below B w w') (hB : 8 ≤ B) : LaidD w' :=
  ⟨h.num.below hb hB, var?_below hb tab_named (by omega) h.tab⟩
theorem below_grow (w : World) (k : Nat) (os : Array Obj) : Below w.heap.size w (grow (w.drewN k) os) :=
  (below_drewN (Below.refl _ w) k).trans ⟨rfl, rfl, rfl, by simp [grow], fun j hj => by
    show ((w.drewN k).heap ++ os)[j]? = _
    rw [Array.getElem?_append_left (by simpa using hj)]⟩
theorem LaidD.itoa {W : World} (h : LaidD W) : ItoaIn W := fun w hb n hn => by
  refine (Tryz.strconv_Itoa (n : Int) (by omega) (by omega) w ((h.below hb h.num.size).tab)).mono ?_
  rintro e w' ⟨rfl, k, os, rfl⟩
  refine ⟨?_, below_grow w k os⟩
  rw [decP_eq (by omega)]
  unfold Lib.itoa
  rw [if_neg (by omega), Int.toNat_natCast]
end Go.Proofs.YtjndcehkgfbagaaGreatDoor

namespace Go.Proofs.YtjndcehkgfbagaaGreatDoor
open Go.RowKit NumP DurP Go.Proofs.YtjndcehkgfbagaaGreatDoorW.PrintWords
set_option linter.unusedVariables false

theorem textN_len {x : Num} (h : x.d < P50) : (textN x).length ≤ 60 := by
  have h1 : lenD x.d ≤ 50 := (lenD_le x.d 50).2 h
  have h2 : (fixD (max 21 (lenD x.d)) x.d).length ≤ 50 := by rw [fixD_len]; omega
  have h3 : ∀ l : List UInt8, (trimZ l).length ≤ l.length := fun l => by
    unfold trimZ
    rw [List.length_reverse]
    exact Nat.le_trans (List.dropWhile_suffix _).length_le (by rw [List.length_reverse]; exact Nat.le_refl _)
  unfold textN
  simp only
  generalize fixD (max 21 (lenD x.d)) x.d = s at h2
  have h4 := h3 (s.drop (s.length - 20))
  rw [List.length_drop] at h4
  rw [List.length_append, List.length_append, List.length_take]
  have h5 : (if x.neg = true then ([45] : List UInt8) else []).length ≤ 1 := by split <;> simp
  have h6 : (if trimZ (s.drop (s.length - 20)) = [] then ([] : List UInt8) else 46 :: trimZ (s.drop (s.length - 20))).length ≤ (trimZ (s.drop (s.length - 20))).length + 1 := by split <;> simp
  omega
theorem outN_len {r : R} (h : ∀ x, r = .ok x → x.d < P50) : (outN r).1.length ≤ 60 := by
  cases r with
  | ok x => exact textN_len (h x rfl)
  | error k => exact Nat.zero_le _
theorem bothN_lt {a b : List UInt8} {f : Num → Num → R} (hf : ∀ x y z, f x y = .ok z → z.d < P50) {z : Num} (h : bothN a b f = .ok z) : z.d < P50 := by
  unfold bothN at h
  split at h
  · exact hf _ _ _ h
  · cases h
theorem divN_lt {f : Num → Num → R} (hf : ∀ x y z, f x y = .ok z → z.d < P50) : ∀ x y z, divN f x y = .ok z → z.d < P50 := fun x y z h => by
  unfold divN at h
  split at h
  · cases h
  · exact hf _ _ _ h
theorem idivT_len (a b : List UInt8) : (idivT a b).1.length ≤ 60 := outN_len fun z h => bothN_lt (divN_lt fun x y z h => checkedN_lt h) h
theorem modT_len (a b : List UInt8) : (modT a b).1.length ≤ 60 := outN_len fun z h => bothN_lt (divN_lt fun x y z h => checkedN_lt h) h
/-- What a piece leaves. -/
def PiecePost (W : World) (p : Nat) (part rest : ByteArray) (e : Ending) (w' : World) : Prop :=
  e = .returned (.string part) ∧ w'.heap[p]? = some (.cells #[.string rest] 9 (0, 0)) ∧ Below p W w' ∧ W.heap.size ≤ w'.heap.size ∧ ∀ k, k < W.heap.size → k ≠ p → w'.heap[k]? = W.heap[k]?
theorem piece_post {W w : World} {p : Nat} {L : ByteArray} (hb : Below W.heap.size W w) (hpl : p < W.heap.size) (hp : w.heap[p]? = some (.cells #[.string L] 9 (0, 0))) (part rest : ByteArray) :
    PiecePost W p part rest (.returned (.string part)) (w.setCell ⟨p, 0, none⟩ (.string rest)) :=
  ⟨rfl, Lib.heap_setCell_same (i := 0) hp _, (hb.mono (Nat.le_of_lt hpl)).setCell (p := ⟨p, 0, none⟩) (Nat.le_refl _) _, by have := hb.size; simpa using this, fun k hk hne => by rw [Below.heap_setCell _ _ _ _ hne, hb.block k hk]⟩
theorem piece_at {Z L : List UInt8} {c : UInt8} {q : List UInt8} (h : (if c = 83 then L else (idivT L Z).1) = q) : pieceP Z c L = (if q = [48] then [] else q ++ [c], (modT L Z).1) := by
  unfold pieceP
  simp only [h]
set_option maxHeartbeats 2000000 in
set_option maxRecDepth 100000 in
theorem piece_d (Z L : ByteArray) (c : UInt8) (W : World) (p : Nat) (hL : LaidW W) (hZ : Z.size ≤ 1000) (hl : L.size ≤ 1000) (hp : W.heap[p]? = some (.cells #[.string L] 9 (0, 0))) (hp8 : 8 ≤ p) :
    Calls Tryz.prog 42 #[.string Z, .string ⟨#[c]⟩, .pointer (some ⟨p, 0, none⟩)] W (PiecePost W p ⟨(pieceP Z.data.toList c L.data.toList).1.toArray⟩ ⟨(pieceP Z.data.toList c L.data.toList).2.toArray⟩) := by
  have hpl := heap_lt hp
  have c0 : W.cell? ⟨p, 0, none⟩ = some (.string L) := by rw [Lib.cell_of_heap hp]; rfl
  have hi := idiv_b L Z W hL (by unfold maxLen; omega) (by unfold maxLen; omega)
  obtain ⟨I, hI⟩ : ∃ I : ByteArray, I = ⟨(idivT L.data.toList Z.data.toList).1.toArray⟩ := ⟨_, rfl⟩
  obtain ⟨ei, hei⟩ : ∃ ei, ei = (idivT L.data.toList Z.data.toList).2 := ⟨_, rfl⟩
  obtain ⟨D, hD⟩ : ∃ D : ByteArray, D = ⟨(modT L.data.toList Z.data.toList).1.toArray⟩ := ⟨_, rfl⟩
  obtain ⟨ed, hed⟩ : ∃ ed, ed = (modT L.data.toList Z.data.toList).2 := ⟨_, rfl⟩
  have hi' : Calls Tryz.prog 43 #[.string L, .string Z] W fun e w' => e = .returned (.tuple #[.string I, .int .i64 ei]) ∧ Below W.heap.size W w' := hi.mono fun e w' h => ⟨by rw [hI, hei]; exact h.1, h.2⟩
  have hm' : ∀ w, Below W.heap.size W w → Calls Tryz.prog 44 #[.string L, .string Z] w fun e w' => e = .returned (.tuple #[.string D, .int .i64 ed]) ∧ Below w.heap.size w w' := fun w hb => (mod_b L Z w (hL.below hb hL.size) (by unfold maxLen; omega) (by unfold maxLen; omega)).mono fun e w' h => ⟨by rw [hD, hed]; exact h.1, h.2⟩
  have hIs : I.size ≤ 60 := by rw [← list_len, hI]; exact idivT_len _ _
  have hcc : (⟨#[c]⟩ : ByteArray).size = 1 := rfl
  have hcl : (⟨#[c]⟩ : ByteArray).toList = [c] := by rw [ByteArray.toList_eq]
  clear hi
  replace hm' := Lib.hid hm'
  replace hei := Lib.hid hei
  replace hed := Lib.hid hed
  replace hI := Lib.hid hI
  replace hD := Lib.hid hD
  replace hp := Lib.hid hp
  by_cases h83 : c = 83
  · have g1 : (c == 83) = true := by simpa using h83
    have hpe := piece_at (Z := Z.data.toList) (c := c) (L := L.data.toList) (q := L.data.toList) (if_pos h83)
    clear hcl hcc
    replace h83 := Lib.hid h83
    by_cases hq : L.data.toList = [48]
    · have hpt : (⟨(pieceP Z.data.toList c L.data.toList).1.toArray⟩ : ByteArray) = ⟨#[]⟩ := by
        rw [hpe]
        show (⟨(if L.data.toList = [48] then [] else L.data.toList ++ [c]).toArray⟩ : ByteArray) = _
        rw [if_pos hq]

      have hrs : (⟨(pieceP Z.data.toList c L.data.toList).2.toArray⟩ : ByteArray) = D := by rw [hpe, hD.out]
      rw [hpt, hrs]
      have g2 : (L.toList == [48]) = true := by rw [ByteArray.toList_eq]; simpa using hq
      replace hq := Lib.hid hq
      clear hpe hpt hrs
      go_enter Tryz.func42, Tryz.ntmps42
      go_wp2_with fail
      refine hi'.mono ?_
      rintro e w2 ⟨rfl, hb2⟩
      clear hi'
      have c2 : w2.cell? ⟨p, 0, none⟩ = some (.string L) := (hb2.cell (p := ⟨p, 0, none⟩) hpl).trans c0
      go_wp2_with fail
      refine (hm'.out _ hb2).mono ?_
      rintro e w3 ⟨rfl, hb3⟩
      have hb03 := hb2.trans (hb3.mono hb2.size)
      have hp3 : w3.heap[p]? = some (.cells #[.string L] 9 (0, 0)) := by rw [hb03.block p hpl]; exact hp.out
      have f3 := Lib.frozen_of_heap hp3 0
      have c3 : w3.cell? ⟨p, 0, none⟩ = some (.string L) := by rw [Lib.cell_of_heap hp3]; rfl
      replace hp3 := Lib.hid hp3
      have k1 : (9223372036854775807 < L.size + 1) = False := eq_false (by omega)
      go_wp2_with fail
      go_ret
      exact piece_post hb03 hpl hp3.out _ _
    · have hpt : (⟨(pieceP Z.data.toList c L.data.toList).1.toArray⟩ : ByteArray) = (L ++ ⟨#[c]⟩) := by
        rw [hpe]
        show (⟨(if L.data.toList = [48] then [] else L.data.toList ++ [c]).toArray⟩ : ByteArray) = _
        rw [if_neg hq]
        exact data_inj (by rw [ByteArray.data_append]; simp)
      have hrs : (⟨(pieceP Z.data.toList c L.data.toList).2.toArray⟩ : ByteArray) = D := by rw [hpe, hD.out]
      rw [hpt, hrs]
      have g2 : (L.toList == [48]) = false := by rw [ByteArray.toList_eq]; simpa using hq
      replace hq := Lib.hid hq
      clear hpe hpt hrs
      go_enter Tryz.func42, Tryz.ntmps42
      go_wp2_with fail
      refine hi'.mono ?_
      rintro e w2 ⟨rfl, hb2⟩
      clear hi'
      have c2 : w2.cell? ⟨p, 0, none⟩ = some (.string L) := (hb2.cell (p := ⟨p, 0, none⟩) hpl).trans c0
      go_wp2_with fail
      refine (hm'.out _ hb2).mono ?_
      rintro e w3 ⟨rfl, hb3⟩
      have hb03 := hb2.trans (hb3.mono hb2.size)
      have hp3 : w3.heap[p]? = some (.cells #[.string L] 9 (0, 0)) := by rw [hb03.block p hpl]; exact hp.out
      have f3 := Lib.frozen_of_heap hp3 0
      have c3 : w3.cell? ⟨p, 0, none⟩ = some (.string L) := by rw [Lib.cell_of_heap hp3]; rfl
      replace hp3 := Lib.hid hp3
      have k1 : (9223372036854775807 < L.size + 1) = False := eq_false (by omega)
      go_wp2_with fail
      go_ret
      exact piece_post hb03 hpl hp3.out _ _
  · have g1 : (c == 83) = false := by simpa using h83
    have hpe := piece_at (Z := Z.data.toList) (c := c) (L := L.data.toList) (q := I.data.toList) (by rw [if_neg h83, hI.out])
    clear hcl hcc
    replace h83 := Lib.hid h83
    by_cases hq : I.data.toList = [48]
    · have hpt : (⟨(pieceP Z.data.toList c L.data.toList).1.toArray⟩ : ByteArray) = ⟨#[]⟩ := by
        rw [hpe]
        show (⟨(if I.data.toList = [48] then [] else I.data.toList ++ [c]).toArray⟩ : ByteArray) = _
        rw [if_pos hq]

      have hrs : (⟨(pieceP Z.data.toList c L.data.toList).2.toArray⟩ : ByteArray) = D := by rw [hpe, hD.out]
      rw [hpt, hrs]
      have g2 : (I.toList == [48]) = true := by rw [ByteArray.toList_eq]; simpa using hq
      replace hq := Lib.hid hq
      clear hpe hpt hrs
      go_enter Tryz.func42, Tryz.ntmps42
      go_wp2_with fail
      refine hi'.mono ?_
      rintro e w2 ⟨rfl, hb2⟩
      clear hi'
      have c2 : w2.cell? ⟨p, 0, none⟩ = some (.string L) := (hb2.cell (p := ⟨p, 0, none⟩) hpl).trans c0
      go_wp2_with fail
      refine (hm'.out _ hb2).mono ?_
      rintro e w3 ⟨rfl, hb3⟩
      have hb03 := hb2.trans (hb3.mono hb2.size)
      have hp3 : w3.heap[p]? = some (.cells #[.string L] 9 (0, 0)) := by rw [hb03.block p hpl]; exact hp.out
      have f3 := Lib.frozen_of_heap hp3 0
      have c3 : w3.cell? ⟨p, 0, none⟩ = some (.string L) := by rw [Lib.cell_of_heap hp3]; rfl
      replace hp3 := Lib.hid hp3
      have k1 : (9223372036854775807 < I.size + 1) = False := eq_false (by omega)
      go_wp2_with fail
      go_ret
      exact piece_post hb03 hpl hp3.out _ _
    · have hpt : (⟨(pieceP Z.data.toList c L.data.toList).1.toArray⟩ : ByteArray) = (I ++ ⟨#[c]⟩) := by
        rw [hpe]
        show (⟨(if I.data.toList = [48] then [] else I.data.toList ++ [c]).toArray⟩ : ByteArray) = _
        rw [if_neg hq]
        exact data_inj (by rw [ByteArray.data_append]; simp)
      have hrs : (⟨(pieceP Z.data.toList c L.data.toList).2.toArray⟩ : ByteArray) = D := by rw [hpe, hD.out]
      rw [hpt, hrs]
      have g2 : (I.toList == [48]) = false := by rw [ByteArray.toList_eq]; simpa using hq
      replace hq := Lib.hid hq
      clear hpe hpt hrs
      go_enter Tryz.func42, Tryz.ntmps42
      go_wp2_with fail
      refine hi'.mono ?_
      rintro e w2 ⟨rfl, hb2⟩
      clear hi'
      have c2 : w2.cell? ⟨p, 0, none⟩ = some (.string L) := (hb2.cell (p := ⟨p, 0, none⟩) hpl).trans c0
      go_wp2_with fail
      refine (hm'.out _ hb2).mono ?_
      rintro e w3 ⟨rfl, hb3⟩
      have hb03 := hb2.trans (hb3.mono hb2.size)
      have hp3 : w3.heap[p]? = some (.cells #[.string L] 9 (0, 0)) := by rw [hb03.block p hpl]; exact hp.out
      have f3 := Lib.frozen_of_heap hp3 0
      have c3 : w3.cell? ⟨p, 0, none⟩ = some (.string L) := by rw [Lib.cell_of_heap hp3]; rfl
      replace hp3 := Lib.hid hp3
      have k1 : (9223372036854775807 < I.size + 1) = False := eq_false (by omega)
      go_wp2_with fail
      go_ret
      exact piece_post hb03 hpl hp3.out _ _
end Go.Proofs.YtjndcehkgfbagaaGreatDoor

namespace Go.Proofs.YtjndcehkgfbagaaGreatDoor
open Go.RowKit NumP DurP Go.Proofs.YtjndcehkgfbagaaGreatDoorW.PrintWords
set_option linter.unusedVariables false

theorem parseT_len (a : List UInt8) : (parseT a).1.length ≤ 60 := outN_len fun z h => parseN_lt h
theorem pieceP_len (Z : List UInt8) (c : UInt8) (L : List UInt8) (h : L.length ≤ 60) : (pieceP Z c L).1.length ≤ 61 ∧ (pieceP Z c L).2.length ≤ 60 := by
  refine ⟨?_, modT_len _ _⟩
  have hq : (if c = 83 then L else (idivT L Z).1).length ≤ 60 := by
    split
    · exact h
    · exact idivT_len _ _
  rw [piece_at rfl]
  generalize (if c = 83 then L else (idivT L Z).1) = q at hq
  show (if q = [48] then [] else q ++ [c]).length ≤ 61
  split
  · exact Nat.zero_le _
  · rw [List.length_append]; show _ + 1 ≤ 61; omega
/-- The text of a number that is not 0. -/
def secT (mi : Bool) (L : List UInt8) : List UInt8 :=
  let d := pieceP [56, 54, 52, 48, 48] 68 L
  let h := pieceP [51, 54, 48, 48] 72 d.2
  let m := pieceP [54, 48] 77 h.2
  let s := pieceP [54, 48] 83 m.2
  let time := h.1 ++ m.1 ++ s.1
  (if mi then [45, 80] else [80]) ++ d.1 ++ (if time = [] then [] else 84 :: time)
theorem textSP_no {l : List UInt8} (h : (parseT l).2 ≠ 0 ∨ (parseT l).1 ≠ l) : textSP l = ([], 1) := by
  unfold textSP
  simp only
  rw [if_pos h]
theorem textSP_yes {l : List UInt8} (h : ¬ ((parseT l).2 ≠ 0 ∨ (parseT l).1 ≠ l)) : textSP l = if l = [48] then ([80, 84, 48, 83], 0) else (secT (l.head? == some 45) (if (l.head? == some 45) = true then l.drop 1 else l), 0) := by
  unfold textSP
  simp only
  rw [if_neg h]
  rfl
set_option maxHeartbeats 2000000 in
set_option maxRecDepth 100000 in
theorem TextSeconds_d (s : ByteArray) (W : World) (hL : LaidW W) (hs : s.size ≤ maxLen) : Calls Tryz.prog 20 #[.string s] W (StrPost W (textSP s.data.toList)) := by
  have hpa := Parse_b s W hL hs
  obtain ⟨X, hX⟩ : ∃ X : ByteArray, X = ⟨(parseT s.data.toList).1.toArray⟩ := ⟨_, rfl⟩
  obtain ⟨ex, hex⟩ : ∃ ex, ex = (parseT s.data.toList).2 := ⟨_, rfl⟩
  have hpa' : Calls Tryz.prog 25 #[.string s] W fun e w' => e = .returned (.tuple #[.string X, .int .i64 ex]) ∧ Below W.heap.size W w' := hpa.mono fun e w' h => ⟨by rw [hX, hex]; exact h.1, h.2⟩
  have hXd : X.data.toList = (parseT s.data.toList).1 := by rw [hX]
  clear hpa hX
  by_cases hno : ex ≠ 0 ∨ X.data.toList ≠ s.data.toList
  · have hv : Hid (textSP s.data.toList = ([], 1)) := Lib.hid (textSP_no (by rw [← hex, ← hXd]; exact hno))
    clear hXd hex
    by_cases h0 : ex = 0
    · have hne : (X.toList == s.toList) = false := by
        rw [ByteArray.toList_eq, ByteArray.toList_eq]
        rcases hno with h | h
        · exact absurd h0 h
        · simpa using h
      subst h0
      clear hno
      go_enter Tryz.func20, Tryz.ntmps20
      go_wp2_with fail
      refine hpa'.mono ?_
      rintro e w2 ⟨rfl, hb2⟩
      go_wp2_with fail
      go_ret2
      exact ⟨by rw [hv.out]; rfl, hb2⟩
    · have h0' : (ex == 0) = false := by simpa using h0
      clear hno
      go_enter Tryz.func20, Tryz.ntmps20
      go_wp2_with fail
      refine hpa'.mono ?_
      rintro e w2 ⟨rfl, hb2⟩
      go_wp2_with fail
      go_ret2
      exact ⟨by rw [hv.out]; rfl, hb2⟩
  · have hyes := textSP_yes (l := s.data.toList) (by rw [← hex, ← hXd]; exact hno)
    have he0 : ex = 0 := by omega
    have hXs : X = s := data_inj (by
      rcases Classical.em (X.data.toList = s.data.toList) with h | h
      · exact h
      · exact absurd (.inr h) hno)
    have hsl : s.data.toList.length ≤ 60 := by rw [← hXs, hXd]; exact parseT_len _
    clear hno hXd
    subst hXs
    subst he0
    replace hex := Lib.hid hex
    by_cases h48 : X.data.toList = [48]
    · have g1 : (X.toList == [48]) = true := by rw [ByteArray.toList_eq]; simpa using h48
      have hv : Hid (textSP X.data.toList = ([80, 84, 48, 83], 0)) := Lib.hid (by rw [hyes, if_pos h48])
      clear hyes
      replace h48 := Lib.hid h48
      go_enter Tryz.func20, Tryz.ntmps20
      go_wp2_with fail
      refine hpa'.mono ?_
      rintro e w2 ⟨rfl, hb2⟩
      go_wp2_with fail
      go_ret2
      exact ⟨by rw [hv.out]; rfl, hb2⟩
    · have g1 : (X.toList == [48]) = false := by rw [ByteArray.toList_eq]; simpa using h48
      rw [if_neg h48] at hyes
      replace h48 := Lib.hid h48
      obtain ⟨mi, hmi⟩ : ∃ mi, mi = (X.data.toList.head? == some 45) := ⟨_, rfl⟩
      obtain ⟨L0, hL0⟩ : ∃ L0, L0 = (if mi = true then X.data.toList.drop 1 else X.data.toList) := ⟨_, rfl⟩
      rw [← hmi, ← hL0] at hyes
      have hcp : ∀ w, Calls Tryz.prog 27 #[.string X, .string ⟨#[45]⟩] w fun e w' => e = .returned (.tuple #[.string ⟨L0.toArray⟩, .bool mi]) ∧ w = w' := fun w => (Tryz.strings_CutPrefix X ⟨#[45]⟩ w).mono (fun e w' h => ⟨by
        rw [h.1, show (⟨#[45]⟩ : ByteArray).data.toList = [45] from rfl, has_one, trim_if, ← hmi, ← hL0], h.2.symm⟩)
      have hl0 : L0.length ≤ 60 := by
        rw [hL0]; split
        · rw [List.length_drop]; omega
        · exact hsl
      obtain ⟨d, hd⟩ : ∃ d, d = pieceP [56, 54, 52, 48, 48] 68 L0 := ⟨_, rfl⟩
      obtain ⟨h, hh⟩ : ∃ h, h = pieceP [51, 54, 48, 48] 72 d.2 := ⟨_, rfl⟩
      obtain ⟨m, hm⟩ : ∃ m, m = pieceP [54, 48] 77 h.2 := ⟨_, rfl⟩
      obtain ⟨z, hz⟩ : ∃ z, z = pieceP [54, 48] 83 m.2 := ⟨_, rfl⟩
      have hdl : d.1.length ≤ 61 ∧ d.2.length ≤ 60 := by rw [hd]; exact pieceP_len _ _ _ hl0
      have hhl : h.1.length ≤ 61 ∧ h.2.length ≤ 60 := by rw [hh]; exact pieceP_len _ _ _ hdl.2
      have hml : m.1.length ≤ 61 ∧ m.2.length ≤ 60 := by rw [hm]; exact pieceP_len _ _ _ hhl.2
      have hzl : z.1.length ≤ 61 ∧ z.2.length ≤ 60 := by rw [hz]; exact pieceP_len _ _ _ hml.2
      have hpc : ∀ (Z : List UInt8) (c : UInt8) (L : List UInt8) (w : World) (p : Nat), LaidW w → Z.length ≤ 10 → L.length ≤ 60 → w.heap[p]? = some (.cells #[.string ⟨L.toArray⟩] 9 (0, 0)) → 8 ≤ p →
          Calls Tryz.prog 42 #[.string ⟨Z.toArray⟩, .string ⟨#[c]⟩, .pointer (some ⟨p, 0, none⟩)] w (PiecePost w p ⟨(pieceP Z c L).1.toArray⟩ ⟨(pieceP Z c L).2.toArray⟩) := fun Z c L w p h1 h2 h3 h4 h5 => by
        have := piece_d ⟨Z.toArray⟩ ⟨L.toArray⟩ c w p h1 (by rw [← list_len]; show Z.length ≤ _; omega) (by rw [← list_len]; show L.length ≤ _; omega) h4 h5
        simpa using this
      have hv : Hid (textSP X.data.toList = ((if mi then [45, 80] else [80]) ++ d.1 ++ (if h.1 ++ m.1 ++ z.1 = [] then [] else 84 :: (h.1 ++ m.1 ++ z.1)), 0)) := Lib.hid (by rw [hyes, hz, hm, hh, hd]; rfl)
      clear hyes hL0 hmi hsl
      replace hpc := Lib.hid hpc
      replace hcp := Lib.hid hcp
      replace hL := Lib.hid hL
      go_enter Tryz.func20, Tryz.ntmps20
      go_wp2_with fail
      refine hpa'.mono ?_
      rintro e w2 ⟨rfl, hb2⟩
      clear hpa'
      go_wp2_with fail
      refine (hcp.out _).mono ?_
      rintro e w ⟨rfl, rfl⟩
      obtain ⟨p, hp⟩ : ∃ p, p = w2.heap.size := ⟨_, rfl⟩
      obtain ⟨W1, hW1⟩ : ∃ W1, W1 = w2.alloc (.cells #[.string ⟨L0.toArray⟩] 9) := ⟨_, rfl⟩
      have hx1 : W1.heap[p]? = some (.cells #[.string ⟨L0.toArray⟩] 9 (0, 0)) := by rw [hW1, hp]; exact (MapKept.heap_alloc _ _).1
      have hb1 : Below p w2 W1 := by rw [hW1, hp]; exact (Below.refl _ _).alloc (Nat.le_refl _) _
      have hp8 : 8 ≤ p := by have := hL.out.size; have := hb2.size; omega
      have hpW : W.heap.size ≤ p := by have := hb2.size; omega
      have hL2 := hL.out.below hb2 hL.out.size
      have hc1 := hpc.out [56, 54, 52, 48, 48] 68 L0 W1 p (hL2.below hb1 hp8) (by decide) hl0 hx1 hp8
      rw [← hd] at hc1
      replace hd := Lib.hid hd
      go_wp2_with fail
      rw [← hW1, ← hp]
      clear hW1
      replace hp := Lib.hid hp
      refine hc1.mono ?_
      rintro e w3 ⟨rfl, hx3, hb3, -, -⟩
      have hb13 := hb1.trans hb3
      have hc2 := hpc.out [51, 54, 48, 48] 72 d.2 w3 p (hL2.below hb13 hp8) (by decide) hdl.2 hx3 hp8
      rw [← hh] at hc2
      replace hh := Lib.hid hh
      clear hc1
      go_wp2_with fail
      refine hc2.mono ?_
      rintro e w4 ⟨rfl, hx4, hb4, -, -⟩
      have hb14 := hb13.trans hb4
      have hc3 := hpc.out [54, 48] 77 h.2 w4 p (hL2.below hb14 hp8) (by decide) hhl.2 hx4 hp8
      rw [← hm] at hc3
      replace hm := Lib.hid hm
      clear hc2
      go_wp2_with fail
      refine hc3.mono ?_
      rintro e w5 ⟨rfl, hx5, hb5, -, -⟩
      have hb15 := hb14.trans hb5
      have hc4 := hpc.out [54, 48] 83 m.2 w5 p (hL2.below hb15 hp8) (by decide) hml.2 hx5 hp8
      rw [← hz] at hc4
      replace hz := Lib.hid hz
      clear hc3
      obtain ⟨DB, hDB⟩ : ∃ DB : ByteArray, DB = ⟨d.1.toArray⟩ := ⟨_, rfl⟩
      obtain ⟨HB, hHB⟩ : ∃ HB : ByteArray, HB = ⟨h.1.toArray⟩ := ⟨_, rfl⟩
      obtain ⟨MB, hMB⟩ : ∃ MB : ByteArray, MB = ⟨m.1.toArray⟩ := ⟨_, rfl⟩
      obtain ⟨ZB, hZB⟩ : ∃ ZB : ByteArray, ZB = ⟨z.1.toArray⟩ := ⟨_, rfl⟩
      have sD : DB.size ≤ 61 := by rw [← list_len, hDB]; exact hdl.1
      have sH : HB.size ≤ 61 := by rw [← list_len, hHB]; exact hhl.1
      have sM : MB.size ≤ 61 := by rw [← list_len, hMB]; exact hml.1
      have sZ : ZB.size ≤ 61 := by rw [← list_len, hZB]; exact hzl.1
      rw [← hDB, ← hHB, ← hMB]
      rw [← hZB] at hc4
      have k1 : (9223372036854775807 < HB.size + MB.size) = False := eq_false (by omega)
      have k2 : (9223372036854775807 < HB.size + MB.size + ZB.size) = False := eq_false (by omega)
      have k3 : (9223372036854775807 < 1 + (HB.size + MB.size + ZB.size)) = False := eq_false (by omega)
      have k4 : (9223372036854775807 < 1 + DB.size) = False := eq_false (by omega)
      have k5 : (9223372036854775807 < 2 + DB.size) = False := eq_false (by omega)
      have k6 : (9223372036854775807 < 1 + DB.size + (1 + (HB.size + MB.size + ZB.size))) = False := eq_false (by omega)
      have k7 : (9223372036854775807 < 2 + DB.size + (1 + (HB.size + MB.size + ZB.size))) = False := eq_false (by omega)
      have k8 : (9223372036854775807 < 1 + DB.size + (HB.size + MB.size + ZB.size)) = False := eq_false (by omega)
      have k9 : (9223372036854775807 < 2 + DB.size + (HB.size + MB.size + ZB.size)) = False := eq_false (by omega)
      have htm : (HB ++ MB ++ ZB).data.toList = h.1 ++ m.1 ++ z.1 := by rw [hHB, hMB, hZB, ByteArray.data_append, ByteArray.data_append]; simp
      have htl : ((HB ++ MB ++ ZB).toList == []) = decide (h.1 ++ m.1 ++ z.1 = []) := by rw [ByteArray.toList_eq, htm]; cases hh2 : h.1 ++ m.1 ++ z.1 <;> rfl
      clear sD sH sM sZ hdl hhl hml hzl hcp
      replace hDB := Lib.hid hDB
      replace hHB := Lib.hid hHB
      replace hMB := Lib.hid hMB
      replace hZB := Lib.hid hZB
      replace htm := Lib.hid htm
      by_cases hem : h.1 ++ m.1 ++ z.1 = []
      · rw [decide_eq_true hem] at htl
        replace hem := Lib.hid hem
        cases mi
        · go_wp2_with fail
          refine hc4.mono ?_
          rintro e w6 ⟨rfl, hx6, hb6, -, -⟩
          go_wp2_with fail
          go_ret2
          have hfin : (⟨(textSP X.data.toList).1.toArray⟩ : ByteArray) = ⟨#[80]⟩ ++ DB ++ (HB ++ MB ++ ZB) := data_inj (by
            rw [hv.out, if_pos hem.out]
            simp only [ByteArray.data_append, Array.toList_append, hDB.out]
            have hE := hem.out
            simp only [List.append_eq_nil_iff] at hE
            simp [hHB.out, hMB.out, hZB.out, hE])
          exact ⟨by rw [hfin, show (textSP X.data.toList).2 = 0 by rw [hv.out]]; rfl, hb2.trans ((hb15.trans hb6).mono hpW)⟩
        · go_wp2_with fail
          refine hc4.mono ?_
          rintro e w6 ⟨rfl, hx6, hb6, -, -⟩
          go_wp2_with fail
          go_ret2
          have hfin : (⟨(textSP X.data.toList).1.toArray⟩ : ByteArray) = ⟨#[45, 80]⟩ ++ DB ++ (HB ++ MB ++ ZB) := data_inj (by
            rw [hv.out, if_pos hem.out]
            simp only [ByteArray.data_append, Array.toList_append, hDB.out]
            have hE := hem.out
            simp only [List.append_eq_nil_iff] at hE
            simp [hHB.out, hMB.out, hZB.out, hE])
          exact ⟨by rw [hfin, show (textSP X.data.toList).2 = 0 by rw [hv.out]]; rfl, hb2.trans ((hb15.trans hb6).mono hpW)⟩
      · rw [decide_eq_false hem] at htl
        replace hem := Lib.hid hem
        cases mi
        · go_wp2_with fail
          refine hc4.mono ?_
          rintro e w6 ⟨rfl, hx6, hb6, -, -⟩
          go_wp2_with fail
          go_ret2
          have hfin : (⟨(textSP X.data.toList).1.toArray⟩ : ByteArray) = ⟨#[80]⟩ ++ DB ++ (⟨#[84]⟩ ++ (HB ++ MB ++ ZB)) := data_inj (by
            rw [hv.out, if_neg hem.out]
            simp only [ByteArray.data_append, Array.toList_append, hDB.out]
            simp [hHB.out, hMB.out, hZB.out])
          exact ⟨by rw [hfin, show (textSP X.data.toList).2 = 0 by rw [hv.out]]; rfl, hb2.trans ((hb15.trans hb6).mono hpW)⟩
        · go_wp2_with fail
          refine hc4.mono ?_
          rintro e w6 ⟨rfl, hx6, hb6, -, -⟩
          go_wp2_with fail
          go_ret2
          have hfin : (⟨(textSP X.data.toList).1.toArray⟩ : ByteArray) = ⟨#[45, 80]⟩ ++ DB ++ (⟨#[84]⟩ ++ (HB ++ MB ++ ZB)) := data_inj (by
            rw [hv.out, if_neg hem.out]
            simp only [ByteArray.data_append, Array.toList_append, hDB.out]
            simp [hHB.out, hMB.out, hZB.out])
          exact ⟨by rw [hfin, show (textSP X.data.toList).2 = 0 by rw [hv.out]]; rfl, hb2.trans ((hb15.trans hb6).mono hpW)⟩
end Go.Proofs.YtjndcehkgfbagaaGreatDoor
