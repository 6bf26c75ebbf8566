/- Package time as plain functions: moments, dates, seconds. Nothing of Go and of memory stands here. The calendar: the days of dates, and the dates of days. Seconds as millionths: what is a valid Second, and decimal. Moments: which are valid, their millionths, and the moments of millionths. Numbers as integers: sums, comparison, rounding to millionths; seconds that are added. Seconds that are added. The laws of chapter 07 in plain functions: months, zones, days, order. Texts of moments are read back. The examples of chapter 07 in plain functions. -/
import Derived.Test.YtgobpoeccdgeiaaGreatDoorQh
import Derived.Test.YtgobpoeccdgeiaaGreatDoorQi

namespace Go.Proofs.YtgobpoeccdgeiaaGreatDoor.TimeP
open NumP DurP
set_option linter.unusedVariables false

/-- A moment. -/
structure Mom where
  y : Int
  mo : Int
  d : Int
  h : Int
  mi : Int
  s : List UInt8
  z : Int
  has : Bool
deriving DecidableEq
def mom0 : Mom := ⟨0, 0, 0, 0, 0, [], 0, false⟩

/-- Whether a year is a leap year. -/
def leapN (y : Nat) : Bool := decide (y % 4 = 0) && decide (y % 100 ≠ 0) || decide (y % 400 = 0)
/-- How many days a month has. -/
def lenM (y m : Nat) : Nat := if m = 2 then (if leapN y then 29 else 28) else if m = 4 ∨ m = 6 ∨ m = 9 ∨ m = 11 then 30 else 31
/-- How many days there are ahead of a year, from the year 1 on. -/
def yearS (y : Nat) : Nat := 365 * (y - 1) + (y - 1) / 4 - (y - 1) / 100 + (y - 1) / 400
/-- How many days of a year there are ahead of a month. -/
def monS (y : Nat) : Nat → Nat
  | 0 => 0
  | k + 1 => if k = 0 then 0 else monS y k + lenM y k
/-- The days from 1-1-1 on. -/
def dayN (y m d : Nat) : Nat := yearS y + monS y m + (d - 1)
def yearF : Nat → Nat → Nat → Nat × Nat
  | 0, y, n => (y, n)
  | f + 1, y, n => if 365 + lenM y 2 - 28 ≤ n then yearF f (y + 1) (n - (365 + lenM y 2 - 28)) else (y, n)
def monF (y : Nat) : Nat → Nat → Nat → Nat × Nat
  | 0, m, n => (m, n)
  | f + 1, m, n => if lenM y m ≤ n then monF y f (m + 1) (n - lenM y m) else (m, n)
/-- The date with a number of days from 1-1-1 on. -/
def dateN (n : Nat) : Nat × Nat × Nat :=
  let a := yearF 401 (1 + n / 146097 * 400) (n % 146097)
  let b := monF a.1 12 1 a.2
  (a.1, b.1, b.2 + 1)

/-- Millionths of seconds, and whether they are valid. -/
def micP (l : List UInt8) : Nat × Bool :=
  if (parseT l).2 ≠ 0 ∨ (parseT l).1 ≠ l ∨ l.head? = some 45 then (0, false) else
    if 2 < (before 46 l).length ∨ 6 < (behind 46 l).length then (0, false) else
      let n := valD (before 46 l ++ behind 46 l ++ List.replicate (6 - (behind 46 l).length) 48)
      (n, decide (n < 60000000))
def validP (m : Mom) : Bool :=
  decide (1 ≤ m.y ∧ m.y ≤ 9999 ∧ 1 ≤ m.mo ∧ m.mo ≤ 12 ∧ 1 ≤ m.d ∧ m.d ≤ (lenM m.y.toNat m.mo.toNat : Nat) ∧ 0 ≤ m.h ∧ m.h ≤ 23 ∧ 0 ≤ m.mi ∧ m.mi ≤ 59) &&
    (micP m.s).2 && decide (-840 ≤ m.z ∧ m.z ≤ 840) && (m.has || decide (m.z = 0))
/-- The millionths of seconds from 1970-01-01T00:00:00 to the local time. -/
def totalP (m : Mom) : Int := ((((dayN m.y.toNat m.mo.toNat m.d.toNat : Nat) : Int) - 719162) * 24 + m.h) * 60 * 60000000 + m.mi * 60000000 + ((micP m.s).1 : Nat)
/-- Millionths as a decimal number. -/
def decU (us : Int) : List UInt8 :=
  let s := decP us.natAbs
  let s := List.replicate (7 - s.length) 48 ++ s
  (parseT ((if us < 0 then [45] else []) ++ s.take (s.length - 6) ++ 46 :: s.drop (s.length - 6))).1
/-- The moment with a local time; behind it the error. -/
def atP (m : Mom) (us : Int) : Mom × Int :=
  let n := us / 86400000000
  let r := (us % 86400000000).toNat
  if n + 719162 < 0 then (mom0, 6) else
    let d := dateN (n + 719162).toNat
    if 9999 < d.1 then (mom0, 6) else
      (⟨d.1, d.2.1, d.2.2, (r / 3600000000 : Nat), (r % 3600000000 / 60000000 : Nat), decU ((r % 60000000 : Nat) : Int), m.z, m.has⟩, 0)
def secondsT (m : Mom) : List UInt8 × Int := if validP m then (decU (totalP m - m.z * 60000000), 0) else ([], 1)
def addMonthsP (m : Mom) (n : Int) : Mom × Int :=
  if validP m = false then (mom0, 1) else if n < -120000 ∨ 120000 < n then (mom0, 6) else
    let k := m.y * 12 + m.mo - 1 + n
    if k < 12 ∨ 120000 ≤ k then (mom0, 6) else
      ({ m with y := k / 12, mo := k % 12 + 1, d := min m.d (lenM (k / 12).toNat (k % 12 + 1).toNat : Nat) }, 0)
def stripM (l : List UInt8) : List UInt8 := if l.head? = some 45 then l.drop 1 else l
def addSecondsP (m : Mom) (n : List UInt8) : Mom × Int :=
  if validP m = false then (mom0, 1) else
    let s := parseT n
    if s.2 ≠ 0 then (mom0, s.2) else
      let r := roundT s.1 6 [101, 118, 101, 110]
      if r.2 ≠ 0 ∨ 12 < (stripM (before 46 r.1)).length then (mom0, 6) else
        let v := valD (stripM (before 46 r.1) ++ behind 46 r.1 ++ List.replicate (6 - (behind 46 r.1).length) 48)
        atP m (totalP m + (if r.1.head? = some 45 then -(v : Int) else v))
def adjustP (m : Mom) (zone : Int) (has : Bool) : Mom × Int :=
  if validP m = false ∨ has = true ∧ (zone < -840 ∨ 840 < zone) then (mom0, 1) else
    if has = false then ({ m with z := 0, has := false }, 0) else
      atP { m with z := zone, has := true } (totalP m + (if m.has then zone - m.z else 0) * 60000000)
def weekdayP (m : Mom) : Int := if validP m then ((dayN m.y.toNat m.mo.toNat m.d.toNat : Nat) : Int) % 7 + 1 else 0

/-- A number in at least so many digits. -/
def padP (n w : Nat) : List UInt8 := List.replicate (w - (decP n).length) 48 ++ decP n
/-- The kinds: date, time, both. -/
def kindOk (k : Int) : Bool := decide (k = 6 ∨ k = 7 ∨ k = 8)
def textMom (k : Int) (m : Mom) : List UInt8 × Int :=
  if kindOk k = false ∨ validP m = false then ([], 1) else
    let date := if k ≠ 7 then padP m.y.toNat 4 ++ 45 :: padP m.mo.toNat 2 ++ 45 :: padP m.d.toNat 2 else []
    let mid := if k = 8 then [84] else []
    let clock := if k ≠ 6 then padP m.h.toNat 2 ++ 58 :: padP m.mi.toNat 2 ++ 58 :: (List.replicate (2 - (before 46 m.s).length) 48 ++ before 46 m.s ++ (if m.s.contains 46 then 46 :: behind 46 m.s else [])) else []
    let z := m.z.natAbs
    let zone := if m.has = false then [] else if m.z = 0 then [90] else (if m.z < 0 then 45 else 43) :: padP (z / 60) 2 ++ 58 :: padP (z % 60) 2
    (date ++ mid ++ clock ++ zone, 0)

/-- The reader: none where it panics. -/
def oneR (set l : List UInt8) : Option (UInt8 × List UInt8) := match l with
  | [] => none
  | c :: r => if set.contains c then some (c, r) else none
def numR : Nat → Nat → List UInt8 → Option (Nat × List UInt8)
  | 0, out, l => some (out, l)
  | n + 1, out, l => match l with
    | [] => none
    | c :: r => if isDig c then numR n (10 * out + (c.toNat - 48)) r else none
def secR (l : List UInt8) : Option (List UInt8 × List UInt8) := match numR 2 0 l with
  | none => none
  | some (n, r) => if r.head? = some 46 then
      let k := digN (r.drop 1)
      if k = 0 ∨ 6 < k then none else some ((parseT (decP n ++ 46 :: (r.drop 1).take k)).1, (r.drop 1).drop k)
    else some ((parseT (decP n)).1, r)
/-- The zone: whether there is one, the minutes, whether it is in range. -/
def zoneR (l : List UInt8) : Option (Bool × Int × Bool) :=
  if l = [] then some (false, 0, true) else match oneR [90, 43, 45] l with
    | none => none
    | some (c, r) => if c = 90 then (if r = [] then some (true, 0, true) else none) else
        match numR 2 0 r with
        | none => none
        | some (h, r1) => match oneR [58] r1 with
          | none => none
          | some (_, r2) => match numR 2 0 r2 with
            | none => none
            | some (n, r3) => if r3 = [] then some (true, if c = 45 then -((60 * h + n : Nat) : Int) else ((60 * h + n : Nat) : Int), decide (h ≤ 14) && decide (n ≤ 59)) else none
def dateR (l : List UInt8) : Option (Nat × Nat × Nat × List UInt8) := match numR 4 0 l with
  | none => none
  | some (y, r) => match oneR [45] r with
    | none => none
    | some (_, r) => match numR 2 0 r with
      | none => none
      | some (m, r) => match oneR [45] r with
        | none => none
        | some (_, r) => match numR 2 0 r with
          | none => none
          | some (d, r) => some (y, m, d, r)
def clockR (l : List UInt8) : Option (Nat × Nat × List UInt8 × List UInt8) := match numR 2 0 l with
  | none => none
  | some (h, r) => match oneR [58] r with
    | none => none
    | some (_, r) => match numR 2 0 r with
      | none => none
      | some (m, r) => match oneR [58] r with
        | none => none
        | some (_, r) => match secR r with
          | none => none
          | some (s, r) => some (h, m, s, r)
def partsR (k : Int) (l : List UInt8) : Option (Mom × List UInt8) :=
  match (if k ≠ 7 then dateR l else some (1972, 12, 31, l)) with
  | none => none
  | some (y, mo, d, r) => match (if k = 8 then oneR [84] r else some (0, r)) with
    | none => none
    | some (_, r) => match (if k ≠ 6 then clockR r else some (0, 0, [48], r)) with
      | none => none
      | some (h, mi, s, r) => some (⟨y, mo, d, h, mi, s, 0, false⟩, r)
def readP (k : Int) (l : List UInt8) : Option (Mom × Int) := match partsR k l with
  | none => none
  | some (m, r) => match zoneR r with
    | none => none
    | some (has, z, inR) =>
      let m := { m with z := z, has := has }
      if m.h = 24 ∧ (m.mi ≠ 0 ∨ m.s ≠ [48]) then some (mom0, 6) else
        let next := m.h = 24
        let m := if next then { m with h := 0 } else m
        if inR = false ∨ validP m = false then some (mom0, 6) else
          if next ∧ k = 8 then some (atP m (totalP m + 86400000000)) else some (m, 0)
def parseM (k : Int) (l : List UInt8) : Mom × Int := if kindOk k = false then (mom0, 1) else match readP k l with
  | none => (mom0, 5)
  | some r => r
/-- What works checks. -/
theorem works_plainT : parseM 8 [50, 48, 50, 54, 45, 49, 49, 45, 49, 54, 84, 50, 52, 58, 48, 48, 58, 48, 48, 46, 48, 48, 48, 45, 48, 56, 58, 48, 48] = (⟨2026, 11, 17, 0, 0, [48], -480, true⟩, 0) ∧ textMom 7 ⟨2026, 11, 17, 0, 0, [48], -480, true⟩ = ([48, 48, 58, 48, 48, 58, 48, 48, 45, 48, 56, 58, 48, 48], 0) ∧
    addMonthsP ⟨2024, 1, 31, 0, 0, [48], 0, false⟩ 1 = (⟨2024, 2, 29, 0, 0, [48], 0, false⟩, 0) ∧ weekdayP ⟨2026, 11, 17, 0, 0, [48], -480, true⟩ = 2 := by decide +kernel
end Go.Proofs.YtgobpoeccdgeiaaGreatDoor.TimeP

namespace Go.Proofs.YtgobpoeccdgeiaaGreatDoor.TimeP
open NumP DurP
set_option linter.unusedVariables false

def leapI (y : Nat) : Nat := if leapN y then 1 else 0
theorem leapI_is (y : Nat) : leapI y = if y % 4 = 0 ∧ y % 100 ≠ 0 ∨ y % 400 = 0 then 1 else 0 := by
  unfold leapI leapN
  by_cases h1 : y % 4 = 0 <;> by_cases h2 : y % 100 = 0 <;> by_cases h3 : y % 400 = 0 <;> simp [h1, h2, h3]
theorem lenM_feb (y : Nat) : lenM y 2 = 28 + leapI y := by
  unfold lenM leapI
  rw [if_pos rfl]
  split <;> rfl
theorem div4_step (k : Nat) : (k + 1) / 4 = k / 4 + (if (k + 1) % 4 = 0 then 1 else 0) := by split <;> omega
theorem div100_step (k : Nat) : (k + 1) / 100 = k / 100 + (if (k + 1) % 100 = 0 then 1 else 0) := by split <;> omega
theorem div400_step (k : Nat) : (k + 1) / 400 = k / 400 + (if (k + 1) % 400 = 0 then 1 else 0) := by split <;> omega
theorem yearS_step {y : Nat} (h : 1 ≤ y) : yearS (y + 1) = yearS y + 365 + leapI y := by
  rw [leapI_is]
  unfold yearS
  obtain ⟨k, rfl⟩ : ∃ k, y = k + 1 := ⟨y - 1, by omega⟩
  simp only [Nat.add_sub_cancel]
  rw [div4_step, div100_step, div400_step]
  have h1 : (k + 1) % 100 = 0 → (k + 1) % 4 = 0 := by omega
  have h2 : (k + 1) % 400 = 0 → (k + 1) % 100 = 0 := by omega
  have h3 : k / 100 ≤ k / 4 := by omega
  have h4 : (if (k + 1) % 4 = 0 ∧ (k + 1) % 100 ≠ 0 ∨ (k + 1) % 400 = 0 then 1 else 0) + (if (k + 1) % 100 = 0 then 1 else 0) = (if (k + 1) % 4 = 0 then 1 else 0) + (if (k + 1) % 400 = 0 then 1 else 0) := by
    by_cases c4 : (k + 1) % 4 = 0 <;> by_cases c1 : (k + 1) % 100 = 0 <;> by_cases c0 : (k + 1) % 400 = 0
    · simp [c4, c1, c0]
    · simp [c4, c1, c0]
    · exact absurd (h2 c0) c1
    · simp [c4, c1, c0]
    · exact absurd (h1 c1) c4
    · exact absurd (h1 c1) c4
    · exact absurd (h2 c0) c1
    · simp [c4, c1, c0]
  have h5 : (if (k + 1) % 100 = 0 then 1 else 0) ≤ (if (k + 1) % 4 = 0 then 1 else 0) := by
    by_cases c1 : (k + 1) % 100 = 0
    · rw [if_pos c1, if_pos (h1 c1)]; exact Nat.le_refl _
    · rw [if_neg c1]; exact Nat.zero_le _
  generalize (if (k + 1) % 4 = 0 ∧ (k + 1) % 100 ≠ 0 ∨ (k + 1) % 400 = 0 then 1 else 0) = L at *
  generalize (if (k + 1) % 4 = 0 then 1 else 0) = a1 at *
  generalize (if (k + 1) % 100 = 0 then 1 else 0) = b1 at *
  generalize (if (k + 1) % 400 = 0 then 1 else 0) = c1 at *
  generalize k / 4 = a at *
  generalize k / 100 = b at *
  generalize k / 400 = c at *
  clear h1 h2 h
  omega
theorem leapI_le (y : Nat) : leapI y ≤ 1 := by unfold leapI; split <;> decide
theorem yearS_400 (q : Nat) : yearS (1 + q * 400) = q * 146097 := by
  unfold yearS
  omega
theorem yearS_lt {y y' : Nat} (h : 1 ≤ y) (h2 : y < y') : yearS y + 365 + leapI y ≤ yearS y' := by
  obtain ⟨k, rfl⟩ : ∃ k, y' = y + 1 + k := ⟨y' - y - 1, by omega⟩
  rw [← yearS_step h]
  induction k with
  | zero => exact Nat.le_refl _
  | succ k ih =>
    have h3 := yearS_step (y := y + 1 + k) (by omega)
    have h4 := ih (by omega)
    rw [show y + 1 + (k + 1) = y + 1 + k + 1 by omega]
    omega
theorem lenM_pos (y m : Nat) : 28 ≤ lenM y m ∧ lenM y m ≤ 31 := by
  unfold lenM
  constructor <;> (repeat' split) <;> omega
theorem monS_one (y : Nat) : monS y 1 = 0 := rfl
theorem monS_step (y : Nat) {m : Nat} (h : 1 ≤ m) : monS y (m + 1) = monS y m + lenM y m := by
  show (if m = 0 then 0 else monS y m + lenM y m) = _
  rw [if_neg (by omega)]
theorem monS_12 (y : Nat) : monS y 12 + lenM y 12 = 365 + leapI y := by
  simp only [monS, lenM, leapI]
  cases leapN y <;> decide
theorem monS_lt (y : Nat) {m m' : Nat} (h : 1 ≤ m) (h2 : m < m') : monS y m + lenM y m ≤ monS y m' := by
  obtain ⟨k, rfl⟩ : ∃ k, m' = m + 1 + k := ⟨m' - m - 1, by omega⟩
  rw [← monS_step y h]
  induction k with
  | zero => exact Nat.le_refl _
  | succ k ih =>
    have h3 := monS_step y (m := m + 1 + k) (by omega)
    have h4 := ih (by omega)
    rw [show m + 1 + (k + 1) = m + 1 + k + 1 by omega]
    omega
theorem monS_top (y : Nat) {m : Nat} (h : 1 ≤ m) (h2 : m ≤ 12) : monS y m + lenM y m ≤ 365 + leapI y := by
  rw [← monS_12]
  rcases Nat.lt_or_ge m 12 with h3 | h3
  · exact Nat.le_trans (monS_lt y h h3) (Nat.le_add_right _ _)
  · rw [show m = 12 by omega]; exact Nat.le_refl _
/-- A date. -/
structure IsDate (y m d : Nat) : Prop where
  y1 : 1 ≤ y
  m1 : 1 ≤ m
  m2 : m ≤ 12
  d1 : 1 ≤ d
  d2 : d ≤ lenM y m
theorem IsDate.top {y m d : Nat} (h : IsDate y m d) : monS y m + (d - 1) < 365 + leapI y := by
  have := monS_top y h.m1 h.m2
  have := h.d1
  have := h.d2
  omega
/-- Later dates have more days. -/
theorem dayN_lt {y m d y' m' d' : Nat} (h : IsDate y m d) (h' : IsDate y' m' d') (hlt : y < y' ∨ y = y' ∧ (m < m' ∨ m = m' ∧ d < d')) : dayN y m d < dayN y' m' d' := by
  unfold dayN
  rcases hlt with h1 | ⟨rfl, h1 | ⟨rfl, h1⟩⟩
  · have := yearS_lt h.y1 h1
    have := h.top
    omega
  · have := monS_lt y h.m1 h1
    have := h.d1
    have := h.d2
    omega
  · have := h.d1
    omega
theorem dayN_inj {y m d y' m' d' : Nat} (h : IsDate y m d) (h' : IsDate y' m' d') (e : dayN y m d = dayN y' m' d') : y = y' ∧ m = m' ∧ d = d' := by
  rcases Nat.lt_trichotomy y y' with h1 | h1 | h1
  · exact absurd e (Nat.ne_of_lt (dayN_lt h h' (.inl h1)))
  · subst h1
    rcases Nat.lt_trichotomy m m' with h2 | h2 | h2
    · exact absurd e (Nat.ne_of_lt (dayN_lt h h' (.inr ⟨rfl, .inl h2⟩)))
    · subst h2
      rcases Nat.lt_trichotomy d d' with h3 | h3 | h3
      · exact absurd e (Nat.ne_of_lt (dayN_lt h h' (.inr ⟨rfl, .inr ⟨rfl, h3⟩⟩)))
      · exact ⟨rfl, rfl, h3⟩
      · exact absurd e.symm (Nat.ne_of_lt (dayN_lt h' h (.inr ⟨rfl, .inr ⟨rfl, h3⟩⟩)))
    · exact absurd e.symm (Nat.ne_of_lt (dayN_lt h' h (.inr ⟨rfl, .inl h2⟩)))
  · exact absurd e.symm (Nat.ne_of_lt (dayN_lt h' h (.inl h1)))
/-- The year's loop. -/
theorem yearF_spec : ∀ (f y n : Nat), 1 ≤ y → n < 365 * f → yearS (yearF f y n).1 + (yearF f y n).2 = yearS y + n ∧ (yearF f y n).2 < 365 + leapI (yearF f y n).1 ∧ y ≤ (yearF f y n).1
  | 0, y, n, _, h => absurd h (by simp)
  | f + 1, y, n, hy, h => by
    unfold yearF
    rw [lenM_feb]
    by_cases hc : 365 + (28 + leapI y) - 28 ≤ n
    · rw [if_pos hc]
      have := yearF_spec f (y + 1) (n - (365 + (28 + leapI y) - 28)) (by omega) (by omega)
      rw [yearS_step hy] at this
      omega
    · rw [if_neg hc]
      exact ⟨rfl, by show n < 365 + leapI y; omega, Nat.le_refl _⟩
theorem monF_spec (y : Nat) : ∀ (f m n : Nat), 1 ≤ m → m ≤ 12 → 12 < m + f → monS y m + n < 365 + leapI y →
    monS y (monF y f m n).1 + (monF y f m n).2 = monS y m + n ∧ (monF y f m n).2 < lenM y (monF y f m n).1 ∧ m ≤ (monF y f m n).1 ∧ (monF y f m n).1 ≤ 12
  | 0, m, n, h1, h2, h3, h => by omega
  | f + 1, m, n, h1, h2, h3, h => by
    unfold monF
    by_cases hc : lenM y m ≤ n
    · rw [if_pos hc]
      have hm : m < 12 := by
        rcases Nat.lt_or_ge m 12 with h5 | h5
        · exact h5
        · rw [show m = 12 by omega] at hc h
          have := monS_12 y
          omega
      have := monF_spec y f (m + 1) (n - lenM y m) (by omega) (by omega) (by omega) (by rw [monS_step y h1]; omega)
      rw [monS_step y h1] at this
      omega
    · rw [if_neg hc]
      exact ⟨rfl, by show n < lenM y m; omega, Nat.le_refl _, h2⟩
/-- The date of a number of days. -/
theorem dateN_spec (n : Nat) : IsDate (dateN n).1 (dateN n).2.1 (dateN n).2.2 ∧ dayN (dateN n).1 (dateN n).2.1 (dateN n).2.2 = n := by
  unfold dateN
  simp only
  have h1 := yearF_spec 401 (1 + n / 146097 * 400) (n % 146097) (by omega) (by have := Nat.mod_lt n (show 0 < 146097 by decide); omega)
  rw [yearS_400] at h1
  have hq := Nat.div_add_mod n 146097
  obtain ⟨Y, r, e⟩ : ∃ Y r, yearF 401 (1 + n / 146097 * 400) (n % 146097) = (Y, r) := ⟨_, _, rfl⟩
  rw [e] at h1 ⊢
  simp only at h1 ⊢
  have h2 := monF_spec Y 12 1 r (by decide) (by decide) (by decide) (by rw [monS_one]; omega)
  rw [monS_one] at h2
  obtain ⟨M, t, e2⟩ : ∃ M t, monF Y 12 1 r = (M, t) := ⟨_, _, rfl⟩
  rw [e2] at h2 ⊢
  simp only at h2 ⊢
  refine ⟨⟨by omega, by omega, by omega, by omega, by omega⟩, ?_⟩
  unfold dayN
  omega
theorem dateN_dayN {y m d : Nat} (h : IsDate y m d) : dateN (dayN y m d) = (y, m, d) := by
  have h2 := dateN_spec (dayN y m d)
  obtain ⟨h3, h4, h5⟩ := dayN_inj h2.1 h h2.2
  exact Prod.ext h3 (Prod.ext h4 h5)
/-- The years up to 9999 are those with fewer days than 3652059. -/
theorem year_9999 (n : Nat) : (dateN n).1 ≤ 9999 ↔ n < 3652059 := by
  have h := dateN_spec n
  have h2 := h.2
  unfold dayN at h2
  have h3 := h.1.top
  have e : yearS 10000 = 3652059 := by decide
  constructor
  · intro h4
    have := yearS_lt h.1.y1 (show (dateN n).1 < 10000 by omega)
    omega
  · intro h4
    rcases Nat.lt_or_ge 9999 (dateN n).1 with h5 | h5
    · rcases Nat.lt_or_ge 10000 (dateN n).1 with h6 | h6
      · have := yearS_lt (show 1 ≤ 10000 by decide) h6
        omega
      · rw [show (dateN n).1 = 10000 by omega] at h2
        omega
    · exact h5
end Go.Proofs.YtgobpoeccdgeiaaGreatDoor.TimeP

namespace Go.Proofs.YtgobpoeccdgeiaaGreatDoor.TimeP
open NumP DurP
set_option linter.unusedVariables false

theorem fixD_zeros : ∀ (j k e : Nat), fixD (k + j) (e * 10 ^ j) = fixD k e ++ List.replicate j 48
  | 0, k, e => by simp
  | j + 1, k, e => by
    show fixD (k + j) (e * 10 ^ (j + 1) / 10) ++ [UInt8.ofNat (48 + e * 10 ^ (j + 1) % 10)] = _
    rw [show e * 10 ^ (j + 1) = e * 10 ^ j * 10 by rw [Nat.pow_succ, Nat.mul_assoc], Nat.mul_div_cancel _ (by decide), Nat.mul_mod_left, fixD_zeros j k e, List.append_assoc]
    congr 1
    rw [show List.replicate (j + 1) (48 : UInt8) = List.replicate j 48 ++ [48] by rw [List.replicate_succ']]
    rfl
theorem trimZ_zeros : ∀ (j : Nat) (l : List UInt8), trimZ (l ++ List.replicate j 48) = trimZ l
  | 0, l => by simp
  | j + 1, l => by
    rw [List.replicate_succ', ← List.append_assoc]
    have h : ∀ a : List UInt8, trimZ (a ++ [48]) = trimZ a := fun a => by
      unfold trimZ
      rw [List.reverse_append]
      rfl
    rw [h, trimZ_zeros j l]
theorem trimZ_len (l : List UInt8) : (trimZ l).length ≤ l.length := by
  unfold trimZ
  rw [List.length_reverse]
  exact Nat.le_trans (List.dropWhile_suffix _).length_le (by rw [List.length_reverse]; exact Nat.le_refl _)
/-- The two parts of a text without a sign. -/
theorem tx_split (d : Nat) : ∃ w f : List UInt8, tx d = w ++ dot f ∧ before 46 (tx d) = w ∧ behind 46 (tx d) = f ∧ Dig w ∧ Dig f ∧ w ≠ [] ∧ f.length ≤ 20 ∧ valD (w ++ f) * 10 ^ (20 - f.length) = d ∧ w.length = max 21 (lenD d) - 20 ∧ valD w = d / P20 := by
  obtain ⟨w, f, h1, h2, h3, h4, h5, h6, h7, h8, h9⟩ := text_parts ⟨false, d⟩
  have e : tx d = w ++ dot f := h2
  have h46 : ∀ x ∈ w, x ≠ (46 : UInt8) := fun x hx => dig_ne (h3 x hx) (by decide)
  refine ⟨w, f, e, ?_, ?_, h3, h4, h1, h5, h6, h7, h9⟩
  · rw [e, before_app _ _ _ h46, before_dot, List.append_nil]
  · rw [e, behind_app _ _ _ h46, behind_dot]
theorem frac_len {e j : Nat} (hj : j ≤ 20) : (behind 46 (tx (e * 10 ^ j))).length ≤ 20 - j := by
  obtain ⟨d, hd⟩ : ∃ d, d = e * 10 ^ j := ⟨_, rfl⟩
  obtain ⟨K, hK⟩ : ∃ K, K = max 21 (lenD d) := ⟨_, rfl⟩
  obtain ⟨k, hk⟩ : ∃ k, K = k + j := ⟨K - j, by omega⟩
  have hs : fixD K d = fixD k e ++ List.replicate j 48 := by rw [hk, hd, fixD_zeros]
  have hsl : (fixD K d).length = K := fixD_len _ _
  have ht : tx d = (fixD K d).take (K - 20) ++ dot (trimZ ((fixD K d).drop (K - 20))) := by
    unfold tx textN dot
    simp only [← hK, hsl]
    simp
  have h46 : ∀ x ∈ (fixD K d).take (K - 20), x ≠ (46 : UInt8) := fun x hx => dig_ne (fixD_dig _ _ x (List.mem_of_mem_take hx)) (by decide)
  rw [← hd, ht, behind_app _ _ _ h46, behind_dot, hs]
  rw [List.drop_append]
  rw [fixD_len]
  rw [show List.drop (K - 20 - k) (List.replicate j (48 : UInt8)) = List.replicate j 48 by rw [show K - 20 - k = 0 by omega]; rfl]
  rw [trimZ_zeros]
  refine Nat.le_trans (trimZ_len _) ?_
  rw [List.length_drop, fixD_len]
  omega
def P14 : Nat := 10 ^ 14
theorem valD_pad (l : List UInt8) (k : Nat) : valD (l ++ List.replicate k 48) = valD l * 10 ^ k := by
  rw [valD_app, NumP.valD_zeros, List.length_replicate, Nat.add_zero]
theorem pow_split {a n k : Nat} (hk : k ≤ 6) (h : a * 10 ^ (20 - k) = n * P14) : a * 10 ^ (6 - k) = n := by
  have e : 10 ^ (20 - k) = 10 ^ (6 - k) * P14 := by unfold P14; rw [← Nat.pow_add]; congr 1; omega
  rw [e, ← Nat.mul_assoc] at h
  exact Nat.eq_of_mul_eq_mul_right (by decide) h
theorem mic_small {n : Nat} (h : n < 60000000) : n * P14 < 10 ^ 22 := by
  have : n * P14 < 60000000 * P14 := Nat.mul_lt_mul_of_pos_right h (by decide)
  exact Nat.lt_trans this (by decide)
theorem micP_text {n : Nat} (h : n < 60000000) : micP (tx (n * P14)) = (n, true) := by
  obtain ⟨w, f, e, hb, hf, hw, hff, h0, h20, hv, hl, -⟩ := tx_split (n * P14)
  have hg : NumP.Good ⟨false, n * P14⟩ := good_pos (Nat.lt_trans (mic_small h) (by decide))
  have hp : parseT (tx (n * P14)) = (tx (n * P14), 0) := parseT_text hg
  have h6 : f.length ≤ 6 := by
    have := frac_len (e := n) (j := 14) (by decide)
    rw [← hf]
    exact this
  have h2 : w.length ≤ 2 := by
    have := (lenD_le (n * P14) 22).2 (mic_small h)
    omega
  unfold micP
  rw [hp]
  simp only
  rw [if_neg (by
    rintro (h | h | h)
    · exact h rfl
    · exact h rfl
    · exact tx_head _ h)]
  rw [hb, hf, if_neg (by omega), valD_pad, pow_split h6 hv]
  simp [h]
/-- A valid Second. -/
theorem mic_valid {l : List UInt8} (h : (micP l).2 = true) : (micP l).1 < 60000000 ∧ l = tx ((micP l).1 * P14) := by
  unfold micP at h ⊢
  by_cases h1 : (parseT l).2 ≠ 0 ∨ (parseT l).1 ≠ l ∨ l.head? = some 45
  · rw [if_pos h1] at h; cases h
  · rw [if_neg h1] at h ⊢
    by_cases h2 : 2 < (before 46 l).length ∨ 6 < (behind 46 l).length
    · rw [if_pos h2] at h; cases h
    · rw [if_neg h2] at h ⊢
      simp only at h ⊢
      refine ⟨of_decide_eq_true h, ?_⟩
      rw [not_or, not_or] at h1
      obtain ⟨a1, a2, a3⟩ := h1
      have a1 : (parseT l).2 = 0 := Classical.byContradiction a1
      have a2 : (parseT l).1 = l := Classical.byContradiction a2
      have hx : ∃ x, NumP.Good x ∧ l = textN x := by
        unfold parseT at a1 a2
        cases hp : parseN l with
        | error k =>
          rw [hp] at a1
          have := parseN_err hp
          have h1 : k = 0 := a1
          omega
        | ok x =>
          rw [hp] at a2
          exact ⟨x, parseN_good hp, a2.symm⟩
      obtain ⟨⟨neg, d⟩, hx, e⟩ := hx
      cases neg with
      | true => rw [e, tx_neg] at a3; exact absurd rfl a3
      | false =>
        have e : l = tx d := e
        obtain ⟨w, f, -, hb, hf, hw, hff, h0, h20, hv, hl, -⟩ := tx_split d
        rw [e, hb, hf] at h2
        rw [e, hb, hf, valD_pad]
        congr 1
        rw [← hv]
        have e2 : 10 ^ (20 - f.length) = 10 ^ (6 - f.length) * P14 := by unfold P14; rw [← Nat.pow_add]; congr 1; omega
        rw [e2, ← Nat.mul_assoc]
/-- Millionths as a number. -/
def numU (a : Int) : NumP.Num := ⟨decide (a < 0), a.natAbs * P14⟩
theorem numU_good {a : Int} (h : a.natAbs < 10 ^ 30) : NumP.Good (numU a) := by
  refine ⟨?_, fun h2 => ?_⟩
  · show a.natAbs * P14 < P50
    exact Nat.lt_of_lt_of_le (Nat.mul_lt_mul_of_pos_right h (by decide)) (by decide)
  · have h3 : a < 0 := of_decide_eq_true h2
    show 0 < a.natAbs * P14
    exact Nat.mul_pos (by omega) (by decide)
theorem numU_nat (n : Nat) : textN (numU n) = tx (n * P14) := by
  unfold numU tx
  rw [show decide ((n : Int) < 0) = false by simp, Int.natAbs_natCast]
theorem decU_eq {us : Int} (h : us.natAbs < 10 ^ 20) : decU us = textN (numU us) := by
  obtain ⟨hd, h0, hv⟩ := decP_dig (n := us.natAbs) (by omega)
  unfold decU
  simp only
  obtain ⟨D, hD⟩ : ∃ D, D = decP us.natAbs := ⟨_, rfl⟩
  rw [← hD] at hd h0 hv ⊢
  obtain ⟨s, hs⟩ : ∃ s, s = List.replicate (7 - D.length) 48 ++ D := ⟨_, rfl⟩
  rw [← hs]
  have hDl : D.length ≤ 20 := by rw [hD]; exact decF_short 20 us.natAbs 19 (by omega)
  have hsl : 7 ≤ s.length ∧ s.length ≤ 20 := by
    rw [hs, List.length_append, List.length_replicate]
    omega
  have hsd : Dig s := fun c hc => by
    rw [hs, List.mem_append] at hc
    rcases hc with hc | hc
    · rw [List.eq_of_mem_replicate hc]; rfl
    · exact hd c hc
  have hsv : valD s = us.natAbs := by rw [hs, valD_app, NumP.valD_zeros, Nat.zero_mul, Nat.zero_add, hv]
  have hw : Dig (s.take (s.length - 6)) := fun c hc => hsd c (List.mem_of_mem_take hc)
  have hf : Dig (s.drop (s.length - 6)) := fun c hc => hsd c (List.mem_of_mem_drop hc)
  have hfl : (s.drop (s.length - 6)).length = 6 := by rw [List.length_drop]; omega
  have hwl : (s.take (s.length - 6)).length = s.length - 6 := by rw [List.length_take]; omega
  obtain ⟨ng, hng⟩ : ∃ b, b = decide (us < 0) := ⟨_, rfl⟩
  have hpf := parse_form ng (s.take (s.length - 6)) (s.drop (s.length - 6)) (fun h => by rw [h] at hwl; simp at hwl; omega) hw hf (by omega)
  rw [List.take_append_drop, hsv, hfl, if_pos (show 6 ≤ 20 by decide)] at hpf
  have hdot : dot (s.drop (s.length - 6)) = 46 :: s.drop (s.length - 6) := by
    unfold dot
    rw [if_neg (fun h => by rw [h] at hfl; cases hfl)]
  rw [hdot] at hpf
  have hg := numU_good (a := us) (by omega)
  have hc : checkedN (numU us) = .ok (numU us) := checkedN_of hg
  unfold parseT
  rw [show (if us < 0 then [45] else [] : List UInt8) = (if ng = true then [45] else []) by rw [hng]; simp]
  rw [List.append_assoc, hpf, hng]
  show (outN (checkedN (numU us))).1 = _
  rw [hc]
  rfl
end Go.Proofs.YtgobpoeccdgeiaaGreatDoor.TimeP

namespace Go.Proofs.YtgobpoeccdgeiaaGreatDoor.TimeP
open NumP DurP
set_option linter.unusedVariables false

def mkM (y mo d h mi n : Nat) (z : Int) (has : Bool) : Mom := ⟨y, mo, d, h, mi, tx (n * P14), z, has⟩
/-- What a moment's parts are. -/
structure Parts (y mo d h mi n : Nat) : Prop where
  date : IsDate y mo d
  y2 : y ≤ 9999
  h2 : h ≤ 23
  mi2 : mi ≤ 59
  n2 : n < 60000000
structure Zone (z : Int) (has : Bool) : Prop where
  lo : -840 ≤ z
  hi : z ≤ 840
  no : has = false → z = 0
theorem valid_mk {y mo d h mi n : Nat} {z : Int} {has : Bool} (hp : Parts y mo d h mi n) (hz : Zone z has) : validP (mkM y mo d h mi n z has) = true := by
  obtain ⟨⟨y1, m1, m2, d1, d2⟩, y2, h2, i2, n2⟩ := hp
  unfold validP mkM
  simp only [micP_text n2, Int.toNat_natCast, Bool.and_true, Bool.and_eq_true, decide_eq_true_eq, Bool.or_eq_true]
  refine ⟨⟨⟨by omega, by omega, by omega, by omega, by omega, by omega, by omega, by omega, by omega, by omega⟩, hz.lo, hz.hi⟩, ?_⟩
  cases has with
  | true => exact .inl rfl
  | false => exact .inr (hz.no rfl)
theorem valid_of {m : Mom} (h : validP m = true) : ∃ y mo d hh mi n, m = mkM y mo d hh mi n m.z m.has ∧ Parts y mo d hh mi n ∧ Zone m.z m.has := by
  obtain ⟨y, mo, d, hh, mi, s, z, has⟩ := m
  unfold validP at h
  simp only [Bool.and_eq_true, decide_eq_true_eq, Bool.or_eq_true] at h
  obtain ⟨⟨⟨⟨a1, a2, a3, a4, a5, a6, a7, a8, a9, a10⟩, hm⟩, z1, z2⟩, hz⟩ := h
  obtain ⟨hn, hs⟩ := mic_valid hm
  refine ⟨y.toNat, mo.toNat, d.toNat, hh.toNat, mi.toNat, (micP s).1, ?_, ⟨⟨by omega, by omega, by omega, by omega, by omega⟩, by omega, by omega, by omega, hn⟩, z1, z2, fun e => ?_⟩
  · unfold mkM
    rw [← hs]
    simp only [Mom.mk.injEq, and_true]
    omega
  · rcases hz with hz | hz
    · have e : has = false := e
      rw [e] at hz; cases hz
    · exact hz
/-- The millionths of a moment, from 1-1-1 on. -/
def micU (y mo d h mi n : Nat) : Nat := dayN y mo d * 86400000000 + h * 3600000000 + mi * 60000000 + n
def epoch : Int := 62135596800000000
theorem total_mk {y mo d h mi n : Nat} (hn : n < 60000000) (z : Int) (has : Bool) : totalP (mkM y mo d h mi n z has) = (micU y mo d h mi n : Int) - epoch := by
  unfold totalP mkM micU epoch
  simp only [micP_text hn, Int.toNat_natCast]
  omega
theorem micU_lt {y mo d h mi n : Nat} (hp : Parts y mo d h mi n) : micU y mo d h mi n < 3652059 * 86400000000 := by
  have h1 : dayN y mo d < 3652059 := by
    have := (year_9999 (dayN y mo d)).1 (by rw [dateN_dayN hp.date]; exact hp.y2)
    exact this
  obtain ⟨-, -, h2, i2, n2⟩ := hp
  unfold micU
  omega
theorem total_bounds {m : Mom} (h : validP m = true) : -epoch ≤ totalP m ∧ totalP m < 315537897600000000 - epoch := by
  obtain ⟨y, mo, d, hh, mi, n, e, hp, hz⟩ := valid_of h
  rw [e, total_mk hp.n2]
  have := micU_lt hp
  omega
theorem decU_nat {n : Nat} (h : n < 10 ^ 20) : decU (n : Int) = tx (n * P14) := by rw [decU_eq (by omega), numU_nat]
/-- The moment of millionths is that of a date and a time. -/
theorem at_ok {m : Mom} {us : Int} (h0 : 0 ≤ us + epoch) (h1 : us + epoch < 315537897600000000) : ∃ y mo d h mi n, atP m us = (mkM y mo d h mi n m.z m.has, 0) ∧ Parts y mo d h mi n ∧ (micU y mo d h mi n : Int) = us + epoch := by
  unfold epoch at *
  obtain ⟨q, hq⟩ : ∃ q, q = us / 86400000000 := ⟨_, rfl⟩
  obtain ⟨r, hr⟩ : ∃ r, r = (us % 86400000000).toNat := ⟨_, rfl⟩
  have hd := Int.mul_ediv_add_emod us 86400000000
  have hr0 := Int.emod_nonneg us (show (86400000000 : Int) ≠ 0 by decide)
  have hr1 := Int.emod_lt_of_pos us (show (0 : Int) < 86400000000 by decide)
  obtain ⟨N, hN⟩ : ∃ N, N = (q + 719162).toNat := ⟨_, rfl⟩
  have hq0 : 0 ≤ q + 719162 := by omega
  have hN1 : N < 3652059 := by omega
  obtain ⟨sp, se⟩ := dateN_spec N
  have hy := (year_9999 N).2 hN1
  have hr3 : r < 86400000000 := by omega
  have hdr : decU ((r % 60000000 : Nat) : Int) = tx (r % 60000000 * P14) := decU_nat (by omega)
  refine ⟨(dateN N).1, (dateN N).2.1, (dateN N).2.2, r / 3600000000, r % 3600000000 / 60000000, r % 60000000, ?_, ⟨sp, hy, by omega, by omega, by omega⟩, ?_⟩
  · unfold atP
    simp only
    rw [← hq, ← hr, if_neg (by omega), ← hN, if_neg (by omega)]
    unfold mkM
    rw [hdr]
  · unfold micU
    rw [se]
    omega
theorem at_err {m : Mom} {us : Int} (h : ¬ (0 ≤ us + epoch ∧ us + epoch < 315537897600000000)) : atP m us = (mom0, 6) := by
  unfold epoch at h
  unfold atP
  simp only
  have hd := Int.mul_ediv_add_emod us 86400000000
  have hr0 := Int.emod_nonneg us (show (86400000000 : Int) ≠ 0 by decide)
  have hr1 := Int.emod_lt_of_pos us (show (0 : Int) < 86400000000 by decide)
  obtain ⟨q, hq⟩ : ∃ q, q = us / 86400000000 := ⟨_, rfl⟩
  rw [← hq] at hd ⊢
  by_cases h2 : q + 719162 < 0
  · rw [if_pos h2]
  · rw [if_neg h2]
    have h3 : 3652059 ≤ (q + 719162).toNat := by omega
    have h4 : ¬ (dateN (q + 719162).toNat).1 ≤ 9999 := fun h5 => by
      have := (year_9999 _).1 h5
      omega
    rw [if_pos (by omega)]
/-- The parts of a moment follow from its millionths. -/
theorem micU_inj {y mo d h mi n y' mo' d' h' mi' n' : Nat} (hp : Parts y mo d h mi n) (hp' : Parts y' mo' d' h' mi' n') (e : micU y mo d h mi n = micU y' mo' d' h' mi' n') : y = y' ∧ mo = mo' ∧ d = d' ∧ h = h' ∧ mi = mi' ∧ n = n' := by
  unfold micU at e
  have h2 := hp.h2
  have i2 := hp.mi2
  have n2 := hp.n2
  have h2' := hp'.h2
  have i2' := hp'.mi2
  have n2' := hp'.n2
  have e1 : dayN y mo d = dayN y' mo' d' := by omega
  obtain ⟨a, b, c⟩ := dayN_inj hp.date hp'.date e1
  refine ⟨a, b, c, ?_⟩
  rw [e1] at e
  omega
theorem at_total {y mo d h mi n : Nat} (hp : Parts y mo d h mi n) (m : Mom) : atP m ((micU y mo d h mi n : Int) - epoch) = (mkM y mo d h mi n m.z m.has, 0) := by
  have hl := micU_lt hp
  obtain ⟨y', mo', d', h', mi', n', e, hp', eu⟩ := at_ok (m := m) (us := (micU y mo d h mi n : Int) - epoch) (by omega) (by omega)
  obtain ⟨rfl, rfl, rfl, rfl, rfl, rfl⟩ := micU_inj hp' hp (by omega)
  exact e
theorem at_cases (m : Mom) (us : Int) : (∃ y mo d h mi n, atP m us = (mkM y mo d h mi n m.z m.has, 0) ∧ Parts y mo d h mi n ∧ (micU y mo d h mi n : Int) = us + epoch) ∨ atP m us = (mom0, 6) := by
  by_cases h : 0 ≤ us + epoch ∧ us + epoch < 315537897600000000
  · exact .inl (at_ok h.1 h.2)
  · exact .inr (at_err h)
end Go.Proofs.YtgobpoeccdgeiaaGreatDoor.TimeP

namespace Go.Proofs.YtgobpoeccdgeiaaGreatDoor.TimeP
open NumP DurP
set_option linter.unusedVariables false

def toI (x : NumP.Num) : Int := if x.neg then -(x.d : Int) else x.d
def ofI (a : Int) : NumP.Num := ⟨decide (a < 0), a.natAbs⟩
theorem ofI_toI {x : NumP.Num} (h : NumP.Good x) : ofI (toI x) = x := by
  obtain ⟨neg, d⟩ := x
  cases neg with
  | false =>
    show (⟨decide ((d : Int) < 0), (d : Int).natAbs⟩ : NumP.Num) = ⟨false, d⟩
    rw [Int.natAbs_natCast, show decide ((d : Int) < 0) = false by simp]
  | true =>
    have h0 : 0 < d := h.2 rfl
    show (⟨decide (-(d : Int) < 0), (-(d : Int)).natAbs⟩ : NumP.Num) = ⟨true, d⟩
    rw [Int.natAbs_neg, Int.natAbs_natCast, show decide (-(d : Int) < 0) = true by simp; omega]
theorem ofI_good {a : Int} (h : a.natAbs < P50) : NumP.Good (ofI a) := ⟨h, fun h2 => by
  have h3 : a < 0 := of_decide_eq_true h2
  show 0 < a.natAbs
  omega⟩
theorem toI_ofI (a : Int) : toI (ofI a) = a := by
  unfold toI ofI
  by_cases h : a < 0
  · simp [h]; omega
  · simp [h]; omega
theorem checkedN_I (a : Int) (neg : Bool) (d : Nat) (hd : d = a.natAbs) (hn : a ≠ 0 → neg = decide (a < 0)) : checkedN ⟨neg, d⟩ = if a.natAbs < P50 then .ok (ofI a) else .error 40 := by
  unfold checkedN
  simp only
  rw [hd]
  by_cases h : a.natAbs < P50
  · rw [if_neg (by omega), if_pos h]
    unfold ofI
    by_cases h0 : a = 0
    · rw [h0]; simp
    · rw [hn h0]
      have : 0 < a.natAbs := by omega
      simp [this]
  · rw [if_pos (by omega), if_neg h]
/-- A sum of numbers is that of integers. -/
theorem sumN_val (x y : NumP.Num) : sumN x y = if (toI x + toI y).natAbs < P50 then .ok (ofI (toI x + toI y)) else .error 40 := by
  obtain ⟨n1, d1⟩ := x
  obtain ⟨n2, d2⟩ := y
  unfold sumN
  simp only
  cases n1 <;> cases n2 <;> simp only [toI, if_true, if_false, Bool.false_eq_true]
  · exact checkedN_I _ _ _ (by omega) (fun h => by simp; omega)
  · by_cases h : d2 ≤ d1
    · rw [if_pos h]; exact checkedN_I _ _ _ (by omega) (fun h => by simp; omega)
    · rw [if_neg h]; exact checkedN_I _ _ _ (by omega) (fun h => by simp; omega)
  · rw [if_neg (by decide)]
    by_cases h : d2 ≤ d1
    · rw [if_pos h]; exact checkedN_I _ _ _ (by omega) (fun h => by simp; omega)
    · rw [if_neg h]; exact checkedN_I _ _ _ (by omega) (fun h => by simp; omega)
  · exact checkedN_I _ _ _ (by omega) (fun h => by simp; omega)
theorem toI_neg (y : NumP.Num) : toI ⟨!y.neg, y.d⟩ = -toI y := by
  obtain ⟨n, d⟩ := y
  cases n <;> simp [toI]
theorem toI_abs (x : NumP.Num) : (toI x).natAbs = x.d := by
  unfold toI
  split <;> omega
theorem subT_val {x y : NumP.Num} (hx : NumP.Good x) (hy : NumP.Good y) : subT (textN x) (textN y) = if (toI x - toI y).natAbs < P50 then (textN (ofI (toI x - toI y)), 0) else ([], 40) := by
  unfold subT
  rw [bothN_text hx hy, sumN_val, toI_neg, ← Int.sub_eq_add_neg]
  split <;> rfl
theorem addT_val {x y : NumP.Num} (hx : NumP.Good x) (hy : NumP.Good y) : addT (textN x) (textN y) = if (toI x + toI y).natAbs < P50 then (textN (ofI (toI x + toI y)), 0) else ([], 40) := by
  unfold addT
  rw [bothN_text hx hy, sumN_val]
  split <;> rfl
theorem text_head (x : NumP.Num) : (textN x).head? = some 45 ↔ x.neg = true := by
  obtain ⟨n, d⟩ := x
  cases n with
  | true => rw [tx_neg]; simp
  | false =>
    have := tx_head d
    unfold tx at this
    simp [this]
theorem text_zero {x : NumP.Num} (hx : NumP.Good x) : textN x = [48] ↔ toI x = 0 := by
  have h0 : NumP.Good ⟨false, 0⟩ := good_pos (by decide)
  rw [tx_zero]
  constructor
  · intro h
    rw [text_inj hx h0 h]; rfl
  · intro h
    have := ofI_toI hx
    rw [h] at this
    rw [← this]; rfl
def sgnI (a : Int) : Int := if a < 0 then -1 else if a = 0 then 0 else 1
/-- Numbers are compared as integers. -/
theorem cmpT_val {x y : NumP.Num} (hx : NumP.Good x) (hy : NumP.Good y) : cmpT (textN x) (textN y) = (sgnI (toI x - toI y), 0) := by
  unfold cmpT
  simp only
  rw [subT_val hx hy]
  by_cases h : (toI x - toI y).natAbs < P50
  · rw [if_pos h]
    have hg := ofI_good h
    have e0 := text_zero hg
    have e1 := text_head (ofI (toI x - toI y))
    rw [toI_ofI] at e0
    simp only
    rw [if_neg (by decide), if_neg (by decide)]
    unfold sgnI
    by_cases h0 : toI x - toI y = 0
    · rw [if_pos (e0.2 h0), h0]; rfl
    · rw [if_neg (fun h => h0 (e0.1 h))]
      by_cases h1 : toI x - toI y < 0
      · rw [if_pos (e1.2 (decide_eq_true h1)), if_pos h1]
      · rw [if_neg (fun h => h1 (of_decide_eq_true (e1.1 h))), if_neg h1, if_neg h0]
  · rw [if_neg h]
    simp only
    rw [if_neg (by decide), if_pos trivial]
    have a1 := toI_abs x
    have a2 := toI_abs y
    have b1 := hx.1
    have b2 := hy.1
    have e1 := text_head x
    have hs : toI x < 0 ↔ x.neg = true := by
      have := ofI_toI hx
      constructor
      · intro h; rw [← this]; exact decide_eq_true h
      · intro h
        rw [← this] at h
        exact of_decide_eq_true h
    unfold sgnI
    by_cases h1 : toI x < 0
    · rw [if_pos (e1.2 (hs.1 h1)), if_pos (by omega)]
    · rw [if_neg (fun h => h1 (hs.2 (e1.1 h))), if_neg (by omega), if_neg (by omega)]
theorem toI_numU (a : Int) : toI (numU a) = a * (P14 : Nat) := by
  unfold toI numU
  by_cases h : a < 0
  · simp only [h, decide_true, if_true]
    push_cast
    rw [← Int.neg_mul, show -(a.natAbs : Int) = a by omega]
  · simp only [h, decide_false]
    push_cast
    rw [show ((a.natAbs : Nat) : Int) = a by omega]
theorem numU_I (a : Int) : numU a = ofI (a * (P14 : Nat)) := by
  unfold numU ofI
  rw [Int.natAbs_mul, Int.natAbs_natCast]
  congr 1
  have hp : (0 : Int) < (P14 : Nat) := by decide
  by_cases h : a < 0
  · rw [decide_eq_true h, decide_eq_true (Int.mul_neg_of_neg_of_pos h hp)]
  · rw [decide_eq_false h, decide_eq_false (Int.not_lt.2 (Int.mul_nonneg (Int.not_lt.1 h) (Int.le_of_lt hp)))]
theorem cmpT_U {a b : Int} (ha : a.natAbs < 10 ^ 30) (hb : b.natAbs < 10 ^ 30) : cmpT (textN (numU a)) (textN (numU b)) = (sgnI (a - b), 0) := by
  rw [cmpT_val (numU_good ha) (numU_good hb), toI_numU, toI_numU, ← Int.sub_mul]
  have hp : (0 : Int) < (P14 : Nat) := by decide
  unfold sgnI
  by_cases h : a - b < 0
  · rw [if_pos h, if_pos (Int.mul_neg_of_neg_of_pos h hp)]
  · rw [if_neg h, if_neg (Int.not_lt.2 (Int.mul_nonneg (Int.not_lt.1 h) (Int.le_of_lt hp)))]
    by_cases h0 : a - b = 0
    · rw [if_pos h0, h0, Int.zero_mul, if_pos rfl]
    · rw [if_neg h0, if_neg (fun e => by rcases Int.mul_eq_zero.1 e with h1 | h1; exact h0 h1; omega)]
theorem addT_U {a b : Int} (ha : a.natAbs < 10 ^ 30) (hb : b.natAbs < 10 ^ 30) : addT (textN (numU a)) (textN (numU b)) = (textN (numU (a + b)), 0) := by
  rw [addT_val (numU_good ha) (numU_good hb), toI_numU, toI_numU, ← Int.add_mul, ← numU_I]
  have : ((a + b) * (P14 : Nat)).natAbs < P50 := by
    rw [Int.natAbs_mul, Int.natAbs_natCast]
    have h1 : (a + b).natAbs < 10 ^ 31 := by omega
    exact Nat.lt_of_lt_of_le (Nat.mul_lt_mul_of_pos_right h1 (by decide)) (by decide)
  rw [if_pos this]
end Go.Proofs.YtgobpoeccdgeiaaGreatDoor.TimeP

namespace Go.Proofs.YtgobpoeccdgeiaaGreatDoor.TimeP
open NumP DurP
set_option linter.unusedVariables false

/-- What a number is rounded to, in millionths. -/
def rndU (x : NumP.Num) : Int := if x.neg then -(cutN .even x.neg x.d P14 : Int) else (cutN .even x.neg x.d P14 : Nat)
theorem round6 {x : NumP.Num} (hx : NumP.Good x) : roundT (textN x) 6 [101, 118, 101, 110] = outN (checkedN ⟨x.neg, cutN .even x.neg x.d P14 * P14⟩) := by
  unfold roundT
  rw [canon_text hx]
  simp only
  rw [if_neg (by decide)]
  rfl
theorem checked_U (neg : Bool) (c : Nat) : checkedN ⟨neg, c * P14⟩ = if c < 10 ^ 36 then .ok (numU (if neg then -(c : Int) else c)) else .error 40 := by
  unfold checkedN
  simp only
  have e : P50 = 10 ^ 36 * P14 := by decide
  by_cases h : c < 10 ^ 36
  · rw [if_pos h, if_neg (by rw [e]; exact Nat.not_le.2 (Nat.mul_lt_mul_of_pos_right h (by decide)))]
    unfold numU
    congr 1
    cases neg with
    | false => simp
    | true =>
      simp only [if_true, Bool.true_and, Int.natAbs_neg, Int.natAbs_natCast]
      congr 1
      have hp : 0 < P14 := by decide
      by_cases h0 : c = 0
      · rw [h0]; simp
      · rw [decide_eq_true (Nat.mul_pos (by omega) hp), decide_eq_true (by omega)]
  · rw [if_neg h, if_pos (by rw [e]; exact Nat.mul_le_mul_right _ (by omega))]
theorem before_U (a : Int) : stripM (before 46 (textN (numU a))) = before 46 (tx (a.natAbs * P14)) ∧ behind 46 (textN (numU a)) = behind 46 (tx (a.natAbs * P14)) := by
  obtain ⟨n, hn⟩ : ∃ n, n = a.natAbs * P14 := ⟨_, rfl⟩
  unfold numU
  rw [← hn]
  by_cases h : a < 0
  · rw [decide_eq_true h, tx_neg]
    have e1 : before 46 (45 :: tx n) = 45 :: before 46 (tx n) := rfl
    rw [e1]
    exact ⟨rfl, rfl⟩
  · rw [decide_eq_false h]
    refine ⟨?_, rfl⟩
    obtain ⟨w, f, e, hb, hf, hw, hff, h0, h20, hv, hl, -⟩ := tx_split n
    show stripM (before 46 (tx n)) = _
    rw [hb]
    cases w with
    | nil => rfl
    | cons c w =>
      have : c ≠ 45 := dig_ne (hw c (List.mem_cons_self ..)) (by decide)
      unfold stripM
      rw [if_neg (by simpa using this)]
theorem head_U (a : Int) : (textN (numU a)).head? = some 45 ↔ a < 0 := by
  rw [text_head]
  exact ⟨fun h => of_decide_eq_true h, fun h => decide_eq_true h⟩
theorem val_U (n : Nat) : valD (before 46 (tx (n * P14)) ++ behind 46 (tx (n * P14)) ++ List.replicate (6 - (behind 46 (tx (n * P14))).length) 48) = n := by
  obtain ⟨w, f, e, hb, hf, hw, hff, h0, h20, hv, hl, -⟩ := tx_split (n * P14)
  have h6 : f.length ≤ 6 := by
    have := frac_len (e := n) (j := 14) (by decide)
    rw [← hf]
    exact this
  rw [hb, hf, valD_pad, pow_split h6 hv]
theorem long_U (n : Nat) : 12 < (before 46 (tx (n * P14))).length ↔ 10 ^ 18 ≤ n := by
  obtain ⟨w, f, e, hb, hf, hw, hff, h0, h20, hv, hl, -⟩ := tx_split (n * P14)
  rw [hb, hl]
  have h1 := lenD_le (n * P14) 32
  have e2 : (10 : Nat) ^ 32 = 10 ^ 18 * P14 := by decide
  rw [e2] at h1
  constructor
  · intro h
    rcases Nat.lt_or_ge n (10 ^ 18) with h2 | h2
    · have := h1.2 (Nat.mul_lt_mul_of_pos_right h2 (by decide))
      omega
    · exact h2
  · intro h
    rcases Nat.lt_or_ge 32 (lenD (n * P14)) with h2 | h2
    · omega
    · have := Nat.lt_of_mul_lt_mul_right (h1.1 h2)
      omega
/-- Seconds later: by what is rounded to millionths. -/
theorem addSeconds_val {m : Mom} {l : List UInt8} (hm : validP m = true) {x : NumP.Num} (h : parseN l = .ok x) :
    addSecondsP m l = if (rndU x).natAbs < 10 ^ 18 then atP m (totalP m + rndU x) else (mom0, 6) := by
  have hx := parseN_good h
  have hp : parseT l = (textN x, 0) := by unfold parseT; rw [h]; rfl
  unfold addSecondsP
  rw [if_neg (by rw [hm]; decide), hp]
  simp only
  rw [if_neg (fun h => h rfl), round6 hx, checked_U]
  have hab : (rndU x).natAbs = cutN .even x.neg x.d P14 := by
    unfold rndU
    split
    · rw [Int.natAbs_neg, Int.natAbs_natCast]
    · rw [Int.natAbs_natCast]
  rw [hab]
  have hr : (if x.neg = true then -(cutN .even x.neg x.d P14 : Int) else (cutN .even x.neg x.d P14 : Nat)) = rndU x := rfl
  rw [hr]
  obtain ⟨c, hc⟩ : ∃ c, c = cutN .even x.neg x.d P14 := ⟨_, rfl⟩
  rw [← hc] at hab ⊢
  by_cases h36 : c < 10 ^ 36
  · rw [if_pos h36]
    show (if (0 : Int) ≠ 0 ∨ 12 < (stripM (before 46 (textN (numU (rndU x))))).length then (mom0, 6) else _) = _
    obtain ⟨b1, b2⟩ := before_U (rndU x)
    rw [hab] at b1 b2
    have hl := long_U c
    by_cases h18 : c < 10 ^ 18
    · rw [if_pos h18, if_neg (by rw [b1]; rintro (h | h); exact h rfl; exact absurd (hl.1 h) (by omega))]
      show atP m (totalP m + (if (textN (numU (rndU x))).head? = some 45 then -(valD (stripM (before 46 (textN (numU (rndU x)))) ++ behind 46 (textN (numU (rndU x))) ++ List.replicate (6 - (behind 46 (textN (numU (rndU x)))).length) 48) : Int) else (valD (stripM (before 46 (textN (numU (rndU x)))) ++ behind 46 (textN (numU (rndU x))) ++ List.replicate (6 - (behind 46 (textN (numU (rndU x)))).length) 48) : Nat))) = _
      rw [b1, b2, val_U]
      congr 2
      have hd := head_U (rndU x)
      by_cases h0 : rndU x < 0
      · rw [if_pos (hd.2 h0)]; omega
      · rw [if_neg (fun h => h0 (hd.1 h))]; omega
    · rw [if_neg h18, if_pos (.inr (by rw [b1]; exact hl.2 (by omega)))]
  · have h18 : ¬ c < 10 ^ 18 := by omega
    rw [if_neg h36, if_neg h18]
    exact if_pos (Or.inl (by decide))
theorem addSeconds_err {m : Mom} {l : List UInt8} (hm : validP m = true) {k : Int} (h : parseN l = .error k) : addSecondsP m l = (mom0, k) := by
  have hk := parseN_err h
  have hp : parseT l = ([], k) := by unfold parseT; rw [h]; rfl
  unfold addSecondsP
  rw [if_neg (by rw [hm]; decide), hp]
  simp only
  rw [if_pos (by omega)]
theorem addSeconds_bad {m : Mom} {l : List UInt8} (hm : validP m = false) : addSecondsP m l = (mom0, 1) := by
  unfold addSecondsP
  rw [if_pos hm]
/-- TimeSums: seconds that are added are added to the seconds. -/
theorem sums_law {m a : Mom} {l : List UInt8} (h : addSecondsP m l = (a, 0)) :
    ∃ (c : List UInt8 × List UInt8) (s t : List UInt8), parseT l = (c.1, 0) ∧ roundT c.1 6 [101, 118, 101, 110] = (c.2, 0) ∧ secondsT m = (s, 0) ∧ secondsT a = (t, 0) ∧ addT s c.2 = (t, 0) ∧ a.z = m.z ∧ a.has = m.has := by
  cases hv : validP m with
  | false => rw [addSeconds_bad hv] at h; cases h
  | true =>
    cases hp : parseN l with
    | error k =>
      rw [addSeconds_err hv hp] at h
      have := parseN_err hp
      injection h with h1 h2
      omega
    | ok x =>
      have hx := parseN_good hp
      rw [addSeconds_val hv hp] at h
      by_cases h18 : (rndU x).natAbs < 10 ^ 18
      · rw [if_pos h18] at h
        rcases at_cases m (totalP m + rndU x) with ⟨y, mo, d, hh, mi, n, e, hP, hU⟩ | e
        · rw [e] at h
          injection h with h1 h2
          obtain ⟨y0, mo0, d0, hh0, mi0, n0, e0, hP0, hZ⟩ := valid_of hv
          have hb := total_bounds hv
          have hta : totalP a = totalP m + rndU x := by
            rw [← h1, total_mk hP.n2, hU]; omega
          have hva : validP a = true := by rw [← h1]; exact valid_mk hP hZ
          have hz : a.z = m.z := by rw [← h1]; rfl
          have hh' : a.has = m.has := by rw [← h1]; rfl
          have hzl := hZ.lo
          have hzh := hZ.hi
          have htb := total_bounds hva
          unfold epoch at hb htb
          refine ⟨(textN x, textN (numU (rndU x))), textN (numU (totalP m - m.z * 60000000)), textN (numU (totalP a - a.z * 60000000)), ?_, ?_, ?_, ?_, ?_, hz, hh'⟩
          · unfold parseT; rw [hp]; rfl
          · rw [round6 hx, checked_U]
            have hab : (rndU x).natAbs = cutN .even x.neg x.d P14 := by
              unfold rndU
              split
              · rw [Int.natAbs_neg, Int.natAbs_natCast]
              · rw [Int.natAbs_natCast]
            rw [if_pos (by rw [← hab]; omega)]
            rfl
          · unfold secondsT; rw [hv, if_pos rfl, decU_eq (by omega)]
          · unfold secondsT; rw [hva, if_pos rfl, decU_eq (by omega)]
          · have : (rndU x).natAbs < 10 ^ 30 := Nat.lt_trans h18 (by decide)
            rw [addT_U (by omega) this, hta, hz]
            congr 3
            omega
        · rw [e] at h; cases h
      · rw [if_neg h18] at h; cases h
end Go.Proofs.YtgobpoeccdgeiaaGreatDoor.TimeP

namespace Go.Proofs.YtgobpoeccdgeiaaGreatDoor.TimeP
open NumP DurP
set_option linter.unusedVariables false

end Go.Proofs.YtgobpoeccdgeiaaGreatDoor.TimeP

namespace Go.Proofs.YtgobpoeccdgeiaaGreatDoor.TimeP
open NumP DurP
set_option linter.unusedVariables false

theorem numR_app : ∀ (l : List UInt8) (a : Nat) (r : List UInt8), Dig l → numR l.length a (l ++ r) = some (valF a l, r)
  | [], a, r, _ => rfl
  | c :: l, a, r, h => by
    show (if isDig c = true then numR l.length (10 * a + (c.toNat - 48)) (l ++ r) else none) = _
    rw [if_pos (h c (List.mem_cons_self ..)), numR_app l _ r fun x hx => h x (List.mem_cons_of_mem _ hx)]
    rfl
theorem num_dig {l r : List UInt8} {w n : Nat} (hd : Dig l) (hl : l.length = w) (hv : valD l = n) : numR w 0 (l ++ r) = some (n, r) := by
  rw [← hl, numR_app l 0 r hd, show valF 0 l = valD l from rfl, hv]
theorem padP_is {n w : Nat} (h : n < 10 ^ w) (hw : 1 ≤ w) (hw2 : w ≤ 9) : Dig (padP n w) ∧ (padP n w).length = w ∧ valD (padP n w) = n := by
  have h9 : (10 : Nat) ^ w ≤ 10 ^ 9 := Nat.pow_le_pow_right (by decide) hw2
  obtain ⟨hd, h0, hv⟩ := decP_dig (n := n) (by omega)
  have hl : (decP n).length ≤ w := by
    have := decF_short 20 n (w - 1) (by rw [show w - 1 + 1 = w by omega]; exact h)
    show (decF 20 n).length ≤ w
    omega
  unfold padP
  refine ⟨fun c hc => ?_, ?_, ?_⟩
  · rw [List.mem_append] at hc
    rcases hc with hc | hc
    · rw [List.eq_of_mem_replicate hc]; rfl
    · exact hd c hc
  · rw [List.length_append, List.length_replicate]; omega
  · rw [valD_app, NumP.valD_zeros, Nat.zero_mul, Nat.zero_add, hv]
theorem dig_app {a b : List UInt8} (ha : Dig a) (hb : Dig b) : Dig (a ++ b) := fun c hc => by
  rw [List.mem_append] at hc
  exact hc.elim (ha c) (hb c)
theorem parse_tx {w f : List UInt8} {d : Nat} (hw : Dig w) (hf : Dig f) (h0 : w ≠ []) (hl : w.length + f.length ≤ 190) (h20 : f.length ≤ 20) (hv : valD (w ++ f) * 10 ^ (20 - f.length) = d) (hd : d < P50) : parseT (w ++ dot f) = (tx d, 0) := by
  have h := parse_form false w f h0 hw hf hl
  rw [if_pos h20, hv, checkedN_pos hd] at h
  unfold parseT
  rw [show w ++ dot f = (if false = true then [45] else []) ++ (w ++ dot f) from rfl, h]
  rfl
theorem tx0 : ([48] : List UInt8) = tx (0 * P14) := by rw [Nat.zero_mul]; exact tx_zero
end Go.Proofs.YtgobpoeccdgeiaaGreatDoor.TimeP

namespace Go.Proofs.YtgobpoeccdgeiaaGreatDoor.TimeP
open NumP DurP
set_option linter.unusedVariables false

end Go.Proofs.YtgobpoeccdgeiaaGreatDoor.TimeP
