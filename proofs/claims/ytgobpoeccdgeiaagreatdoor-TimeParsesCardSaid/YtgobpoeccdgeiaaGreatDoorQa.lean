/- Decimal numbers as plain Lean functions: a sign and a natural number, which stands for so many parts of 10 to the power 20. Nothing of Go and of memory stands here. Natural numbers as rows of words to the base 10^9, the lowest first, without zero words at the end. Rows of words, plainly: what norm, cmp and times of package num compute (by own walks, without printed texts). Rows of words in memory; the contracts of norm and cmp of package num over them, by own walks. Plain laws of package num on words: digits into words, sum, difference, quotient. -/
import Derived.Test.YtgobpoeccdgeiaaGreatDoorProg
import Derived.WalkKit
import Derived.IntWalk
import Derived.Lib.Hide
import Derived.Below
import Derived.OwnWalk
import Derived.ArgAppend
import Derived.Laws.OwnMore
import Derived.Laws.MakeOwn
import Derived.Deep.Draws
import Derived.Deep.QuietTactic
import Derived.BigQuiet

namespace Go.Proofs.YtgobpoeccdgeiaaGreatDoor.NumP
set_option linter.unusedVariables false

/-- A number: its sign, and its absolute value times 10 to the power 20. -/
structure Num where
  neg : Bool
  d : Nat
deriving DecidableEq

def isDig (c : UInt8) : Bool := decide (48 ≤ c.toNat) && decide (c.toNat ≤ 57)
def valF (n : Nat) (l : List UInt8) : Nat := l.foldl (fun n c => 10 * n + (c.toNat - 48)) n
def valD (l : List UInt8) : Nat := valF 0 l
theorem valF_app (n : Nat) (a b : List UInt8) : valF n (a ++ b) = valF (valF n a) b := by simp [valF]
theorem valF_eq : ∀ (l : List UInt8) (n : Nat), valF n l = n * 10 ^ l.length + valD l
  | [], n => by simp [valF, valD]
  | c :: l, n => by
    have h1 := valF_eq l (10 * n + (c.toNat - 48))
    have h2 := valF_eq l (c.toNat - 48)
    have h3 : valD (c :: l) = valF (c.toNat - 48) l := by show valF (10 * 0 + (c.toNat - 48)) l = _; rw [Nat.mul_zero, Nat.zero_add]
    show valF (10 * n + (c.toNat - 48)) l = n * 10 ^ (l.length + 1) + valD (c :: l)
    rw [h3, h1, h2, Nat.pow_succ, Nat.add_mul]
    have : 10 * n * 10 ^ l.length = n * (10 ^ l.length * 10) := by
      rw [Nat.mul_comm 10 n, Nat.mul_assoc, Nat.mul_comm 10 (10 ^ l.length)]
    omega
theorem valD_lt : ∀ (l : List UInt8), (∀ c ∈ l, isDig c = true) → valD l < 10 ^ l.length
  | [], _ => by simp [valD, valF]
  | c :: l, h => by
    have h1 := valD_lt l fun x hx => h x (List.mem_cons_of_mem _ hx)
    have h2 := h c (List.mem_cons_self ..)
    simp only [isDig, Bool.and_eq_true, decide_eq_true_eq] at h2
    show valF (10 * 0 + (c.toNat - 48)) l < 10 ^ (l.length + 1)
    rw [Nat.mul_zero, Nat.zero_add, valF_eq, Nat.pow_succ]
    have h3 : (c.toNat - 48) * 10 ^ l.length ≤ 9 * 10 ^ l.length := Nat.mul_le_mul_right _ (by omega)
    omega

/-- k digits of a number, the highest first. -/
def fixD : Nat → Nat → List UInt8
  | 0, _ => []
  | k + 1, n => fixD k (n / 10) ++ [UInt8.ofNat (48 + n % 10)]
theorem fixD_len : ∀ k n, (fixD k n).length = k
  | 0, _ => rfl
  | k + 1, n => by simp [fixD, fixD_len k]
/-- How many digits a number has (0 of 0). -/
def lenF : Nat → Nat → Nat
  | 0, _ => 0
  | f + 1, n => if n = 0 then 0 else lenF f (n / 10) + 1
def lenD (n : Nat) : Nat := lenF (n.log2 + 1) n

/-- The errors: 1 an argument, 2 too long, 5 the form, 6 the range, 40 too many digits, 41 a division by 0. -/
abbrev R := Except Int Num

def P20 : Nat := 10 ^ 20
def P50 : Nat := 10 ^ 50
def checkedN (x : Num) : R := if P50 ≤ x.d then .error 40 else .ok ⟨x.neg && decide (0 < x.d), x.d⟩

inductive Way | half | even | floor | ceiling | cut
deriving DecidableEq
/-- Whether an absolute value is increased, when rest of unit is cut off a quotient q. -/
def Way.up (w : Way) (neg : Bool) (q rest unit : Nat) : Bool :=
  match w with
  | .half => decide (unit < 2 * rest) || (decide (2 * rest = unit) && !neg)
  | .even => decide (unit < 2 * rest) || (decide (2 * rest = unit) && decide (q % 2 = 1))
  | .floor => neg && decide (rest ≠ 0)
  | .ceiling => !neg && decide (rest ≠ 0)
  | .cut => false
def cutN (w : Way) (neg : Bool) (a unit : Nat) : Nat := a / unit + (w.up neg (a / unit) (a % unit) unit).toNat

/-- Up to the first byte c, and behind it. -/
def before (c : UInt8) (l : List UInt8) : List UInt8 := l.takeWhile (· != c)
def behind (c : UInt8) (l : List UInt8) : List UInt8 := (l.dropWhile (· != c)).drop 1
def unsigned (l : List UInt8) : List UInt8 :=
  match l with
  | 45 :: r => r
  | 43 :: r => r
  | l => l
def parseN (l : List UInt8) : R :=
  if 200 < l.length then .error 2 else
    let neg := l.head? == some 45
    let rest := unsigned l
    let whole := before 46 rest
    let frac := behind 46 rest
    let all := whole ++ frac
    if all = [] ∨ all.all isDig = false then .error 5 else
      checkedN ⟨neg, if frac.length ≤ 20 then valD all * 10 ^ (20 - frac.length) else cutN .even neg (valD all) (10 ^ (frac.length - 20))⟩

def trimZ (l : List UInt8) : List UInt8 := (l.reverse.dropWhile (· == 48)).reverse
def textN (x : Num) : List UInt8 :=
  let s := fixD (max 21 (lenD x.d)) x.d
  let frac := trimZ (s.drop (s.length - 20))
  (if x.neg then [45] else []) ++ s.take (s.length - 20) ++ (if frac = [] then [] else 46 :: frac)
def canonN (l : List UInt8) : R := match parseN l with
  | .ok x => if textN x = l then .ok x else .error 1
  | .error _ => .error 1
/-- What a result is written as, with the error. -/
def outN (r : R) : List UInt8 × Int := match r with
  | .ok x => (textN x, 0)
  | .error e => ([], e)
def sumN (x y : Num) : R :=
  if x.neg = y.neg then checkedN ⟨x.neg, x.d + y.d⟩ else if y.d ≤ x.d then checkedN ⟨x.neg, x.d - y.d⟩ else checkedN ⟨y.neg, y.d - x.d⟩
def bothN (a b : List UInt8) (f : Num → Num → R) : R := match canonN a, canonN b with
  | .ok x, .ok y => f x y
  | _, _ => .error 1
def divN (f : Num → Num → R) (x y : Num) : R := if y.d = 0 then .error 41 else f x y
def addT (a b : List UInt8) : List UInt8 × Int := outN (bothN a b sumN)
def subT (a b : List UInt8) : List UInt8 × Int := outN (bothN a b fun x y => sumN x ⟨!y.neg, y.d⟩)
def mulT (a b : List UInt8) : List UInt8 × Int := outN (bothN a b fun x y => checkedN ⟨x.neg != y.neg, cutN .even (x.neg != y.neg) (x.d * y.d) P20⟩)
def idivT (a b : List UInt8) : List UInt8 × Int := outN (bothN a b (divN fun x y => checkedN ⟨x.neg != y.neg, x.d / y.d * P20⟩))
def modT (a b : List UInt8) : List UInt8 × Int := outN (bothN a b (divN fun x y => checkedN ⟨x.neg, x.d % y.d⟩))
def parseT (a : List UInt8) : List UInt8 × Int := outN (parseN a)
def wayOf (how : List UInt8) : Option Way :=
  if how = [104, 97, 108, 102] then some .half else if how = [101, 118, 101, 110] then some .even else if how = [102, 108, 111, 111, 114] then some .floor else
  if how = [99, 101, 105, 108, 105, 110, 103] then some .ceiling else if how = [99, 117, 116] then some .cut else none
def roundT (a : List UInt8) (digits : Int) (how : List UInt8) : List UInt8 × Int := outN (match canonN a with
  | .error e => .error e
  | .ok x => if digits < -30 ∨ 20 < digits then .error 6 else match wayOf how with
    | none => .error 1
    | some w => checkedN ⟨x.neg, cutN w x.neg x.d (10 ^ (20 - digits).toNat) * 10 ^ (20 - digits).toNat⟩)
/-- The program's Cmp: by the text of the difference. -/
def cmpT (a b : List UInt8) : Int × Int :=
  let d := subT a b
  if d.2 = 1 then (0, 1) else if d.2 = 40 then (if a.head? = some 45 then (-1, 0) else (1, 0)) else if d.1 = [48] then (0, 0) else if d.1.head? = some 45 then (-1, 0) else (1, 0)
end Go.Proofs.YtgobpoeccdgeiaaGreatDoor.NumP

namespace Go.Proofs.YtgobpoeccdgeiaaGreatDoor.NumP
set_option linter.unusedVariables false

def vB : List Int → Int
  | [] => 0
  | w :: ws => w + 1000000000 * vB ws
/-- Words to the base. -/
def Wd (ws : List Int) : Prop := ∀ w ∈ ws, 0 ≤ w ∧ w < 1000000000
/-- No zero word at the end. -/
def Nz (ws : List Int) : Prop := ws.getLast? ≠ some 0
structure Is (ws : List Int) (n : Nat) : Prop where
  wd : Wd ws
  nz : Nz ws
  v : vB ws = n
theorem Wd.tail {w : Int} {ws : List Int} (h : Wd (w :: ws)) : Wd ws := fun x hx => h x (List.mem_cons_of_mem _ hx)
theorem Wd.head {w : Int} {ws : List Int} (h : Wd (w :: ws)) : 0 ≤ w ∧ w < 1000000000 := h w (List.mem_cons_self ..)
theorem Wd.app {a b : List Int} (ha : Wd a) (hb : Wd b) : Wd (a ++ b) := fun x hx => (List.mem_append.1 hx).elim (ha x) (hb x)
theorem vB_nonneg : ∀ {ws : List Int}, Wd ws → 0 ≤ vB ws
  | [], _ => by simp [vB]
  | w :: ws, h => by
    have h1 := vB_nonneg h.tail
    have h2 := h.head
    simp only [vB]; omega
theorem vB_lt : ∀ {ws : List Int}, Wd ws → vB ws < 1000000000 ^ ws.length
  | [], _ => by simp [vB]
  | w :: ws, h => by
    have h1 := vB_lt h.tail
    have h2 := h.head
    simp only [vB, List.length_cons, Int.pow_succ]
    omega
theorem vB_app : ∀ (a b : List Int), vB (a ++ b) = vB a + 1000000000 ^ a.length * vB b
  | [], b => by simp [vB]
  | w :: a, b => by
    have := vB_app a b
    simp only [List.cons_append, vB, this, List.length_cons, Int.pow_succ]
    rw [Int.mul_add, ← Int.mul_assoc, Int.mul_comm 1000000000 (1000000000 ^ a.length)]
    omega
theorem Nz.tail {w x : Int} {ws : List Int} (h : Nz (w :: x :: ws)) : Nz (x :: ws) := by
  unfold Nz at h ⊢
  rwa [List.getLast?_cons_cons] at h
theorem Nz_nil : Nz [] := by simp [Nz]
theorem Wd_nil : Wd [] := fun _ h => (List.not_mem_nil h).elim
theorem is_nil : Is [] 0 := ⟨Wd_nil, Nz_nil, rfl⟩
theorem snoc_of {a : List Int} (h : a ≠ []) : ∃ l x, a = l ++ [x] := ⟨a.dropLast, a.getLast h, (List.dropLast_concat_getLast h).symm⟩
theorem vB_pos : ∀ {ws : List Int}, Wd ws → Nz ws → ws ≠ [] → 0 < vB ws
  | [], _, _, h => absurd rfl h
  | [w], h, hz, _ => by
    have h2 := h.head
    have : w ≠ 0 := fun e => hz (by simp [e])
    simp only [vB]; omega
  | w :: x :: ws, h, hz, _ => by
    have h1 := vB_pos h.tail hz.tail (by simp)
    have h2 := h.head
    rw [vB]; omega
/-- A number has one row of words. -/
theorem words_uniq : ∀ {a b : List Int}, Wd a → Nz a → Wd b → Nz b → vB a = vB b → a = b
  | [], [], _, _, _, _, _ => rfl
  | [], x :: b, _, _, hb, zb, h => by
    have := vB_pos hb zb (by simp)
    rw [← h] at this; simp [vB] at this
  | x :: a, [], ha, za, _, _, h => by
    have := vB_pos ha za (by simp)
    rw [h] at this; simp [vB] at this
  | x :: a, y :: b, ha, za, hb, zb, h => by
    have h1 := ha.head
    have h2 := hb.head
    simp only [vB] at h
    have e : x = y := by omega
    have e2 : vB a = vB b := by omega
    have za' : Nz a := by cases a with
      | nil => exact Nz_nil
      | cons => exact za.tail
    have zb' : Nz b := by cases b with
      | nil => exact Nz_nil
      | cons => exact zb.tail
    rw [e, words_uniq ha.tail za' hb.tail zb' e2]
theorem Is.uniq {a b : List Int} {n : Nat} (ha : Is a n) (hb : Is b n) : a = b := words_uniq ha.wd ha.nz hb.wd hb.nz (ha.v.trans hb.v.symm)
theorem Is.zero {a : List Int} {n : Nat} (h : Is a n) : a = [] ↔ n = 0 := by
  constructor
  · rintro rfl
    have := h.v
    simp [vB] at this
    omega
  · intro e
    subst e
    exact h.uniq is_nil
theorem Is.pos {a : List Int} {n : Nat} (h : Is a n) : (0 < a.length) ↔ 0 < n := by
  have := h.zero
  cases a with
  | nil => simp at this; simp [this]
  | cons x a => simp at this; simp; omega
theorem Is.lt {a : List Int} {n : Nat} (h : Is a n) : n < 1000000000 ^ a.length := by
  have h1 := vB_lt h.wd
  rw [h.v] at h1
  have : ((1000000000 : Int) ^ a.length) = ((1000000000 ^ a.length : Nat) : Int) := by simp
  rw [this] at h1
  exact Int.ofNat_lt.1 h1
theorem Is.ge {a : List Int} {n : Nat} (h : Is a n) (h0 : a ≠ []) : 1000000000 ^ (a.length - 1) ≤ n := by
  obtain ⟨l, x, rfl⟩ := snoc_of h0
  have hx := h.wd x (by simp)
  have hxz : x ≠ 0 := fun e => h.nz (by simp [e])
  have hl : Wd l := fun y hy => h.wd y (by simp [hy])
  have h1 := vB_app l [x]
  have h2 := vB_nonneg hl
  have h3 := h.v
  rw [h1] at h3
  simp only [vB, List.length_append, List.length_singleton, Nat.add_sub_cancel] at h3 ⊢
  have e : ((1000000000 : Int) ^ l.length) = ((1000000000 ^ l.length : Nat) : Int) := by simp
  rw [e, Int.mul_zero, Int.add_zero] at h3
  clear h1 e
  generalize 1000000000 ^ l.length = Q at *
  have h4 : (Q : Int) * 1 ≤ (Q : Int) * x := Int.mul_le_mul_of_nonneg_left (by omega) (Int.natCast_nonneg _)
  omega
theorem Is.len_le {a : List Int} {n k : Nat} (h : Is a n) (hn : n < 1000000000 ^ k) : a.length ≤ k := by
  rcases Nat.lt_or_ge k a.length with hk | hk
  · have h0 : a ≠ [] := fun e => by rw [e] at hk; simp at hk
    have h1 := h.ge h0
    have h2 : 1000000000 ^ k ≤ 1000000000 ^ (a.length - 1) := Nat.pow_le_pow_right (by decide) (by omega)
    omega
  · exact hk
/-- Without the zero words at the end. -/
def normL (a : List Int) : List Int := (a.reverse.dropWhile (· == 0)).reverse
theorem normL_snoc (a : List Int) (x : Int) : normL (a ++ [x]) = if x = 0 then normL a else a ++ [x] := by
  unfold normL
  rw [List.reverse_append, List.reverse_singleton, List.singleton_append, List.dropWhile_cons]
  by_cases h : x = 0
  · simp [h]
  · simp [h]
theorem normL_is : ∀ (n : Nat) (a : List Int), a.length = n → Wd a → Wd (normL a) ∧ Nz (normL a) ∧ vB (normL a) = vB a
  | 0, a, h, _ => by
    obtain rfl := List.eq_nil_of_length_eq_zero h
    exact ⟨Wd_nil, Nz_nil, rfl⟩
  | n + 1, a, h, hw => by
    have h0 : a ≠ [] := fun e => by simp [e] at h
    obtain ⟨l, x, rfl⟩ := snoc_of h0
    have hl : Wd l := fun y hy => hw y (by simp [hy])
    rw [normL_snoc]
    by_cases hx : x = 0
    · rw [if_pos hx, vB_app]
      have := normL_is n l (by simpa using h) hl
      refine ⟨this.1, this.2.1, ?_⟩
      rw [this.2.2, hx]; simp [vB]
    · rw [if_neg hx]
      exact ⟨hw, by unfold Nz; simpa using hx, rfl⟩
theorem is_norm {a : List Int} {n : Nat} (hw : Wd a) (hv : vB a = n) : Is (normL a) n := by
  have := normL_is a.length a rfl hw
  exact ⟨this.1, this.2.1, this.2.2.trans hv⟩
/-- The words of a number. -/
def wordsF : Nat → Nat → List Int
  | 0, _ => []
  | f + 1, n => if n = 0 then [] else ((n % 1000000000 : Nat) : Int) :: wordsF f (n / 1000000000)
def wordsN (n : Nat) : List Int := wordsF n n
theorem wordsF_is : ∀ (f n : Nat), n ≤ f → Is (wordsF f n) n
  | 0, n, h => by
    obtain rfl : n = 0 := by omega
    exact is_nil
  | f + 1, n, h => by
    by_cases h0 : n = 0
    · subst h0; simp only [wordsF, if_true]; exact is_nil
    · have hd : n / 1000000000 ≤ f := by omega
      have ih := wordsF_is f (n / 1000000000) hd
      simp only [wordsF, if_neg h0]
      refine ⟨fun x hx => ?_, ?_, ?_⟩
      · rcases List.mem_cons.1 hx with rfl | hx
        · omega
        · exact ih.wd x hx
      · cases hc : wordsF f (n / 1000000000) with
        | nil =>
          have : n / 1000000000 = 0 := ih.zero.1 hc
          simp [Nz]; omega
        | cons y l =>
          unfold Nz
          rw [List.getLast?_cons_cons, ← hc]
          exact ih.nz
      · rw [vB, ih.v]; omega
theorem wordsN_is (n : Nat) : Is (wordsN n) n := wordsF_is n n (Nat.le_refl _)
theorem Is.eq {a : List Int} {n : Nat} (h : Is a n) : a = wordsN n := h.uniq (wordsN_is n)
end Go.Proofs.YtgobpoeccdgeiaaGreatDoor.NumP

namespace Go.Proofs.YtgobpoeccdgeiaaGreatDoorW.PrintWords
/-- The word at a place of a row. -/
def rd (xs : List Int) (i : Int) : Int := xs.getD i.toNat 0
end Go.Proofs.YtgobpoeccdgeiaaGreatDoorW.PrintWords
namespace Go.Proofs.YtgobpoeccdgeiaaGreatDoor
open Go.RowKit NumP Go.Proofs.YtgobpoeccdgeiaaGreatDoorW.PrintWords
set_option linter.unusedVariables false

/-- The base to the power n. -/
def PW (n : Nat) : Int := 1000000000 ^ n
theorem PW_succ (n : Nat) : PW (n + 1) = PW n * 1000000000 := Int.pow_succ ..
theorem PW_add (n m : Nat) : PW (n + m) = PW n * PW m := Int.pow_add ..
theorem PW_pos (n : Nat) : 0 < PW n := Int.pow_pos (by decide)
theorem vB_join (a b : List Int) : vB (a ++ b) = vB a + PW a.length * vB b := vB_app a b
theorem vB_max {ws : List Int} (h : Wd ws) : vB ws < PW ws.length := vB_lt h
theorem u64w (n : Int) (h : 0 ≤ n ∧ n ≤ 18446744073709551615) : IntKind.u64.wrap n = n := IntWalk.u64_in n h
theorem rd_at (x : List Int) (i : Nat) (h : i < x.length) : rd x (i : Int) = x[i] := by simp [rd, List.getD, h]
theorem rd_out (x : List Int) (i : Nat) (h : x.length ≤ i) : rd x (i : Int) = 0 := by simp [rd, List.getD, h]
theorem rd_wd {x : List Int} (h : Wd x) (i : Nat) : 0 ≤ rd x (i : Int) ∧ rd x (i : Int) < 1000000000 := by
  rcases Nat.lt_or_ge i x.length with hi | hi
  · rw [rd_at x i hi]; exact h _ (List.getElem_mem hi)
  · rw [rd_out x i hi]; decide
theorem take_snoc {α : Type} (x : List α) (i : Nat) (h : i < x.length) : x.take (i + 1) = x.take i ++ [x[i]] := List.take_succ_eq_append_getElem h
theorem set_take (x : List Int) (i : Nat) (h : i < x.length) (v : Int) : (x.set i v).take (i + 1) = x.take i ++ [v] := by
  rw [take_snoc _ i (by simpa using h)]
  congr 1
  · rw [List.take_set_of_le (Nat.le_refl _)]
  · simp
theorem vB_snoc (x : List Int) (v : Int) : vB (x ++ [v]) = vB x + PW x.length * v := by
  rw [vB_join]; simp [vB]
theorem vB_take (x : List Int) (i : Nat) : vB (x.take (i + 1)) = vB (x.take i) + PW i * rd x (i : Int) := by
  rcases Nat.lt_or_ge i x.length with hi | hi
  · rw [take_snoc x i hi, vB_snoc, rd_at x i hi]
    rw [List.length_take_of_le (by omega)]
  · rw [rd_out x i hi, List.take_of_length_le hi, List.take_of_length_le (by omega)]; simp
theorem NumP.Wd.take {x : List Int} (h : Wd x) (i : Nat) : Wd (x.take i) := fun y hy => h y (List.mem_of_mem_take hy)
theorem NumP.Wd.drop {x : List Int} (h : Wd x) (i : Nat) : Wd (x.drop i) := fun y hy => h y (List.mem_of_mem_drop hy)
theorem NumP.Wd.snoc {x : List Int} (h : Wd x) {v : Int} (hv : 0 ≤ v ∧ v < 1000000000) : Wd (x ++ [v]) := h.app fun y hy => by rw [List.mem_singleton.1 hy]; exact hv
theorem NumP.Wd.set {x : List Int} (h : Wd x) (i : Nat) {v : Int} (hv : 0 ≤ v ∧ v < 1000000000) : Wd (x.set i v) := fun y hy => by
  rcases List.mem_or_eq_of_mem_set hy with hy | rfl
  · exact h y hy
  · exact hv
theorem vB_set (x : List Int) (i : Nat) (h : i < x.length) (v : Int) : vB (x.set i v) = vB x + PW i * (v - rd x (i : Int)) := by
  have e1 : x.set i v = x.take i ++ v :: x.drop (i + 1) := by rw [List.set_eq_take_append_cons_drop, if_pos h]
  have e2 : x = x.take i ++ x[i] :: x.drop (i + 1) := by rw [← List.drop_eq_getElem_cons h, List.take_append_drop]
  have e3 : vB x = vB (x.take i) + PW (x.take i).length * vB (x[i] :: x.drop (i + 1)) := by
    conv => lhs; rw [e2]
    exact vB_join _ _
  rw [e1, vB_join, e3, rd_at x i h, List.length_take_of_le (by omega)]
  simp only [vB]
  grind

theorem normL_len (x : List Int) : (normL x).length ≤ x.length := by
  unfold normL
  have := (List.dropWhile_suffix (l := x.reverse) (· == 0)).length_le
  simpa using this

/-- The sign of a comparison. -/
def Sgn (r : Int) (n m : Int) : Prop := (r < 0 ↔ n < m) ∧ (r = 0 ↔ n = m) ∧ -1000000000 < r ∧ r < 1000000000
theorem sgn_high (P x y u v : Int) (hP : 0 < P) (hu : 0 ≤ u ∧ u < P) (hv : 0 ≤ v ∧ v < P) (hne : x ≠ y) : (x - y < 0 ↔ u + P * x < v + P * y) ∧ (x - y = 0 ↔ u + P * x = v + P * y) := by
  rcases Int.lt_or_gt_of_ne hne with h | h
  · have h1 : P * (x + 1) ≤ P * y := Int.mul_le_mul_of_nonneg_left (by omega) (by omega)
    rw [Int.mul_add, Int.mul_one] at h1
    constructor <;> constructor <;> intro _ <;> omega
  · have h1 : P * (y + 1) ≤ P * x := Int.mul_le_mul_of_nonneg_left (by omega) (by omega)
    rw [Int.mul_add, Int.mul_one] at h1
    constructor <;> constructor <;> intro _ <;> omega
theorem cmp_at {a b : List Int} (ha : Wd a) (hb : Wd b) (hl : a.length = b.length) {i : Nat} (hi : i < a.length) (hd : a.drop (i + 1) = b.drop (i + 1)) (h0 : rd a (i : Int) ≠ rd b (i : Int)) : Sgn (rd a (i : Int) - rd b (i : Int)) (vB a) (vB b) := by
  have h1 := rd_wd ha i
  have h2 := rd_wd hb i
  have va : vB a = vB (a.take i) + PW i * rd a (i : Int) + PW (i + 1) * vB (a.drop (i + 1)) := by
    conv => lhs; rw [← List.take_append_drop (i + 1) a, vB_join, vB_take, List.length_take_of_le hi]
  have vb : vB b = vB (b.take i) + PW i * rd b (i : Int) + PW (i + 1) * vB (b.drop (i + 1)) := by
    conv => lhs; rw [← List.take_append_drop (i + 1) b, vB_join, vB_take, List.length_take_of_le (by omega)]
  have p1 := vB_nonneg (ha.take i)
  have p2 := vB_max (ha.take i)
  have p3 := vB_nonneg (hb.take i)
  have p4 := vB_max (hb.take i)
  rw [List.length_take_of_le (by omega)] at p2 p4
  have hs := sgn_high (PW i) (rd a (i : Int)) (rd b (i : Int)) (vB (a.take i)) (vB (b.take i)) (PW_pos i) ⟨p1, p2⟩ ⟨p3, p4⟩ h0
  rw [← hd] at vb
  unfold Sgn
  rw [va, vb]
  refine ⟨?_, ?_, by omega, by omega⟩
  · rw [hs.1]; constructor <;> intro _ <;> omega
  · rw [hs.2]; constructor <;> intro _ <;> omega
theorem NumP.Is.lt_of_len {a b : List Int} {n m : Nat} (ha : Is a n) (hb : Is b m) (h : a.length < b.length) : n < m := by
  have h1 := ha.lt
  have h0 : b ≠ [] := fun e => by rw [e] at h; simp at h
  have h2 := hb.ge h0
  have h3 : 1000000000 ^ a.length ≤ 1000000000 ^ (b.length - 1) := Nat.pow_le_pow_right (by decide) (by omega)
  omega
theorem vB_zer (n : Nat) : vB (List.replicate n (0 : Int)) = 0 := by
  induction n with
  | zero => rfl
  | succ n ih => rw [List.replicate_succ, vB, ih]; rfl
theorem rd_zeros (n j : Nat) : rd (List.replicate n (0 : Int)) (j : Int) = 0 := by
  simp only [rd, Int.toNat_natCast, List.getD_eq_getElem?_getD]
  rcases Nat.lt_or_ge j n with h | h
  · rw [List.getElem?_replicate, if_pos h]; rfl
  · rw [List.getElem?_replicate, if_neg (by omega)]; rfl
theorem rd_set_ne (x : List Int) (i j : Nat) (v : Int) (h : i ≠ j) : rd (x.set i v) (j : Int) = rd x (j : Int) := by
  unfold rd
  rw [List.getD_eq_getElem?_getD, List.getElem?_set_ne (by simp; omega), ← List.getD_eq_getElem?_getD]
/-- The inner loop of a product: row i, place j. -/
structure TimI (b : List Int) (N i j : Nat) (x V0 : Int) (out : List Int) (c : Int) : Prop where
  len : out.length = N
  wd : Wd out
  c0 : 0 ≤ c ∧ c < 1000000000
  zero : ∀ p, i + b.length ≤ p → rd out (p : Int) = 0
  eq : vB out + PW (i + j) * c = V0 + PW i * (x * vB (b.take j))
theorem TimI.bnd {b : List Int} {N i j : Nat} {x V0 : Int} {out : List Int} {c : Int} (h : TimI b N i j x V0 out c) (hb : Wd b) (hx : 0 ≤ x ∧ x < 1000000000) :
    0 ≤ x * rd b (j : Int) ∧ x * rd b (j : Int) ≤ 999999999 * 999999999 := by
  have h1 := rd_wd hb j
  exact ⟨Int.mul_nonneg hx.1 h1.1, Int.mul_le_mul (by omega) (by omega) h1.1 (by decide)⟩
theorem TimI.step {b : List Int} {N i j : Nat} {x V0 : Int} {out : List Int} {c s : Int} (h : TimI b N i j x V0 out c) (hb : Wd b) (hx : 0 ≤ x ∧ x < 1000000000) (hj : j < b.length) (hN : i + b.length < N)
    (hs : s = c + (rd out ((i + j : Nat) : Int) + x * rd b (j : Int))) : TimI b N i (j + 1) x V0 (out.set (i + j) (s % 1000000000)) (s / 1000000000) := by
  have h1 := rd_wd hb j
  have h2 := rd_wd h.wd (i + j)
  have hxy := h.bnd hb hx
  have hc := h.c0
  have hl := h.len
  have hs0 : 0 ≤ s ∧ s < 1000000000 * 1000000000 := by
    generalize x * rd b (j : Int) = xy at *
    omega
  have hvs := vB_set out (i + j) (by omega) (s % 1000000000)
  have hvt := vB_take b j
  refine ⟨by simpa using hl, h.wd.set _ (by omega), by omega, fun p hp => by rw [rd_set_ne _ _ _ _ (by omega)]; exact h.zero p hp, ?_⟩
  have hv := h.eq
  rw [hvs, hvt, ← Nat.add_assoc, PW_succ, PW_add]
  have e : s = 1000000000 * (s / 1000000000) + s % 1000000000 := by omega
  rw [PW_add] at hv
  clear hvs hvt h1 h2 hs0 hxy hl h hb hx hc hj hN
  generalize rd out ((i + j : Nat) : Int) = o at *
  generalize rd b (j : Int) = y at *
  generalize s / 1000000000 = q at *
  generalize s % 1000000000 = r at *
  generalize vB out = V at *
  generalize vB (b.take j) = U at *
  generalize PW i = P at *
  generalize PW j = Q at *
  grind
/-- The outer loop. -/
structure TimO (a b : List Int) (N i : Nat) (out : List Int) : Prop where
  len : out.length = N
  wd : Wd out
  zero : ∀ p, i + b.length ≤ p → rd out (p : Int) = 0
  eq : vB out = vB (a.take i) * vB b
theorem TimO.start (a b : List Int) (N : Nat) : TimO a b N 0 (List.replicate N 0) :=
  ⟨by simp, (fun y hy => by rw [List.eq_of_mem_replicate hy]; decide), fun p _ => rd_zeros _ _, by rw [vB_zer]; simp [vB]⟩
theorem TimO.inner {a b : List Int} {N i : Nat} {out : List Int} (h : TimO a b N i out) : TimI b N i 0 (rd a (i : Int)) (vB out) out 0 :=
  ⟨h.len, h.wd, by decide, h.zero, by simp [vB]⟩
theorem TimO.next {a b : List Int} {N i : Nat} {out0 out : List Int} {c : Int} (h0 : TimO a b N i out0) (h : TimI b N i b.length (rd a (i : Int)) (vB out0) out c) (hN : i + b.length < N) : TimO a b N (i + 1) (out.set (i + b.length) c) := by
  have hl := h.len
  have ez := h.zero (i + b.length) (Nat.le_refl _)
  refine ⟨by simpa using hl, h.wd.set _ h.c0, fun p hp => by rw [rd_set_ne _ _ _ _ (by omega)]; exact h.zero p (by omega), ?_⟩
  have hv := h.eq
  rw [List.take_length, h0.eq] at hv
  rw [vB_set _ _ (by omega), ez, Int.sub_zero, hv, vB_take]
  generalize vB b = B at *
  generalize vB (a.take i) = A at *
  generalize PW i = P at *
  generalize rd a (i : Int) = x at *
  grind
end Go.Proofs.YtgobpoeccdgeiaaGreatDoor

namespace Go.Proofs.YtgobpoeccdgeiaaGreatDoor
open Go.RowKit NumP Go.Proofs.YtgobpoeccdgeiaaGreatDoorW.PrintWords
set_option linter.unusedVariables false

/-- The words that a slice leads to. -/
structure BAt (w : World) (v : Value) (xs : List Int) : Prop where
  at_ : ∃ A c, v = .slice A xs.length c ∧ xs.length ≤ c ∧ xs.length ≤ 9223372036854775807 ∧ (0 < xs.length → ∃ ad, A = some ad ∧ ∀ i (h : i < xs.length), w.cell? (ad.add i) = some (.int .u64 (xs[i])))
theorem BAt.nil (w : World) : BAt w (.slice none 0 0) [] := ⟨none, 0, rfl, Nat.le_refl _, by decide, fun h => by simp at h⟩
theorem BAt.below {w w' : World} {v : Value} {xs : List Int} (h : BAt w v xs) (hb : Below w.heap.size w w') : BAt w' v xs := by
  obtain ⟨A, c, e, h1, h2, h3⟩ := h.at_
  refine ⟨A, c, e, h1, h2, fun h0 => ?_⟩
  obtain ⟨ad, ea, hc⟩ := h3 h0
  refine ⟨ad, ea, fun i hi => ?_⟩
  rw [← hc i hi]
  exact hb.cell (World.block_lt_of_cell? w _ (hc i hi))
/-- A number in memory. -/
def BN (w : World) (v : Value) (n : Nat) : Prop := BAt w v (wordsN n)
theorem BN.below {w w' : World} {v : Value} {n : Nat} (h : BN w v n) (hb : Below w.heap.size w w') : BN w' v n := BAt.below h hb
/-- Its words are few. -/
def Small (n : Nat) : Prop := (wordsN n).length < 1000000
theorem Small.of_lt {n k : Nat} (h : n < 1000000000 ^ k) (hk : k < 1000000) : Small n := Nat.lt_of_le_of_lt ((wordsN_is n).len_le h) hk

def BPost (w : World) (xs : List Int) (e : Ending) (w' : World) : Prop := ∃ v, e = .returned v ∧ BAt w' v xs ∧ Below w.heap.size w w'
theorem BAt.take {w : World} {A : Option Addr} {n c : Nat} {xs : List Int} (h : BAt w (.slice A n c) xs) (k : Nat) (hk : k ≤ xs.length) : BAt w (.slice A k c) (xs.take k) := by
  obtain ⟨A', c', e, h1, h2, h3⟩ := h.at_
  injection e with e1 e2 e3
  subst e1 e2 e3
  have hl : (xs.take k).length = k := List.length_take_of_le hk
  refine ⟨A, c, by rw [hl], by omega, by omega, fun h0 => ?_⟩
  obtain ⟨ad, ea, hc⟩ := h3 (by omega)
  refine ⟨ad, ea, fun i hi => ?_⟩
  rw [List.getElem_take]
  exact hc i (by omega)
def lenS : Value → Nat
  | .slice _ n _ => n
  | _ => 0
set_option maxHeartbeats 1000000 in
set_option maxRecDepth 100000 in
/-- norm gives a front of its row. -/
theorem norm_g (w : World) (v : Value) (xs : List Int) (h : BAt w v xs) (hl : xs.length < 9223372036854775807) : Calls Tryz.prog 127 #[v] w fun e w' => ∃ A k c, v = .slice A xs.length c ∧ k ≤ xs.length ∧ e = .returned (.slice A k c) ∧ normL xs = xs.take k ∧ Below w.heap.size w w' := by
  obtain ⟨A, c, rfl, h1, h2, h3⟩ := h.at_
  have hH := Lib.hid h
  obtain ⟨n, hn⟩ : ∃ n, n = xs.length := ⟨_, rfl⟩
  replace h3 := Lib.hid h3
  rw [← hn] at h1 h2 hl hH ⊢
  clear h
  replace hn := Lib.hid hn
  go_enter Tryz.func127, Tryz.ntmps127
  go_wp2_with fail
  go_loopw [0] (fun s wr => ∃ k : Nat, k ≤ n ∧ s = .slice A k c ∧ Hid (normL (xs.take k) = normL xs) ∧ w = wr) (fun s _ => lenS s)
  case atStart => exact ⟨n, Nat.le_refl _, rfl, Lib.hid (by rw [List.take_of_length_le (by rw [hn.out]; exact Nat.le_refl _)]), rfl⟩
  case round =>
    obtain ⟨k, hk, rfl, hN, hw⟩ := hrel
    subst hw
    cases k with
    | zero =>
      go_wp2_with fail
      go_ret
      exact ⟨A, 0, c, rfl, Nat.zero_le _, rfl, by rw [← hN.out]; rfl, Below.refl _ _⟩
    | succ k =>
      have hkx : k < xs.length := by have := hn.out; omega
      obtain ⟨ad, rfl, hc⟩ := h3.out (by omega)
      have hck := hc k hkx
      obtain ⟨x, hx⟩ : ∃ x, x = xs[k] := ⟨_, rfl⟩
      rw [← hx] at hck
      have g1 : ((k + 1 : Nat) : Int) > 0 := by omega
      have g2 : ((k + 1 : Nat) : Int) - 1 = (k : Int) := by omega
      have g3 : (k : Int) < ((k + 1 : Nat) : Int) := by omega
      have g4 : k < k + 1 := by omega
      have g5 : k ≤ c := by omega
      have g6 : (k : Int) ≤ (c : Int) := by omega
      by_cases h0 : x = 0
      · have gx : (x == 0) = true := by simpa using h0
        have hN2 : Hid (normL (xs.take k) = normL xs) := Lib.hid (by
          rw [← hN.out, take_snoc xs k hkx, ← hx, normL_snoc, if_pos h0])
        replace h0 := Lib.hid h0
        replace hx := Lib.hid hx
        clear hc
        go_wp2_with fail
        go_roundw
        case rel => exact ⟨k, by omega, rfl, hN2, trivial⟩
        case measure => exact Nat.lt_succ_self k
      · have gx : (x == 0) = false := by simpa using h0
        have hV : Hid (normL xs = xs.take (k + 1)) := Lib.hid (by
          rw [← hN.out, take_snoc xs k hkx, ← hx, normL_snoc, if_neg h0])
        replace h0 := Lib.hid h0
        replace hx := Lib.hid hx
        clear hc
        go_wp2_with fail
        go_ret
        exact ⟨some ad, k + 1, c, rfl, hk, rfl, hV.out, Below.refl _ _⟩
theorem norm_b (w : World) (v : Value) (xs : List Int) (h : BAt w v xs) (hl : xs.length < 9223372036854775807) : Calls Tryz.prog 127 #[v] w (BPost w (normL xs)) := by
  refine (norm_g w v xs h hl).mono ?_
  rintro e w' ⟨A, k, c, rfl, hk, rfl, hV, hb⟩
  exact ⟨_, rfl, by rw [hV]; exact (h.take k hk).below hb, hb⟩
set_option maxHeartbeats 1000000 in
set_option maxRecDepth 100000 in
theorem cmp_b (w : World) (v u : Value) (n m : Nat) (hv : BN w v n) (hu : BN w u m) (hn : Small n) (hm : Small m) : Calls Tryz.prog 129 #[v, u] w fun e w' => (∃ r : Int, e = .returned (.int .i64 r) ∧ Sgn r n m) ∧ Below w.heap.size w w' := by
  obtain ⟨A, c, rfl, h1, h2, h3⟩ := hv.at_
  obtain ⟨B, d, rfl, k1, k2, k3⟩ := hu.at_
  have ia := wordsN_is n
  have ib := wordsN_is m
  obtain ⟨a, ha⟩ : ∃ a, a = wordsN n := ⟨_, rfl⟩
  obtain ⟨b, hb⟩ : ∃ b, b = wordsN m := ⟨_, rfl⟩
  unfold Small at hn hm
  rw [← ha] at h1 h2 h3 ia hn ⊢
  rw [← hb] at k1 k2 k3 ib hm ⊢
  replace h3 := Lib.hid h3
  replace k3 := Lib.hid k3
  obtain ⟨p, hp⟩ : ∃ p, p = a.length := ⟨_, rfl⟩
  obtain ⟨q, hq⟩ : ∃ q, q = b.length := ⟨_, rfl⟩
  rw [← hp] at h1 h2 hn ⊢
  rw [← hq] at k1 k2 hm ⊢
  clear hv hu ha hb
  replace ia := Lib.hid ia
  replace ib := Lib.hid ib
  by_cases hpq : p = q
  · subst hpq
    replace hp := Lib.hid hp
    replace hq := Lib.hid hq
    go_enter Tryz.func129, Tryz.ntmps129
    go_wp2_with fail
    go_loopw [5] (fun s wr => ∃ k : Nat, k ≤ p ∧ s = .int .i64 ((k : Int) - 1) ∧ Hid (a.drop k = b.drop k) ∧ Hid (Below w.heap.size w wr)) (fun s _ => (intOf s + 1).toNat)
    case atStart => exact ⟨p, Nat.le_refl _, rfl, Lib.hid (by rw [List.drop_of_length_le (by rw [hp.out]; exact Nat.le_refl _), List.drop_of_length_le (by rw [hq.out]; exact Nat.le_refl _)]), Lib.hid (Below.refl _ _)⟩
    case round =>
      obtain ⟨k, hk, rfl, hd, hB⟩ := hrel
      cases k with
      | zero =>
        have hV : Hid (Sgn 0 (n : Int) (m : Int)) := Lib.hid (by
          have h4 : a = b := by simpa using hd.out
          have h5 := ia.out.v
          have h6 := ib.out.v
          rw [h4] at h5
          unfold Sgn; omega)
        go_wp2_with fail
        go_ret
        exact ⟨⟨0, rfl, hV.out⟩, hB.out⟩
      | succ k =>
        have ha : k < a.length := by have := hp.out; omega
        have hb : k < b.length := by have := hq.out; omega
        obtain ⟨ad, rfl, hc⟩ := h3.out (by omega)
        obtain ⟨ae, rfl, he⟩ := k3.out (by omega)
        have cx : wr.cell? (ad.add k) = some (.int .u64 (rd a (k : Int))) := by rw [hB.out.cell (World.block_lt_of_cell? w _ (hc k ha)), hc k ha, rd_at a k ha]
        have cy : wr.cell? (ae.add k) = some (.int .u64 (rd b (k : Int))) := by rw [hB.out.cell (World.block_lt_of_cell? w _ (he k hb)), he k hb, rd_at b k hb]
        have wa := rd_wd ia.out.wd k
        have wb := rd_wd ib.out.wd k
        have hda : a.drop k = a[k] :: a.drop (k + 1) := List.drop_eq_getElem_cons ha
        have hdb : b.drop k = b[k] :: b.drop (k + 1) := List.drop_eq_getElem_cons hb
        have ra := rd_at a k ha
        have rb := rd_at b k hb
        obtain ⟨x, hx⟩ : ∃ x, x = rd a (k : Int) := ⟨_, rfl⟩
        obtain ⟨y, hy⟩ : ∃ y, y = rd b (k : Int) := ⟨_, rfl⟩
        rw [← hx] at cx wa ra
        rw [← hy] at cy wb rb
        obtain ⟨x0, x1⟩ := wa
        obtain ⟨y0, y1⟩ := wb
        have g0 : (((k + 1 : Nat) : Int) - 1) = (k : Int) := by omega
        have g1 : (k : Int) < (p : Int) := by omega
        have g2 : k < p := by omega
        rw [g0]
        have gk : (0 : Int) ≤ (k : Int) := by omega
        by_cases h0 : x = y
        · have gx : (x != y) = false := by simpa using h0
          have hd2 : Hid (a.drop k = b.drop k) := Lib.hid (by rw [hda, hdb, hd.out, ← ra, ← rb, h0])
          replace h0 := Lib.hid h0
          replace hx := Lib.hid hx
          replace hy := Lib.hid hy
          replace hc := Lib.hid hc
          replace he := Lib.hid he
          clear hda hdb ra rb g0
          go_wp2_with fail
          go_quiet (fail)
          go_wp2_with fail
          go_roundw
          case rel => exact ⟨k, by omega, rfl, hd2, Lib.hid (hB.out.trans (by first | exact Below.refl _ _ | exact ⟨rfl, rfl, rfl, Nat.le_refl _, fun _ _ => rfl⟩))⟩
          case measure => simp [intOf]
        · have gx : (x != y) = true := by simpa using h0
          have hV : Hid (Sgn (x - y) (n : Int) (m : Int)) := Lib.hid (by
            have := cmp_at ia.out.wd ib.out.wd (by rw [← hp.out, ← hq.out]) ha hd.out (by rw [← hx, ← hy]; exact h0)
            rw [ia.out.v, ib.out.v, ← hx, ← hy] at this
            exact this)
          replace h0 := Lib.hid h0
          replace hx := Lib.hid hx
          replace hy := Lib.hid hy
          replace hc := Lib.hid hc
          replace he := Lib.hid he
          clear hda hdb ra rb g0
          go_wp2_with fail
          go_quiet (fail)
          go_wp2_with fail
          obtain ⟨w5, hw5⟩ : ∃ w5, w5 = wr.drewN nq := ⟨_, rfl⟩
          have cx5 : w5.cell? (ad.add k) = some (.int .u64 x) := by rw [hw5]; exact cx
          have cy5 : w5.cell? (ae.add k) = some (.int .u64 y) := by rw [hw5]; exact cy
          have hbb : Hid (Below w.heap.size w w5) := Lib.hid (by rw [hw5]; exact hB.out.trans ⟨rfl, rfl, rfl, Nat.le_refl _, fun _ _ => rfl⟩)
          rw [← hw5]
          clear hw5 cx cy
          go_quiet (fail)
          go_wp2_with fail
          go_ret
          exact ⟨⟨x - y, rfl, hV.out⟩, hbb.out.trans ⟨rfl, rfl, rfl, Nat.le_refl _, fun _ _ => rfl⟩⟩
  · have g1 : ((p : Int) != (q : Int)) = true := by rw [bne_iff_ne]; omega
    have hV : Hid (Sgn ((p : Int) - (q : Int)) (n : Int) (m : Int)) := Lib.hid (by
      unfold Sgn
      rcases Nat.lt_or_gt_of_ne hpq with h4 | h4
      · have := ia.out.lt_of_len ib.out (by rw [← hp, ← hq]; exact h4)
        omega
      · have := ib.out.lt_of_len ia.out (by rw [← hp, ← hq]; exact h4)
        omega)
    replace hpq := Lib.hid hpq
    replace hp := Lib.hid hp
    replace hq := Lib.hid hq
    go_enter Tryz.func129, Tryz.ntmps129
    go_wp2_with fail
    go_ret
    exact ⟨⟨_, rfl, hV.out⟩, Below.refl _ _⟩
end Go.Proofs.YtgobpoeccdgeiaaGreatDoor

namespace Go.Proofs.YtgobpoeccdgeiaaGreatDoor
open Go.RowKit NumP Go.Proofs.YtgobpoeccdgeiaaGreatDoorW.PrintWords
set_option linter.unusedVariables false

theorem valD_app (x y : List UInt8) : valD (x ++ y) = valD x * 10 ^ y.length + valD y := by
  unfold valD
  rw [valF_app, valF_eq]; rfl
theorem valD_nil : valD [] = 0 := rfl
theorem valD_snoc (x : List UInt8) (c : UInt8) : valD (x ++ [c]) = 10 * valD x + (c.toNat - 48) := by
  unfold valD
  rw [valF_app]; rfl
/-- One word of digits more. -/
theorem from_step (a : List Int) (s : List UInt8) (v : Int) (h : vB a + PW a.length * (valD s : Int) = v) :
    vB (a ++ [(valD (s.drop (s.length - 9)) : Int)]) + PW (a.length + 1) * (valD (s.take (s.length - 9)) : Int) = v := by
  rw [vB_snoc, PW_succ, ← h]
  by_cases h9 : 9 ≤ s.length
  · have e : (valD s : Int) = (valD (s.take (s.length - 9)) : Int) * 1000000000 + (valD (s.drop (s.length - 9)) : Int) := by
      have h1 := valD_app (s.take (s.length - 9)) (s.drop (s.length - 9))
      rw [List.take_append_drop, List.length_drop, show s.length - (s.length - 9) = 9 by omega] at h1
      rw [show (10 : Nat) ^ 9 = 1000000000 by decide] at h1
      omega
    rw [e]
    generalize (valD (s.take (s.length - 9)) : Int) = x
    generalize (valD (s.drop (s.length - 9)) : Int) = y
    grind
  · have e : s.length - 9 = 0 := by omega
    rw [e, List.take_zero, List.drop_zero, valD_nil]
    simp

/-- One word of a sum. -/
theorem plus_step (a b out : List Int) (i : Nat) (c : Int) (ho : i < out.length) (h : vB (out.take i) + PW i * c = vB (a.take i) + vB (b.take i)) :
    vB ((out.set i ((c + rd a (i : Int) + rd b (i : Int)) % 1000000000)).take (i + 1)) + PW (i + 1) * ((c + rd a (i : Int) + rd b (i : Int)) / 1000000000) = vB (a.take (i + 1)) + vB (b.take (i + 1)) := by
  rw [set_take out i ho, vB_snoc, List.length_take_of_le (by omega), vB_take a, vB_take b, PW_succ]
  generalize rd a (i : Int) = x at *
  generalize rd b (i : Int) = y at *
  have e : c + x + y = 1000000000 * ((c + x + y) / 1000000000) + (c + x + y) % 1000000000 := by omega
  generalize (c + x + y) / 1000000000 = q at *
  generalize (c + x + y) % 1000000000 = r at *
  generalize vB (out.take i) = V at *
  generalize vB (a.take i) = A at *
  generalize vB (b.take i) = B at *
  generalize PW i = P at *
  grind
/-- One word of a difference. -/
theorem minus_step (a b out : List Int) (i : Nat) (c w c' : Int) (ho : i < out.length) (h : vB (out.take i) - PW i * c = vB (a.take i) - vB (b.take i)) (hw : w - 1000000000 * c' = rd a (i : Int) - (c + rd b (i : Int))) :
    vB ((out.set i w).take (i + 1)) - PW (i + 1) * c' = vB (a.take (i + 1)) - vB (b.take (i + 1)) := by
  rw [set_take out i ho, vB_snoc, List.length_take_of_le (by omega), vB_take a, vB_take b, PW_succ]
  generalize rd a (i : Int) = x at *
  generalize rd b (i : Int) = y at *
  generalize vB (out.take i) = V at *
  generalize vB (a.take i) = A at *
  generalize vB (b.take i) = B at *
  generalize PW i = P at *
  grind
theorem rd_drop {a b : List Int} {i : Nat} (h : a.drop i = b.drop i) (hi : i < a.length) (hl : a.length = b.length) : rd a (i : Int) = rd b (i : Int) ∧ a.drop (i + 1) = b.drop (i + 1) := by
  rw [List.drop_eq_getElem_cons hi, List.drop_eq_getElem_cons (l := b) (i := i) (by omega)] at h
  injection h with h1 h2
  rw [rd_at a i hi, rd_at b i (by omega)]
  exact ⟨h1, h2⟩
theorem set_drop (x : List Int) (i : Nat) (v : Int) : (x.set i v).drop (i + 1) = x.drop (i + 1) := by
  rw [List.drop_set]
  simp
/-- The words of a small number. -/
theorem one_word {n : Nat} (h0 : 0 < n) (h1 : n < 1000000000) : wordsN n = [(n : Int)] := by
  refine (Is.eq ⟨fun x hx => ?_, ?_, ?_⟩).symm
  · rw [List.mem_singleton] at hx; subst hx; omega
  · simp [Nz]; omega
  · simp [vB]
theorem norm_one (n : Nat) (h1 : n < 1000000000) : normL [(n : Int)] = wordsN n := by
  refine (is_norm (n := n) (fun x hx => ?_) ?_).eq
  · rw [List.mem_singleton] at hx; subst hx; omega
  · simp [vB]
theorem norm_cons (w r : Nat) (hw : w < 1000000000) : normL ((w : Int) :: wordsN r) = wordsN (r * 1000000000 + w) := by
  refine (is_norm (n := r * 1000000000 + w) (fun x hx => ?_) ?_).eq
  · rcases List.mem_cons.1 hx with rfl | hx
    · omega
    · exact (wordsN_is r).wd x hx
  · rw [vB, (wordsN_is r).v]; omega
theorem words_len {n k : Nat} (h : n < 1000000000 ^ k) : (wordsN n).length ≤ k := (wordsN_is n).len_le h
/-- One word of a quotient. -/
theorem over_step (N b w low : Nat) (hb : 0 < b) (h1 : b * low ≤ N % b * 1000000000 + w) (h2 : N % b * 1000000000 + w < b * (low + 1)) :
    (N * 1000000000 + w) / b = N / b * 1000000000 + low ∧ (N * 1000000000 + w) % b = N % b * 1000000000 + w - b * low := by
  have e : N = b * (N / b) + N % b := (Nat.div_add_mod N b).symm
  have e2 : N * 1000000000 + w = b * (N / b * 1000000000 + low) + (N % b * 1000000000 + w - b * low) := by
    generalize N / b = q at *
    generalize N % b = r at *
    subst e
    have e3 : b * (q * 1000000000 + low) = b * q * 1000000000 + b * low := by rw [Nat.mul_add, Nat.mul_assoc]
    rw [e3, Nat.add_mul]
    omega
  have h3 : N % b * 1000000000 + w - b * low < b := by
    rw [Nat.mul_add, Nat.mul_one] at h2; omega
  constructor
  · rw [e2, Nat.mul_add_div hb, Nat.div_eq_of_lt h3, Nat.add_zero]
  · rw [e2, Nat.mul_add_mod, Nat.mod_eq_of_lt h3]
theorem low_lt (N b w low : Nat) (hb : 0 < b) (hw : w < 1000000000) (h1 : b * low ≤ N % b * 1000000000 + w) : low < 1000000000 := by
  have h := Nat.mod_lt N hb
  rcases Nat.lt_or_ge low 1000000000 with hl | hl
  · exact hl
  · have : b * 1000000000 ≤ b * low := Nat.mul_le_mul_left _ hl
    omega
end Go.Proofs.YtgobpoeccdgeiaaGreatDoor
