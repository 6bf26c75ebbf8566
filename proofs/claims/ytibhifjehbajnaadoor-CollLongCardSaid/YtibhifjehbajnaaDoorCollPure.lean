/- Collations as plain Lean functions: characters, lines, tables. Nothing of Go and of memory stands here, but for the decoding of a string's runes. -/
import Derived.Test.YtibhifjehbajnaaDoorCollMem
namespace Go.Proofs.YtibhifjehbajnaaDoor
open Go.RowKit Go.Maps

def signB (w : ByteArray) : Bool := w.toList == [60] || w.toList == [44] || w.toList == [59]
def hexDigit (c : UInt8) : Option Nat :=
  if 48 ≤ c.toNat ∧ c.toNat ≤ 57 then some (c.toNat - 48) else if 65 ≤ c.toNat ∧ c.toNat ≤ 70 then some (c.toNat - 55) else if 97 ≤ c.toNat ∧ c.toNat ≤ 102 then some (c.toNat - 87) else none
def hexFrom : Nat → List UInt8 → Option Nat
  | n, [] => some n
  | n, c :: l => match hexDigit c with
    | some d => hexFrom (16 * n + d) l
    | none => none
/-- The first rune of a string (0 of the empty one). -/
def rune0 (w : ByteArray) : Int := ((Utf8.decode w 0).1 : Int)
/-- The character that a word writes. -/
def charOf (w : ByteArray) : Option Int :=
  let l := w.data.toList
  if [85, 43].isPrefixOf l && decide (3 ≤ l.length) && decide (l.length ≤ 8) then
    match hexFrom 0 (l.drop 2) with
    | some n => if isCharB n then some (n : Int) else none
    | none => none
  else if lenOf w == 1 && !signB w then some (rune0 w) else none
def charsOf : List ByteArray → Option (List Int)
  | [] => some []
  | w :: l => match charOf w with
    | none => none
    | some c => match charsOf l with
      | none => none
      | some cs => some (c :: cs)
theorem charsOf_snoc : ∀ (l : List ByteArray) (w : ByteArray), charsOf (l ++ [w]) = match charsOf l with
    | none => none
    | some cs => match charOf w with
      | none => none
      | some c => some (cs ++ [c])
  | [], w => by cases h : charOf w <;> simp [charsOf, h]
  | a :: l, w => by
    simp only [List.cons_append, charsOf, charsOf_snoc l w]
    cases charOf a <;> cases charsOf l <;> cases charOf w <;> simp
theorem charsOf_app_none : ∀ (l r : List ByteArray), charsOf l = none → charsOf (l ++ r) = none
  | [], r, h => by simp [charsOf] at h
  | a :: l, r, h => by
    simp only [charsOf, List.cons_append] at h ⊢
    cases ha : charOf a with
    | none => simp
    | some c =>
      rw [ha] at h
      cases hl : charsOf l with
      | none => rw [charsOf_app_none l r hl]
      | some cs => rw [hl] at h; simp at h

/-- A table: characters with weights, the last weights, the strength (0: not stated). -/
structure CT where
  M : List (Int × W3)
  last : W3
  st : Int

/-- Characters with weights, put one by one. -/
def putAll : List (Int × W3) → List (Int × W3) → Option (List (Int × W3))
  | M, [] => some M
  | M, x :: l => if inM M x.1 then none else putAll (M ++ [x]) l

def ignoreP (t : CT) (ws : List ByteArray) : CT × Int :=
  match charsOf ws with
  | none => (t, 5)
  | some [] => (t, 5)
  | some (c :: cs) => match putAll t.M ((c :: cs).map fun c => (c, (0, 0, 0))) with
    | none => (t, 4)
    | some M => ({ t with M := M }, fullE M.length)

/-- The weights behind a sign. -/
def afterW (w : W3) (s : ByteArray) : W3 :=
  if s.toList == [60] then (w.1 + 1, 1, 1) else if s.toList == [44] then (w.1, w.2.1 + 1, 1) else (w.1, w.2.1, w.2.2 + 1)

/-- The characters of a line with listed characters: at even places characters, at odd ones signs. -/
def formL : Bool → List ByteArray → Option (List Int)
  | _, [] => some []
  | true, w :: l => if signB w then formL false l else none
  | false, w :: l => match charOf w with
    | none => none
    | some c => match formL true l with
      | none => none
      | some cs => some (c :: cs)
theorem formL_app_none : ∀ (b : Bool) (l r : List ByteArray), formL b l = none → formL b (l ++ r) = none
  | _, [], r, h => by simp [formL] at h
  | true, w :: l, r, h => by
    simp only [formL, List.cons_append] at h ⊢
    split
    · rename_i hs
      rw [if_pos hs] at h
      exact formL_app_none false l r h
    · rfl
  | false, w :: l, r, h => by
    simp only [formL, List.cons_append] at h ⊢
    cases hc : charOf w with
    | none => rfl
    | some c =>
      rw [hc] at h
      cases hl : formL true l with
      | none => simp [formL_app_none true l r hl]
      | some cs => rw [hl] at h; simp at h
/-- One word more. -/
def stepL (odd : Bool) (cs : List Int) (w : ByteArray) : Option (List Int) :=
  if odd then (if signB w then some cs else none) else match charOf w with
    | none => none
    | some c => some (cs ++ [c])
theorem formL_snoc : ∀ (b : Bool) (l : List ByteArray) (w : ByteArray) (cs : List Int), formL b l = some cs → formL b (l ++ [w]) = stepL (b != (l.length % 2 == 1)) cs w
  | true, [], w, cs, h => by
    simp [formL] at h; subst h
    simp [formL, stepL]
  | false, [], w, cs, h => by
    simp [formL] at h; subst h
    simp only [List.nil_append, formL, stepL]
    cases charOf w <;> simp
  | true, a :: l, w, cs, h => by
    simp only [formL, List.cons_append] at h ⊢
    split at h
    · rename_i hs
      rw [if_pos hs, formL_snoc false l w cs h]
      congr 1
      rcases Nat.mod_two_eq_zero_or_one l.length with e | e <;> simp [Nat.add_mod, e]
    · cases h
  | false, a :: l, w, cs, h => by
    simp only [formL, List.cons_append] at h ⊢
    cases hc : charOf a with
    | none => rw [hc] at h; cases h
    | some c =>
      rw [hc] at h
      cases hl : formL true l with
      | none => rw [hl] at h; cases h
      | some cs' =>
        rw [hl] at h
        simp at h
        subst h
        simp only
        rw [formL_snoc true l w cs' hl]
        rcases Nat.mod_two_eq_zero_or_one l.length with e | e
        · have e2 : (l.length + 1) % 2 = 1 := by omega
          simp only [e, e2, List.length_cons, stepL]
          by_cases hs : signB w <;> simp [hs]
        · have e2 : (l.length + 1) % 2 = 0 := by omega
          simp only [e, e2, List.length_cons, stepL]
          cases charOf w <;> simp

/-- The sign ahead of listed character number i of a line. -/
def signAt (ws : List ByteArray) (i : Nat) : ByteArray := if i = 0 then ⟨#[60]⟩ else ws.getD (2 * i - 1) ByteArray.empty
def listPut (ws : List ByteArray) : Nat → List Int → CT → Option CT
  | _, [], t => some t
  | i, c :: cs, t => if inM t.M c then none else listPut ws (i + 1) cs { t with last := afterW t.last (signAt ws i), M := t.M ++ [(c, afterW t.last (signAt ws i))] }
def listP (t : CT) (ws : List ByteArray) : CT × Int :=
  match formL false ws with
  | none => (t, 5)
  | some cs => if ws.length % 2 = 0 then (t, 5) else match listPut ws 0 cs t with
    | none => (t, 4)
    | some t' => (t', fullE t'.M.length)
/-- Its weights are no greater than the number of its characters. -/
def CT.ok (t : CT) : Prop := 0 ≤ t.last.1 ∧ t.last.1 ≤ t.M.length ∧ 0 ≤ t.last.2.1 ∧ t.last.2.1 ≤ t.M.length ∧ 0 ≤ t.last.2.2 ∧ t.last.2.2 ≤ t.M.length
theorem CT.ok_after {t : CT} (h : t.ok) (s : ByteArray) (c : Int) : CT.ok { t with last := afterW t.last s, M := t.M ++ [(c, afterW t.last s)] } := by
  obtain ⟨h1, h2, h3, h4, h5, h6⟩ := h
  simp only [CT.ok, List.length_append, List.length_singleton]
  unfold afterW
  split
  · simp only; omega
  · split <;> simp only <;> omega

/-- The digit of a word 1, 2 or 3. -/
def strengthOf (w : ByteArray) : Option Int := if w.toList == [49] then some 1 else if w.toList == [50] then some 2 else if w.toList == [51] then some 3 else none
def levelP (t : CT) : List ByteArray → CT × Int
  | [_, d] => match strengthOf d with
    | none => (t, 5)
    | some n => if 0 < t.st then (t, 4) else ({ t with st := n }, 0)
  | _ => (t, 5)
def addP (t : CT) (ws : List ByteArray) : CT × Int :=
  match ws with
  | [] => (t, 0)
  | w :: r => if w.data.toList.head? = some 35 then (t, 0) else if w.toList = [115, 116, 114, 101, 110, 103, 116, 104] then levelP t ws else if w.toList = [105, 103, 110, 111, 114, 101] then ignoreP t r else listP t ws
end Go.Proofs.YtibhifjehbajnaaDoor
