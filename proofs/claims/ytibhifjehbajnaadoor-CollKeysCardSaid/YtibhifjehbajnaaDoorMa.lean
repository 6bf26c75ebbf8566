/- The functions isChar, IsText and Len of package chars, walked: what they return, as plain Lean functions of the string's bytes; nothing that lay in memory is changed. How a collation's table lies in memory: a block of five cells, the first of which is a map from characters to weights; what the map's operations do, as plain lists. Collations as plain Lean functions: characters, lines, tables. Nothing of Go and of memory stands here, but for the decoding of a string's runes. A strings.Builder in this dump: copyCheck, WriteRune and WriteString walked (the shelf's own statements of them ask for another body of copyCheck), chars.From at one code point. strconv.ParseUint at base 16 and 32 bits, for one to six bytes: the number that hexadecimal digits stand for, or an error. Words that write characters: the function char of package coll, walked; what the walks of collations ask of memory. -/
import Derived.Test.YtibhifjehbajnaaDoorShelf
import Derived.WalkKit
import Derived.WalkSpells
import Derived.Deep.LoopGhost
import Derived.Lib.OthersKept
import Derived.Lib.Hide
import Derived.Lib.RuneCount
import Derived.BigQuiet
import Derived.Deep.QuietTactic
import Derived.Maps.OwnSet
import Derived.Maps.OwnOps
import Derived.StillTailTactics
import Derived.Carry
import Derived.Shelf.Strings.BuilderRune
import Derived.Lib.ConvBytes
import Derived.Laws.BitsLemmas

namespace Go.Proofs.YtibhifjehbajnaaDoor
open Go.RowKit

/-- Is a code point a character? -/
def isCharB (c : Int) : Bool := c == 9 || c == 10 || c == 13 || (decide (32 ≤ c) && decide (c ≤ 55295)) || (decide (57344 ≤ c) && decide (c ≤ 65533)) || (decide (65536 ≤ c) && decide (c ≤ 1114111))

theorem ret_bool {a b : Bool} (h : a = b) : Ending.returned (.bool a) = .returned (.bool b) := by rw [h]
theorem ret_int {k : IntKind} {a b : Int} (h : a = b) : Ending.returned (.int k a) = .returned (.int k b) := by rw [h]

theorem isChar_calls (c : Int) (w : World) : Calls Tryd.prog 47 #[.int .i32 c] w fun e w' => e = .returned (.bool (isCharB c)) ∧ ∃ n, w' = w.drewN n := by
  go_enter Tryd.func47, Tryd.ntmps47
  go_wp2_with fail
  all_goals go_ret
  all_goals refine ⟨ret_bool ?_, 0, rfl⟩
  all_goals (rw [Bool.eq_iff_iff]; simp only [beq_iff_eq, beq_eq_false_iff_ne, isCharB, Bool.or_eq_true, Bool.and_eq_true, decide_eq_true_eq, Bool.false_eq_true, false_iff, true_iff] at *; omega)

/-- Is the code point c, which begins at place pos, good? -/
def goodAt (s : ByteArray) (pos : Nat) (c : Int) : Bool := isCharB c && !(c == 65533 && !([239, 191, 189].isPrefixOf (s.extract pos s.size).data.toList))
theorem goodAt_pre {s : ByteArray} {pos : Nat} {c : Int} (h1 : isCharB c = true) (h3 : (![239, 191, 189].isPrefixOf (List.take (s.size - pos) (List.drop pos s.data.toList))) = false) : goodAt s pos c = true := by
  simp only [Bool.not_eq_false'] at h3
  simp [goodAt, h1, h3]
theorem goodAt_ne {s : ByteArray} {pos : Nat} {c : Int} (h1 : isCharB c = true) (h3 : ¬ c = 65533) : goodAt s pos c = true := by simp [goodAt, h1, h3]
theorem goodAt_no {s : ByteArray} {pos : Nat} {c : Int} (h1 : ¬ isCharB c = true) : goodAt s pos c = false := by simp [goodAt, h1]
theorem goodAt_bad {s : ByteArray} {pos : Nat} {c : Int} (h2 : c = 65533) (h3 : (![239, 191, 189].isPrefixOf (List.take (s.size - pos) (List.drop pos s.data.toList))) = true) : goodAt s pos c = false := by
  simp [goodAt, h2]
  intro _
  simpa using h3
/-- From place pos on: is the string a text? -/
def textFrom (s : ByteArray) : Nat → Nat → Bool
  | 0, _ => true
  | f + 1, pos => if pos < s.size then goodAt s pos (Utf8.decode s pos).1 && textFrom s f (pos + (Utf8.decode s pos).2) else true
theorem textFrom_step {s : ByteArray} {f pos : Nat} (hp : pos < s.size) {c : Int} {k : Nat} (hc : c = ((Utf8.decode s pos).1 : Int)) (hk : k = (Utf8.decode s pos).2) : textFrom s (f + 1) pos = (goodAt s pos c && textFrom s f (pos + k)) := by
  rw [textFrom, if_pos hp, ← hc, ← hk]
def isText (s : ByteArray) : Bool := textFrom s s.size 0

theorem below_drewN {B : Nat} {a w : World} (h : Below B a w) (n : Nat) : Below B a (w.drewN n) := h.trans ⟨rfl, rfl, rfl, Nat.le_refl _, fun _ _ => rfl⟩
theorem iterPos_of {w : World} {k : Nat} {s : ByteArray} {p : Nat} (h : w.heap[k]? = some (.stringIter s p)) : w.iterPos k = p := by simp [World.iterPos, h]

theorem IsText_calls (s : ByteArray) (w : World) :
    Calls Tryd.prog 24 #[.string s] w fun e w' => e = .returned (.bool (isText s)) ∧ Below w.heap.size w w' := by
  go_enter Tryd.func24, Tryd.ntmps24
  go_wp2_with fail
  go_loopw [3, 4] (fun _ _ wr => ∃ (pos fuel : Nat), wr.heap[w.heap.size]? = some (.stringIter s pos) ∧ Below w.heap.size w wr ∧ Hid (textFrom s fuel pos = isText s) ∧ s.size ≤ pos + fuel) (fun _ _ wr => s.size - wr.iterPos w.heap.size)
  case atStart => exact ⟨0, s.size, World.iter_heap w s 0, (Below.refl _ _).alloc (Nat.le_refl _) _, rfl, by omega⟩
  case round =>
    obtain ⟨pos, fuel, hit, hbw, HS, hb⟩ := hrel
    have hpos0 := iterPos_of hit
    by_cases hp : pos < s.size
    · have hnx : ∀ ty, (Instr.next (.pointer (some ⟨w.heap.size, 0, none⟩)) true ty).run Tryd.prog wr = _ := fun ty => Lib.run_next_any_at wr w.heap.size s pos ty hit hp
      have hwd := Lib.decode_width_pos s pos hp
      obtain ⟨fuel, rfl⟩ : ∃ f', fuel = f' + 1 := ⟨fuel - 1, by omega⟩
      have hit2 := Lib.iterAt_heap wr w.heap.size s pos (pos + (Utf8.decode s pos).2) hit
      have hbw2 := Lib.below_iterAt hbw (k := w.heap.size) (Nat.le_refl _) s (pos + (Utf8.decode s pos).2)
      obtain ⟨W1, hW1⟩ : ∃ W1, W1 = wr.iterAt w.heap.size s (pos + (Utf8.decode s pos).2) := ⟨_, rfl⟩
      rw [← hW1] at hnx hit2 hbw2
      clear hW1 hit hbw
      obtain ⟨c, hcd⟩ : ∃ c, c = ((Utf8.decode s pos).1 : Int) := ⟨_, rfl⟩
      obtain ⟨k, hkd⟩ : ∃ k, k = (Utf8.decode s pos).2 := ⟨_, rfl⟩
      rw [← hcd] at hnx
      rw [← hkd] at hwd hit2
      have HT := Lib.hid (textFrom_step (f := fuel) hp hcd hkd)
      clear hcd hkd
      go_wp2_with (first | (go_at_call 47; refine (isChar_calls _ _).mono ?_; rintro e w' ⟨rfl, n, rfl⟩) | (go_at_call 48; refine (Tryd.strings_HasPrefix _ _ _).mono ?_; rintro e w' ⟨rfl, rfl⟩))
      all_goals try (
        go_roundw
        case rel => exact ⟨pos + k, fuel, hit2, below_drewN hbw2 _, (by show _ = _; rw [← HS.out, HT.out]; first | rw [goodAt_pre (s := s) (pos := pos) (c := c) ‹_› ‹_›, Bool.true_and] | rw [goodAt_ne (s := s) (pos := pos) (c := c) ‹_› ‹_›, Bool.true_and]), by omega⟩
        case measure =>
          have hq : (W1.drewN n).iterPos w.heap.size = (pos + k) := iterPos_of hit2
          rw [hq, hpos0]; omega)
      all_goals
        go_ret
        exact ⟨ret_bool (by rw [← HS.out, HT.out]; first | rw [goodAt_no (s := s) (pos := pos) (c := c) ‹_›, Bool.false_and] | rw [goodAt_bad (s := s) (pos := pos) (c := c) ‹_› ‹_›, Bool.false_and]), below_drewN hbw2 _⟩
    · have hnx : ∀ ty, (Instr.next (.pointer (some ⟨w.heap.size, 0, none⟩)) true ty).run Tryd.prog wr = _ := fun ty => Lib.run_next_end_at wr w.heap.size s pos ty hit hp
      have e : isText s = true := by rw [← HS.out]; cases fuel <;> simp [textFrom, hp]
      have e' := Lib.hid e
      clear e
      go_wp2_with fail
      go_ret
      exact ⟨ret_bool e'.out.symm, hbw⟩

/-- How many characters a text has; 0 for a string that is none. -/
def lenOf (s : ByteArray) : Int := if isText s then (Lib.runeCount s : Int) else 0
theorem lenOf_text {s : ByteArray} (h : isText s = true) : lenOf s = (Lib.runeCount s : Int) := by simp [lenOf, h]
theorem lenOf_none {s : ByteArray} (h : isText s = false) : lenOf s = 0 := by simp [lenOf, h]

theorem Len_calls (s : ByteArray) (w : World) (hs : s.size ≤ 9223372036854775806) :
    Calls Tryd.prog 27 #[.string s] w fun e w' => e = .returned (.int .i64 (lenOf s)) ∧ Below w.heap.size w w' := by
  by_cases ht : isText s = true
  all_goals
    try replace ht := Bool.eq_false_iff.mpr ht
    go_enter Tryd.func27, Tryd.ntmps27
    go_wp2_with (first | (go_at_call 24; refine (IsText_calls _ _).mono ?_; rintro e w1 ⟨rfl, hb1⟩; rw [ht]) | (go_at_call 49; refine (Tryd.utf8_RuneCountInString _ _ (by omega)).mono ?_; rintro e w2 ⟨rfl, pos, rfl⟩))
    go_ret
    first | exact ⟨by rw [lenOf_text ht]; rfl, hb1.alloc hb1.size _⟩ | exact ⟨by rw [lenOf_none ht]; rfl, hb1⟩
end Go.Proofs.YtibhifjehbajnaaDoor

namespace Go.Proofs.YtibhifjehbajnaaDoor
open Go.RowKit Go.Maps

abbrev W3 := Int × Int × Int
def wv (w : W3) : Value := .agg #[.int .i64 w.1, .int .i64 w.2.1, .int .i64 w.2.2]
def wdat (w : W3) : DataW Unit := .agg [.lit (.int .i64 w.1), .lit (.int .i64 w.2.1), .lit (.int .i64 w.2.2)]
def wElemL : List Value → Option (DataW Unit × List MemPlace)
  | [.int .i64 a, .int .i64 b, .int .i64 c] => some (wdat (a, b, c), [])
  | _ => none
def wElem : Value → Option (DataW Unit × List MemPlace)
  | .agg cs => wElemL cs.toList
  | _ => none
theorem wElem_mk (w : W3) : wElem (wv w) = some (wdat w, []) := rfl
theorem wElemL_inv {l : List Value} {z : DataW Unit × List MemPlace} (h : wElemL l = some z) : ∃ w : W3, l = [.int .i64 w.1, .int .i64 w.2.1, .int .i64 w.2.2] ∧ z = (wdat w, []) := by
  unfold wElemL at h
  split at h
  · injection h with h; exact ⟨(_, _, _), rfl, h.symm⟩
  · cases h
theorem wElem_inv {v : Value} {z : DataW Unit × List MemPlace} (h : wElem v = some z) : ∃ w : W3, v = wv w ∧ z = (wdat w, []) := by
  cases v with
  | agg cs =>
    obtain ⟨w, h1, h2⟩ := wElemL_inv h
    refine ⟨w, ?_, h2⟩
    unfold wv
    rw [← h1]
  | _ => simp [wElem] at h
theorem wdat_inj {a b : W3} (h : wdat a = wdat b) : a = b := by
  simp [wdat] at h
  obtain ⟨h1, h2, h3⟩ := h
  exact Prod.ext h1 (Prod.ext h2 h3)

/-- The weights of c in a list of characters with weights, z if it is not there. -/
def getW (M : List (Int × W3)) (c : Int) (z : W3) : W3 := match M.find? (fun p => p.1 == c) with
  | some p => p.2
  | none => z
def inM (M : List (Int × W3)) (c : Int) : Bool := M.any (fun p => p.1 == c)

structure MapIs (D : DataW Unit) (M : List (Int × W3)) : Prop where
  tidy : Tidy D
  has : ∀ c, Maps.has D (.int .i32 c) = inM M c
  at_ : ∀ c z, D.atKey (.int .i32 c) (wdat z) = wdat (getW M c z)
  size : Maps.size D = M.length

theorem isKey_i32 (c : Int) : WideAt.IsKeyLit (.int .i32 c) := by simp [WideAt.IsKeyLit]

theorem MapIs.empty : MapIs (.map []) [] := ⟨tidy_empty, fun _ => rfl, fun _ _ => rfl, rfl⟩
theorem MapIs.put {D : DataW Unit} {M : List (Int × W3)} (h : MapIs D M) {c : Int} (hc : inM M c = false) (x : W3) : MapIs (D.put (.int .i32 c) (wdat x)) (M ++ [(c, x)]) := by
  refine ⟨h.tidy.put (isKey_i32 c) _, fun k => ?_, fun k z => ?_, ?_⟩
  · by_cases e : k = c
    · subst e
      rw [has_put_same h.tidy.isMap (isKey_i32 _)]
      simp [inM]
    · rw [has_put_other (by simp [e]), h.has]
      simp [inM, Ne.symm e]
  · by_cases e : k = c
    · subst e
      rw [atKey_put_same h.tidy.isMap (isKey_i32 _)]
      have hn : M.find? (fun p => p.1 == k) = none := by
        simp only [inM] at hc
        rw [List.find?_eq_none]
        intro p hp hh
        rw [List.any_eq_false] at hc
        exact hc p hp hh
      simp [getW, List.find?_append, hn]
    · rw [atKey_put_other (by simp [e]), h.at_]
      have hq : (M ++ [(c, x)]).find? (fun p => p.1 == k) = M.find? (fun p => p.1 == k) := by
        rw [List.find?_append]
        simp [Ne.symm e]
      unfold getW
      rw [hq]
  · rw [size_put h.tidy, h.has, hc, h.size]; simp

/-- The table at block b: its map at block m with M, the weights of the last listed character, the strength. -/
structure TabAt (W : World) (b m : Nat) (M : List (Int × W3)) (l : W3) (st : Int) : Prop where
  blk : W.heap[b]? = some (.cells #[.map (some m), .int .i64 l.1, .int .i64 l.2.1, .int .i64 l.2.2, .int .i64 st] 46 (0, 0))
  map : ∃ D, W.ownsMap (H := Unit) Tryd.prog 21 wElem m M.length D ∧ MapIs D M

theorem info_w : (Tryd.prog.info? 44).map (fun i => (i.zero, i.size, i.bytes)) = some (some (.agg #[.int .i64 0, .int .i64 0, .int .i64 0]), 3, 24) := by kernel_rfl
theorem zero_w (w : World) : (zeroValue 44).run Tryd.prog w = .ok (wv (0, 0, 0)) w := by kernel_rfl
theorem law21 : Keyed Tryd.prog 21 := int_keyed Tryd.underlying21

theorem TabAt.mapLt {W : World} {b m : Nat} {M : List (Int × W3)} {l : W3} {st : Int} (h : TabAt W b m M l st) : m < W.heap.size ∧ b < W.heap.size ∧ b ≠ m := by
  obtain ⟨D, hm, _⟩ := h.map
  have h1 := hm.lt
  have h2 : b < W.heap.size := (Array.getElem?_eq_some_iff.1 h.blk).1
  refine ⟨h1, h2, fun e => ?_⟩
  obtain ⟨es, clock, he, _⟩ := hm
  rw [← e, h.blk] at he
  cases he
/-- What lies below a bound stays where nothing below it is changed. -/
theorem TabAt.below {W W' : World} {b m B : Nat} {M : List (Int × W3)} {l : W3} {st : Int} (h : TabAt W b m M l st) (hb : Below B W W') (h1 : b < B) (h2 : m < B) : TabAt W' b m M l st := by
  obtain ⟨D, hm, hD⟩ := h.map
  refine ⟨(hb.block b h1).trans h.blk, D, ?_, hD⟩
  obtain ⟨es, clock, he, r⟩ := hm
  exact ⟨es, clock, (hb.block m h2).trans he, r⟩
theorem TabAt.drewN {W : World} {b m : Nat} {M : List (Int × W3)} {l : W3} {st : Int} (h : TabAt W b m M l st) (n : Nat) : TabAt (W.drewN n) b m M l st := ⟨h.blk, h.map⟩
theorem TabAt.alloc {W : World} {b m : Nat} {M : List (Int × W3)} {l : W3} {st : Int} (h : TabAt W b m M l st) (o : Obj) : TabAt (W.alloc o) b m M l st :=
  h.below ((Below.refl _ _).alloc (Nat.le_refl _) o) h.mapLt.2.1 h.mapLt.1
/-- Its five cells. -/
theorem TabAt.cell {W : World} {b m : Nat} {M : List (Int × W3)} {l : W3} {st : Int} (h : TabAt W b m M l st) :
    W.cell? ⟨b, 0, none⟩ = some (.map (some m)) ∧ W.cell? ⟨b, 1, none⟩ = some (.int .i64 l.1) ∧ W.cell? ⟨b, 2, none⟩ = some (.int .i64 l.2.1) ∧ W.cell? ⟨b, 3, none⟩ = some (.int .i64 l.2.2) ∧ W.cell? ⟨b, 4, none⟩ = some (.int .i64 st) := by
  simp [World.cell?, h.blk]
theorem TabAt.frozen {W : World} {b m : Nat} {M : List (Int × W3)} {l : W3} {st : Int} (h : TabAt W b m M l st) (k : Nat) : W.frozen? ⟨b, k, none⟩ = false := by
  simp [World.frozen?, h.blk]

def fullE (n : Nat) : Int := if 4096 < n then 2 else 0
/-- full: 4096 characters at most. -/
theorem full_calls (W : World) (b m : Nat) (M : List (Int × W3)) (l : W3) (st : Int) (h : TabAt W b m M l st) :
    Calls Tryd.prog 86 #[.pointer (some ⟨b, 0, none⟩)] W fun e w' => e = .returned (.int .i64 (fullE M.length)) ∧ W = w' := by
  obtain ⟨c0, c1, c2, c3, c4⟩ := h.cell
  clear c1 c2 c3 c4
  obtain ⟨D, hm, hD⟩ := h.map
  have hsz := hD.size
  have hS := Lib.hid hsz
  clear hsz
  have hlen : ∀ ty, (Builtin.len_ #[43] ty #[.map (some m)]).run Tryd.prog W = .ok (.int .i64 (Maps.size D)) W := fun ty => hm.len Tryd.underlying43 ty
  go_enter Tryd.func86, Tryd.ntmps86
  go_wp2_with fail
  all_goals go_ret
  all_goals exact ⟨ret_int (by rw [← hS.out]; unfold fullE; first | rw [if_pos (by omega)] | rw [if_neg (by omega)]), rfl⟩

/-- 'w, ok := t.of[c]' on a table's map. -/
theorem wpList_lookup_w (w : World) {ops : Array Oper} {rest : List Oper} {o : Oper} {a : Act} {Q : Exit → Act → World → Prop}
    (hg : o.guard = none) (m x : Operand) (hop : o.op = Op.lookup 43 m x true) (b n : Nat) (D : DataW Unit) (M : List (Int × W3)) (hm : a.eval m = .map (some b)) (hown : w.ownsMap Tryd.prog 21 wElem b n D) (hD : MapIs D M)
    (c : Int) (hx : a.eval x = .int .i32 c) (hk : keyOf Tryd.prog 21 (.int .i32 c) = some (.int .i32 c)) (ok : Bool) (hok : inM M c = ok)
    (hK : wpList Tryd.prog ops Q rest (a.put o.dst (.tuple #[.agg #[.int .i64 (getW M c (0, 0, 0)).1, .int .i64 (getW M c (0, 0, 0)).2.1, .int .i64 (getW M c (0, 0, 0)).2.2], .bool ok])) w) :
    wpList Tryd.prog ops Q (o :: rest) a w := by
  refine wpList_lookup_own_ok w hg m x 43 hop 21 44 law21 Tryd.underlying43 wElem (zero_w w) (wdat (0, 0, 0)) [] (wElem_mk _) b n D hm hown _ _ hx hk ?_
  intro v ps hv
  obtain ⟨u, rfl, hz⟩ := wElem_inv hv
  have hu : u = getW M c (0, 0, 0) := by
    have := congrArg Prod.fst hz
    rw [hD.at_] at this
    exact (wdat_inj this).symm
  subst hu
  rw [hD.has, hok]
  exact hK

set_option maxRecDepth 100000 in
theorem put_yes (W : World) (b m : Nat) (M : List (Int × W3)) (l : W3) (st : Int) (h : TabAt W b m M l st) (c : Int) (x : W3) (hc : inM M c = false) (hcw : (Lit.int .i32 c).wf = true) (hM : M.length < 4294967296) :
    Calls Tryd.prog 85 #[.pointer (some ⟨b, 0, none⟩), .int .i32 c, wv x] W fun e w' => e = .returned (.int .i64 0) ∧ TabAt w' b m (M ++ [(c, x)]) l st ∧ W.grownBy w' (some m) := by
  obtain ⟨c0, c1, c2, c3, c4⟩ := h.cell
  clear c1 c2 c3 c4
  obtain ⟨D, hm, hD⟩ := h.map
  have hlt := h.mapLt
  have hk0 : keyOf Tryd.prog 21 (.int .i32 c) = some (.int .i32 c) := keyOf_int_mk Tryd.underlying21 hcw
  have hk := Lib.hid hk0
  have hM' := Lib.hid hM
  have hcw' := Lib.hid hcw
  have hc' := Lib.hid hc
  clear hk0 hM hcw hc
  unfold wv
  go_enter Tryd.func85, Tryd.ntmps85
  go_wp2_with (at_lookup; refine wpList_lookup_w _ rfl _ _ rfl m _ D M rfl (hm.alloc _) hD c rfl hk.out false hc'.out ?_)
  obtain ⟨W2, hW2⟩ : ∃ W2, W2 = ((W.alloc (.cells #[.int .i64 x.1, .int .i64 x.2.1, .int .i64 x.2.2] 44)).alloc (.cells #[.int .i64 (getW M c (0, 0, 0)).1, .int .i64 (getW M c (0, 0, 0)).2.1, .int .i64 (getW M c (0, 0, 0)).2.2] 44)) := ⟨_, rfl⟩
  have hb2 : Below W.heap.size W W2 := by rw [hW2]; exact ((Below.refl _ _).alloc (Nat.le_refl _) _).alloc (by simp) _
  have hx0 : W2.cell? ⟨W.heap.size, 0, none⟩ = some (.int .i64 x.1) := by rw [hW2]; simp
  have hx1 : W2.cell? ⟨W.heap.size, 1, none⟩ = some (.int .i64 x.2.1) := by rw [hW2]; simp
  have hx2 : W2.cell? ⟨W.heap.size, 2, none⟩ = some (.int .i64 x.2.2) := by rw [hW2]; simp
  have hm2 : W2.ownsMap Tryd.prog 21 wElem m M.length D := by rw [hW2]; exact (hm.alloc _).alloc _
  have h2 : TabAt W2 b m M l st := by rw [hW2]; exact (h.alloc _).alloc _
  have c02 := h2.cell.1
  rw [← hW2]
  clear hW2 c0
  go_still_tail 6, (by kernel_rfl)
  change wpList _ _ _ _ _ W2.drew
  have hmd : W2.drew.ownsMap Tryd.prog 21 wElem m M.length D := hm2
  refine wpList_mapUpdate_own _ rfl _ _ _ 43 rfl 21 44 law21 Tryd.underlying43 wElem m M.length D rfl hmd (by have := hM'.out; unfold maxLen; omega) _ _ (.int .i32 c) rfl rfl hk.out (wdat x) [] rfl ?_
  intro w1 hown1 hgrow1
  have hT : TabAt w1 b m (M ++ [(c, x)]) l st ∧ W.grownBy w1 (some m) := by
    have hb0 : W2.drew.heap[b]? = W2.heap[b]? := rfl
    have hs := hgrow1.size
    have hs2 : W2.drew.heap.size = W2.heap.size := rfl
    refine ⟨⟨?_, D.put (.int .i32 c) (wdat x), by simpa using hown1, hD.put hc'.out x⟩, ⟨hgrow1.os.trans hb2.os, hgrow1.tape.trans hb2.tape, hgrow1.output.trans hb2.output, by have := hb2.size; omega, fun k hk hne => ?_⟩⟩
    · rw [hgrow1.block b (by have := h2.mapLt.2.1; omega) (by simpa using hlt.2.2), hb0]; exact h2.blk
    · rw [hgrow1.block k (by have := hb2.size; omega) hne]; exact hb2.block k hk
  have hT' := Lib.hid hT
  clear hT hown1 hgrow1 hmd hm2 h2 c02 hx0 hx1 hx2 hb2
  go_wp2
  go_ret
  exact ⟨rfl, hT'.out⟩

set_option maxRecDepth 100000 in
theorem put_no (W : World) (b m : Nat) (M : List (Int × W3)) (l : W3) (st : Int) (h : TabAt W b m M l st) (c : Int) (x : W3) (hc : inM M c = true) (hcw : (Lit.int .i32 c).wf = true) :
    Calls Tryd.prog 85 #[.pointer (some ⟨b, 0, none⟩), .int .i32 c, wv x] W fun e w' => e = .returned (.int .i64 4) ∧ Below W.heap.size W w' := by
  obtain ⟨c0, c1, c2, c3, c4⟩ := h.cell
  clear c1 c2 c3 c4
  obtain ⟨D, hm, hD⟩ := h.map
  have hlt := h.mapLt
  have hk0 : keyOf Tryd.prog 21 (.int .i32 c) = some (.int .i32 c) := keyOf_int_mk Tryd.underlying21 hcw
  have hk := Lib.hid hk0
  have hc' := Lib.hid hc
  clear hk0 hcw hc
  unfold wv
  go_enter Tryd.func85, Tryd.ntmps85
  go_wp2_with (at_lookup; refine wpList_lookup_w _ rfl _ _ rfl m _ D M rfl (hm.alloc _) hD c rfl hk.out true hc'.out ?_)
  go_ret
  exact ⟨rfl, ((Below.refl _ _).alloc (Nat.le_refl _) _).alloc (by simp) _⟩
end Go.Proofs.YtibhifjehbajnaaDoor

namespace Go.Proofs.YtibhifjehbajnaaDoor
open Go.RowKit Go.Maps

def signB (w : ByteArray) : Bool := w.toList == [60] || w.toList == [44] || w.toList == [59]
def hexDigit (c : UInt8) : Option Nat :=
  if 48 ≤ c.toNat ∧ c.toNat ≤ 57 then some (c.toNat - 48) else if 65 ≤ c.toNat ∧ c.toNat ≤ 70 then some (c.toNat - 55) else if 97 ≤ c.toNat ∧ c.toNat ≤ 102 then some (c.toNat - 87) else none
def hexFrom : Nat → List UInt8 → Option Nat
  | n, [] => some n
  | n, c :: l => match hexDigit c with
    | some d => hexFrom (16 * n + d) l
    | none => none
/-- The first rune of a string (0 of the empty one). -/
def rune0 (w : ByteArray) : Int := ((Utf8.decode w 0).1 : Int)
/-- The character that a word writes. -/
def charOf (w : ByteArray) : Option Int :=
  let l := w.data.toList
  if [85, 43].isPrefixOf l && decide (3 ≤ l.length) && decide (l.length ≤ 8) then
    match hexFrom 0 (l.drop 2) with
    | some n => if isCharB n then some (n : Int) else none
    | none => none
  else if lenOf w == 1 && !signB w then some (rune0 w) else none
def charsOf : List ByteArray → Option (List Int)
  | [] => some []
  | w :: l => match charOf w with
    | none => none
    | some c => match charsOf l with
      | none => none
      | some cs => some (c :: cs)
theorem charsOf_snoc : ∀ (l : List ByteArray) (w : ByteArray), charsOf (l ++ [w]) = match charsOf l with
    | none => none
    | some cs => match charOf w with
      | none => none
      | some c => some (cs ++ [c])
  | [], w => by cases h : charOf w <;> simp [charsOf, h]
  | a :: l, w => by
    simp only [List.cons_append, charsOf, charsOf_snoc l w]
    cases charOf a <;> cases charsOf l <;> cases charOf w <;> simp
theorem charsOf_app_none : ∀ (l r : List ByteArray), charsOf l = none → charsOf (l ++ r) = none
  | [], r, h => by simp [charsOf] at h
  | a :: l, r, h => by
    simp only [charsOf, List.cons_append] at h ⊢
    cases ha : charOf a with
    | none => simp
    | some c =>
      rw [ha] at h
      cases hl : charsOf l with
      | none => rw [charsOf_app_none l r hl]
      | some cs => rw [hl] at h; simp at h

/-- A table: characters with weights, the last weights, the strength (0: not stated). -/
structure CT where
  M : List (Int × W3)
  last : W3
  st : Int

/-- Characters with weights, put one by one. -/
def putAll : List (Int × W3) → List (Int × W3) → Option (List (Int × W3))
  | M, [] => some M
  | M, x :: l => if inM M x.1 then none else putAll (M ++ [x]) l

def ignoreP (t : CT) (ws : List ByteArray) : CT × Int :=
  match charsOf ws with
  | none => (t, 5)
  | some [] => (t, 5)
  | some (c :: cs) => match putAll t.M ((c :: cs).map fun c => (c, (0, 0, 0))) with
    | none => (t, 4)
    | some M => ({ t with M := M }, fullE M.length)

/-- The weights behind a sign. -/
def afterW (w : W3) (s : ByteArray) : W3 :=
  if s.toList == [60] then (w.1 + 1, 1, 1) else if s.toList == [44] then (w.1, w.2.1 + 1, 1) else (w.1, w.2.1, w.2.2 + 1)

/-- The characters of a line with listed characters: at even places characters, at odd ones signs. -/
def formL : Bool → List ByteArray → Option (List Int)
  | _, [] => some []
  | true, w :: l => if signB w then formL false l else none
  | false, w :: l => match charOf w with
    | none => none
    | some c => match formL true l with
      | none => none
      | some cs => some (c :: cs)
theorem formL_app_none : ∀ (b : Bool) (l r : List ByteArray), formL b l = none → formL b (l ++ r) = none
  | _, [], r, h => by simp [formL] at h
  | true, w :: l, r, h => by
    simp only [formL, List.cons_append] at h ⊢
    split
    · rename_i hs
      rw [if_pos hs] at h
      exact formL_app_none false l r h
    · rfl
  | false, w :: l, r, h => by
    simp only [formL, List.cons_append] at h ⊢
    cases hc : charOf w with
    | none => rfl
    | some c =>
      rw [hc] at h
      cases hl : formL true l with
      | none => simp [formL_app_none true l r hl]
      | some cs => rw [hl] at h; simp at h
/-- One word more. -/
def stepL (odd : Bool) (cs : List Int) (w : ByteArray) : Option (List Int) :=
  if odd then (if signB w then some cs else none) else match charOf w with
    | none => none
    | some c => some (cs ++ [c])
theorem formL_snoc : ∀ (b : Bool) (l : List ByteArray) (w : ByteArray) (cs : List Int), formL b l = some cs → formL b (l ++ [w]) = stepL (b != (l.length % 2 == 1)) cs w
  | true, [], w, cs, h => by
    simp [formL] at h; subst h
    simp [formL, stepL]
  | false, [], w, cs, h => by
    simp [formL] at h; subst h
    simp only [List.nil_append, formL, stepL]
    cases charOf w <;> simp
  | true, a :: l, w, cs, h => by
    simp only [formL, List.cons_append] at h ⊢
    split at h
    · rename_i hs
      rw [if_pos hs, formL_snoc false l w cs h]
      congr 1
      rcases Nat.mod_two_eq_zero_or_one l.length with e | e <;> simp [Nat.add_mod, e]
    · cases h
  | false, a :: l, w, cs, h => by
    simp only [formL, List.cons_append] at h ⊢
    cases hc : charOf a with
    | none => rw [hc] at h; cases h
    | some c =>
      rw [hc] at h
      cases hl : formL true l with
      | none => rw [hl] at h; cases h
      | some cs' =>
        rw [hl] at h
        simp at h
        subst h
        simp only
        rw [formL_snoc true l w cs' hl]
        rcases Nat.mod_two_eq_zero_or_one l.length with e | e
        · have e2 : (l.length + 1) % 2 = 1 := by omega
          simp only [e, e2, List.length_cons, stepL]
          by_cases hs : signB w <;> simp [hs]
        · have e2 : (l.length + 1) % 2 = 0 := by omega
          simp only [e, e2, List.length_cons, stepL]
          cases charOf w <;> simp

/-- The sign ahead of listed character number i of a line. -/
def signAt (ws : List ByteArray) (i : Nat) : ByteArray := if i = 0 then ⟨#[60]⟩ else ws.getD (2 * i - 1) ByteArray.empty
def listPut (ws : List ByteArray) : Nat → List Int → CT → Option CT
  | _, [], t => some t
  | i, c :: cs, t => if inM t.M c then none else listPut ws (i + 1) cs { t with last := afterW t.last (signAt ws i), M := t.M ++ [(c, afterW t.last (signAt ws i))] }
def listP (t : CT) (ws : List ByteArray) : CT × Int :=
  match formL false ws with
  | none => (t, 5)
  | some cs => if ws.length % 2 = 0 then (t, 5) else match listPut ws 0 cs t with
    | none => (t, 4)
    | some t' => (t', fullE t'.M.length)
/-- Its weights are no greater than the number of its characters. -/
def CT.ok (t : CT) : Prop := 0 ≤ t.last.1 ∧ t.last.1 ≤ t.M.length ∧ 0 ≤ t.last.2.1 ∧ t.last.2.1 ≤ t.M.length ∧ 0 ≤ t.last.2.2 ∧ t.last.2.2 ≤ t.M.length
theorem CT.ok_after {t : CT} (h : t.ok) (s : ByteArray) (c : Int) : CT.ok { t with last := afterW t.last s, M := t.M ++ [(c, afterW t.last s)] } := by
  obtain ⟨h1, h2, h3, h4, h5, h6⟩ := h
  simp only [CT.ok, List.length_append, List.length_singleton]
  unfold afterW
  split
  · simp only; omega
  · split <;> simp only <;> omega

/-- The digit of a word 1, 2 or 3. -/
def strengthOf (w : ByteArray) : Option Int := if w.toList == [49] then some 1 else if w.toList == [50] then some 2 else if w.toList == [51] then some 3 else none
def levelP (t : CT) : List ByteArray → CT × Int
  | [_, d] => match strengthOf d with
    | none => (t, 5)
    | some n => if 0 < t.st then (t, 4) else ({ t with st := n }, 0)
  | _ => (t, 5)
def addP (t : CT) (ws : List ByteArray) : CT × Int :=
  match ws with
  | [] => (t, 0)
  | w :: r => if w.data.toList.head? = some 35 then (t, 0) else if w.toList = [115, 116, 114, 101, 110, 103, 116, 104] then levelP t ws else if w.toList = [105, 103, 110, 111, 114, 101] then ignoreP t r else listP t ws
end Go.Proofs.YtibhifjehbajnaaDoor

namespace Go.Proofs.YtibhifjehbajnaaDoor
open Go.RowKit Go.Maps Go.Shelf
set_option linter.unusedVariables false

def lays242_ren : Ren := ⟨fun | 242 => 52 | 278 => 75 | n => n, fun | 37 => 35 | 46 => 75 | 51 => 106 | 72 => 60 | n => n, fun n => n⟩
theorem lays242 : Go.Proofs.Lays.n242 Tryd.prog lays242_ren := {
  mixed := by kernel_rfl
  f242 := Tryd.func52.trans (congrArg some (by kernel_rfl))
  f278 := Tryd.func75.trans (congrArg some (by kernel_rfl))
  t4 := Tryd.underlying4
  a4 := Tryd.isAgg4
  z4 := Tryd.sizeOf4
  v4 := Tryd.zeroValue4
  t5 := Tryd.underlying5
  a5 := Tryd.isAgg5
  z5 := Tryd.sizeOf5
  v5 := Tryd.zeroValue5
  t21 := Tryd.underlying21
  a21 := Tryd.isAgg21
  z21 := Tryd.sizeOf21
  v21 := Tryd.zeroValue21
  t37 := Tryd.underlying35
  a37 := Tryd.isAgg35
  z37 := Tryd.sizeOf35
  v37 := Tryd.zeroValue35
  t46 := Tryd.underlying75
  a46 := Tryd.isAgg75
  z46 := Tryd.sizeOf75
  v46 := Tryd.zeroValue75
  t51 := Tryd.underlying106
  a51 := Tryd.isAgg106
  z51 := Tryd.sizeOf106
  v51 := Tryd.zeroValue106 }
theorem extra242 : Builder.Extra Tryd.prog lays242_ren := {
  sizeBuilder := by kernel_rfl
  liesBuilder := by kernel_rfl
  t5 := Tryd.underlying5
  a5 := Tryd.isAgg5
  z5 := Tryd.sizeOf5
  v5 := Tryd.zeroValue5
  infoByte := by kernel_rfl
  cellsByte := by kernel_rfl
  sizeByte := by kernel_rfl
  neB5 := by decide }

set_option maxHeartbeats 1000000 in
set_option maxRecDepth 100000 in
theorem copyCheck_used (b : Nat) (w : World) (h0 : w.cell? ⟨b, 0, none⟩ = some (.pointer (some ⟨b, 0, none⟩))) :
    Calls Tryd.prog 51 #[.pointer (some ⟨b, 0, none⟩)] w fun e w' => e = .returned (.tuple #[]) ∧ w' = w := by
  obtain ⟨j, hj, _⟩ := Option.map_eq_some_iff.1 extra242.sizeBuilder
  go_enter Tryd.func51, Tryd.ntmps51
  go_wp2
  rw [Lib.run_neq_ptr_same w _ Tryd.underlying58 hj]
  go_wp2
  go_end0
  exact ⟨rfl, rfl⟩

set_option maxHeartbeats 1000000 in
set_option maxRecDepth 100000 in
theorem copyCheck_fresh (b : Nat) (w : World) (h0 : w.cell? ⟨b, 0, none⟩ = some (.pointer none)) (hsh : w.shape? b = some (60, 2)) (hfz : w.frozen? ⟨b, 0, none⟩ = false) :
    Calls Tryd.prog 51 #[.pointer (some ⟨b, 0, none⟩)] w fun e w' => e = .returned (.tuple #[]) ∧ w' = w.setCell ⟨b, 0, none⟩ (.pointer (some ⟨b, 0, none⟩)) := by
  obtain ⟨j, hj, hjs⟩ := Option.map_eq_some_iff.1 extra242.sizeBuilder
  go_enter Tryd.func51, Tryd.ntmps51
  go_wp2
  rw [Lib.run_to_unsafe w ⟨b, 0, none⟩ Tryd.underlying58 Tryd.underlying104 hj (by rw [hjs]; decide) hsh (Nat.zero_lt_succ 1)]
  simp only [Result.andThen]
  rw [Oper.upon_value]
  go_wp2
  rw [run_callFunc_extern Tryd.func74 (by kernel_rfl) (by kernel_rfl) (by kernel_rfl) (e := Extern.AbiNoEscape.same) (by kernel_rfl)]
  rw [Lib.run_noEscape]
  simp only [Result.andThen]
  rw [Oper.upon_value]
  go_wp2
  rw [Lib.run_from_unsafe w ⟨b, 0, none⟩ Tryd.underlying104 Tryd.underlying58 hj hsh extra242.liesBuilder]
  simp only [Result.andThen]
  rw [Oper.upon_value]
  go_wp2
  go_end0
  exact ⟨rfl, rfl⟩

theorem copyCheck_k (B b : Nat) (bs : List Value) (w : World) (h : Lib.IsBuilderF 60 5 B b bs w) :
    Calls Tryd.prog 51 #[.pointer (some ⟨b, 0, none⟩)] w fun e w' => e = .returned (.tuple #[]) ∧ (Lib.BuilderAtF 60 5 B b (.pointer (some ⟨b, 0, none⟩)) bs w' ∧ Below B w w' ∧ Lib.OthersKept 5 (some b) w w') := by
  rcases h with h | h
  · refine (copyCheck_fresh b w h.cell0 h.shape h.frozen0).mono ?_
    rintro e w' ⟨rfl, rfl⟩
    exact ⟨rfl, h.used _, (Below.refl B w).setCell (p := ⟨b, 0, none⟩) h.1 _, (Lib.OthersKept.refl _ _ w).setCell ⟨b, 0, none⟩ rfl _⟩
  · refine (copyCheck_used b w h.cell0).mono ?_
    rintro e w' ⟨rfl, rfl⟩
    exact ⟨rfl, h, Below.refl B _, Lib.OthersKept.refl _ _ _⟩

set_option maxHeartbeats 4000000 in
set_option maxRecDepth 100000 in
theorem WriteRune_k (B b : Nat) (bs : List Value) (r : Int) (hr0 : -2147483648 ≤ r) (hr1 : r ≤ 2147483647) (w : World) (h : Lib.IsBuilderF 60 5 B b bs w) (hlen : bs.length + 4 ≤ 140737488355328) (hBw : B ≤ w.heap.size) :
    Calls Tryd.prog 30 #[.pointer (some ⟨b, 0, none⟩), .int .i32 r] w fun e w' => e = .returned (.tuple #[.int .i64 (Lib.runeCells r).length, .nilIface]) ∧ (Lib.BuilderAtF 60 5 B b (.pointer (some ⟨b, 0, none⟩)) (bs ++ Lib.runeCells r) w' ∧ Below B w w' ∧ Lib.OthersKept 5 (some b) w w') := by
  have hk4 := Lib.runeCells_le r
  go_enter Tryd.func30, Tryd.ntmps30
  go_wp2_with (go_at_call 51; refine (copyCheck_k B b bs _ h).mono ?_)
  rintro e w1 ⟨rfl, h1, hb1, hk1⟩
  obtain ⟨hB, v, hbk, hown, hne⟩ := h1
  obtain ⟨ao, cap, rfl⟩ : ∃ ao cap, v = .slice ao bs.length cap := by
    rcases hown.2 with ⟨hv, h0⟩ | ⟨g, cap, cur, fz, hv, _⟩
    · exact ⟨none, 0, by rw [hv, h0]⟩
    · exact ⟨_, _, hv⟩
  have c0 : w1.cell? ⟨b, 0, none⟩ = some (.pointer (some ⟨b, 0, none⟩)) := by rw [Lib.cell_of_heap hbk]; rfl
  have c1 : w1.cell? ⟨b, 1, none⟩ = some (.slice ao bs.length cap) := by rw [Lib.cell_of_heap hbk]; rfl
  go_wp2_with (go_at_call 52; refine (Any.utf8_AppendRune_own lays242 extra242 B _ bs.length bs r hr0 hr1 _ hown hlen (by have := hb1.size; omega)).mono ?_)
  rintro e w2 ⟨v', rfl, hown', o, hgrow⟩
  have hlt : b < w1.heap.size := by
    rcases Nat.lt_or_ge b w1.heap.size with h' | h'
    · exact h'
    · simp [Array.getElem?_eq_none h'] at hbk
  have hb2 : w2.heap[b]? = some (.cells #[.pointer (some ⟨b, 0, none⟩), .slice ao bs.length cap] 60 (0, 0)) := by
    rw [hgrow.block b (by simp; omega) (fun e => hne e.symm), Lib.alloc_old w1 _ b hlt]
    exact hbk
  have d0 : w2.cell? ⟨b, 0, none⟩ = some (.pointer (some ⟨b, 0, none⟩)) := by rw [Lib.cell_of_heap hb2]; rfl
  have d1 : w2.cell? ⟨b, 1, none⟩ = some (.slice ao bs.length cap) := by rw [Lib.cell_of_heap hb2]; rfl
  have f1 : w2.frozen? ⟨b, 1, none⟩ = false := Lib.frozen_of_heap hb2 1
  obtain ⟨g, cap', rfl⟩ : ∃ g cap', v' = .slice (some ⟨g, 0, none⟩) (bs.length + (Lib.runeCells r).length) cap' := by
    rcases hown'.2 with ⟨_, h0⟩ | ⟨g, cap', cur, fz, hv, _⟩
    · omega
    · exact ⟨g, cap', hv⟩
  go_wp2
  go_ret2
  refine ⟨?_, ?_, ?_, ((hk1.alloc _).grown hgrow (Lib.ownsRowF_kind (hown.alloc _))).setCell ⟨b, 1, none⟩ rfl _⟩
  · have e : ((bs.length : Int) + ((Lib.runeCells r).length : Int) - (bs.length : Int)) = ((Lib.runeCells r).length : Int) := by omega
    simp [e]
  · exact Lib.BuilderAtF.put (T := 60) (e := 5) hB hb2 (bs' := bs ++ Lib.runeCells r) (by have hx : lays242_ren.t 5 = 5 := rfl; rw [hx] at hown'; simpa using hown') (by decide)
  · exact ((hb1.alloc (by have := hb1.size; omega) _).grown hgrow (by have := hb1.size; simp; omega) (fun k hk => (hown.lt k hk).1)).setCell (p := ⟨b, 1, none⟩) hB _

def okRune (c : Int) : Bool := decide (0 ≤ c ∧ c ≤ 1114111) && isCharB c

/-- chars.From at one code point: whether it is a character. -/
def fromE (c : Int) : Value := .int .i64 (if okRune c then 0 else 10)

def FromRel (A : Nat) (W : World) (c : Int) (b : Nat) (i : Int) (w : World) : Prop :=
  Below W.heap.size W w ∧ (i = 0 ∨ i = 1) ∧ (i = 1 → okRune c = true) ∧ ∃ l, l.length ≤ 4 * i.toNat ∧ Lib.IsBuilderF 60 5 W.heap.size b (Lib.byteCells l) w

set_option maxHeartbeats 4000000 in
set_option maxRecDepth 100000 in
theorem From_calls (c : Int) (A : Nat) (W : World) (h0 : 0 ≤ c) (h1 : c ≤ 2147483647) (hA : A < W.heap.size) (hc : W.cell? ⟨A, 0, none⟩ = some (.int .i64 c)) :
    Calls Tryd.prog 100 #[.slice (some ⟨A, 0, none⟩) 1 1] W fun e w' => (∃ s, e = .returned (.tuple #[.string s, fromE c])) ∧ Below W.heap.size W w' := by
  go_enter Tryd.func100, Tryd.ntmps100
  go_wp2
  go_loopw [9] (fun vi wr => ∃ i, vi = .int .i64 i ∧ Hid (FromRel A W c W.heap.size i wr)) (fun vi _ => 1 - (intOf vi).toNat)
  case atStart => exact ⟨0, rfl, (Below.refl _ _).alloc (Nat.le_refl _) _, .inl rfl, (by omega), [], by simp, Lib.IsBuilderF.of (Lib.fresh_isBuilder _ _ _)⟩
  case round =>
    obtain ⟨i, rfl, hh⟩ := hrel
    obtain ⟨wo, hwo⟩ : ∃ wo : World, wo = wr := ⟨_, rfl⟩
    obtain ⟨hbel, hi, hok, l, hl, hbd⟩ := hh.out
    clear hh
    have hwB : W.heap.size ≤ wr.heap.size := hbel.size
    rcases hi with rfl | rfl
    · have hcell : wr.cell? ⟨A, 0, none⟩ = some (.int .i64 c) := (hbel.cell (p := ⟨A, 0, none⟩) hA).trans hc
      have hw : IntKind.i32.wrap c = c := by rw [IntKind.wrap_i32]; omega
      have hl0 : l = [] := by cases l with | nil => rfl | cons a b => simp at hl
      subst hl0
      clear hl hwo
      by_cases hbig : c ≤ 1114111
      · by_cases hch : isCharB c = true
        · have hokc : okRune c = true := by simp [okRune, h0, hbig, hch]
          go_wp2_with (first | (go_at_call 47; refine (isChar_calls _ _).mono ?_; rintro e w' ⟨rfl, n, rfl⟩) | (go_at_call 30; refine (WriteRune_k W.heap.size W.heap.size [] c (by omega) (by omega) _ (show Lib.IsBuilderF 60 5 W.heap.size W.heap.size [] (wr.drewN _) from hbd) (by decide) hwB).mono ?_; rintro e w2 ⟨rfl, hb2, hbw2, _⟩))
          go_roundw
          case rel => exact ⟨1, rfl, hbel.trans (below_drewN (Below.refl _ _) _ |>.trans hbw2), .inr rfl, fun _ => hokc, Lib.encodeRune c, by have := Lib.runeCells_le c; rw [Lib.runeCells_length] at this; simp; omega, .inr (by rw [Lib.byteCells_encodeRune]; simpa using hb2)⟩
          case measure => simp [intOf]
        · have hch : isCharB c = false := by simpa using hch
          have hfr : fromE c = .int .i64 10 := by simp [fromE, okRune, hch]
          go_wp2_with (go_at_call 47; refine (isChar_calls _ _).mono ?_; rintro e w' ⟨rfl, n, rfl⟩)
          go_ret2
          exact ⟨⟨_, by first | rfl | (rw [hfr]; rfl)⟩, below_drewN hbel _⟩
      · have hfr : fromE c = .int .i64 10 := by simp [fromE, okRune, hbig]
        go_wp2
        go_ret2
        exact ⟨⟨_, by first | rfl | (rw [hfr]; rfl)⟩, hbel⟩
    · have hfr : fromE c = .int .i64 0 := by simp [fromE, hok rfl]
      clear hl hwo
      go_wp2_with (go_at_call 31; refine (Tryd.Builder_String_any_f W.heap.size W.heap.size l _ hbd hwB).mono ?_; rintro e w2 ⟨rfl, _, hbw2⟩)
      go_ret2
      exact ⟨⟨_, by first | rfl | (rw [hfr]; rfl)⟩, hbel.trans hbw2⟩
end Go.Proofs.YtibhifjehbajnaaDoor

namespace Go.Proofs.YtibhifjehbajnaaDoor
open Go.RowKit Go.Maps
set_option linter.unusedVariables false

def low (n : Nat) : Int := bits .or .u8 (n : Int) 32
theorem low_hex : ∀ n, n < 256 → ((65 ≤ n ∧ n ≤ 70) → low n = n + 32) ∧ ((97 ≤ n ∧ n ≤ 102) → low n = n) ∧ ((¬ (48 ≤ n ∧ n ≤ 57) ∧ ¬ (65 ≤ n ∧ n ≤ 70) ∧ ¬ (97 ≤ n ∧ n ≤ 102)) → ¬ (97 ≤ low n ∧ low n ≤ 102)) := by decide +kernel
theorem hexDigit_lt {c : UInt8} {d : Nat} (h : hexDigit c = some d) : d ≤ 15 := by
  unfold hexDigit at h
  split at h
  · injection h; omega
  · split at h
    · injection h; omega
    · split at h
      · injection h; omega
      · cases h

/-- What internal/strconv.ParseUint hands back. -/
def hexV : Option Nat → Value
  | some n => .tuple #[.int .u64 n, .nilIface]
  | none => .tuple #[.int .u64 0, .iface 141 (.int .i64 2)]

set_option maxHeartbeats 8000000 in
set_option maxRecDepth 100000 in
theorem hex_calls (t : ByteArray) (hne : t.size ≠ 0) (h6 : t.size ≤ 6) (w : World) :
    Calls Tryd.prog 105 #[.string t, .int .i64 16, .int .i64 32] w fun e w' => e = .returned (hexV (hexFrom 0 t.data.toList)) ∧ w' = Lib.bytesWorld w 5 t := by
  have hemp : t.toList.isEmpty = false := by
    rw [← decide_eq_emptyBytes]
    exact decide_eq_false (fun h => hne (by rw [h]; rfl))
  have hcv := Lib.run_convert_string_bytes (P := Tryd.prog) w 9 35 5 t (u := .string) Tryd.underlying9 Tryd.underlying35 Tryd.underlying5
  have hB : ∀ j, j < t.size → (Lib.bytesWorld w 5 t).cell? ⟨w.heap.size, j, none⟩ = some (.int .u8 (t.data.toList.getD j 0).toNat) := fun j hj => Lib.bytesWorld_cell w 5 t j hj
  obtain ⟨W1, hW1⟩ : ∃ W1, W1 = Lib.bytesWorld w 5 t := ⟨_, rfl⟩
  rw [← hW1] at hcv hB ⊢
  clear hW1
  obtain ⟨bs, hL⟩ : ∃ bs, bs = t.data.toList := ⟨_, rfl⟩
  have hLn : bs.length = t.size := by rw [hL, Lib.size_eq]
  rw [← hL] at hB ⊢
  clear hL
  have hmv : IntKind.u64.wrap (IntKind.u64.wrap 4294967296 - 1) = 4294967295 := by
    rw [IntKind.wrap_u64, IntKind.wrap_u64]
    decide
  go_enter Tryd.func105, Tryd.ntmps105
  go_wp2
  go_loop [12, 13, 101] (fun vu vn vi => ∃ (k acc : Nat) (a : Int), vu = .bool false ∧ vn = .int .u64 a ∧ vi = .int .i64 k ∧ k ≤ t.size ∧ Hid (a = (acc : Int) ∧ acc < 16 ^ k ∧ hexFrom 0 bs = hexFrom acc (bs.drop k)))
    (fun _ _ vi => t.size - (intOf vi).toNat)
  case atStart => exact ⟨0, 0, 0, rfl, rfl, rfl, by omega, rfl, by omega, rfl⟩
  case round =>
    obtain ⟨k, acc, a, rfl, rfl, rfl, hk, hh⟩ := hrel
    obtain ⟨ha, hacc, hdec⟩ := hh.out
    clear hh
    by_cases hkn : k < t.size
    · have hpw : 16 ^ k ≤ 16 ^ 5 := Nat.pow_le_pow_right (by omega) (by omega)
      have hac2 : acc < 1048576 := by omega
      have hps : 16 ^ (k + 1) = 16 * 16 ^ k := by rw [Nat.pow_succ]; omega
      have a0 : 0 ≤ a := by omega
      have a1 : a < 1048576 := by omega
      have hc := hB k hkn
      have hdrop : bs.drop k = bs[k]'(by omega) :: bs.drop (k + 1) := List.drop_eq_getElem_cons (by omega)
      have hget : bs.getD k 0 = bs[k]'(by omega) := by simp [List.getD, List.getElem?_eq_getElem (show k < bs.length by omega)]
      rw [hdrop] at hdec
      rw [hget] at hc
      generalize bs[k]'(by omega) = c at hc hdec
      have hc256 : c.toNat < 256 := c.toNat_lt
      obtain ⟨lw1, lw2, lw3⟩ := low_hex c.toNat hc256
      clear hB hdrop hget
      by_cases hdig : 48 ≤ c.toNat ∧ c.toNat ≤ 57
      · obtain ⟨hd0, hd1⟩ := hdig
        have hx : hexDigit c = some (c.toNat - 48) := by simp [hexDigit, hd0, hd1]
        have hF : hexFrom acc (c :: bs.drop (k + 1)) = hexFrom (16 * acc + (c.toNat - 48)) (bs.drop (k + 1)) := by simp [hexFrom, hx]
        have HN : Hid (a * 16 + ((c.toNat : Int) - 48) = ((16 * acc + (c.toNat - 48) : Nat) : Int) ∧ 16 * acc + (c.toNat - 48) < 16 ^ (k + 1) ∧ hexFrom 0 bs = hexFrom (16 * acc + (c.toNat - 48)) (bs.drop (k + 1))) := Lib.hid ⟨by omega, by omega, hdec.trans hF⟩
        clear hF hdec ha hx hps hpw hacc hac2 lw1 lw2 lw3
        go_wp2
        refine ⟨⟨k + 1, 16 * acc + (c.toNat - 48), a * 16 + ((c.toNat : Int) - 48), rfl, (by first | rfl | (congr 1; omega)), (by first | rfl | (congr 1; omega)), by omega, HN⟩, by simp [intOf]; omega⟩
      · by_cases hl1 : 65 ≤ c.toNat ∧ c.toNat ≤ 70
        · have hb : bits .or .u8 (c.toNat : Int) 32 = (c.toNat : Int) + 32 := by have := lw1 hl1; exact this
          obtain ⟨hd0, hd1⟩ := hl1
          have hx : hexDigit c = some (c.toNat - 55) := by
            unfold hexDigit
            rw [if_neg hdig, if_pos ⟨hd0, hd1⟩]
          have hF : hexFrom acc (c :: bs.drop (k + 1)) = hexFrom (16 * acc + (c.toNat - 55)) (bs.drop (k + 1)) := by simp [hexFrom, hx]
          have HN : Hid (16 * acc + (c.toNat - 55) < 16 ^ (k + 1) ∧ hexFrom 0 bs = hexFrom (16 * acc + (c.toNat - 55)) (bs.drop (k + 1))) := Lib.hid ⟨by omega, hdec.trans hF⟩
          have HA := Lib.hid ha
          clear hF hdec ha hx hps hpw hacc hac2 lw1 lw2 lw3 hdig
          go_wp2_with (go_at_call 110; refine (Tryd.internal_strconv_lower _ _).mono ?_; rintro e w' ⟨rfl, rfl⟩)
          have HA := HA.out
          refine ⟨⟨k + 1, 16 * acc + (c.toNat - 55), _, rfl, rfl, (by first | rfl | (congr 1; omega)), by omega, by omega, HN.out⟩, by simp [intOf]; omega⟩
        · by_cases hl2 : 97 ≤ c.toNat ∧ c.toNat ≤ 102
          · have hb : bits .or .u8 (c.toNat : Int) 32 = (c.toNat : Int) := by have := lw2 hl2; exact this
            obtain ⟨hd0, hd1⟩ := hl2
            have hx : hexDigit c = some (c.toNat - 87) := by
              unfold hexDigit
              rw [if_neg hdig, if_neg hl1, if_pos ⟨hd0, hd1⟩]
            have hF : hexFrom acc (c :: bs.drop (k + 1)) = hexFrom (16 * acc + (c.toNat - 87)) (bs.drop (k + 1)) := by simp [hexFrom, hx]
            have HN : Hid (16 * acc + (c.toNat - 87) < 16 ^ (k + 1) ∧ hexFrom 0 bs = hexFrom (16 * acc + (c.toNat - 87)) (bs.drop (k + 1))) := Lib.hid ⟨by omega, hdec.trans hF⟩
            have HA := Lib.hid ha
            clear hF hdec ha hx hps hpw hacc hac2 lw1 lw2 lw3 hdig
            go_wp2_with (go_at_call 110; refine (Tryd.internal_strconv_lower _ _).mono ?_; rintro e w' ⟨rfl, rfl⟩)
            have HA := HA.out
            refine ⟨⟨k + 1, 16 * acc + (c.toNat - 87), _, rfl, rfl, (by first | rfl | (congr 1; omega)), by omega, by omega, HN.out⟩, by simp [intOf]; omega⟩
          · have hx : hexDigit c = none := by
              unfold hexDigit
              rw [if_neg hdig, if_neg hl1, if_neg hl2]
            have hF : hexFrom acc (c :: bs.drop (k + 1)) = none := by simp [hexFrom, hx]
            rw [hF] at hdec
            have hq := lw3 ⟨hdig, hl1, hl2⟩
            obtain ⟨v, hv⟩ : ∃ v, v = bits .or .u8 (c.toNat : Int) 32 := ⟨_, rfl⟩
            have hv0 := bits_lo_u8 .or (c.toNat : Int) 32
            have hv1 := bits_hi_u8 .or (c.toNat : Int) 32
            unfold low at hq
            rw [← hv] at hq hv0 hv1
            have hb := hv.symm
            clear hv hF hx hps hpw hacc hac2 lw1 lw2 lw3 ha
            have hdec' := Lib.hid hdec
            clear hdec hl1 hl2
            go_wp2_with (go_at_call 110; refine (Tryd.internal_strconv_lower _ _).mono ?_; rintro e w' ⟨rfl, rfl⟩)
            all_goals first | (exfalso; omega) | (go_ret2; exact ⟨by rw [hdec'.out]; rfl, rfl⟩)
    · have hkk : k = t.size := by omega
      subst hkk
      have hF : hexFrom acc (bs.drop t.size) = some acc := by rw [List.drop_eq_nil_of_le (by omega)]; rfl
      rw [hF] at hdec
      subst ha
      have hdec' := Lib.hid hdec
      clear hacc hF hdec
      go_wp2
      go_ret2
      exact ⟨by rw [hdec'.out]; rfl, rfl⟩
end Go.Proofs.YtibhifjehbajnaaDoor

namespace Go.Proofs.YtibhifjehbajnaaDoor
open Go.RowKit Go.Maps
set_option linter.unusedVariables false

/-- w' is w but for blocks b and m, and new ones. -/
structure Only (w w' : World) (b m : Nat) : Prop where
  os : w'.os = w.os
  tape : w'.tape = w.tape
  output : w'.output = w.output
  size : w.heap.size ≤ w'.heap.size
  block : ∀ k, k < w.heap.size → k ≠ b → k ≠ m → w'.heap[k]? = w.heap[k]?
theorem Only.refl (w : World) (b m : Nat) : Only w w b m := ⟨rfl, rfl, rfl, Nat.le_refl _, fun _ _ _ _ => rfl⟩
theorem Only.trans {w w1 w2 : World} {b m : Nat} (h : Only w w1 b m) (k : Only w1 w2 b m) : Only w w2 b m :=
  ⟨k.os.trans h.os, k.tape.trans h.tape, k.output.trans h.output, Nat.le_trans h.size k.size, fun i hi h1 h2 => (k.block i (Nat.lt_of_lt_of_le hi h.size) h1 h2).trans (h.block i hi h1 h2)⟩
theorem Only.of_below {w w' : World} (b m : Nat) (h : Below w.heap.size w w') : Only w w' b m := ⟨h.os, h.tape, h.output, h.size, fun k hk _ _ => h.block k hk⟩
theorem Only.of_grown {w w' : World} {b m : Nat} (h : w.grownBy w' (some m)) : Only w w' b m := ⟨h.os, h.tape, h.output, h.size, fun k hk _ h2 => h.block k hk (by simpa using h2)⟩
theorem Only.drewN {w w' : World} {b m : Nat} (h : Only w w' b m) (n : Nat) : Only w (w'.drewN n) b m := ⟨h.os, h.tape, h.output, h.size, h.block⟩
theorem Only.alloc {w w' : World} {b m : Nat} (h : Only w w' b m) (o : Obj) : Only w (w'.alloc o) b m := h.trans (Only.of_below b m ((Below.refl _ _).alloc (Nat.le_refl _) o))
theorem Only.below {w w' : World} {b m B : Nat} (h : Only w w' b m) (hb : B ≤ b) (hm : B ≤ m) (hB : B ≤ w.heap.size) : Below B w w' :=
  ⟨h.os, h.tape, h.output, h.size, fun k hk => h.block k (by omega) (by omega) (by omega)⟩

/-- What the library's tables and variables hold, as far as the walks ask. -/
structure LaidW (w : World) : Prop where
  size : 8 ≤ w.heap.size
  maxlen : ∃ n, w.cell? ⟨0, 0, none⟩ = some (.int .i64 n)
  syn : ∃ ev, w.cell? ⟨3, 0, none⟩ = some ev ∧ (ev = .nilIface ∨ ∃ te pe, ev = .iface te pe)
theorem LaidW.below {w w' : World} (h : LaidW w) {B : Nat} (hb : Below B w w') (hB : 8 ≤ B) : LaidW w' := by
  obtain ⟨h1, h2, h3⟩ := h
  have e1 : w'.cell? ⟨0, 0, none⟩ = w.cell? ⟨0, 0, none⟩ := hb.cell (p := ⟨0, 0, none⟩) (show (0:Nat) < B by omega)
  have e2 : w'.cell? ⟨3, 0, none⟩ = w.cell? ⟨3, 0, none⟩ := hb.cell (p := ⟨3, 0, none⟩) (show (3:Nat) < B by omega)
  exact ⟨Nat.le_trans h1 hb.size, by rw [e1]; exact h2, by rw [e2]; exact h3⟩

/-- Strings from place o of block A on. -/
structure StrsAt (w : World) (A o : Nat) (ws : List ByteArray) : Prop where
  lt : A < w.heap.size
  at_ : ∀ (j : Nat) (h : j < ws.length), w.cell? ⟨A, o + j, none⟩ = some (.string (ws[j]'h))
theorem StrsAt.only {w w' : World} {A o b m : Nat} {ws : List ByteArray} (h : StrsAt w A o ws) (k : Only w w' b m) (h1 : A ≠ b) (h2 : A ≠ m) : StrsAt w' A o ws := by
  have e := k.block A h.lt h1 h2
  refine ⟨Nat.lt_of_lt_of_le h.lt k.size, fun j hj => ?_⟩
  rw [← h.at_ j hj]
  simp only [World.cell?, e]
theorem StrsAt.below {w w' : World} {A o : Nat} {ws : List ByteArray} (h : StrsAt w A o ws) (k : Below w.heap.size w w') : StrsAt w' A o ws := by
  have e := k.block A h.lt
  refine ⟨Nat.lt_of_lt_of_le h.lt k.size, fun j hj => ?_⟩
  rw [← h.at_ j hj]
  simp only [World.cell?, e]

theorem sign_calls (w : ByteArray) (W : World) : Calls Tryd.prog 87 #[.string w] W fun e w' => e = .returned (.bool (signB w)) ∧ W = w' := by
  go_enter Tryd.func87, Tryd.ntmps87
  go_wp2_with fail
  all_goals go_ret
  all_goals exact ⟨ret_bool (by simp_all [signB]), rfl⟩

theorem decode_max (s : ByteArray) (pos : Nat) : (Utf8.decode s pos).1 ≤ 1114111 := by
  have hb : ∀ k, (s.get! (pos + k)).toNat < 256 := fun k => (s.get! (pos + k)).toNat_lt
  have h0 := hb 0; have h1 := hb 1; have h2 := hb 2; have h3 := hb 3
  simp only [Utf8.decode]
  repeat' split
  all_goals simp_all [Utf8.runeError, Utf8.valid]
  all_goals omega

theorem bytes_below (w : World) (t : ByteArray) : Below w.heap.size w (Lib.bytesWorld w 5 t) :=
  ⟨rfl, rfl, rfl, by rw [Lib.bytesWorld_size]; omega, fun k hk => Lib.bytesWorld_at_old w 5 t k hk⟩

set_option maxHeartbeats 4000000 in
set_option maxRecDepth 100000 in
theorem PU_some (t : ByteArray) (h1 : t.size ≠ 0) (h6 : t.size ≤ 6) (W : World) (n : Nat) (h : hexFrom 0 t.data.toList = some n) :
    Calls Tryd.prog 99 #[.string t, .int .i64 16, .int .i64 32] W fun e w' => e = .returned (.tuple #[.int .u64 n, .nilIface]) ∧ Below W.heap.size W w' := by
  go_enter Tryd.func99, Tryd.ntmps99
  go_wp2_with (go_at_call 105; refine (hex_calls t h1 h6 _).mono ?_; rintro e w1 ⟨rfl, rfl⟩; rw [h]; simp only [hexV])
  go_ret2
  exact ⟨rfl, bytes_below W t⟩

set_option maxHeartbeats 4000000 in
set_option maxRecDepth 100000 in
theorem PU_none (t : ByteArray) (h1 : t.size ≠ 0) (h6 : t.size ≤ 6) (W : World) (hL : LaidW W) (h : hexFrom 0 t.data.toList = none) :
    Calls Tryd.prog 99 #[.string t, .int .i64 16, .int .i64 32] W fun e w' => (∃ N, e = .returned (.tuple #[.int .u64 0, .iface 143 (.pointer (some ⟨N, 0, none⟩))])) ∧ Below W.heap.size W w' := by
  have hLB := hL.below (bytes_below W t) hL.size
  obtain ⟨ev, hev1, hev2⟩ := hLB.syn
  have hbb := bytes_below W t
  have hx := hex_calls t h1 h6 W
  obtain ⟨WB, hWB⟩ : ∃ WB, WB = Lib.bytesWorld W 5 t := ⟨_, rfl⟩
  rw [← hWB] at hLB hev1 hbb
  rw [← hWB, h] at hx
  simp only [hexV] at hx
  clear hWB
  go_enter Tryd.func99, Tryd.ntmps99
  go_wp2_with (first | (go_at_call 105; refine hx.mono ?_; rintro e w1 ⟨rfl, rfl⟩) | (go_at_call 106; go_loud (refine (Tryd.strconv_toError_syntax _ t _ _ ev _ (by omega) hev1 hev2).mono ?_); rintro e w2 ⟨N, rfl, _, _, hb2⟩))
  go_ret2
  exact ⟨⟨N, rfl⟩, hbb.trans (hb2.mono hbb.size)⟩

theorem hexFrom_lt : ∀ (l : List UInt8) (a n : Nat), hexFrom a l = some n → n < (a + 1) * 16 ^ l.length
  | [], a, n, h => by simp [hexFrom] at h; simp; omega
  | c :: l, a, n, h => by
    simp only [hexFrom] at h
    split at h
    · rename_i d hd
      have := hexFrom_lt l _ _ h
      have hd' := hexDigit_lt hd
      rw [List.length_cons, Nat.pow_succ]
      have h2 : (16 * a + d + 1) * 16 ^ l.length ≤ (16 * a + 16) * 16 ^ l.length := Nat.mul_le_mul_right _ (by omega)
      have h3 : (a + 1) * (16 ^ l.length * 16) = (16 * a + 16) * 16 ^ l.length := by rw [Nat.mul_comm (16 ^ l.length), ← Nat.mul_assoc]; congr 1; omega
      omega
    · cases h

theorem alloc_lt (w : World) (o : Obj) : w.heap.size < (w.alloc o).heap.size := by simp
theorem alloc_cell0 (w : World) (v : Value) (T : TypeId) : (w.alloc (.cells #[v] T)).cell? ⟨w.heap.size, 0, none⟩ = some v := by simp [World.cell?, World.alloc, -World.alloc_eq]

theorem isCharB_max {c : Int} (h : isCharB c = true) : 0 ≤ c ∧ c ≤ 1114111 := by
  simp [isCharB] at h; omega

theorem okRune_nat (n : Nat) : okRune (n : Int) = isCharB (n : Int) := by
  rcases hch : isCharB (n : Int) with _ | _
  · simp [okRune, hch]
  · have := isCharB_max hch
    simp [okRune, hch]; omega

set_option maxHeartbeats 4000000 in
set_option maxRecDepth 100000 in
theorem char_hex (w t : ByteArray) (W : World) (hL : LaidW W) (h1 : 1 ≤ t.size) (h6 : t.size ≤ 6) (hcut : (⟨(Lib.trimPrefix w.data.toList [85, 43]).toArray⟩ : ByteArray) = t) (hpre : Lib.hasPrefix w.data.toList [85, 43] = true) :
    Calls Tryd.prog 84 #[.string w] W fun e w' => (∃ r b, e = .returned (.tuple #[.int .i32 r, .bool b]) ∧ (match hexFrom 0 t.data.toList with | some n => if isCharB n then b = true ∧ r = n else b = false | none => b = false)) ∧ Below W.heap.size W w' := by
  have hcp : Calls Tryd.prog 98 #[.string w, .string ⟨#[85, 43]⟩] W fun e w' => e = .returned (.tuple #[.string t, .bool true]) ∧ W = w' := by
    have := Tryd.strings_CutPrefix w ⟨#[85, 43]⟩ W
    rw [show (⟨#[85, 43]⟩ : ByteArray).data.toList = [85, 43] from rfl, hcut, hpre] at this
    exact this.mono (fun e w' h => ⟨h.1, h.2.symm⟩)
  rcases hx : hexFrom 0 t.data.toList with _ | n
  · go_enter Tryd.func84, Tryd.ntmps84
    go_wp2_with (first | (go_at_call 98; refine hcp.mono ?_; rintro e w1 ⟨rfl, rfl⟩) | (go_at_call 99; refine (PU_none t (by omega) h6 _ hL hx).mono ?_; rintro e w2 ⟨⟨N, rfl⟩, hb2⟩))
    go_ret2
    exact ⟨⟨_, _, rfl, rfl⟩, hb2⟩
  · have hn : n < 16777216 := by
      have h3 := hexFrom_lt _ _ _ hx
      have h4 : 16 ^ t.data.toList.length ≤ 16 ^ 6 := Nat.pow_le_pow_right (by omega) (by rw [← Lib.size_eq]; omega)
      omega
    have hwn : IntKind.i64.wrap (n : Int) = n := by rw [IntKind.wrap_i64]; omega
    have hwn2 : IntKind.i32.wrap (n : Int) = n := by rw [IntKind.wrap_i32]; omega
    go_enter Tryd.func84, Tryd.ntmps84
    go_wp2_with (first | (go_at_call 98; refine hcp.mono ?_; rintro e w1 ⟨rfl, rfl⟩) | (go_at_call 99; refine (PU_some t (by omega) h6 _ n hx).mono ?_; rintro e w2 ⟨rfl, hb2⟩) | (go_at_call 100; go_loud (refine (From_calls (n : Int) w2.heap.size _ (by omega) (by omega) (alloc_lt _ _) (alloc_cell0 _ _ _)).mono ?_); go_loud (rintro e w3 ⟨⟨s, rfl⟩, hb3⟩); go_loud (have hb4 : Below W.heap.size W w3 := (hb2.alloc hb2.size _).trans (hb3.mono (by have := hb2.size; simp; omega))); clear hb3; clear hx; go_loud (have hok : okRune (n : Int) = isCharB (n : Int) := okRune_nat n); go_loud (simp only [fromE, hok]); rcases hch : isCharB (n : Int) with _ | _))
    all_goals go_ret2
    all_goals first | exact ⟨rfl, hb4⟩ | exact ⟨⟨_, rfl⟩, hb4⟩ | exact ⟨⟨_, _, rfl, rfl⟩, hb4⟩ | exact ⟨⟨_, _, rfl, rfl, rfl⟩, hb4⟩

/-- The first rune that a conversion of a string to runes writes. -/
theorem runesFrom_keeps (s : ByteArray) : ∀ (f i : Nat) (acc : Array Value) (v : Value), acc[0]? = some v → (Conv.runesFrom s f i acc)[0]? = some v
  | 0, _, _, _, h => h
  | f + 1, i, acc, v, h => by
    simp only [Conv.runesFrom]
    split
    · apply runesFrom_keeps
      rw [Array.getElem?_push]
      have : acc.size ≠ 0 := by intro h0; simp [Array.getElem?_eq_none (show acc.size ≤ 0 by omega)] at h
      rw [if_neg (by omega)]; exact h
    · exact h
theorem runesFrom_first (s : ByteArray) (h : s.size ≠ 0) : (Conv.runesFrom s s.size 0 #[])[0]? = some (.int .i32 (rune0 s)) := by
  obtain ⟨n, hn⟩ : ∃ n, s.size = n + 1 := ⟨s.size - 1, by omega⟩
  rw [hn]
  simp only [Conv.runesFrom]
  rw [if_pos (by omega)]
  exact runesFrom_keeps _ _ _ _ _ rfl

theorem lenOf_zero (w : ByteArray) (h : w.size = 0) : lenOf w = 0 := by
  have : w = ByteArray.empty := by
    apply ByteArray.ext
    apply Array.eq_empty_of_size_eq_zero
    exact h
  subst this
  decide

theorem runes_conv (s : ByteArray) (W : World) (h : s.size ≠ 0) (hs : s.size ≤ 1048576) : ∃ (m : Nat) (cap : Nat) (W' : World),
    (convert 9 54 (.string s)).run Tryd.prog W = .ok (.slice (some ⟨W.heap.size, 0, none⟩) m cap) W' ∧ W'.cell? ⟨W.heap.size, 0, none⟩ = some (.int .i32 (rune0 s)) ∧ 1 ≤ m ∧ Below W.heap.size W W' := by
  have hz := size_runesFrom s s.size 0 #[]
  have hf := runesFrom_first s h
  have hz0 : (Conv.runesFrom s s.size 0 #[]).size ≠ 0 := by
    intro h0; rw [Array.getElem?_eq_none (by omega)] at hf; cases hf
  refine ⟨_, _, _, run_runes_of_string W 9 54 21 s Tryd.underlying9 Tryd.underlying54 Tryd.underlying21 (by simp at hz; omega), ?_, by omega, ((Below.refl _ W).drew).alloc (by simp) _⟩
  have e : (W.drew.alloc (.cells (Conv.runesFrom s s.size 0 #[] ++ Array.replicate (grownCap W (Conv.runesFrom s s.size 0 #[]).size 0 21 - (Conv.runesFrom s s.size 0 #[]).size) (.int .i32 0)) 21)).heap[W.heap.size]? = some (.cells (Conv.runesFrom s s.size 0 #[] ++ Array.replicate (grownCap W (Conv.runesFrom s s.size 0 #[]).size 0 21 - (Conv.runesFrom s s.size 0 #[]).size) (.int .i32 0)) 21 (0, 0)) := by
    simp [World.alloc, World.drew, -World.alloc_eq, -World.drew_eq]
  rw [Lib.cell_of_heap e, Array.getElem?_append_left (by omega)]
  exact hf

set_option maxHeartbeats 4000000 in
set_option maxRecDepth 100000 in
theorem char_plain (w t : ByteArray) (f : Bool) (W : World) (hs : w.size ≤ 1048576) (hts : t.size ≤ 1048576) (hcut : (⟨(Lib.trimPrefix w.data.toList [85, 43]).toArray⟩ : ByteArray) = t) (hpre : Lib.hasPrefix w.data.toList [85, 43] = f) (hno : ¬ (f = true ∧ 1 ≤ t.size ∧ t.size ≤ 6)) :
    Calls Tryd.prog 84 #[.string w] W fun e w' => (∃ r b, e = .returned (.tuple #[.int .i32 r, .bool b]) ∧ (if lenOf w == 1 && !signB w then b = true ∧ r = rune0 w else b = false)) ∧ Below W.heap.size W w' := by
  have hcp : Calls Tryd.prog 98 #[.string w, .string ⟨#[85, 43]⟩] W fun e w' => e = .returned (.tuple #[.string t, .bool f]) ∧ W = w' := by
    have := Tryd.strings_CutPrefix w ⟨#[85, 43]⟩ W
    rw [show (⟨#[85, 43]⟩ : ByteArray).data.toList = [85, 43] from rfl, hcut, hpre] at this
    exact this.mono (fun e w' h => ⟨h.1, h.2.symm⟩)
  clear hcut hpre
  have hcase : f = false ∨ (f = true ∧ t.size = 0) ∨ (f = true ∧ 1 ≤ t.size ∧ 6 < t.size) := by
    cases f
    · exact .inl rfl
    · have : ¬ (1 ≤ t.size ∧ t.size ≤ 6) := fun h => hno ⟨rfl, h⟩
      by_cases h0 : t.size = 0
      · exact .inr (.inl ⟨rfl, h0⟩)
      · exact .inr (.inr ⟨rfl, by omega, by omega⟩)
  clear hno
  have hlen := Len_calls w W (by omega)
  by_cases hl : lenOf w = 1
  · have hne : w.size ≠ 0 := fun h => by rw [lenOf_zero w h] at hl; cases hl
    rw [hl] at hlen
    simp only [hl]
    rcases hsg : signB w with _ | _
    · rcases hcase with rfl | ⟨rfl, h0⟩ | ⟨rfl, h0, h1⟩
      all_goals
        go_enter Tryd.func84, Tryd.ntmps84
        go_wp2_with (first | (go_at_call 98; refine hcp.mono ?_; rintro e w1 ⟨rfl, rfl⟩) | (go_at_call 27; refine hlen.mono ?_; rintro e w2 ⟨rfl, hb2⟩; obtain ⟨m, cap, W3, hcv, hcell, hm, hb3⟩ := runes_conv w w2 hne hs) | (go_at_call 87; refine (sign_calls w _).mono ?_; rw [hsg]; rintro e w' ⟨rfl, rfl⟩))
        all_goals go_ret2
        all_goals first | exact ⟨⟨_, _, rfl, rfl, rfl⟩, hb2.trans (hb3.mono hb2.size)⟩ | exact ⟨rfl, hb2.trans (hb3.mono hb2.size)⟩ | exact ⟨⟨_, rfl⟩, hb2.trans (hb3.mono hb2.size)⟩
    · rcases hcase with rfl | ⟨rfl, h0⟩ | ⟨rfl, h0, h1⟩
      all_goals
        go_enter Tryd.func84, Tryd.ntmps84
        go_wp2_with (first | (go_at_call 98; refine hcp.mono ?_; rintro e w1 ⟨rfl, rfl⟩) | (go_at_call 27; refine hlen.mono ?_; rintro e w2 ⟨rfl, hb2⟩) | (go_at_call 87; refine (sign_calls w _).mono ?_; rw [hsg]; rintro e w' ⟨rfl, rfl⟩))
        all_goals go_ret2
        all_goals first | exact ⟨⟨_, _, rfl, rfl⟩, hb2⟩ | exact ⟨⟨_, rfl⟩, hb2⟩ 
  · have hl' : (lenOf w == 1) = false := by simpa using hl
    simp only [hl', Bool.false_and]
    rcases hcase with rfl | ⟨rfl, h0⟩ | ⟨rfl, h0, h1⟩
    all_goals
      go_enter Tryd.func84, Tryd.ntmps84
      go_wp2_with (first | (go_at_call 98; refine hcp.mono ?_; rintro e w1 ⟨rfl, rfl⟩) | (go_at_call 27; refine hlen.mono ?_; rintro e w2 ⟨rfl, hb2⟩))
      all_goals go_ret2
      all_goals first | exact ⟨⟨_, _, rfl, rfl⟩, hb2⟩ | exact ⟨⟨_, rfl⟩, hb2⟩ 

theorem char_calls (w : ByteArray) (W : World) (hL : LaidW W) (hs : w.size ≤ 1048576) :
    Calls Tryd.prog 84 #[.string w] W fun e w' => (∃ r b, e = .returned (.tuple #[.int .i32 r, .bool b]) ∧ (match charOf w with | some c => b = true ∧ r = c | none => b = false)) ∧ Below W.heap.size W w' := by
  have hsz : w.data.toList.length = w.size := by rw [Lib.size_eq]
  obtain ⟨t, ht⟩ : ∃ t : ByteArray, t = ⟨(Lib.trimPrefix w.data.toList [85, 43]).toArray⟩ := ⟨_, rfl⟩
  have htz : t.size = (Lib.trimPrefix w.data.toList [85, 43]).length := by rw [ht, Lib.size_eq]
  have htl : t.data.toList = Lib.trimPrefix w.data.toList [85, 43] := by rw [ht]
  rcases hp : Lib.hasPrefix w.data.toList [85, 43] with _ | _
  · have e : charOf w = if lenOf w == 1 && !signB w then some (rune0 w) else none := by
      unfold charOf
      have hp' : [85, 43].isPrefixOf w.data.toList = false := hp
      simp only [hp', Bool.false_and]
      rfl
    refine (char_plain w t false W hs (by rw [htz]; have := Lib.trimPrefix_le w.data.toList [85, 43]; omega) ht.symm hp (by simp)).mono ?_
    rintro e' w' ⟨⟨r, b, rfl, hb⟩, hbel⟩
    refine ⟨⟨r, b, rfl, ?_⟩, hbel⟩
    rw [e]
    by_cases hc : (lenOf w == 1 && !signB w) = true
    · simpa [hc] using hb
    · simpa [hc] using hb
  · have htd : Lib.trimPrefix w.data.toList [85, 43] = w.data.toList.drop 2 := by unfold Lib.trimPrefix; rw [if_pos hp]; rfl
    have hp' : [85, 43].isPrefixOf w.data.toList = true := hp
    have hpl := Lib.hasPrefix_le hp
    simp only [List.length_cons, List.length_nil] at hpl
    have htz2 : t.size = w.size - 2 := by rw [htz, htd, List.length_drop, hsz]
    by_cases hr : 1 ≤ t.size ∧ t.size ≤ 6
    · have e : charOf w = match hexFrom 0 (w.data.toList.drop 2) with | some n => if isCharB n then some (n : Int) else none | none => none := by
        unfold charOf
        have h3 : decide (3 ≤ w.data.toList.length) = true := by simp; omega
        have h8 : decide (w.data.toList.length ≤ 8) = true := by simp; omega
        simp only [hp', h3, h8]
        rfl
      refine (char_hex w t W hL hr.1 hr.2 ht.symm hp).mono ?_
      rintro e' w' ⟨⟨r, b, rfl, hb⟩, hbel⟩
      refine ⟨⟨r, b, rfl, ?_⟩, hbel⟩
      rw [e]
      rw [htl, htd] at hb
      generalize hexFrom 0 (w.data.toList.drop 2) = hx at hb
      rcases hx with _ | n
      · exact hb
      · by_cases hc : isCharB (n : Int) = true
        · simpa [hc] using hb
        · simpa [hc] using hb
    · have e : charOf w = if lenOf w == 1 && !signB w then some (rune0 w) else none := by
        unfold charOf
        have h38 : (decide (3 ≤ w.data.toList.length) && decide (w.data.toList.length ≤ 8)) = false := by
          rw [Bool.and_eq_false_iff]; simp only [decide_eq_false_iff_not]; omega
        simp only [hp', Bool.true_and, h38]
        rfl
      refine (char_plain w t true W hs (by omega) ht.symm hp (fun h => hr h.2)).mono ?_
      rintro e' w' ⟨⟨r, b, rfl, hb⟩, hbel⟩
      refine ⟨⟨r, b, rfl, ?_⟩, hbel⟩
      rw [e]
      by_cases hc : (lenOf w == 1 && !signB w) = true
      · simpa [hc] using hb
      · simpa [hc] using hb

theorem char_yes (w : ByteArray) (W : World) (hL : LaidW W) (hs : w.size ≤ 1048576) (c : Int) (h : charOf w = some c) :
    Calls Tryd.prog 84 #[.string w] W fun e w' => e = .returned (.tuple #[.int .i32 c, .bool true]) ∧ Below W.heap.size W w' := by
  refine (char_calls w W hL hs).mono ?_
  rintro e w' ⟨⟨r, b, rfl, hb⟩, hbel⟩
  rw [h] at hb
  obtain ⟨rfl, rfl⟩ := hb
  exact ⟨rfl, hbel⟩
theorem char_no (w : ByteArray) (W : World) (hL : LaidW W) (hs : w.size ≤ 1048576) (h : charOf w = none) :
    Calls Tryd.prog 84 #[.string w] W fun e w' => (∃ r, e = .returned (.tuple #[.int .i32 r, .bool false])) ∧ Below W.heap.size W w' := by
  refine (char_calls w W hL hs).mono ?_
  rintro e w' ⟨⟨r, b, rfl, hb⟩, hbel⟩
  rw [h] at hb
  subst hb
  exact ⟨⟨_, rfl⟩, hbel⟩
end Go.Proofs.YtibhifjehbajnaaDoor
