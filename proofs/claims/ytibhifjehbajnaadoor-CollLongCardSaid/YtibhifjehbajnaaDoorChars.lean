/- The functions isChar, IsText and Len of package chars, walked: what they return, as plain Lean functions of the string's bytes; nothing that lay in memory is changed. -/
import Derived.Test.YtibhifjehbajnaaDoorShelf
import Derived.WalkKit
import Derived.WalkSpells
import Derived.Deep.LoopGhost
import Derived.Lib.OthersKept
import Derived.Lib.Hide
import Derived.Lib.RuneCount
import Derived.BigQuiet
import Derived.Deep.QuietTactic
namespace Go.Proofs.YtibhifjehbajnaaDoor
open Go.RowKit

/-- Is a code point a character? -/
def isCharB (c : Int) : Bool := c == 9 || c == 10 || c == 13 || (decide (32 ≤ c) && decide (c ≤ 55295)) || (decide (57344 ≤ c) && decide (c ≤ 65533)) || (decide (65536 ≤ c) && decide (c ≤ 1114111))

theorem ret_bool {a b : Bool} (h : a = b) : Ending.returned (.bool a) = .returned (.bool b) := by rw [h]
theorem ret_int {k : IntKind} {a b : Int} (h : a = b) : Ending.returned (.int k a) = .returned (.int k b) := by rw [h]

theorem isChar_calls (c : Int) (w : World) : Calls Tryd.prog 47 #[.int .i32 c] w fun e w' => e = .returned (.bool (isCharB c)) ∧ ∃ n, w' = w.drewN n := by
  go_enter Tryd.func47, Tryd.ntmps47
  go_wp2_with fail
  all_goals go_ret
  all_goals refine ⟨ret_bool ?_, 0, rfl⟩
  all_goals (rw [Bool.eq_iff_iff]; simp only [beq_iff_eq, beq_eq_false_iff_ne, isCharB, Bool.or_eq_true, Bool.and_eq_true, decide_eq_true_eq, Bool.false_eq_true, false_iff, true_iff] at *; omega)

/-- Is the code point c, which begins at place pos, good? -/
def goodAt (s : ByteArray) (pos : Nat) (c : Int) : Bool := isCharB c && !(c == 65533 && !([239, 191, 189].isPrefixOf (s.extract pos s.size).data.toList))
theorem goodAt_pre {s : ByteArray} {pos : Nat} {c : Int} (h1 : isCharB c = true) (h3 : (![239, 191, 189].isPrefixOf (List.take (s.size - pos) (List.drop pos s.data.toList))) = false) : goodAt s pos c = true := by
  simp only [Bool.not_eq_false'] at h3
  simp [goodAt, h1, h3]
theorem goodAt_ne {s : ByteArray} {pos : Nat} {c : Int} (h1 : isCharB c = true) (h3 : ¬ c = 65533) : goodAt s pos c = true := by simp [goodAt, h1, h3]
theorem goodAt_no {s : ByteArray} {pos : Nat} {c : Int} (h1 : ¬ isCharB c = true) : goodAt s pos c = false := by simp [goodAt, h1]
theorem goodAt_bad {s : ByteArray} {pos : Nat} {c : Int} (h2 : c = 65533) (h3 : (![239, 191, 189].isPrefixOf (List.take (s.size - pos) (List.drop pos s.data.toList))) = true) : goodAt s pos c = false := by
  simp [goodAt, h2]
  intro _
  simpa using h3
/-- From place pos on: is the string a text? -/
def textFrom (s : ByteArray) : Nat → Nat → Bool
  | 0, _ => true
  | f + 1, pos => if pos < s.size then goodAt s pos (Utf8.decode s pos).1 && textFrom s f (pos + (Utf8.decode s pos).2) else true
theorem textFrom_step {s : ByteArray} {f pos : Nat} (hp : pos < s.size) {c : Int} {k : Nat} (hc : c = ((Utf8.decode s pos).1 : Int)) (hk : k = (Utf8.decode s pos).2) : textFrom s (f + 1) pos = (goodAt s pos c && textFrom s f (pos + k)) := by
  rw [textFrom, if_pos hp, ← hc, ← hk]
def isText (s : ByteArray) : Bool := textFrom s s.size 0

theorem below_drewN {B : Nat} {a w : World} (h : Below B a w) (n : Nat) : Below B a (w.drewN n) := h.trans ⟨rfl, rfl, rfl, Nat.le_refl _, fun _ _ => rfl⟩
theorem iterPos_of {w : World} {k : Nat} {s : ByteArray} {p : Nat} (h : w.heap[k]? = some (.stringIter s p)) : w.iterPos k = p := by simp [World.iterPos, h]

theorem IsText_calls (s : ByteArray) (w : World) :
    Calls Tryd.prog 24 #[.string s] w fun e w' => e = .returned (.bool (isText s)) ∧ Below w.heap.size w w' := by
  go_enter Tryd.func24, Tryd.ntmps24
  go_wp2_with fail
  go_loopw [3, 4] (fun _ _ wr => ∃ (pos fuel : Nat), wr.heap[w.heap.size]? = some (.stringIter s pos) ∧ Below w.heap.size w wr ∧ Hid (textFrom s fuel pos = isText s) ∧ s.size ≤ pos + fuel) (fun _ _ wr => s.size - wr.iterPos w.heap.size)
  case atStart => exact ⟨0, s.size, World.iter_heap w s 0, (Below.refl _ _).alloc (Nat.le_refl _) _, rfl, by omega⟩
  case round =>
    obtain ⟨pos, fuel, hit, hbw, HS, hb⟩ := hrel
    have hpos0 := iterPos_of hit
    by_cases hp : pos < s.size
    · have hnx : ∀ ty, (Instr.next (.pointer (some ⟨w.heap.size, 0, none⟩)) true ty).run Tryd.prog wr = _ := fun ty => Lib.run_next_any_at wr w.heap.size s pos ty hit hp
      have hwd := Lib.decode_width_pos s pos hp
      obtain ⟨fuel, rfl⟩ : ∃ f', fuel = f' + 1 := ⟨fuel - 1, by omega⟩
      have hit2 := Lib.iterAt_heap wr w.heap.size s pos (pos + (Utf8.decode s pos).2) hit
      have hbw2 := Lib.below_iterAt hbw (k := w.heap.size) (Nat.le_refl _) s (pos + (Utf8.decode s pos).2)
      obtain ⟨W1, hW1⟩ : ∃ W1, W1 = wr.iterAt w.heap.size s (pos + (Utf8.decode s pos).2) := ⟨_, rfl⟩
      rw [← hW1] at hnx hit2 hbw2
      clear hW1 hit hbw
      obtain ⟨c, hcd⟩ : ∃ c, c = ((Utf8.decode s pos).1 : Int) := ⟨_, rfl⟩
      obtain ⟨k, hkd⟩ : ∃ k, k = (Utf8.decode s pos).2 := ⟨_, rfl⟩
      rw [← hcd] at hnx
      rw [← hkd] at hwd hit2
      have HT := Lib.hid (textFrom_step (f := fuel) hp hcd hkd)
      clear hcd hkd
      go_wp2_with (first | (go_at_call 47; refine (isChar_calls _ _).mono ?_; rintro e w' ⟨rfl, n, rfl⟩) | (go_at_call 48; refine (Tryd.strings_HasPrefix _ _ _).mono ?_; rintro e w' ⟨rfl, rfl⟩))
      all_goals try (
        go_roundw
        case rel => exact ⟨pos + k, fuel, hit2, below_drewN hbw2 _, (by show _ = _; rw [← HS.out, HT.out]; first | rw [goodAt_pre (s := s) (pos := pos) (c := c) ‹_› ‹_›, Bool.true_and] | rw [goodAt_ne (s := s) (pos := pos) (c := c) ‹_› ‹_›, Bool.true_and]), by omega⟩
        case measure =>
          have hq : (W1.drewN n).iterPos w.heap.size = (pos + k) := iterPos_of hit2
          rw [hq, hpos0]; omega)
      all_goals
        go_ret
        exact ⟨ret_bool (by rw [← HS.out, HT.out]; first | rw [goodAt_no (s := s) (pos := pos) (c := c) ‹_›, Bool.false_and] | rw [goodAt_bad (s := s) (pos := pos) (c := c) ‹_› ‹_›, Bool.false_and]), below_drewN hbw2 _⟩
    · have hnx : ∀ ty, (Instr.next (.pointer (some ⟨w.heap.size, 0, none⟩)) true ty).run Tryd.prog wr = _ := fun ty => Lib.run_next_end_at wr w.heap.size s pos ty hit hp
      have e : isText s = true := by rw [← HS.out]; cases fuel <;> simp [textFrom, hp]
      have e' := Lib.hid e
      clear e
      go_wp2_with fail
      go_ret
      exact ⟨ret_bool e'.out.symm, hbw⟩

/-- How many characters a text has; 0 for a string that is none. -/
def lenOf (s : ByteArray) : Int := if isText s then (Lib.runeCount s : Int) else 0
theorem lenOf_text {s : ByteArray} (h : isText s = true) : lenOf s = (Lib.runeCount s : Int) := by simp [lenOf, h]
theorem lenOf_none {s : ByteArray} (h : isText s = false) : lenOf s = 0 := by simp [lenOf, h]

theorem Len_calls (s : ByteArray) (w : World) (hs : s.size ≤ 9223372036854775806) :
    Calls Tryd.prog 27 #[.string s] w fun e w' => e = .returned (.int .i64 (lenOf s)) ∧ Below w.heap.size w w' := by
  by_cases ht : isText s = true
  all_goals
    try replace ht := Bool.eq_false_iff.mpr ht
    go_enter Tryd.func27, Tryd.ntmps27
    go_wp2_with (first | (go_at_call 24; refine (IsText_calls _ _).mono ?_; rintro e w1 ⟨rfl, hb1⟩; rw [ht]) | (go_at_call 49; refine (Tryd.utf8_RuneCountInString _ _ (by omega)).mono ?_; rintro e w2 ⟨rfl, pos, rfl⟩))
    go_ret
    first | exact ⟨by rw [lenOf_text ht]; rfl, hb1.alloc hb1.size _⟩ | exact ⟨by rw [lenOf_none ht]; rfl, hb1⟩
end Go.Proofs.YtibhifjehbajnaaDoor
