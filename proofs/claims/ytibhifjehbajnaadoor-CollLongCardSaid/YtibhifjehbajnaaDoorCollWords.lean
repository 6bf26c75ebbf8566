/- The words of a line: strings.FieldsFunc at blanks, and what its pieces are like. -/
import Derived.Test.YtibhifjehbajnaaDoorCollAdd
namespace Go.Proofs.YtibhifjehbajnaaDoor
open Go.RowKit Go.Maps
set_option linter.unusedVariables false

def wordsOf (s : ByteArray) : List ByteArray := Lib.goFieldsP (fun r => r == 32) s

theorem width_le (s : ByteArray) (pos : Nat) (h : pos < s.size) : pos + (Utf8.decode s pos).2 ≤ s.size := by
  have := Lib.decodeN_le_n' (s.size - pos) (s.get! pos).toNat (s.get! (pos + 1)).toNat (s.get! (pos + 2)).toNat (s.get! (pos + 3)).toNat (by omega)
  rw [Lib.decode_at]
  omega
theorem spans_ok (p : Nat → Bool) (s : ByteArray) : ∀ (f pos : Nat) (st : Option Nat) (acc : List (Nat × Nat)), (∀ x ∈ acc, x.1 < x.2 ∧ x.2 ≤ s.size) → (∀ a, st = some a → a < pos) → pos ≤ s.size → acc.length ≤ pos → s.size ≤ pos + f →
    (∀ x ∈ (Lib.spansFromP p s f pos st acc).1, x.1 < x.2 ∧ x.2 ≤ s.size) ∧ (∀ a, (Lib.spansFromP p s f pos st acc).2 = some a → a < s.size) ∧ (Lib.spansFromP p s f pos st acc).1.length ≤ s.size
  | 0, pos, st, acc, h1, h2, h3, h4, h5 => by
    simp only [Lib.spansFromP]
    exact ⟨h1, fun a ha => by have := h2 a ha; omega, by omega⟩
  | f + 1, pos, st, acc, h1, h2, h3, h4, h5 => by
    by_cases hp : pos < s.size
    · have hw1 := Lib.decode_width_pos s pos hp
      have hw2 := width_le s pos hp
      simp only [Lib.spansFromP, if_pos hp]
      split
      · cases st with
        | none => exact spans_ok p s f _ none acc h1 (fun a ha => by cases ha) hw2 (by omega) (by omega)
        | some a =>
          refine spans_ok p s f _ none _ (fun x hx => ?_) (fun a ha => by cases ha) hw2 (by simp; omega) (by omega)
          rcases List.mem_append.1 hx with hx | hx
          · exact h1 x hx
          · simp at hx; subst hx
            exact ⟨h2 a rfl, by show pos ≤ _; omega⟩
      · cases st with
        | none => exact spans_ok p s f _ (some pos) acc h1 (fun a ha => by cases ha; omega) hw2 (by omega) (by omega)
        | some a => exact spans_ok p s f _ (some a) acc h1 (fun b hb => by cases hb; have := h2 a rfl; omega) hw2 (by omega) (by omega)
    · rw [Lib.spansFromP_end _ _ _ _ _ _ hp]
      refine ⟨h1, fun a ha => ?_, by simp only; omega⟩
      have := h2 a ha
      omega
theorem spansOf_ok (p : Nat → Bool) (s : ByteArray) : (∀ x ∈ Lib.spansOfP p s, x.1 < x.2 ∧ x.2 ≤ s.size) ∧ (Lib.spansOfP p s).length ≤ s.size + 1 := by
  have h := spans_ok p s s.size 0 none [] (by simp) (fun a ha => by cases ha) (Nat.zero_le _) (by simp) (by omega)
  unfold Lib.spansOfP Lib.closeSpans
  obtain ⟨h1, h2, h3⟩ := h
  split
  · rename_i a ha
    refine ⟨fun x hx => ?_, by simp; omega⟩
    rcases List.mem_append.1 hx with hx | hx
    · exact h1 x hx
    · simp at hx; subst hx
      exact ⟨h2 a ha, Nat.le_refl _⟩
  · exact ⟨h1, by omega⟩
theorem wordsOf_ok (s : ByteArray) : (∀ x ∈ wordsOf s, 0 < x.size ∧ x.size ≤ s.size) ∧ (wordsOf s).length ≤ s.size + 1 := by
  obtain ⟨h1, h2⟩ := spansOf_ok (fun r => r == 32) s
  unfold wordsOf Lib.goFieldsP
  refine ⟨fun x hx => ?_, by simpa using h2⟩
  obtain ⟨y, hy, rfl⟩ := List.mem_map.1 hx
  have := h1 y hy
  simp only [ByteArray.size_extract]
  omega

theorem blank_pred (w : World) : PredAt Tryd.prog 63 #[] encR (fun r => r == 32) w := fun W r _ => by
  unfold FnGives
  by_cases h1 : r = 32
  all_goals
    have z1 : ((r : Int) == 32) = (r == 32) := by rw [Bool.eq_iff_iff]; simp; omega
    go_enter Tryd.func63, Tryd.ntmps63
    go_wp2_with fail
    go_ret
    exact ⟨by simp [h1], 0, rfl⟩

theorem strs_of_owns {w : World} {A n cp base : Nat} {ws : List ByteArray} (h : w.ownsRow base 9 1 (.slice (some ⟨A, 0, none⟩) n cp) ws.length (ws.map Value.string)) (hA : A < w.heap.size) : StrsAt w A 0 ws := by
  refine ⟨hA, fun j hj => ?_⟩
  have := h.cells (g := A) rfl j (.string ws[j]) (by simp [hj])
  have e : ((⟨A, 0, none⟩ : Addr).add j) = ⟨A, 0 + j, none⟩ := by
    cases j <;> simp [Addr.add]
  rw [e] at this
  exact this

theorem words_calls (s : ByteArray) (W : World) (hs : s.size ≤ 4294967296) :
    Calls Tryd.prog 37 #[.string s] W fun e w' => ∃ A, e = .returned (.slice (some ⟨A, 0, none⟩) (wordsOf s).length (wordsOf s).length) ∧ W.heap.size ≤ A ∧ StrsAt w' A 0 (wordsOf s) ∧ Below W.heap.size W w' := by
  go_enter Tryd.func37, Tryd.ntmps37
  go_wp2_with (go_at_call 62; refine (Tryd.strings_FieldsFunc 63 #[] (enters_of Tryd.func63 (by kernel_rfl) rfl) (fun r => r == 32) s W hs (blank_pred W)).mono ?_; rintro e w1 ⟨A, rfl, hA, hown, hb⟩)
  go_ret
  exact ⟨A, rfl, hA, strs_of_owns hown (by have := hown.lt A rfl; exact this.2), hb⟩
end Go.Proofs.YtibhifjehbajnaaDoor
