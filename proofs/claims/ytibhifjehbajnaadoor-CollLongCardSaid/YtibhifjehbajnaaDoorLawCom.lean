/- What the statements on collations share: light, and Parse as one that gives keys. -/
import Derived.Test.YtibhifjehbajnaaDoorCollWorks
namespace Go.Proofs.YtibhifjehbajnaaDoor
open Go.RowKit Go.Maps
set_option linter.unusedVariables false

theorem listPut_st {ws : List ByteArray} : ∀ {l : List Int} {i : Nat} {t t' : CT}, listPut ws i l t = some t' → t'.st = t.st
  | [], i, t, t', h => by simp [listPut] at h; subst h; rfl
  | c :: l, i, t, t', h => by
    simp only [listPut] at h
    split at h
    · cases h
    · exact (listPut_st h).trans rfl
def stOk (t : CT) : Prop := 0 ≤ t.st ∧ t.st ≤ 3
theorem levelP_st {t : CT} {ws : List ByteArray} (h : stOk t) : stOk (levelP t ws).1 := by
  unfold levelP
  split
  · split
    · exact h
    · rename_i n hn
      split
      · exact h
      · unfold strengthOf at hn
        split at hn
        · injection hn with hn; subst hn; exact (show (0:Int) ≤ 1 ∧ (1:Int) ≤ 3 by decide)
        · split at hn
          · injection hn with hn; subst hn; exact (show (0:Int) ≤ 2 ∧ (2:Int) ≤ 3 by decide)
          · split at hn
            · injection hn with hn; subst hn; exact (show (0:Int) ≤ 3 ∧ (3:Int) ≤ 3 by decide)
            · cases hn
  · exact h
theorem ignoreP_st {t : CT} {ws : List ByteArray} (h : stOk t) : stOk (ignoreP t ws).1 := by
  unfold ignoreP
  repeat' split
  all_goals exact h
theorem listP_st {t : CT} {ws : List ByteArray} (h : stOk t) : stOk (listP t ws).1 := by
  unfold listP
  repeat' split
  all_goals first | exact h | (rename_i hx; unfold stOk; rw [listPut_st hx]; exact h)
theorem addP_st {t : CT} {ws : List ByteArray} (h : stOk t) : stOk (addP t ws).1 := by
  unfold addP
  split
  · exact h
  · split
    · exact h
    · split
      · exact levelP_st h
      · split
        · exact ignoreP_st h
        · exact listP_st h
theorem parseL_inv : ∀ (ls : List ByteArray) (i : Nat) (t : CT), t.ok → t.M.length ≤ 4096 → stOk t → (parseL i t ls).2.1 = 0 → (parseL i t ls).2.2.ok ∧ (parseL i t ls).2.2.M.length ≤ 4096 ∧ stOk (parseL i t ls).2.2
  | [], i, t, h1, h2, h3, _ => ⟨h1, h2, h3⟩
  | l :: ls, i, t, h1, h2, h3, he => by
    rw [parseL] at he ⊢
    by_cases hc : (addP t (wordsOf l)).2 = 0
    · rw [if_pos hc] at he ⊢
      have := addP_ok hc h1 h2
      exact parseL_inv ls _ _ this.1 this.2 (addP_st h3) he
    · rw [if_neg hc] at he
      exact absurd he hc
theorem parseP_inv (s : ByteArray) (he : (parseP s).2.1 = 0) : (parseP s).2.2.ok ∧ (parseP s).2.2.M.length ≤ 4096 ∧ stOk (parseP s).2.2 := by
  unfold parseP at he ⊢
  split
  · rename_i h; rw [if_pos h] at he; cases he
  · rename_i h
    rw [if_neg h] at he
    split
    · rename_i h2; rw [if_pos h2] at he; cases he
    · rename_i h2
      rw [if_neg h2] at he
      have := parseL_inv (linesOf s) 0 t0 (by simp [CT.ok, t0]) (by simp [t0]) ⟨by decide, by decide⟩ he
      refine ⟨this.1, this.2.1, ?_⟩
      have h3 := this.2.2
      unfold stOk at h3 ⊢
      dsimp only
      split <;> omega

/-- The table that a description makes: that of a nil Table, if it is none. -/
def tabOf (s : ByteArray) : CT := if (parseP s).2.1 = 0 then (parseP s).2.2 else t0

def GivesPost (W : World) (s : ByteArray) (e : Ending) (w' : World) : Prop :=
  ∃ p, e = .returned (.tuple #[.pointer p, .int .i64 (parseP s).1, .int .i64 (parseP s).2.1]) ∧ (p = none ↔ (parseP s).2.1 ≠ 0) ∧ Below W.heap.size W w' ∧ KeyGives w' p (tabOf s)

theorem parseL_line : ∀ (ls : List ByteArray) (i : Nat) (t : CT), (parseL i t ls).2.1 = 0 → (parseL i t ls).1 = 0
  | [], i, t, _ => rfl
  | l :: ls, i, t, he => by
    rw [parseL] at he ⊢
    by_cases hc : (addP t (wordsOf l)).2 = 0
    · rw [if_pos hc] at he ⊢
      exact parseL_line ls _ _ he
    · rw [if_neg hc] at he
      exact absurd he hc
theorem parseP_line (s : ByteArray) (he : (parseP s).2.1 = 0) : (parseP s).1 = 0 := by
  unfold parseP at he ⊢
  split
  · rfl
  · rename_i h
    rw [if_neg h] at he
    split
    · rfl
    · rename_i h2
      rw [if_neg h2] at he
      exact parseL_line _ _ _ he

theorem Parse_gives (s : ByteArray) (W : World) (hL : LaidW W) (hs : s.size ≤ 140737488351232) : Calls Tryd.prog 16 #[.string s] W (GivesPost W s) := by
  refine (Parse_calls s W hL hs).mono ?_
  rintro e w1 ⟨hb1, h | h⟩
  · obtain ⟨he, b, m, rfl, hb, hm, hT⟩ := h
    have hi := parseP_inv s he
    have hRd : TabRd w1 b (parseP s).2.2 w1.heap.size := TabAt.rd hT hT.mapLt.2.1 hT.mapLt.1 (Nat.le_refl _)
    refine ⟨some ⟨b, 0, none⟩, by rw [he, parseP_line s he], by simp [he], hb1, ?_⟩
    unfold tabOf
    rw [if_pos he]
    exact gives_some hRd hi.1.1 (by have := hi.1.2.1; have := hi.2.1; omega) hi.2.2.2
  · obtain ⟨he, rfl⟩ := h
    refine ⟨none, rfl, by simp [he], hb1, ?_⟩
    unfold tabOf
    rw [if_neg he]
    exact gives_nil w1

def lightB (text : ByteArray) (ws : List ByteArray) : Bool := ws.all (fun s => decide (s.size ≤ 200)) && decide (text.size ≤ 2000)

end Go.Proofs.YtibhifjehbajnaaDoor
