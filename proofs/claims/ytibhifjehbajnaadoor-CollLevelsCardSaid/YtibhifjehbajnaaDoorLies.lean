/- A table that Parse has made, as one that lies in new memory and gives keys. -/
import Derived.Test.YtibhifjehbajnaaDoorLev
namespace Go.Proofs.YtibhifjehbajnaaDoor
open Go.RowKit Go.Maps
set_option linter.unusedVariables false

/-- Table t lies where p leads, in blocks from q on. -/
structure Lies (W : World) (q : Nat) (p : Option Addr) (t : CT) : Prop where
  at_ : ∃ b m, p = some ⟨b, 0, none⟩ ∧ q ≤ b ∧ q ≤ m ∧ TabAt W b m t.M t.last t.st
  l0 : 0 ≤ t.last.1
  l1 : t.last.1 ≤ 1000000
  st : t.st ≤ 3
theorem TabAt.same {w w' : World} {b m : Nat} {M : List (Int × W3)} {l : W3} {st : Int} (h : TabAt w b m M l st) (hb : w'.heap[b]? = w.heap[b]?) (hm : w'.heap[m]? = w.heap[m]?) : TabAt w' b m M l st := by
  obtain ⟨h1, D, ⟨es, clock, h7, h8⟩, h9⟩ := h
  exact ⟨hb.trans h1, D, ⟨es, clock, hm.trans h7, h8⟩, h9⟩
theorem Lies.same {w w' : World} {q : Nat} {p : Option Addr} {t : CT} (h : Lies w q p t) (ho : ∀ i, q ≤ i → i < w.heap.size → w'.heap[i]? = w.heap[i]?) : Lies w' q p t := by
  obtain ⟨⟨b, m, h2, h3, h4, h5⟩, l0, l1, st⟩ := h
  exact ⟨⟨b, m, h2, h3, h4, h5.same (ho b h3 h5.mapLt.2.1) (ho m h4 h5.mapLt.1)⟩, l0, l1, st⟩
theorem Lies.below {w w' : World} {q : Nat} {p : Option Addr} {t : CT} (h : Lies w q p t) (hb : Below w.heap.size w w') : Lies w' q p t := h.same fun i _ hi => hb.block i hi
theorem Lies.mono {w : World} {q q' : Nat} {p : Option Addr} {t : CT} (h : Lies w q p t) (hq : q' ≤ q) : Lies w q' p t := by
  obtain ⟨⟨b, m, h2, h3, h4, h5⟩, l0, l1, st⟩ := h
  exact ⟨⟨b, m, h2, by omega, by omega, h5⟩, l0, l1, st⟩
theorem Lies.gives {w : World} {q : Nat} {p : Option Addr} {t : CT} (h : Lies w q p t) : KeyGives w p t := by
  obtain ⟨⟨b, m, rfl, _, _, hT⟩, l0, l1, st⟩ := h
  have hRd : TabRd w b t w.heap.size := TabAt.rd hT hT.mapLt.2.1 hT.mapLt.1 (Nat.le_refl _)
  exact gives_some hRd l0 l1 st
theorem Lies.ne {w : World} {q : Nat} {t : CT} {p : Option Addr} (h : Lies w q p t) : ∃ b, p = some ⟨b, 0, none⟩ := by
  obtain ⟨⟨b, m, rfl, _⟩, _⟩ := h
  exact ⟨b, rfl⟩
def LiesPost (W : World) (s : ByteArray) (e : Ending) (w' : World) : Prop :=
  Below W.heap.size W w' ∧ (((parseP s).2.1 = 0 ∧ ∃ p, e = .returned (.tuple #[.pointer p, .int .i64 0, .int .i64 0]) ∧ Lies w' W.heap.size p (tabOf s)) ∨
    ((parseP s).2.1 ≠ 0 ∧ e = .returned (.tuple #[.pointer none, .int .i64 (parseP s).1, .int .i64 (parseP s).2.1])))
theorem Parse_lies (s : ByteArray) (W : World) (hL : LaidW W) (hs : s.size ≤ 140737488351232) : Calls Tryd.prog 16 #[.string s] W (LiesPost W s) := by
  refine (Parse_calls s W hL hs).mono ?_
  rintro e w1 ⟨hb1, h | h⟩
  · obtain ⟨he, b, m, rfl, hb, hm, hT⟩ := h
    have hi := parseP_inv s he
    have e1 : tabOf s = (parseP s).2.2 := by unfold tabOf; rw [if_pos he]
    refine ⟨hb1, .inl ⟨he, _, rfl, ?_⟩⟩
    rw [e1]
    have h1 := hi.1.1
    have h2 := hi.1.2.1
    have h3 := hi.2.1
    exact ⟨⟨b, m, rfl, hb, hm, hT⟩, h1, by omega, hi.2.2.2⟩
  · exact ⟨hb1, .inr h⟩
end Go.Proofs.YtibhifjehbajnaaDoor
