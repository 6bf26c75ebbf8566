/- CollLong: strings.Builder's WriteString, and the walk of the statement. -/
import Derived.Test.YtibhifjehbajnaaDoorLong
import Derived.Test.YtibhifjehbajnaaDoorShelf2
import Derived.Test.YtibhifjehbajnaaDoorOrder
namespace Go.Proofs.YtibhifjehbajnaaDoor
open Go.RowKit Go.Maps
set_option linter.unusedVariables false

set_option maxHeartbeats 4000000 in
set_option maxRecDepth 100000 in
theorem WriteString_k (B b : Nat) (bs : List Value) (s : ByteArray) (w : World) (h : Lib.IsBuilderF 60 5 B b bs w) (hlen : bs.length + s.size ≤ 140737488355328) (hBw : B ≤ w.heap.size) :
    Calls Tryd.prog 29 #[.pointer (some ⟨b, 0, none⟩), .string s] w fun e w' => e = .returned (.tuple #[.int .i64 s.size, .nilIface]) ∧ (Lib.BuilderAtF 60 5 B b (.pointer (some ⟨b, 0, none⟩)) (bs ++ Lib.strCells s) w' ∧ Below B w w') := by
  obtain ⟨i0, hi, hz0, hz1, hz2⟩ := info_parts extra242.infoByte
  go_enter Tryd.func29, Tryd.ntmps29
  go_wp2_with (go_at_call 51; refine (copyCheck_k B b bs _ h).mono ?_)
  rintro e w1 ⟨rfl, h1, hb1, hk1⟩
  obtain ⟨hB, v, hbk, hown, hne⟩ := h1
  have c0 : w1.cell? ⟨b, 0, none⟩ = some (.pointer (some ⟨b, 0, none⟩)) := by rw [Lib.cell_of_heap hbk]; rfl
  have c1 : w1.cell? ⟨b, 1, none⟩ = some v := by rw [Lib.cell_of_heap hbk]; rfl
  go_wp2_with (at_builtin; refine Lib.wpList_append_own_stringF _ rfl _ _ 35 9 rfl B 5 i0 Tryd.underlying35 Tryd.underlying9 hi hz0 hz1 hz2 _ _ _ rfl hown s rfl ?c3 ?c4 ?c5 ?_)
  case c3 => unfold maxLen; omega
  case c4 => omega
  case c5 => have := hb1.size; omega
  intro v' w2 hown' hgrow _
  have hlt : b < w1.heap.size := by
    rcases Nat.lt_or_ge b w1.heap.size with h' | h'
    · exact h'
    · simp [Array.getElem?_eq_none h'] at hbk
  have hb2 : w2.heap[b]? = some (.cells #[.pointer (some ⟨b, 0, none⟩), v] 60 (0, 0)) := by
    rw [hgrow.block b hlt (fun e => hne e.symm)]
    exact hbk
  have d0 : w2.cell? ⟨b, 0, none⟩ = some (.pointer (some ⟨b, 0, none⟩)) := by rw [Lib.cell_of_heap hb2]; rfl
  have d1 : w2.cell? ⟨b, 1, none⟩ = some v := by rw [Lib.cell_of_heap hb2]; rfl
  have f1 : w2.frozen? ⟨b, 1, none⟩ = false := Lib.frozen_of_heap hb2 1
  obtain ⟨ao, n', cap, rfl⟩ : ∃ ao n' cap, v' = .slice ao n' cap := by
    rcases hown'.2 with ⟨hv, _⟩ | ⟨g, cap, cur, fz, hv, _⟩
    · exact ⟨_, _, _, hv⟩
    · exact ⟨_, _, _, hv⟩
  go_wp2
  go_ret2
  refine ⟨rfl, ?_, ?_⟩
  · exact Lib.BuilderAtF.put (T := 60) (e := 5) hB hb2 (bs' := bs ++ Lib.strCells s) (by simpa [Lib.strCells_length] using hown') (by decide)
  · exact (hb1.grown hgrow (by have := hb1.size; omega) (fun k hk => (hown.lt k hk).1)).setCell (p := ⟨b, 1, none⟩) hB _

/-- A builder that holds characters. -/
structure Holds (w : World) (b : Nat) (rs : List Int) : Prop where
  is_ : Lib.IsBuilderF 60 5 b b (Lib.byteCells (encA rs)) w
theorem Holds.le {w : World} {b : Nat} {rs : List Int} (h : Holds w b rs) : b ≤ w.heap.size := by
  rcases h.is_ with h | h <;> exact Nat.le_of_lt h.lt
theorem byteCells_app (a b : List UInt8) : Lib.byteCells (a ++ b) = Lib.byteCells a ++ Lib.byteCells b := by simp [Lib.byteCells]
theorem Holds.rune {w : World} {b : Nat} {rs : List Int} (h : Holds w b rs) (r : Int) (h0 : -2147483648 ≤ r) (h1 : r ≤ 2147483647) (hl : rs.length ≤ 100000) :
    Calls Tryd.prog 30 #[.pointer (some ⟨b, 0, none⟩), .int .i32 r] w fun e w' => (∃ n : Int, e = .returned (.tuple #[.int .i64 n, .nilIface])) ∧ Hid (Holds w' b (rs ++ [r])) ∧ Below b w w' := by
  have hz : (Lib.byteCells (encA rs)).length ≤ 400000 := by
    have := enc_len_le rs
    simp only [Lib.byteCells, List.length_map]; omega
  refine (WriteRune_k b b _ r h0 h1 w h.is_ (by omega) h.le).mono ?_
  rintro e w' ⟨rfl, hb, hbel, _⟩
  refine ⟨⟨_, rfl⟩, ⟨.inr ?_⟩, hbel⟩
  have e : encA (rs ++ [r]) = encA rs ++ Lib.encodeRune r := by rw [encA_app]; simp [encA]
  rw [e, byteCells_app, Lib.byteCells_encodeRune]
  exact hb
theorem Holds.str {w : World} {b : Nat} {rs : List Int} (h : Holds w b rs) (s : ByteArray) (qs : List Int) (hs : s.data.toList = encA qs) (hq : s.size ≤ 1000) (hl : rs.length ≤ 100000) :
    Calls Tryd.prog 29 #[.pointer (some ⟨b, 0, none⟩), .string s] w fun e w' => (∃ n : Int, e = .returned (.tuple #[.int .i64 n, .nilIface])) ∧ Hid (Holds w' b (rs ++ qs)) ∧ Below b w w' := by
  have hz : (Lib.byteCells (encA rs)).length ≤ 400000 := by
    have := enc_len_le rs
    simp only [Lib.byteCells, List.length_map]; omega
  refine (WriteString_k b b _ s w h.is_ (by omega) h.le).mono ?_
  rintro e w' ⟨rfl, hb, hbel⟩
  refine ⟨⟨_, rfl⟩, ⟨.inr ?_⟩, hbel⟩
  rw [encA_app, byteCells_app, ← hs]
  exact hb
end Go.Proofs.YtibhifjehbajnaaDoor
