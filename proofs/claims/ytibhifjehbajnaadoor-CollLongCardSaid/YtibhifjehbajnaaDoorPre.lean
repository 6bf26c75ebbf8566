/- CollPrefixes, the plain law: the key of a text is not above that of the text with further characters. -/
import Derived.Test.YtibhifjehbajnaaDoorOrder
import Derived.Lib.MapLaws
namespace Go.Proofs.YtibhifjehbajnaaDoor
open Go.RowKit Go.Maps
set_option linter.unusedVariables false

theorem decodeN_more (n n' b0 b1 b2 b3 c1 c2 c3 : Nat) (hn : n ≤ n') (h1 : 1 < n → c1 = b1) (h2 : 2 < n → c2 = b2) (h3 : 3 < n → c3 = b3) (hne : Lib.decodeN n b0 b1 b2 b3 ≠ (65533, 1)) : Lib.decodeN n' b0 c1 c2 c3 = Lib.decodeN n b0 b1 b2 b3 := by
  rcases Lib.decodeN_shape n b0 b1 b2 b3 with ⟨a, e⟩ | ⟨a, b, c, d, e⟩ | ⟨a, b, c, d, f, g, e⟩ | ⟨a, b, c, d, f, g, h, e⟩ | e
  · rw [e]; unfold Lib.decodeN; rw [if_pos a]
  · rw [e]
    obtain rfl := h1 b
    unfold Lib.decodeN
    rw [if_neg (by omega), if_pos ⟨a, by omega, c⟩, if_pos d]
  · rw [e]
    obtain rfl := h1 (by omega)
    obtain rfl := h2 b
    unfold Lib.decodeN
    rw [if_neg (by omega), if_neg (by omega), if_pos ⟨a, ⟨by omega, c⟩, by omega, d⟩, if_pos ⟨f, by omega⟩]
  · rw [e]
    obtain rfl := h1 (by omega)
    obtain rfl := h2 (by omega)
    obtain rfl := h3 b
    unfold Lib.decodeN
    rw [if_neg (by omega), if_neg (by omega), if_neg (by omega), if_pos ⟨a, ⟨by omega, c⟩, ⟨by omega, d⟩, by omega, f⟩, if_pos ⟨g, by omega⟩]
  · exact absurd e hne

theorem get_app (a b : ByteArray) (i : Nat) (h : i < a.size) : (a ++ b).get! i = a.get! i := by
  have e : (a ++ b).data = a.data ++ b.data := by simp
  show (a ++ b).data[i]! = a.data[i]!
  rw [e, getElem!_pos (a.data ++ b.data) i (by have h' : i < a.data.size := h; simp; omega), getElem!_pos a.data i h, Array.getElem_append_left h]
theorem size_app (a b : ByteArray) : (a ++ b).size = a.size + b.size := by simp

theorem decode_app (a b : ByteArray) (p : Nat) (hp : p < a.size) (hne : Utf8.decode a p ≠ (65533, 1)) : Utf8.decode (a ++ b) p = Utf8.decode a p := by
  rw [Lib.decode_at, Lib.decode_at] at *
  rw [get_app a b p hp, size_app]
  refine decodeN_more _ _ _ _ _ _ _ _ _ (by omega) (fun h => ?_) (fun h => ?_) (fun h => ?_) hne
  · rw [get_app a b _ (by omega)]
  · rw [get_app a b _ (by omega)]
  · rw [get_app a b _ (by omega)]

theorem good_ne (a : ByteArray) (p : Nat) (hp : p < a.size) (hg : goodAt a p ((Utf8.decode a p).1 : Int) = true) : Utf8.decode a p ≠ (65533, 1) := by
  intro e
  rw [e] at hg
  have hpre : [239, 191, 189].isPrefixOf (a.extract p a.size).data.toList = true := by
    unfold goodAt at hg
    rw [Bool.and_eq_true] at hg
    have h2 := hg.2
    cases hh : [239, 191, 189].isPrefixOf (a.extract p a.size).data.toList with
    | true => rfl
    | false => rw [hh] at h2; exact absurd h2 (by decide)
  have hd : (a.extract p a.size).data.toList = a.data.toList.drop p := by
    have h0 : (a.data.toList.drop p).length = a.size - p := by rw [List.length_drop, ← Lib.size_eq]
    have h1 : (a.extract p a.size).data.toList = (a.data.toList.drop p).take (a.size - p) := by simp [ByteArray.data_extract, Array.toList_extract]
    rw [h1, List.take_of_length_le (by omega)]
  rw [hd] at hpre
  obtain ⟨r, hr⟩ := List.isPrefixOf_iff_prefix.1 hpre
  have hlen : 3 + r.length = a.size - p := by
    have := congrArg List.length hr
    have h0 : (a.data.toList.drop p).length = a.size - p := by rw [List.length_drop, ← Lib.size_eq]
    rw [h0] at this
    simp at this
    omega
  have hb : ∀ i (h : i < 3), (a.get! (p + i)).toNat = [239, 191, 189].getD i 0 := by
    intro i hi
    have h1 : (a.data.toList.drop p)[i]? = some (([239, 191, 189] : List UInt8).getD i 0) := by
      rw [← hr]
      rcases (show i = 0 ∨ i = 1 ∨ i = 2 by omega) with rfl | rfl | rfl <;> rfl
    rw [List.getElem?_drop] at h1
    show (a.data[p + i]!).toNat = _
    rw [getElem!_pos a.data (p + i) (show p + i < a.data.size from by show p + i < a.size; omega)]
    have h2 : a.data.toList[p + i]? = some (a.data[p + i]'(by show p + i < a.size; omega)) := by simp
    rw [h2] at h1
    injection h1 with h1
    rw [h1]
    rcases (show i = 0 ∨ i = 1 ∨ i = 2 by omega) with rfl | rfl | rfl <;> rfl
  rw [Lib.decode_at] at e
  have g0 := hb 0 (by omega)
  have g1 := hb 1 (by omega)
  have g2 := hb 2 (by omega)
  simp only [Nat.add_zero] at g0
  rw [g0, g1, g2] at e
  have h3 : 2 < a.size - p := by omega
  simp [Lib.decodeN, show 1 < a.size - p by omega, h3] at e

theorem runes_app (a b : ByteArray) : ∀ (f p f' : Nat), a.size ≤ p + f → textFrom a f p = true → (a ++ b).size ≤ p + f' → ∃ rest, runesFrom (a ++ b) f' p = runesFrom a f p ++ rest
  | 0, p, f', _, _, _ => ⟨_, rfl⟩
  | f + 1, p, f', h1, ht, h2 => by
    by_cases hp : p < a.size
    · rw [textFrom, if_pos hp, Bool.and_eq_true] at ht
      have hne := good_ne a p hp ht.1
      have hd := decode_app a b p hp hne
      have hk := Lib.decode_width_pos a p hp
      rw [size_app] at h2
      obtain ⟨g, rfl⟩ : ∃ g, f' = g + 1 := ⟨f' - 1, by omega⟩
      obtain ⟨rest, hr⟩ := runes_app a b f (p + (Utf8.decode a p).2) g (by omega) ht.2 (by rw [size_app]; omega)
      refine ⟨rest, ?_⟩
      rw [runesFrom, if_pos (by rw [size_app]; omega), hd, hr]
      rw [show runesFrom a (f + 1) p = ((Utf8.decode a p).1 : Int) :: runesFrom a f (p + (Utf8.decode a p).2) by rw [runesFrom, if_pos hp]]
      rfl
    · rw [show runesFrom a (f + 1) p = [] by rw [runesFrom, if_neg hp]]
      exact ⟨_, rfl⟩
theorem runesOf_app (a b : ByteArray) (h : isText a = true) : ∃ rest, runesOf (a ++ b) = runesOf a ++ rest :=
  runes_app a b a.size 0 (a ++ b).size (by omega) h (by omega)
end Go.Proofs.YtibhifjehbajnaaDoor
