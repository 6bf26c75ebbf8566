/- Texts as rows of characters: a text is the UTF-8 forms of its runes, one behind the other; these forms are in the order of the code points. -/
import Derived.Test.YtibhifjehbajnaaDoorPre2
import Derived.Lib.MapLaws
namespace Go.Proofs.YtibhifjehbajnaaDoor
open Go.RowKit Go.Maps
set_option linter.unusedVariables false

def encA (rs : List Int) : List UInt8 := (rs.map Lib.encodeRune).flatten
theorem encA_cons (c : Int) (rs : List Int) : encA (c :: rs) = Lib.encodeRune c ++ encA rs := by simp [encA]
theorem encA_nil : encA [] = [] := rfl
theorem encA_app (a b : List Int) : encA (a ++ b) = encA a ++ encA b := by simp [encA]
abbrev Chars (rs : List Int) : Prop := ∀ c ∈ rs, isCharB c = true

theorem isCharB_cases {c : Int} (h : isCharB c = true) : (9 ≤ c ∧ c < 55296) ∨ (57344 ≤ c ∧ c ≤ 1114111) := by
  simp only [isCharB, Bool.or_eq_true, Bool.and_eq_true, beq_iff_eq, decide_eq_true_eq] at h
  omega
theorem u8_of (z : Int) (h0 : 0 ≤ z) (h1 : z < 256) : (z.toNat.toUInt8.toNat : Int) = z := by
  have : z.toNat.toUInt8.toNat = z.toNat := by
    show z.toNat % 256 = z.toNat
    omega
  rw [this]; omega
/-- The four forms. -/
theorem enc_shape {c : Int} (h : isCharB c = true) :
    (c < 128 ∧ ∃ b0 : UInt8, Lib.encodeRune c = [b0] ∧ (b0.toNat : Int) = c) ∨
    (128 ≤ c ∧ c ≤ 2047 ∧ ∃ b0 b1 : UInt8, Lib.encodeRune c = [b0, b1] ∧ (b0.toNat : Int) = 192 + c / 64 ∧ (b1.toNat : Int) = 128 + c % 64) ∨
    (2048 ≤ c ∧ c ≤ 65535 ∧ (c < 55296 ∨ 57343 < c) ∧ ∃ b0 b1 b2 : UInt8, Lib.encodeRune c = [b0, b1, b2] ∧ (b0.toNat : Int) = 224 + c / 4096 ∧ (b1.toNat : Int) = 128 + c / 64 % 64 ∧ (b2.toNat : Int) = 128 + c % 64) ∨
    (65536 ≤ c ∧ c ≤ 1114111 ∧ ∃ b0 b1 b2 b3 : UInt8, Lib.encodeRune c = [b0, b1, b2, b3] ∧ (b0.toNat : Int) = 240 + c / 262144 ∧ (b1.toNat : Int) = 128 + c / 4096 % 64 ∧ (b2.toNat : Int) = 128 + c / 64 % 64 ∧ (b3.toNat : Int) = 128 + c % 64) := by
  have hc := isCharB_cases h
  rcases (show c < 128 ∨ (128 ≤ c ∧ c ≤ 2047) ∨ (2048 ≤ c ∧ c ≤ 65535) ∨ 65536 ≤ c by omega) with k | k | k | k
  · left
    refine ⟨k, _, by rw [Lib.encodeRune, Lib.encodeRuneZ_one (by omega) (by omega)]; rfl, u8_of _ (by omega) (by omega)⟩
  · right; left
    refine ⟨k.1, k.2, _, _, by rw [Lib.encodeRune, Lib.encodeRuneZ_two (by omega) (by omega)]; rfl, u8_of _ (by omega) (by omega), u8_of _ (by omega) (by omega)⟩
  · right; right; left
    refine ⟨k.1, k.2, by omega, _, _, _, by rw [Lib.encodeRune, Lib.encodeRuneZ_three (by omega)]; rfl, u8_of _ (by omega) (by omega), u8_of _ (by omega) (by omega), u8_of _ (by omega) (by omega)⟩
  · right; right; right
    refine ⟨k, by omega, _, _, _, _, by rw [Lib.encodeRune, Lib.encodeRuneZ_four (by omega) (by omega)]; rfl, u8_of _ (by omega) (by omega), u8_of _ (by omega) (by omega), u8_of _ (by omega) (by omega), u8_of _ (by omega) (by omega)⟩
theorem enc_ne {c : Int} : Lib.encodeRune c ≠ [] := by
  intro e
  have := (Lib.encodeRuneZ_length c).1
  have h : (Lib.encodeRune c).length = (Lib.encodeRuneZ c).length := by simp [Lib.encodeRune]
  rw [e] at h; simp at h; omega
/-- What was written is read. -/
theorem decode_encode {c : Int} (h : isCharB c = true) (t : List UInt8) : Lib.decodeL (Lib.encodeRune c ++ t) = (c.toNat, (Lib.encodeRune c).length) := by
  have hc := isCharB_cases h
  rw [Lib.decodeL_N]
  rcases enc_shape h with ⟨k, b0, e, h0⟩ | ⟨k1, k2, b0, b1, e, h0, h1⟩ | ⟨k1, k2, k3, b0, b1, b2, e, h0, h1, h2⟩ | ⟨k1, k2, b0, b1, b2, b3, e, h0, h1, h2, h3⟩
  · rw [e]
    simp only [List.cons_append, List.nil_append, List.length_cons, List.length_nil, List.getD_cons_zero]
    unfold Lib.decodeN
    rw [if_pos (by omega)]
    exact Prod.ext (by show b0.toNat = _; omega) rfl
  · rw [e]
    simp only [List.cons_append, List.nil_append, List.length_cons, List.length_nil, List.getD_cons_zero, List.getD_cons_succ]
    unfold Lib.decodeN
    rw [if_neg (by omega), if_pos (by omega), if_pos (by omega)]
    exact Prod.ext (by show _ = c.toNat; simp only; omega) rfl
  · rw [e]
    simp only [List.cons_append, List.nil_append, List.length_cons, List.length_nil, List.getD_cons_zero, List.getD_cons_succ]
    unfold Lib.decodeN
    rw [if_neg (by omega), if_neg (by omega), if_pos (by omega), if_pos (by omega)]
    exact Prod.ext (by show _ = c.toNat; simp only; omega) rfl
  · rw [e]
    simp only [List.cons_append, List.nil_append, List.length_cons, List.length_nil, List.getD_cons_zero, List.getD_cons_succ]
    unfold Lib.decodeN
    rw [if_neg (by omega), if_neg (by omega), if_neg (by omega), if_pos (by omega), if_pos (by omega)]
    exact Prod.ext (by show _ = c.toNat; simp only; omega) rfl

theorem drop_extract (s : ByteArray) (p : Nat) (hp : p ≤ s.size) : (s.extract p s.size).data.toList = s.data.toList.drop p := by
  have h0 : (s.data.toList.drop p).length = s.size - p := by rw [List.length_drop, ← Lib.size_eq]
  have h1 : (s.extract p s.size).data.toList = (s.data.toList.drop p).take (s.size - p) := by simp [ByteArray.data_extract, Array.toList_extract]
  rw [h1, List.take_of_length_le (by omega)]
theorem text_enc_from (s : ByteArray) : ∀ (f p : Nat), p ≤ s.size → s.size ≤ p + f → textFrom s f p = true → s.data.toList.drop p = encA (runesFrom s f p) ∧ Chars (runesFrom s f p)
  | 0, p, hp, hf, _ => by
    refine ⟨?_, fun c hc => by cases hc⟩
    rw [List.drop_of_length_le (by rw [← Lib.size_eq]; omega)]; rfl
  | f + 1, p, hp, hf, ht => by
    by_cases hlt : p < s.size
    · rw [textFrom, if_pos hlt, Bool.and_eq_true] at ht
      have hne := good_ne s p hlt ht.1
      have hw := width_le s p hlt
      have hk := Lib.decode_width_pos s p hlt
      have ih := text_enc_from s f _ hw (by omega) ht.2
      rw [runesFrom, if_pos hlt, encA_cons, ← ih.1]
      have hl : s.data.toList.drop p ≠ [] := fun e => by
        have : (s.data.toList.drop p).length = 0 := by rw [e]; rfl
        rw [List.length_drop, ← Lib.size_eq] at this; omega
      have he := Lib.encode_decode (s.data.toList.drop p) hl (by
        rw [Lib.decodeL_drop]
        intro ⟨h1, h2⟩
        exact hne (Prod.ext h1 h2))
      rw [Lib.decodeL_drop] at he
      refine ⟨?_, fun c hc => ?_⟩
      · rw [he, ← List.drop_drop, List.take_append_drop]
      · rcases List.mem_cons.1 hc with rfl | hc
        · have := ht.1
          unfold goodAt at this
          rw [Bool.and_eq_true] at this
          exact this.1
        · exact ih.2 c hc
    · rw [runesFrom, if_neg hlt]
      refine ⟨?_, fun c hc => by cases hc⟩
      rw [List.drop_of_length_le (by rw [← Lib.size_eq]; omega)]; rfl
/-- A text is the forms of its characters. -/
theorem text_enc {s : ByteArray} (h : isText s = true) : s.data.toList = encA (runesOf s) ∧ Chars (runesOf s) := by
  have := text_enc_from s s.size 0 (Nat.zero_le _) (by omega) h
  rw [List.drop_zero] at this
  exact this
theorem enc_text_from (s : ByteArray) : ∀ (rs : List Int) (f p : Nat), Chars rs → s.data.toList.drop p = encA rs → p ≤ s.size → s.size ≤ p + f → textFrom s f p = true ∧ runesFrom s f p = rs
  | [], f, p, _, hd, hp, hf => by
    have hl : (s.data.toList.drop p).length = 0 := by rw [hd]; rfl
    rw [List.length_drop, ← Lib.size_eq] at hl
    have hlt : ¬ p < s.size := by omega
    cases f with
    | zero => exact ⟨rfl, rfl⟩
    | succ f => rw [textFrom, if_neg hlt, runesFrom, if_neg hlt]; exact ⟨rfl, rfl⟩
  | c :: rs, f, p, hc, hd, hp, hf => by
    have h1 := hc c (List.mem_cons_self ..)
    have hn := (isCharB_cases h1)
    rw [encA_cons] at hd
    have hw0 : 0 < (Lib.encodeRune c).length := List.length_pos_iff.2 enc_ne
    have hl := congrArg List.length hd
    rw [List.length_drop, ← Lib.size_eq, List.length_append] at hl
    have hlt : p < s.size := by omega
    obtain ⟨g, rfl⟩ : ∃ g, f = g + 1 := ⟨f - 1, by omega⟩
    have hdec : Utf8.decode s p = (c.toNat, (Lib.encodeRune c).length) := by
      rw [← Lib.decodeL_drop, hd, decode_encode h1]
    have hd2 : s.data.toList.drop (p + (Lib.encodeRune c).length) = encA rs := by
      rw [← List.drop_drop, hd, List.drop_left]
    have ih := enc_text_from s rs g (p + (Lib.encodeRune c).length) (fun x hx => hc x (List.mem_cons_of_mem _ hx)) hd2 (by omega) (by omega)
    have hcc : ((c.toNat : Nat) : Int) = c := by omega
    rw [textFrom, if_pos hlt, runesFrom, if_pos hlt, hdec]
    simp only [hcc]
    refine ⟨?_, by rw [ih.2]⟩
    rw [ih.1, Bool.and_true]
    unfold goodAt
    rw [h1, Bool.true_and]
    by_cases e : c = 65533
    · have hp2 : [239, 191, 189].isPrefixOf (s.extract p s.size).data.toList = true := by
        rw [drop_extract s p hp, hd, e]
        have : Lib.encodeRune 65533 = [239, 191, 189] := by decide
        rw [this]
        simp [List.isPrefixOf]
      rw [hp2]; simp
    · have : (c == 65533) = false := beq_eq_false_iff_ne.2 e
      rw [this]; rfl
/-- The forms of characters are a text with these characters. -/
theorem enc_text {s : ByteArray} {rs : List Int} (hc : Chars rs) (h : s.data.toList = encA rs) : isText s = true ∧ runesOf s = rs :=
  enc_text_from s rs s.size 0 hc (by simpa using h) (Nat.zero_le _) (by omega)

/-- Rows of numbers in order. -/
def cmpI : List Int → List Int → Int
  | [], [] => 0
  | [], _ :: _ => -1
  | _ :: _, [] => 1
  | a :: x, b :: y => if a < b then -1 else if b < a then 1 else cmpI x y
theorem cb_lt_enc {c d : Int} (hc : isCharB c = true) (hd : isCharB d = true) (h : c < d) (u v : List UInt8) : Lib.compareBytes (Lib.encodeRune c ++ u) (Lib.encodeRune d ++ v) = -1 := by
  rcases enc_shape hc with ⟨k, b0, e, h0⟩ | ⟨k1, k2, b0, b1, e, h0, h1⟩ | ⟨k1, k2, k3, b0, b1, b2, e, h0, h1, h2⟩ | ⟨k1, k2, b0, b1, b2, b3, e, h0, h1, h2, h3⟩ <;>
  rcases enc_shape hd with ⟨m, d0, e', g0⟩ | ⟨m1, m2, d0, d1, e', g0, g1⟩ | ⟨m1, m2, m3, d0, d1, d2, e', g0, g1, g2⟩ | ⟨m1, m2, d0, d1, d2, d3, e', g0, g1, g2, g3⟩ <;>
  (rw [e, e']; simp only [List.cons_append, List.nil_append]; rw [cb_cons])
  · rw [if_pos (by omega)]
  · rw [if_pos (by omega)]
  · rw [if_pos (by omega)]
  · rw [if_pos (by omega)]
  · omega
  · by_cases q0 : b0.toNat < d0.toNat
    · rw [if_pos q0]
    · rw [if_neg q0, if_neg (by omega), cb_cons, if_pos (by omega)]
  · rw [if_pos (by omega)]
  · rw [if_pos (by omega)]
  · omega
  · omega
  · by_cases q0 : b0.toNat < d0.toNat
    · rw [if_pos q0]
    · rw [if_neg q0, if_neg (by omega), cb_cons]
      by_cases q1 : b1.toNat < d1.toNat
      · rw [if_pos q1]
      · rw [if_neg q1, if_neg (by omega), cb_cons, if_pos (by omega)]
  · rw [if_pos (by omega)]
  · omega
  · omega
  · omega
  · by_cases q0 : b0.toNat < d0.toNat
    · rw [if_pos q0]
    · rw [if_neg q0, if_neg (by omega), cb_cons]
      by_cases q1 : b1.toNat < d1.toNat
      · rw [if_pos q1]
      · rw [if_neg q1, if_neg (by omega), cb_cons]
        by_cases q2 : b2.toNat < d2.toNat
        · rw [if_pos q2]
        · rw [if_neg q2, if_neg (by omega), cb_cons, if_pos (by omega)]
/-- Texts are in the order of their characters. -/
theorem cb_enc : ∀ {x y : List Int}, Chars x → Chars y → Lib.compareBytes (encA x) (encA y) = cmpI x y
  | [], [], _, _ => rfl
  | [], c :: y, _, hy => by
    rw [encA_cons, encA_nil, cmpI]
    cases h : Lib.encodeRune c with
    | nil => exact absurd h enc_ne
    | cons a l => rfl
  | c :: x, [], _, _ => by
    rw [encA_cons, encA_nil, cmpI]
    cases h : Lib.encodeRune c with
    | nil => exact absurd h enc_ne
    | cons a l => rfl
  | c :: x, d :: y, hx, hy => by
    have h1 := hx c (List.mem_cons_self ..)
    have h2 := hy d (List.mem_cons_self ..)
    rw [encA_cons, encA_cons, cmpI]
    by_cases q : c < d
    · rw [if_pos q, cb_lt_enc h1 h2 q]
    · rw [if_neg q]
      by_cases q2 : d < c
      · rw [if_pos q2, cb_anti, cb_lt_enc h2 h1 q2]; rfl
      · obtain rfl : c = d := by omega
        rw [if_neg q2, cb_app]
        exact cb_enc (fun a ha => hx a (List.mem_cons_of_mem _ ha)) (fun a ha => hy a (List.mem_cons_of_mem _ ha))
end Go.Proofs.YtibhifjehbajnaaDoor
