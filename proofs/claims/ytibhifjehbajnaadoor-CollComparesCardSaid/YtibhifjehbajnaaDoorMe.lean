/- The reference's next, as a plain function of four bytes, beside the model's own decoding. The reference's Points and IsText: the characters of a text. The reference's cut and words: the parts of a text between two bytes of one kind, the words of a line. What the reference computes is what the plain functions say: words, characters, lines. The reference's char: the character that a word writes. The reference's form: the characters of a line. -/
import Derived.Test.YtibhifjehbajnaaDoorMd
import Derived.Test.YtibhifjehbajnaaDoorPformx1
import Derived.BigRegion
import Derived.RegionTactic
import Derived.Laws.OwnMore
import Derived.Test.YtibhifjehbajnaaDoorPformx3

namespace Go.Proofs.YtibhifjehbajnaaDoor
open Go.RowKit Go.Maps
set_option linter.unusedVariables false

def nextC (n b0 b1 b2 b3 : Nat) : Nat × Nat :=
  if b0 < 128 then (b0, 1) else
  if b0 < 192 then (0, 0) else
  if b0 < 224 then
    if 1 < n ∧ b1 / 64 = 2 then
      if (b0 - 192) * 64 + (b1 - 128) < 128 then (0, 0) else ((b0 - 192) * 64 + (b1 - 128), 2)
    else (0, 0)
  else if b0 < 240 then
    if 2 < n ∧ b1 / 64 = 2 ∧ b2 / 64 = 2 then
      if (b0 - 224) * 4096 + (b1 - 128) * 64 + (b2 - 128) < 2048 then (0, 0) else ((b0 - 224) * 4096 + (b1 - 128) * 64 + (b2 - 128), 3)
    else (0, 0)
  else if b0 < 248 then
    if 3 < n ∧ b1 / 64 = 2 ∧ b2 / 64 = 2 ∧ b3 / 64 = 2 then
      if (b0 - 240) * 262144 + (b1 - 128) * 4096 + (b2 - 128) * 64 + (b3 - 128) < 65536 then (0, 0) else ((b0 - 240) * 262144 + (b1 - 128) * 4096 + (b2 - 128) * 64 + (b3 - 128), 4)
    else (0, 0)
  else (0, 0)

theorem isCharB_iff (c : Int) : isCharB c = true ↔ c = 9 ∨ c = 10 ∨ c = 13 ∨ (32 ≤ c ∧ c ≤ 55295) ∨ (57344 ≤ c ∧ c ≤ 65533) ∨ (65536 ≤ c ∧ c ≤ 1114111) := by
  simp only [isCharB, Bool.or_eq_true, Bool.and_eq_true, beq_iff_eq, decide_eq_true_eq]
  omega
/-- Where the one reads a character, the other reads it too; else neither does. -/
theorem next_dec (n b0 b1 b2 b3 : Nat) (h0 : b0 < 256) (h1 : b1 < 256) (h2 : b2 < 256) (h3 : b3 < 256) :
    (nextC n b0 b1 b2 b3 = Lib.decodeN n b0 b1 b2 b3 ∧ nextC n b0 b1 b2 b3 ≠ (65533, 1) ∧ (nextC n b0 b1 b2 b3).2 ≠ 0) ∨ (Lib.decodeN n b0 b1 b2 b3 = (65533, 1) ∧ ((nextC n b0 b1 b2 b3).2 = 0 ∨ isCharB (nextC n b0 b1 b2 b3).1 = false)) := by
  rcases (show b0 < 128 ∨ (128 ≤ b0 ∧ b0 < 192) ∨ (192 ≤ b0 ∧ b0 < 224) ∨ (224 ≤ b0 ∧ b0 < 240) ∨ (240 ≤ b0 ∧ b0 < 248) ∨ 248 ≤ b0 by omega) with k | k | k | k | k | k
  · have hN : nextC n b0 b1 b2 b3 = (b0, 1) := by unfold nextC; rw [if_pos k]
    have hD : Lib.decodeN n b0 b1 b2 b3 = (b0, 1) := by unfold Lib.decodeN; rw [if_pos k]
    rw [hN, hD]
    exact .inl ⟨rfl, fun e => by simp at e; omega, by simp⟩
  · have hN : nextC n b0 b1 b2 b3 = (0, 0) := by unfold nextC; rw [if_neg (by omega), if_pos k.2]
    have hD : Lib.decodeN n b0 b1 b2 b3 = (65533, 1) := by unfold Lib.decodeN; rw [if_neg (by omega), if_neg (by omega), if_neg (by omega), if_neg (by omega)]
    rw [hN, hD]
    exact .inr ⟨rfl, .inl rfl⟩
  · have hN : nextC n b0 b1 b2 b3 = if 1 < n ∧ b1 / 64 = 2 then (if (b0 - 192) * 64 + (b1 - 128) < 128 then (0, 0) else ((b0 - 192) * 64 + (b1 - 128), 2)) else (0, 0) := by
      unfold nextC; rw [if_neg (show ¬ b0 < 128 by omega), if_neg (show ¬ b0 < 192 by omega), if_pos k.2]
    rw [hN]
    by_cases q : 1 < n ∧ b1 / 64 = 2
    · have e : b0 % 32 * 64 + b1 % 64 = (b0 - 192) * 64 + (b1 - 128) := by omega
      have hD : Lib.decodeN n b0 b1 b2 b3 = if (b0 - 192) * 64 + (b1 - 128) ≥ 128 then ((b0 - 192) * 64 + (b1 - 128), 2) else (65533, 1) := by
        unfold Lib.decodeN; rw [if_neg (show ¬ b0 < 128 by omega), if_pos (show b0 / 32 = 6 ∧ (1 < n ∧ b1 / 64 = 2) from ⟨by omega, q⟩), e]
      rw [hD, if_pos q]
      obtain ⟨c, hc⟩ : ∃ c, c = (b0 - 192) * 64 + (b1 - 128) := ⟨_, rfl⟩
      rw [← hc]
      by_cases q2 : c < 128
      · rw [if_pos q2, if_neg (by omega)]
        exact .inr ⟨rfl, .inl rfl⟩
      · rw [if_neg q2, if_pos (by omega)]
        exact .inl ⟨rfl, fun e => by simp at e, by simp⟩
    · have hD : Lib.decodeN n b0 b1 b2 b3 = (65533, 1) := by unfold Lib.decodeN; rw [if_neg (by omega), if_neg (fun h => q h.2), if_neg (by omega), if_neg (by omega)]
      rw [hD, if_neg q]
      exact .inr ⟨rfl, .inl rfl⟩
  · have hN : nextC n b0 b1 b2 b3 = if 2 < n ∧ b1 / 64 = 2 ∧ b2 / 64 = 2 then (if (b0 - 224) * 4096 + (b1 - 128) * 64 + (b2 - 128) < 2048 then (0, 0) else ((b0 - 224) * 4096 + (b1 - 128) * 64 + (b2 - 128), 3)) else (0, 0) := by
      unfold nextC; rw [if_neg (show ¬ b0 < 128 by omega), if_neg (show ¬ b0 < 192 by omega), if_neg (show ¬ b0 < 224 by omega), if_pos k.2]
    rw [hN]
    by_cases q : 2 < n ∧ b1 / 64 = 2 ∧ b2 / 64 = 2
    · have e : b0 % 16 * 4096 + b1 % 64 * 64 + b2 % 64 = (b0 - 224) * 4096 + (b1 - 128) * 64 + (b2 - 128) := by omega
      have hD : Lib.decodeN n b0 b1 b2 b3 = if (b0 - 224) * 4096 + (b1 - 128) * 64 + (b2 - 128) ≥ 2048 ∧ ((b0 - 224) * 4096 + (b1 - 128) * 64 + (b2 - 128) < 55296 ∨ (57344 ≤ (b0 - 224) * 4096 + (b1 - 128) * 64 + (b2 - 128) ∧ (b0 - 224) * 4096 + (b1 - 128) * 64 + (b2 - 128) ≤ 1114111)) then ((b0 - 224) * 4096 + (b1 - 128) * 64 + (b2 - 128), 3) else (65533, 1) := by
        unfold Lib.decodeN; rw [if_neg (show ¬ b0 < 128 by omega), if_neg (show ¬ (b0 / 32 = 6 ∧ (1 < n ∧ b1 / 64 = 2)) by omega), if_pos (show b0 / 16 = 14 ∧ (1 < n ∧ b1 / 64 = 2) ∧ (2 < n ∧ b2 / 64 = 2) by omega), e]
      have hlt : (b0 - 224) * 4096 + (b1 - 128) * 64 + (b2 - 128) < 65536 := by omega
      rw [hD, if_pos q]
      clear hD hN e
      obtain ⟨c, hc⟩ : ∃ c, c = (b0 - 224) * 4096 + (b1 - 128) * 64 + (b2 - 128) := ⟨_, rfl⟩
      rw [← hc] at hlt ⊢
      clear hc
      by_cases q2 : c < 2048
      · rw [if_pos q2, if_neg (by omega)]
        exact .inr ⟨rfl, .inl rfl⟩
      · rw [if_neg q2]
        by_cases q3 : c < 55296 ∨ 57344 ≤ c
        · rw [if_pos (by omega)]
          exact .inl ⟨rfl, fun e => by simp at e, by simp⟩
        · rw [if_neg (by omega)]
          refine .inr ⟨rfl, .inr ?_⟩
          rw [Bool.eq_false_iff]
          intro e
          have := (isCharB_iff _).1 e
          simp only at this
          omega
    · have hD : Lib.decodeN n b0 b1 b2 b3 = (65533, 1) := by unfold Lib.decodeN; rw [if_neg (by omega), if_neg (by omega), if_neg (fun h => q ⟨h.2.2.1, h.2.1.2, h.2.2.2⟩), if_neg (by omega)]
      rw [hD, if_neg q]
      exact .inr ⟨rfl, .inl rfl⟩
  · have hN : nextC n b0 b1 b2 b3 = if 3 < n ∧ b1 / 64 = 2 ∧ b2 / 64 = 2 ∧ b3 / 64 = 2 then (if (b0 - 240) * 262144 + (b1 - 128) * 4096 + (b2 - 128) * 64 + (b3 - 128) < 65536 then (0, 0) else ((b0 - 240) * 262144 + (b1 - 128) * 4096 + (b2 - 128) * 64 + (b3 - 128), 4)) else (0, 0) := by
      unfold nextC; rw [if_neg (show ¬ b0 < 128 by omega), if_neg (show ¬ b0 < 192 by omega), if_neg (show ¬ b0 < 224 by omega), if_neg (show ¬ b0 < 240 by omega), if_pos k.2]
    rw [hN]
    by_cases q : 3 < n ∧ b1 / 64 = 2 ∧ b2 / 64 = 2 ∧ b3 / 64 = 2
    · have e : b0 % 8 * 262144 + b1 % 64 * 4096 + b2 % 64 * 64 + b3 % 64 = (b0 - 240) * 262144 + (b1 - 128) * 4096 + (b2 - 128) * 64 + (b3 - 128) := by omega
      have hD : Lib.decodeN n b0 b1 b2 b3 = if (b0 - 240) * 262144 + (b1 - 128) * 4096 + (b2 - 128) * 64 + (b3 - 128) ≥ 65536 ∧ ((b0 - 240) * 262144 + (b1 - 128) * 4096 + (b2 - 128) * 64 + (b3 - 128) < 55296 ∨ (57344 ≤ (b0 - 240) * 262144 + (b1 - 128) * 4096 + (b2 - 128) * 64 + (b3 - 128) ∧ (b0 - 240) * 262144 + (b1 - 128) * 4096 + (b2 - 128) * 64 + (b3 - 128) ≤ 1114111)) then ((b0 - 240) * 262144 + (b1 - 128) * 4096 + (b2 - 128) * 64 + (b3 - 128), 4) else (65533, 1) := by
        unfold Lib.decodeN; rw [if_neg (show ¬ b0 < 128 by omega), if_neg (show ¬ (b0 / 32 = 6 ∧ (1 < n ∧ b1 / 64 = 2)) by omega), if_neg (show ¬ (b0 / 16 = 14 ∧ (1 < n ∧ b1 / 64 = 2) ∧ (2 < n ∧ b2 / 64 = 2)) by omega), if_pos (show b0 / 8 = 30 ∧ (1 < n ∧ b1 / 64 = 2) ∧ (2 < n ∧ b2 / 64 = 2) ∧ (3 < n ∧ b3 / 64 = 2) by omega), e]
      rw [hD, if_pos q]
      clear hD hN e
      obtain ⟨c, hc⟩ : ∃ c, c = (b0 - 240) * 262144 + (b1 - 128) * 4096 + (b2 - 128) * 64 + (b3 - 128) := ⟨_, rfl⟩
      rw [← hc]
      clear hc
      by_cases q2 : c < 65536
      · rw [if_pos q2, if_neg (by omega)]
        exact .inr ⟨rfl, .inl rfl⟩
      · rw [if_neg q2]
        by_cases q3 : c ≤ 1114111
        · rw [if_pos (by omega)]
          exact .inl ⟨rfl, fun e => by simp at e, by simp⟩
        · rw [if_neg (by omega)]
          refine .inr ⟨rfl, .inr ?_⟩
          rw [Bool.eq_false_iff]
          intro e
          have := (isCharB_iff _).1 e
          simp only at this
          omega
    · have hD : Lib.decodeN n b0 b1 b2 b3 = (65533, 1) := by unfold Lib.decodeN; rw [if_neg (by omega), if_neg (by omega), if_neg (by omega), if_neg (fun h => q ⟨h.2.2.2.1, h.2.1.2, h.2.2.1.2, h.2.2.2.2⟩)]
      rw [hD, if_neg q]
      exact .inr ⟨rfl, .inl rfl⟩
  · have hN : nextC n b0 b1 b2 b3 = (0, 0) := by unfold nextC; rw [if_neg (by omega), if_neg (by omega), if_neg (by omega), if_neg (by omega), if_neg (by omega)]
    have hD : Lib.decodeN n b0 b1 b2 b3 = (65533, 1) := by unfold Lib.decodeN; rw [if_neg (by omega), if_neg (by omega), if_neg (by omega), if_neg (by omega)]
    rw [hN, hD]
    exact .inr ⟨rfl, .inl rfl⟩

def nextAt (s : ByteArray) (p : Nat) : Nat × Nat := nextC (s.size - p) (s.get! p).toNat (s.get! (p + 1)).toNat (s.get! (p + 2)).toNat (s.get! (p + 3)).toNat
/-- The model's decoding and the reference's take the same to be a character. -/
theorem next_good (s : ByteArray) (p : Nat) (hp : p < s.size) :
    (goodAt s p ((Utf8.decode s p).1 : Int) = true ∧ nextAt s p = Utf8.decode s p ∧ (nextAt s p).2 ≠ 0 ∧ isCharB (nextAt s p).1 = true) ∨ (goodAt s p ((Utf8.decode s p).1 : Int) = false ∧ ((nextAt s p).2 = 0 ∨ isCharB (nextAt s p).1 = false)) := by
  have hd := Lib.decode_at s p
  have h := next_dec (s.size - p) (s.get! p).toNat (s.get! (p + 1)).toNat (s.get! (p + 2)).toNat (s.get! (p + 3)).toNat (s.get! p).toNat_lt (s.get! (p + 1)).toNat_lt (s.get! (p + 2)).toNat_lt (s.get! (p + 3)).toNat_lt
  rw [← hd] at h
  change (nextAt s p = _ ∧ nextAt s p ≠ _ ∧ (nextAt s p).2 ≠ 0) ∨ (_ ∧ ((nextAt s p).2 = 0 ∨ isCharB (nextAt s p).1 = false)) at h
  rcases h with ⟨h1, h2, h3⟩ | ⟨h1, h2⟩
  · rw [h1] at h2 h3
    cases hc : isCharB ((Utf8.decode s p).1 : Int) with
    | false =>
      refine .inr ⟨?_, .inr (by rw [h1]; exact hc)⟩
      unfold goodAt; rw [hc]; rfl
    | true =>
      refine .inl ⟨?_, h1, by rw [h1]; exact h3, by rw [h1]; exact hc⟩
      have hl : s.data.toList.drop p ≠ [] := fun e => by
        have : (s.data.toList.drop p).length = 0 := by rw [e]; rfl
        rw [List.length_drop, ← Lib.size_eq] at this; omega
      have he := Lib.encode_decode (s.data.toList.drop p) hl (by
        rw [Lib.decodeL_drop]
        intro ⟨h1, h2'⟩
        exact h2 (Prod.ext h1 h2'))
      rw [Lib.decodeL_drop] at he
      unfold goodAt
      rw [hc, Bool.true_and]
      by_cases e : ((Utf8.decode s p).1 : Int) = 65533
      · have e3 : Lib.encodeRune 65533 = [239, 191, 189] := by decide
        rw [e, e3] at he
        have hp2 : [239, 191, 189].isPrefixOf (s.extract p s.size).data.toList = true := by
          rw [drop_extract s p (by omega), List.isPrefixOf_iff_prefix]
          rw [he]
          exact List.take_prefix _ _
        rw [hp2]; simp
      · have : (((Utf8.decode s p).1 : Int) == 65533) = false := beq_eq_false_iff_ne.2 e
        rw [this]; rfl
  · refine .inr ⟨?_, h2⟩
    rw [Bool.eq_false_iff]
    intro hg
    exact good_ne s p hp hg h1
end Go.Proofs.YtibhifjehbajnaaDoor

namespace Go.Proofs.YtibhifjehbajnaaDoor
open Go.RowKit Go.Maps
open Go.Proofs.YtibhifjehbajnaaDoor.Pform Go.Proofs.YtibhifjehbajnaaDoorW.PrintWords
set_option linter.unusedVariables false

theorem w64_id {x : Int} (h : -9223372036854775808 ≤ x ∧ x ≤ 9223372036854775807) : wrap64 x = x := by unfold wrap64; omega
theorem bt_get (s : ByteArray) (p : Nat) : bt s (p : Int) = ((s.get! p).toNat : Int) := by
  unfold bt
  split
  · rename_i h
    have h' : p < s.size := by simpa using h
    simp [ByteArray.get!, getElem!_pos, h']
    rfl
  · rename_i h
    have h' : s.size ≤ p := by simpa using h
    simp [ByteArray.get!, h']
    rfl
set_option maxHeartbeats 1000000 in
theorem next_pos (s : ByteArray) (p : Nat) (hp : p < s.size) (hs : s.size ≤ 100000) (k : Nat) (hk : 10 ≤ k) :
    chiselref01_next.f k s p = some (((nextAt s p).1 : Int), ((nextAt s p).2 : Int)) := by
  obtain ⟨k, rfl⟩ : ∃ m, k = m + 10 := ⟨k - 10, by omega⟩
  unfold nextAt
  obtain ⟨b0, hb0⟩ : ∃ b0, b0 = (s.get! p).toNat := ⟨_, rfl⟩
  obtain ⟨b1, hb1⟩ : ∃ b, b = (s.get! (p + 1)).toNat := ⟨_, rfl⟩
  obtain ⟨b2, hb2⟩ : ∃ b, b = (s.get! (p + 2)).toNat := ⟨_, rfl⟩
  obtain ⟨b3, hb3⟩ : ∃ b, b = (s.get! (p + 3)).toNat := ⟨_, rfl⟩
  have l0 : b0 < 256 := by rw [hb0]; exact UInt8.toNat_lt _
  have l1 : b1 < 256 := by rw [hb1]; exact UInt8.toNat_lt _
  have l2 : b2 < 256 := by rw [hb2]; exact UInt8.toNat_lt _
  have l3 : b3 < 256 := by rw [hb3]; exact UInt8.toNat_lt _
  have e0 : Hid (bt s (p : Int) = b0) := Lib.hid (by rw [bt_get, hb0])
  have e1 : Hid (bt s ((p : Int) + 1) = b1) := Lib.hid (by rw [hb1]; exact bt_get s (p + 1))
  have e2 : Hid (bt s ((p : Int) + 2) = b2) := Lib.hid (by rw [hb2]; exact bt_get s (p + 2))
  have e3 : Hid (bt s ((p : Int) + 3) = b3) := Lib.hid (by rw [hb3]; exact bt_get s (p + 3))
  rw [← hb0, ← hb1, ← hb2, ← hb3]
  clear hb0 hb1 hb2 hb3
  obtain ⟨n, hn⟩ : ∃ n, n = s.size - p := ⟨_, rfl⟩
  have hsz : (s.size : Int) = p + n := by omega
  have hp1 : (p : Int) < 100000 := by omega
  have hn1 : n ≤ 100000 := by omega
  rw [← hn]
  have w0 : Hid (wrap64 ((b0 : Nat) : Int) = b0) := Lib.hid (w64_id (by omega))
  have w1 : Hid (wrap64 ((b1 : Nat) : Int) = b1) := Lib.hid (w64_id (by omega))
  have w2 : Hid (wrap64 ((b2 : Nat) : Int) = b2) := Lib.hid (w64_id (by omega))
  have w3 : Hid (wrap64 ((b3 : Nat) : Int) = b3) := Lib.hid (w64_id (by omega))
  have v1 : Hid (wrap64 ((p : Int) + 1) = p + 1) := Lib.hid (w64_id (by omega))
  have v2 : Hid (wrap64 ((p : Int) + 2) = p + 2) := Lib.hid (w64_id (by omega))
  have v3 : Hid (wrap64 ((p : Int) + 3) = p + 3) := Lib.hid (w64_id (by omega))
  have v4 : Hid (wrap64 ((p : Int) + 4) = p + 4) := Lib.hid (w64_id (by omega))
  have i1 : Hid (wrap64 (1 + 1) = 2) := Lib.hid (w64_id (by decide))
  have i2 : Hid (wrap64 (2 + 1) = 3) := Lib.hid (w64_id (by decide))
  have i3 : Hid (wrap64 (3 + 1) = 4) := Lib.hid (w64_id (by decide))
  unfold chiselref01_next.f
  rw [hsz, e0.out, w0.out, if_pos (by omega), if_pos (by omega)]
  unfold nextC
  rcases (show b0 < 128 ∨ (128 ≤ b0 ∧ b0 < 192) ∨ (192 ≤ b0 ∧ b0 < 224) ∨ (224 ≤ b0 ∧ b0 < 240) ∨ (240 ≤ b0 ∧ b0 < 248) ∨ 248 ≤ b0 by omega) with h | h | h | h | h | h
  · rw [if_pos (show (b0 : Int) < 128 by omega), if_pos h]; rfl
  · rw [if_neg (show ¬ (b0 : Int) < 128 by omega), if_neg (show ¬ (b0 : Int) ≥ 192 by omega), chiselref01_next.j0, if_neg (by decide), if_neg (show ¬ (b0 : Int) ≥ 224 by omega), chiselref01_next.j1, if_neg (by decide), if_neg (show ¬ (b0 : Int) ≥ 240 by omega), if_neg (show ¬ b0 < 128 by omega), if_pos h.2]
    rfl
  · rw [if_neg (show ¬ (b0 : Int) < 128 by omega), if_pos (show (b0 : Int) ≥ 192 by omega), chiselref01_next.j0, if_pos (decide_eq_true (show (b0 : Int) < 224 by omega)), chiselref01_next.j2, v2.out, hsz, if_neg (show ¬ b0 < 128 by omega), if_neg (show ¬ b0 < 192 by omega), if_pos h.2]
    by_cases q : 1 < n
    · rw [if_neg (show ¬ (p : Int) + 2 > p + n by omega), chiselref01_next.l0, if_pos (by decide), v1.out, if_pos (by omega), hsz, if_pos (by omega), e1.out, w1.out]
      by_cases q1 : b1 / 64 = 2
      · rw [if_neg (show ¬ (b1 : Int) < 128 by omega), if_neg (show ¬ (b1 : Int) ≥ 192 by omega), i1.out, chiselref01_next.l0, if_neg (by decide), if_pos (show 1 < n ∧ b1 / 64 = 2 from ⟨q, q1⟩)]
        rw [w64_id (x := (b0 : Int) - 192) (by omega), w64_id (x := ((b0 : Int) - 192) * 64) (by omega), w64_id (x := ((b0 : Int) - 192) * 64 + b1) (by omega), w64_id (x := ((b0 : Int) - 192) * 64 + b1 - 128) (by omega)]
        by_cases q2 : (b0 - 192) * 64 + (b1 - 128) < 128
        · rw [if_pos q2, if_pos (by omega)]; rfl
        · rw [if_neg q2, if_neg (by omega)]
          exact congrArg some (Prod.ext (by show _ = (((b0 - 192) * 64 + (b1 - 128) : Nat) : Int); omega) rfl)
      · rw [if_neg (show ¬ (1 < n ∧ b1 / 64 = 2) from fun h => q1 h.2)]
        by_cases q3 : b1 < 128
        · rw [if_pos (by omega)]; rfl
        · rw [if_neg (by omega), if_pos (by omega)]; rfl
    · rw [if_pos (show (p : Int) + 2 > p + n by omega), if_neg (show ¬ (1 < n ∧ b1 / 64 = 2) from fun h => q h.1)]; rfl
  · rw [if_neg (show ¬ (b0 : Int) < 128 by omega), if_pos (show (b0 : Int) ≥ 192 by omega), chiselref01_next.j0, decide_eq_false (show ¬ (b0 : Int) < 224 by omega), if_neg (by decide), if_pos (show (b0 : Int) ≥ 224 by omega), chiselref01_next.j1, if_pos (decide_eq_true (show (b0 : Int) < 240 by omega)), chiselref01_next.j2, v3.out, hsz, if_neg (show ¬ b0 < 128 by omega), if_neg (show ¬ b0 < 192 by omega), if_neg (show ¬ b0 < 224 by omega), if_pos h.2]
    by_cases q : 2 < n
    · rw [if_neg (show ¬ (p : Int) + 3 > p + n by omega), chiselref01_next.l0, if_pos (by decide), v1.out, if_pos (by omega), hsz, if_pos (by omega), e1.out, w1.out]
      by_cases q1 : b1 / 64 = 2
      · rw [if_neg (show ¬ (b1 : Int) < 128 by omega), if_neg (show ¬ (b1 : Int) ≥ 192 by omega), i1.out, chiselref01_next.l0, if_pos (by decide), v2.out, if_pos (by omega), hsz, if_pos (by omega), e2.out, w2.out]
        by_cases q2 : b2 / 64 = 2
        · rw [if_neg (show ¬ (b2 : Int) < 128 by omega), if_neg (show ¬ (b2 : Int) ≥ 192 by omega), i2.out, chiselref01_next.l0, if_neg (by decide), if_pos (show 2 < n ∧ b1 / 64 = 2 ∧ b2 / 64 = 2 from ⟨q, q1, q2⟩)]
          rw [w64_id (x := (b0 : Int) - 224) (by omega), w64_id (x := ((b0 : Int) - 224) * 64) (by omega), w64_id (x := ((b0 : Int) - 224) * 64 + b1) (by omega), w64_id (x := ((b0 : Int) - 224) * 64 + b1 - 128) (by omega),
            w64_id (x := (((b0 : Int) - 224) * 64 + b1 - 128) * 64) (by omega), w64_id (x := (((b0 : Int) - 224) * 64 + b1 - 128) * 64 + b2) (by omega), w64_id (x := (((b0 : Int) - 224) * 64 + b1 - 128) * 64 + b2 - 128) (by omega)]
          by_cases q3 : (b0 - 224) * 4096 + (b1 - 128) * 64 + (b2 - 128) < 2048
          · rw [if_pos q3, if_pos (by omega)]; rfl
          · rw [if_neg q3, if_neg (by omega)]
            exact congrArg some (Prod.ext (by show _ = (((b0 - 224) * 4096 + (b1 - 128) * 64 + (b2 - 128) : Nat) : Int); omega) rfl)
        · rw [if_neg (show ¬ (2 < n ∧ b1 / 64 = 2 ∧ b2 / 64 = 2) from fun h => q2 h.2.2)]
          by_cases q3 : b2 < 128
          · rw [if_pos (by omega)]; rfl
          · rw [if_neg (by omega), if_pos (by omega)]; rfl
      · rw [if_neg (show ¬ (2 < n ∧ b1 / 64 = 2 ∧ b2 / 64 = 2) from fun h => q1 h.2.1)]
        by_cases q3 : b1 < 128
        · rw [if_pos (by omega)]; rfl
        · rw [if_neg (by omega), if_pos (by omega)]; rfl
    · rw [if_pos (show (p : Int) + 3 > p + n by omega), if_neg (show ¬ (2 < n ∧ b1 / 64 = 2 ∧ b2 / 64 = 2) from fun h => q h.1)]; rfl
  · rw [if_neg (show ¬ (b0 : Int) < 128 by omega), if_pos (show (b0 : Int) ≥ 192 by omega), chiselref01_next.j0, decide_eq_false (show ¬ (b0 : Int) < 224 by omega), if_neg (by decide), if_pos (show (b0 : Int) ≥ 224 by omega), chiselref01_next.j1, decide_eq_false (show ¬ (b0 : Int) < 240 by omega), if_neg (by decide), if_pos (show (b0 : Int) ≥ 240 by omega), if_pos (show (b0 : Int) < 248 by omega), chiselref01_next.j2, v4.out, hsz, if_neg (show ¬ b0 < 128 by omega), if_neg (show ¬ b0 < 192 by omega), if_neg (show ¬ b0 < 224 by omega), if_neg (show ¬ b0 < 240 by omega), if_pos h.2]
    by_cases q : 3 < n
    · rw [if_neg (show ¬ (p : Int) + 4 > p + n by omega), chiselref01_next.l0, if_pos (by decide), v1.out, if_pos (by omega), hsz, if_pos (by omega), e1.out, w1.out]
      by_cases q1 : b1 / 64 = 2
      · rw [if_neg (show ¬ (b1 : Int) < 128 by omega), if_neg (show ¬ (b1 : Int) ≥ 192 by omega), i1.out, chiselref01_next.l0, if_pos (by decide), v2.out, if_pos (by omega), hsz, if_pos (by omega), e2.out, w2.out]
        by_cases q2 : b2 / 64 = 2
        · rw [if_neg (show ¬ (b2 : Int) < 128 by omega), if_neg (show ¬ (b2 : Int) ≥ 192 by omega), i2.out, chiselref01_next.l0, if_pos (by decide), v3.out, if_pos (by omega), hsz, if_pos (by omega), e3.out, w3.out]
          by_cases q4 : b3 / 64 = 2
          · rw [if_neg (show ¬ (b3 : Int) < 128 by omega), if_neg (show ¬ (b3 : Int) ≥ 192 by omega), i3.out, chiselref01_next.l0, if_neg (by decide), if_pos (show 3 < n ∧ b1 / 64 = 2 ∧ b2 / 64 = 2 ∧ b3 / 64 = 2 from ⟨q, q1, q2, q4⟩)]
            rw [w64_id (x := (b0 : Int) - 240) (by omega), w64_id (x := ((b0 : Int) - 240) * 64) (by omega), w64_id (x := ((b0 : Int) - 240) * 64 + b1) (by omega), w64_id (x := ((b0 : Int) - 240) * 64 + b1 - 128) (by omega),
              w64_id (x := (((b0 : Int) - 240) * 64 + b1 - 128) * 64) (by omega), w64_id (x := (((b0 : Int) - 240) * 64 + b1 - 128) * 64 + b2) (by omega), w64_id (x := (((b0 : Int) - 240) * 64 + b1 - 128) * 64 + b2 - 128) (by omega),
              w64_id (x := ((((b0 : Int) - 240) * 64 + b1 - 128) * 64 + b2 - 128) * 64) (by omega), w64_id (x := ((((b0 : Int) - 240) * 64 + b1 - 128) * 64 + b2 - 128) * 64 + b3) (by omega), w64_id (x := ((((b0 : Int) - 240) * 64 + b1 - 128) * 64 + b2 - 128) * 64 + b3 - 128) (by omega)]
            by_cases q3 : (b0 - 240) * 262144 + (b1 - 128) * 4096 + (b2 - 128) * 64 + (b3 - 128) < 65536
            · rw [if_pos q3, if_pos (by omega)]; rfl
            · rw [if_neg q3, if_neg (by omega)]
              exact congrArg some (Prod.ext (by show _ = (((b0 - 240) * 262144 + (b1 - 128) * 4096 + (b2 - 128) * 64 + (b3 - 128) : Nat) : Int); omega) rfl)
          · rw [if_neg (show ¬ (3 < n ∧ b1 / 64 = 2 ∧ b2 / 64 = 2 ∧ b3 / 64 = 2) from fun h => q4 h.2.2.2)]
            by_cases q3 : b3 < 128
            · rw [if_pos (by omega)]; rfl
            · rw [if_neg (by omega), if_pos (by omega)]; rfl
        · rw [if_neg (show ¬ (3 < n ∧ b1 / 64 = 2 ∧ b2 / 64 = 2 ∧ b3 / 64 = 2) from fun h => q2 h.2.2.1)]
          by_cases q3 : b2 < 128
          · rw [if_pos (by omega)]; rfl
          · rw [if_neg (by omega), if_pos (by omega)]; rfl
      · rw [if_neg (show ¬ (3 < n ∧ b1 / 64 = 2 ∧ b2 / 64 = 2 ∧ b3 / 64 = 2) from fun h => q1 h.2.1)]
        by_cases q3 : b1 < 128
        · rw [if_pos (by omega)]; rfl
        · rw [if_neg (by omega), if_pos (by omega)]; rfl
    · rw [if_pos (show (p : Int) + 4 > p + n by omega), if_neg (show ¬ (3 < n ∧ b1 / 64 = 2 ∧ b2 / 64 = 2 ∧ b3 / 64 = 2) from fun h => q h.1)]; rfl
  · rw [if_neg (show ¬ (b0 : Int) < 128 by omega), if_pos (show (b0 : Int) ≥ 192 by omega), chiselref01_next.j0, decide_eq_false (show ¬ (b0 : Int) < 224 by omega), if_neg (by decide), if_pos (show (b0 : Int) ≥ 224 by omega), chiselref01_next.j1, decide_eq_false (show ¬ (b0 : Int) < 240 by omega), if_neg (by decide), if_pos (show (b0 : Int) ≥ 240 by omega), if_neg (show ¬ (b0 : Int) < 248 by omega), if_neg (show ¬ b0 < 128 by omega), if_neg (show ¬ b0 < 192 by omega), if_neg (show ¬ b0 < 224 by omega), if_neg (show ¬ b0 < 240 by omega), if_neg (show ¬ b0 < 248 by omega)]
    rfl
theorem ischar_pos (c : Int) : chiselref01_IsChar.f c = some (isCharB c) := by
  have h := isCharB_iff c
  unfold chiselref01_IsChar.f
  cases hb : isCharB c with
  | true =>
    have := h.1 hb
    repeat' split
    all_goals first | rfl | (exfalso; omega) | (exact congrArg some (decide_eq_true (by omega)))
  | false =>
    have : ¬ (c = 9 ∨ c = 10 ∨ c = 13 ∨ (32 ≤ c ∧ c ≤ 55295) ∨ (57344 ≤ c ∧ c ≤ 65533) ∨ (65536 ≤ c ∧ c ≤ 1114111)) := fun q => Bool.false_ne_true (hb.symm.trans (h.2 q))
    repeat' split
    all_goals first | rfl | (exfalso; omega) | (exact congrArg some (decide_eq_false (by omega)))
theorem points_from (s : ByteArray) (hs : s.size ≤ 100000) : ∀ (f p : Nat) (acc : List Int) (k : Nat), p ≤ s.size → s.size ≤ p + f → acc.length ≤ p → f + 12 ≤ k →
    chiselref01_Points.l0 k s acc p = some (if textFrom s f p then (acc ++ runesFrom s f p, 0) else ([], 10))
  | f, p, acc, 0, hp, hf, ha, hk => by omega
  | 0, p, acc, k + 1, hp, hf, ha, hk => by
    rw [chiselref01_Points.l0, if_neg (show ¬ (p : Int) < (s.size : Int) by omega)]
    simp [textFrom, runesFrom]
  | f + 1, p, acc, k + 1, hp, hf, ha, hk => by
    by_cases hlt : p < s.size
    · have hw := width_le s p hlt
      have hkp := Lib.decode_width_pos s p hlt
      rw [chiselref01_Points.l0, if_pos (show (p : Int) < (s.size : Int) by omega), next_pos s p hlt hs k (by omega)]
      simp only [Option.bind_some]
      rw [textFrom, if_pos hlt, runesFrom, if_pos hlt]
      rcases next_good s p hlt with ⟨h1, h2, h3, h4⟩ | ⟨h1, h2⟩
      · rw [if_neg (show ¬ ((nextAt s p).2 : Int) = 0 by omega), ischar_pos, h4]
        simp only [Option.bind_some, if_true]
        rw [if_pos (by omega), h2]
        have e : wrap64 ((p : Int) + ((Utf8.decode s p).2 : Int)) = ((p + (Utf8.decode s p).2 : Nat) : Int) := by rw [w64_id (by omega)]; omega
        rw [e, points_from s hs f _ _ k hw (by omega) (by rw [List.length_append, List.length_singleton]; omega) (by omega), h1, Bool.true_and]
        simp only [List.append_assoc, List.singleton_append]
      · rw [h1, Bool.false_and]
        by_cases h3 : (nextAt s p).2 = 0
        · rw [if_pos (show ((nextAt s p).2 : Int) = 0 by omega)]; rfl
        · have h4 : isCharB (nextAt s p).1 = false := h2.resolve_left h3
          rw [if_neg (show ¬ ((nextAt s p).2 : Int) = 0 by omega), ischar_pos, h4]
          rfl
    · rw [chiselref01_Points.l0, if_neg (show ¬ (p : Int) < (s.size : Int) by omega), textFrom, if_neg hlt, runesFrom, if_neg hlt]
      simp
/-- Points: the characters of a text, or that there is none. -/
theorem points_pos (s : ByteArray) (hs : s.size ≤ 100000) (k : Nat) (hk : s.size + 12 ≤ k) : chiselref01_Points.f k s = some (if isText s then (runesOf s, 0) else ([], 10)) := by
  have h := points_from s hs s.size 0 [] k (Nat.zero_le _) (by omega) (Nat.le_refl _) hk
  rw [List.nil_append] at h
  exact h
end Go.Proofs.YtibhifjehbajnaaDoor

namespace Go.Proofs.YtibhifjehbajnaaDoor
open Go.RowKit Go.Maps
set_option linter.unusedVariables false

def ofL (l : List UInt8) : ByteArray := ⟨l.toArray⟩
def cutS (c : UInt8) (s : ByteArray) : List ByteArray := (cut1 c s.data.toList).map ofL
def strs (l : List ByteArray) : List Value := l.map Value.string
theorem strs_len (l : List ByteArray) : (strs l).length = l.length := by simp [strs]
/-- The part that is open, and the parts behind it. -/
def glue (cur : ByteArray) : List (List UInt8) → List ByteArray
  | [] => [cur]
  | h :: t => (cur ++ ofL h) :: t.map ofL
theorem app_ofL (cur : ByteArray) (x y : List UInt8) : (cur ++ ofL x) ++ ofL y = cur ++ ofL (x ++ y) := by
  apply data_inj
  simp [ofL]
theorem glue_end (cur : ByteArray) : glue cur [[]] = [cur] := by
  have : cur ++ ofL [] = cur := data_inj (by simp [ofL])
  simp [glue, this]
theorem empty_ofL (h : List UInt8) : (⟨#[]⟩ : ByteArray) ++ ofL h = ofL h := data_inj (by simp [ofL])
theorem glue_hit (c : UInt8) (cur : ByteArray) (l : List UInt8) : glue cur (cut1 c (c :: l)) = cur :: glue ⟨#[]⟩ (cut1 c l) := by
  have hne := cut1_ne c l
  have h0 : cur ++ ofL [] = cur := data_inj (by simp [ofL])
  rw [cut1, if_pos rfl]
  cases h : cut1 c l with
  | nil => exact absurd h hne
  | cons a t => simp [glue, h0, empty_ofL]
theorem glue_miss (c b : UInt8) (cur : ByteArray) (l : List UInt8) (hb : b ≠ c) : glue cur (cut1 c (b :: l)) = glue (cur ++ ofL [b]) (cut1 c l) := by
  have hne := cut1_ne c l
  rw [cut1, if_neg hb]
  cases h : cut1 c l with
  | nil => exact absurd h hne
  | cons a t => simp [glue, app_ofL]
theorem glue_start (c : UInt8) (s : ByteArray) : glue ⟨#[]⟩ (cut1 c s.data.toList) = cutS c s := by
  have hne := cut1_ne c s.data.toList
  unfold cutS
  cases h : cut1 c s.data.toList with
  | nil => exact absurd h hne
  | cons a t => simp [glue, empty_ofL]
theorem cutS_lines (s : ByteArray) : cutS 10 s = linesOf s := by
  apply map_data_inj
  rw [lines_data]
  unfold cutS
  rw [List.map_map]
  have : ((fun x : ByteArray => x.data.toList) ∘ ofL) = id := by funext x; simp [ofL]
  rw [this, List.map_id]
theorem info_str : (Tryd.prog.info? 9).map (fun i => (i.zero, i.size, i.bytes)) = some (some (.string ⟨#[]⟩), 1, 16) := by kernel_rfl
theorem str_new (w : World) (x : ByteArray) : ∀ k, k < 1 * 1 → (w.alloc (.cells #[.string x] 9)).cell? (Addr.add ⟨w.heap.size, 0, none⟩ k) = [Value.string x][k]? := by
  intro k hk
  obtain rfl : k = 0 := by omega
  rw [show (Addr.add ⟨w.heap.size, 0, none⟩ 0) = ⟨w.heap.size, 0, none⟩ from rfl, World.cell?_alloc_at _ _ _ _ rfl]
  rfl
structure CutRel (W : World) (s : ByteArray) (c : UInt8) (k : Nat) (v : Value) (wr : World) (pre : List ByteArray) (cur : ByteArray) : Prop where
  own : wr.ownsRow W.heap.size 9 1 v (pre.length + 1) (strs (pre ++ [cur]))
  below : Below W.heap.size W wr
  eq : pre ++ glue cur (cut1 c (s.data.toList.drop k)) = cutS c s
  le : k ≤ s.size
  sz : cur.size ≤ k
  cnt : pre.length ≤ k

theorem own_form {w : World} {base : Nat} {e : TypeId} {v : Value} {n : Nat} {xs : List Value} (h : w.ownsRow base e 1 v (n + 1) xs) : ∃ g cap, v = .slice (some ⟨g, 0, none⟩) (n + 1) cap := by
  rcases h.2 with ⟨_, h0⟩ | ⟨g, cap, cur', hv, _⟩
  · omega
  · exact ⟨g, cap, hv⟩
set_option maxHeartbeats 1000000 in
set_option maxRecDepth 100000 in
theorem cut_calls (s : ByteArray) (c : UInt8) (W : World) (hs : s.size ≤ 100000) :
    Calls Tryd.prog 39 #[.string s, .int .u8 c.toNat] W fun e w' => ∃ v, e = .returned v ∧ w'.ownsRow W.heap.size 9 1 v (cutS c s).length (strs (cutS c s)) ∧ Below W.heap.size W w' := by
  go_enter Tryd.func39, Tryd.ntmps39
  go_wp2_with fail
  obtain ⟨W1, hW1⟩ : ∃ W1, W1 = W.alloc (.cells #[.string ⟨#[]⟩] 9) := ⟨_, rfl⟩
  have h1 : W1.ownsRow W.heap.size 9 1 (.slice (some ⟨W.heap.size, 0, none⟩) 1 1) 1 (strs [⟨#[]⟩]) := by
    rw [hW1]; exact World.ownsRow_lit W #[.string ⟨#[]⟩] 1 (Nat.le_refl _) (by decide) rfl
  have hb1 : Below W.heap.size W W1 := by rw [hW1]; exact (Below.refl _ _).alloc (Nat.le_refl _) _
  have hstart : CutRel W s c 0 (.slice (some ⟨W.heap.size, 0, none⟩) 1 1) W1 [] ⟨#[]⟩ := ⟨h1, hb1, by rw [List.drop_zero, glue_start]; rfl, Nat.zero_le _, Nat.le_refl _, Nat.le_refl _⟩
  have hstart := Lib.hid hstart
  rw [← hW1]
  clear hW1 h1 hb1
  obtain ⟨i0, hi, hz0, hz1, hz2⟩ := info_parts info_str
  go_loopw [5, 6] (fun v i wr => ∃ (k : Nat) (pre : List ByteArray) (cur : ByteArray) (g cap : Nat), v = .slice (some ⟨g, 0, none⟩) (pre.length + 1) cap ∧ i = .int .i64 k ∧ k ≤ s.size ∧ Hid (CutRel W s c k v wr pre cur)) (fun _ i _ => s.size - (intOf i).toNat)
  case atStart => exact ⟨0, [], _, _, _, rfl, rfl, Nat.zero_le _, hstart⟩
  case round =>
    obtain ⟨k, pre, cur, g, cap, rfl, rfl, hk, hh⟩ := hrel
    clear hstart
    obtain ⟨wo, hwo⟩ : ∃ wo : World, wo = wr := ⟨_, rfl⟩
    by_cases hlt : k < s.size
    · obtain ⟨b, hb⟩ : ∃ b, b = s[k]'hlt := ⟨_, rfl⟩
      have hdrop : Hid (s.data.toList.drop k = b :: s.data.toList.drop (k + 1)) := by
        have hk' : k < s.data.toList.length := by rw [← Lib.size_eq]; exact hlt
        have := List.drop_eq_getElem_cons hk'
        rw [hb]
        exact this
      by_cases he : b = c
      · have heq : ((((s[k]'hlt).toNat : Int)) == ((c.toNat : Nat) : Int)) = true := by rw [← hb, he]; simp
        have ho := hh.out.own
        have hbel := hh.out.below
        have hc1 := hh.out.cnt
        go_wp2_with (at_builtin; go_loud (refine wpList_append_own _ rfl _ _ 69 rfl W.heap.size 9 i0 (.string ⟨#[]⟩) 1 16 Tryd.underlying69 hi hz0 hz1 hz2 rfl (by decide) _ _ _ rfl (ho.alloc _) ⟨wr.heap.size, 0, none⟩ 1 1 [.string ⟨#[]⟩] rfl rfl (cell_one_new _ _ _) (fun y hy => by simp at hy; subst hy; rfl) (by unfold maxLen; omega) (by omega) (by have := hbel.size; simp; omega) ?_); intro v' w3 hown' hgrow3 hnil3)
        have hb3 : Below W.heap.size W w3 := Below.grown (hbel.alloc hbel.size _) hgrow3 (by have := hbel.size; simp; omega) (fun j hj => by have := (ho.lt _ hj).1; omega)
        obtain ⟨g3, cap3, hv3⟩ := own_form (n := pre.length + 1) hown'
        subst hv3
        go_roundw
        case rel =>
          refine ⟨k + 1, pre ++ [cur], ⟨#[]⟩, g3, cap3, by simp, by go_num, by omega, ⟨?_, hb3, ?_, by omega, Nat.zero_le _, by rw [List.length_append, List.length_singleton]; omega⟩⟩
          · have e : (pre ++ [cur]).length + 1 = pre.length + 1 + 1 := by simp
            rw [e]
            simpa [strs] using hown'
          · have h := hh.out.eq
            rw [hdrop.out, he, glue_hit] at h
            rw [← h]
            simp
        case measure => simp [intOf]; omega
      · have heq : ((((s[k]'hlt).toNat : Int)) == ((c.toNat : Nat) : Int)) = false := by
          rw [beq_eq_false_iff_ne, ← hb]
          intro h
          exact he (UInt8.toNat_inj.1 (by omega))
        have ho := hh.out.own
        have hbel := hh.out.below
        have hc1 := hh.out.cnt
        have hsz := hh.out.sz
        have hcell : wr.cell? ⟨g, pre.length, none⟩ = some (.string cur) := by
          rw [ho.cellAt pre.length (by omega)]
          simp [strs]
        have hfz := ho.frozenAt pre.length
        have hcat : (9223372036854775807 < cur.size + (k + 1 - k)) = False := eq_false (by omega)
        have hext : Hid (s.extract k (k + 1) = ofL [b]) := by
          apply data_inj
          have h1 : (s.extract k (k + 1)).data.toList = (s.data.toList.drop k).take (k + 1 - k) := ext_data s k (k + 1) (by omega) (by omega)
          rw [h1, hdrop.out]
          simp [ofL]
        go_wp2_with fail
        go_region
        rw [hext.out]
        obtain ⟨w2, hw2⟩ : ∃ w2, w2 = (wr.setCell ⟨g, pre.length, none⟩ (.string (cur ++ ofL [b]))).drew := ⟨_, rfl⟩
        have hst := ho.stored pre.length (.string (cur ++ ofL [b]))
        have ho2 : w2.ownsRow W.heap.size 9 1 (.slice (some ⟨g, 0, none⟩) (pre.length + 1) cap) (pre.length + 1) (strs (pre ++ [cur ++ ofL [b]])) := by
          rw [hw2]
          have e : strs (pre ++ [cur ++ ofL [b]]) = (strs (pre ++ [cur])).set pre.length (.string (cur ++ ofL [b])) := by
            simp [strs]
          rw [e]
          exact hst.1.drew
        have hb2 : Below W.heap.size W w2 := by
          rw [hw2]
          exact (Below.grown hbel hst.2 hbel.size (fun j hj => by have := (ho.lt _ hj).1; omega)).drew
        rw [← hw2]
        clear hw2 hst hcell hfz
        go_wp2
        go_roundw
        case rel =>
          refine ⟨k + 1, pre, cur ++ ofL [b], g, cap, rfl, by go_num, by omega, ⟨ho2, hb2, ?_, by omega, ?_, by omega⟩⟩
          · have h := hh.out.eq
            rw [hdrop.out, glue_miss c b cur _ he] at h
            exact h
          · rw [size_app]
            have : (ofL [b]).size = 1 := rfl
            omega
        case measure => simp [intOf]; omega
    · obtain rfl : k = s.size := by omega
      go_wp2_with fail
      go_ret
      have h := hh.out.eq
      rw [List.drop_of_length_le (by rw [← Lib.size_eq]; exact Nat.le_refl _), show cut1 c [] = [[]] from rfl, glue_end] at h
      refine ⟨_, rfl, ?_, hh.out.below⟩
      have ho := hh.out.own
      have hz : (cutS c s).length = pre.length + 1 := by rw [← h]; simp
      rw [hz, ← h]
      exact ho

theorem own_lower {w : World} {base base' : Nat} {e : TypeId} {size : Nat} {v : Value} {n : Nat} {xs : List Value} (h : w.ownsRow base e size v n xs) (hb : base' ≤ base) : w.ownsRow base' e size v n xs := by
  refine ⟨h.1, ?_⟩
  rcases h.2 with h | ⟨g, cap, cur, hv, hg, h⟩
  · exact .inl h
  · exact .inr ⟨g, cap, cur, hv, by omega, h⟩
/-- The words of a line, as the reference cuts them. -/
def wordsR (s : ByteArray) : List ByteArray := (cutS 32 s).filter fun x => !(x.toList == [])
structure WdRel (w1 : World) (l : List ByteArray) (k : Nat) (v : Value) (wr : World) (acc : List ByteArray) : Prop where
  own : wr.ownsRow w1.heap.size 9 1 v acc.length (strs acc)
  below : Below w1.heap.size w1 wr
  eq : acc = (l.take k).filter fun x => !(x.toList == [])
theorem cut1_len (c : UInt8) : ∀ l : List UInt8, (cut1 c l).length ≤ l.length + 1
  | [] => by simp [cut1]
  | b :: l => by
    have ih := cut1_len c l
    rw [cut1]
    split
    · simp; omega
    · split
      · simp
      · rename_i h r e
        rw [e] at ih
        simp at ih ⊢; omega
theorem cutS_len (c : UInt8) (s : ByteArray) : (cutS c s).length ≤ s.size + 1 := by
  have := cut1_len c s.data.toList
  rw [← Lib.size_eq] at this
  simpa [cutS] using this
set_option maxHeartbeats 1000000 in
set_option maxRecDepth 100000 in
theorem rwords_calls (s : ByteArray) (W : World) (hs : s.size ≤ 100000) :
    Calls Tryd.prog 41 #[.string s] W fun e w' => ∃ v, e = .returned v ∧ w'.ownsRow W.heap.size 9 1 v (wordsR s).length (strs (wordsR s)) ∧ Below W.heap.size W w' := by
  have hcut : Calls Tryd.prog 39 #[.string s, .int .u8 32] W fun e w' => ∃ v, e = .returned v ∧ w'.ownsRow W.heap.size 9 1 v (cutS 32 s).length (strs (cutS 32 s)) ∧ Below W.heap.size W w' := cut_calls s 32 W hs
  have hlen := cutS_len 32 s
  have hne : 0 < (cutS 32 s).length := by
    have := cut1_ne 32 s.data.toList
    unfold cutS
    rw [List.length_map]
    exact List.length_pos_iff.2 this
  have hwr : Hid (wordsR s = (cutS 32 s).filter fun x => !(x.toList == [])) := Lib.hid rfl
  go_enter Tryd.func41, Tryd.ntmps41
  go_wp2_with fail
  refine hcut.mono ?_
  rintro e w1 ⟨v1, rfl, ho1, hb1⟩
  clear hcut
  obtain ⟨l, hl⟩ : ∃ l, l = cutS 32 s := ⟨_, rfl⟩
  rw [← hl] at hlen hne ho1 hwr
  clear hl
  obtain ⟨n, hn⟩ : ∃ n, l.length = n + 1 := ⟨l.length - 1, by omega⟩
  obtain ⟨g1, cap1, rfl⟩ := own_form (n := n) (by rw [← hn]; exact ho1)
  rw [← hn] at ho1 ⊢
  clear hn
  have hg1 : g1 < w1.heap.size := (ho1.lt _ rfl).2
  have hbW := Lib.hid hb1
  have ho1 := Lib.hid ho1
  obtain ⟨i0, hi, hz0, hz1, hz2⟩ := info_parts info_str
  go_wp2_with fail
  go_loopw [4, 5] (fun v i wr => ∃ (k : Nat) (acc : List ByteArray), i = .int .i64 k ∧ k ≤ l.length ∧ acc.length ≤ k ∧ Hid (WdRel w1 l k v wr acc)) (fun _ i _ => l.length - (intOf i).toNat)
  case atStart => exact ⟨0, [], rfl, Nat.zero_le _, Nat.le_refl _, World.ownsRow_nil _ _ _ _, Below.refl _ _, rfl⟩
  case round =>
    obtain ⟨k, acc, rfl, hk, hak, hh⟩ := hrel
    obtain ⟨wo, hwo⟩ : ∃ wo : World, wo = wr := ⟨_, rfl⟩
    have hown := hh.out.own
    have hbel := hh.out.below
    by_cases hlt : k < l.length
    · obtain ⟨x, hx⟩ : ∃ x, x = l[k]'hlt := ⟨_, rfl⟩
      have hcell : wr.cell? ⟨g1, k, none⟩ = some (.string x) := by
        rw [hbel.cell (p := ⟨g1, k, none⟩) hg1, ho1.out.cellAt k (by omega), hx]
        simp [strs, hlt]
      have hsnoc : Hid (l.take (k + 1) = l.take k ++ [x]) := Lib.hid (by rw [List.take_succ_eq_append_getElem hlt, hx])
      clear hx
      by_cases he : x.toList = []
      · have hq : (x.toList == []) = true := by rw [he]; rfl
        go_wp2_with fail
        go_roundw
        case rel =>
          refine ⟨k + 1, acc, by go_num, by omega, by omega, ⟨hown, hbel, ?_⟩⟩
          rw [hsnoc.out, List.filter_append, ← hh.out.eq]
          simp [he]
        case measure => simp [intOf]; omega
      · have hq : (x.toList == []) = false := by rw [beq_eq_false_iff_ne]; exact he
        go_wp2_with (at_builtin; refine wpList_append_own _ rfl _ _ 69 rfl w1.heap.size 9 i0 (.string ⟨#[]⟩) 1 16 Tryd.underlying69 hi hz0 hz1 hz2 rfl (by decide) _ _ _ rfl (hown.alloc _) ⟨wr.heap.size, 0, none⟩ 1 1 [.string x] rfl rfl (cell_one_new _ _ _) (fun y hy => by simp at hy; subst hy; rfl) (by unfold maxLen; omega) (by omega) (by have := hbel.size; simp; omega) ?_; intro v' w3 hown' hgrow3 hnil3)
        have hb3 : Below w1.heap.size w1 w3 := Below.grown (hbel.alloc hbel.size _) hgrow3 (by have := hbel.size; simp; omega) (fun j hj => by have := (hown.lt _ hj).1; omega)
        go_roundw
        case rel =>
          refine ⟨k + 1, acc ++ [x], by go_num, by omega, by rw [List.length_append, List.length_singleton]; omega, ⟨?_, hb3, ?_⟩⟩
          · have e : (acc ++ [x]).length = acc.length + 1 := by simp
            rw [e]
            simpa [strs] using hown'
          · rw [hsnoc.out, List.filter_append, ← hh.out.eq, List.filter_cons, if_pos (by rw [hq]; rfl)]
            rfl
        case measure => simp [intOf]; omega
    · obtain rfl : k = l.length := by omega
      go_wp2_with fail
      go_ret
      have h := hh.out.eq
      rw [List.take_length, ← hwr.out] at h
      rw [← h]
      exact ⟨_, rfl, own_lower hown hbW.out.size, hbW.out.trans (hbel.mono hbW.out.size)⟩
end Go.Proofs.YtibhifjehbajnaaDoor

namespace Go.Proofs.YtibhifjehbajnaaDoor
open Go.RowKit Go.Maps
open Go.Proofs.YtibhifjehbajnaaDoor.Pform Go.Proofs.YtibhifjehbajnaaDoorW.PrintWords
set_option linter.unusedVariables false

theorem enc_no32 {c : Int} (hc : isCharB c = true) (h : c ≠ 32) : (32 : UInt8) ∉ Lib.encodeRune c := by
  intro hm
  have hxb := isCharB_cases hc
  rcases enc_shape hc with ⟨k, b0, e, h0⟩ | ⟨k1, k2, b0, b1, e, h0, h1⟩ | ⟨k1, k2, k3, b0, b1, b2, e, h0, h1, h2⟩ | ⟨k1, k2, b0, b1, b2, b3, e, h0, h1, h2, h3⟩ <;> rw [e] at hm <;> simp only [List.mem_cons, List.not_mem_nil, or_false] at hm
  all_goals
    have ht : ((32 : UInt8).toNat : Int) = 32 := by decide
    first
      | (subst hm; omega)
      | (rcases hm with rfl | rfl <;> omega)
      | (rcases hm with rfl | rfl | rfl <;> omega)
      | (rcases hm with rfl | rfl | rfl | rfl <;> omega)
def glueL (cur : List UInt8) : List (List UInt8) → List (List UInt8)
  | [] => [cur]
  | h :: t => (cur ++ h) :: t
theorem glueL_app (a b : List UInt8) (l : List (List UInt8)) : glueL a (glueL b l) = glueL (a ++ b) l := by cases l <;> simp [glueL]
theorem cut1_skip (c : UInt8) (l : List UInt8) : ∀ e : List UInt8, c ∉ e → cut1 c (e ++ l) = glueL e (cut1 c l)
  | [], _ => by
    have := cut1_ne c l
    cases h : cut1 c l with
    | nil => exact absurd h this
    | cons a t => simp [glueL, h]
  | b :: e, h => by
    rw [List.mem_cons, not_or] at h
    have ih := cut1_skip c l e h.2
    rw [List.cons_append, cut1, if_neg (fun q => h.1 q.symm), ih]
    cases hc : cut1 c l with
    | nil => simp [glueL]
    | cons a t => simp [glueL]
theorem encA_nil_iff (w : List Int) : encA w = [] ↔ w = [] := by
  cases w with
  | nil => simp [encA]
  | cons c w =>
    rw [encA_cons]
    constructor
    · intro h
      exact absurd (List.append_eq_nil_iff.1 h).1 enc_ne
    · intro h; cases h
def ne (l : List UInt8) : Bool := !(l == [])
theorem words_glue : ∀ (rs w : List Int), Chars rs → (glueL (encA w) (cut1 32 (encA rs))).filter ne = (fR (if w = [] then none else some w) rs).map encA
  | [], w, _ => by
    have e : glueL (encA w) (cut1 32 (encA [])) = [encA w] := by
      show glueL (encA w) [[]] = [encA w]
      simp [glueL]
    rw [e]
    by_cases h : w = []
    · subst h
      rw [if_pos rfl]; rfl
    · rw [if_neg h]
      have : ne (encA w) = true := by
        unfold ne
        rw [Bool.not_eq_true', beq_eq_false_iff_ne]
        exact fun q => h ((encA_nil_iff w).1 q)
      rw [List.filter_cons, if_pos this]; rfl
  | c :: rs, w, hc => by
    have hrs : Chars rs := fun x hx => hc x (List.mem_cons_of_mem _ hx)
    rw [encA_cons]
    by_cases h32 : c = 32
    · subst h32
      have e32 : Lib.encodeRune 32 = [32] := by decide
      have ih := words_glue rs [] hrs
      rw [if_pos rfl] at ih
      have eg : glueL (encA []) (cut1 32 (encA rs)) = cut1 32 (encA rs) := by
        have := cut1_ne 32 (encA rs)
        cases h : cut1 32 (encA rs) with
        | nil => exact absurd h this
        | cons a t => simp [glueL, encA]
      rw [eg] at ih
      rw [e32]
      have e2 : cut1 32 ([32] ++ encA rs) = [] :: cut1 32 (encA rs) := by
        show cut1 32 (32 :: encA rs) = _
        rw [cut1, if_pos rfl]
      rw [e2]
      show ((encA w ++ []) :: cut1 32 (encA rs)).filter ne = _
      rw [List.append_nil, List.filter_cons, ih]
      by_cases h : w = []
      · subst h
        rw [if_pos rfl, if_neg (by decide)]
        simp [fR]
      · have : ne (encA w) = true := by
          unfold ne
          rw [Bool.not_eq_true', beq_eq_false_iff_ne]
          exact fun q => h ((encA_nil_iff w).1 q)
        rw [if_pos this, if_neg h]
        simp [fR]
    · rw [cut1_skip 32 _ _ (enc_no32 (hc c (List.mem_cons_self ..)) h32), glueL_app]
      have e : encA w ++ Lib.encodeRune c = encA (w ++ [c]) := by rw [encA_app]; simp [encA]
      rw [e, words_glue rs (w ++ [c]) hrs, if_neg (by simp)]
      by_cases h : w = []
      · subst h
        rw [if_pos rfl, fR, if_neg h32]; rfl
      · rw [if_neg h, fR, if_neg h32]
/-- The words of a line of a text are those that the reference cuts. -/
theorem wordsR_eq {s : ByteArray} {rs : List Int} (hc : Chars rs) (h : s.data.toList = encA rs) : wordsR s = wordsOf s := by
  rw [words_enc hc h]
  have hg := words_glue rs [] hc
  rw [if_pos rfl] at hg
  have eg : glueL (encA []) (cut1 32 (encA rs)) = cut1 32 (encA rs) := by
    have := cut1_ne 32 (encA rs)
    cases h : cut1 32 (encA rs) with
    | nil => exact absurd h this
    | cons a t => simp [glueL, encA]
  rw [eg] at hg
  apply map_data_inj
  unfold wordsR cutS
  rw [h]
  have e1 : ((fR none rs).map mkB).map (·.data.toList) = (fR none rs).map encA := by
    rw [List.map_map]
    apply List.map_congr_left
    intro x _
    exact mkB_data x
  rw [e1, ← hg]
  generalize cut1 32 (encA rs) = l
  induction l with
  | nil => rfl
  | cons a t ih =>
    have e2 : (ofL a).toList = a := by rw [Lib.toList_data]; simp [ofL]
    rw [List.map_cons, List.filter_cons, List.filter_cons, e2]
    unfold ne at ih ⊢
    by_cases hq : (!(a == [])) = true
    · rw [if_pos hq, if_pos hq, List.map_cons, ih]
      simp [ofL]
    · rw [if_neg hq, if_neg hq, ih]
end Go.Proofs.YtibhifjehbajnaaDoor

namespace Go.Proofs.YtibhifjehbajnaaDoor
open Go.RowKit Go.Maps
open Go.Proofs.YtibhifjehbajnaaDoor.Pform Go.Proofs.YtibhifjehbajnaaDoorW.PrintWords
set_option linter.unusedVariables false

theorem digit_pos (b : UInt8) (k : Nat) (hk : 3 ≤ k) : chiselref03_digit.f k (b.toNat : Int) = some (match hexDigit b with | some d => (d : Int) | none => -1) := by
  obtain ⟨k, rfl⟩ : ∃ m, k = m + 3 := ⟨k - 3, by omega⟩
  obtain ⟨n, hn⟩ : ∃ n, n = b.toNat := ⟨_, rfl⟩
  have hlt : n < 256 := by rw [hn]; exact UInt8.toNat_lt _
  unfold hexDigit
  rw [← hn]
  clear hn
  unfold chiselref03_digit.f
  by_cases h1 : 48 ≤ n ∧ n ≤ 57
  · rw [if_pos (show (n : Int) ≥ 48 by omega), chiselref03_digit.j0, if_pos (decide_eq_true (by omega)), if_pos h1]
    exact congrArg some (by show _ = ((n - 48 : Nat) : Int); omega)
  · have h0 : (if (n : Int) ≥ 48 then chiselref03_digit.j0 (k + 3) n (decide ((n : Int) ≤ 57)) else chiselref03_digit.j0 (k + 3) n false) = chiselref03_digit.j0 (k + 3) n false := by
      by_cases h2 : (n : Int) ≥ 48
      · rw [if_pos h2, decide_eq_false (by omega)]
      · rw [if_neg h2]
    rw [h0, chiselref03_digit.j0, if_neg (by decide), if_neg h1]
    by_cases h2 : 65 ≤ n ∧ n ≤ 70
    · rw [if_pos (show (n : Int) ≥ 65 by omega), chiselref03_digit.j1, if_pos (decide_eq_true (by omega)), if_pos h2]
      exact congrArg some (by show _ = ((n - 55 : Nat) : Int); omega)
    · have h3 : (if (n : Int) ≥ 65 then chiselref03_digit.j1 (k + 2) n (decide ((n : Int) ≤ 70)) else chiselref03_digit.j1 (k + 2) n false) = chiselref03_digit.j1 (k + 2) n false := by
        by_cases h2 : (n : Int) ≥ 65
        · rw [if_pos h2, decide_eq_false (by omega)]
        · rw [if_neg h2]
      rw [h3, chiselref03_digit.j1, if_neg (by decide), if_neg h2]
      by_cases h4 : 97 ≤ n ∧ n ≤ 102
      · rw [if_pos (show (n : Int) ≥ 97 by omega), if_pos (show (n : Int) ≤ 102 by omega), if_pos h4]
        exact congrArg some (by show _ = ((n - 87 : Nat) : Int); omega)
      · rw [if_neg h4]
        by_cases h5 : (n : Int) ≥ 97
        · rw [if_pos h5, if_neg (by omega)]
        · rw [if_neg h5]
theorem form_some (c : Int) : ∃ t, chiselref01_form.f c = some t ∧ t.size ≤ 4 := by
  unfold chiselref01_form.f
  split
  · exact ⟨_, rfl, by rw [strOfNums_size]; simp⟩
  · split
    · exact ⟨_, rfl, by rw [strOfNums_size]; simp⟩
    · split
      · exact ⟨_, rfl, by rw [strOfNums_size]; simp⟩
      · exact ⟨_, rfl, by rw [strOfNums_size]; simp⟩
theorem from_pos (n : Int) (k : Nat) (hk : 3 ≤ k) : ∃ t, chiselref01_From.f k [n] = some (t, if isCharB n then 0 else 10) := by
  obtain ⟨k, rfl⟩ : ∃ m, k = m + 3 := ⟨k - 3, by omega⟩
  obtain ⟨t, ht, hz⟩ := form_some n
  unfold chiselref01_From.f
  rw [chiselref01_From.l0, if_pos (by simp), if_pos (by decide), show rd [n] 0 = n from rfl, ischar_pos, ht]
  simp only [Option.bind_some]
  cases hc : isCharB n with
  | false => exact ⟨⟨#[]⟩, rfl⟩
  | true =>
    rw [if_pos rfl, if_pos (by simp; omega), show wrap64 (0 + 1) = 1 from w64_id (by decide), chiselref01_From.l0, if_neg (by simp)]
    exact ⟨_, rfl⟩
def bd : Nat → Nat
  | 0 => 1
  | i + 1 => 16 * bd i
theorem bd_le : ∀ i, i ≤ 8 → bd i ≤ 4294967296 := by decide
theorem hexDigit_lt16 {b : UInt8} {d : Nat} (h : hexDigit b = some d) : d < 16 := by
  unfold hexDigit at h
  split at h
  · cases h; omega
  · split at h
    · cases h; omega
    · split at h
      · cases h; omega
      · cases h
theorem hex_from (w : ByteArray) (hw : w.size ≤ 8) : ∀ (f i n k : Nat), w.size = i + f → n < bd i → f + 10 ≤ k →
    chiselref03_char.l0 k w (n : Int) (i : Int) = some (match hexFrom n (w.data.toList.drop i) with | some m => if isCharB (m : Int) then (m : Int) else -1 | none => -1)
  | f, i, n, 0, _, _, hk => by omega
  | 0, i, n, k + 1, hz, hn, hk => by
    obtain ⟨t, ht⟩ := from_pos (n : Int) k (by omega)
    rw [chiselref03_char.l0, if_neg (by omega), ht, List.drop_of_length_le (by rw [← Lib.size_eq]; omega)]
    simp only [Option.bind_some, hexFrom]
    cases hc : isCharB (n : Int) <;> rfl
  | f + 1, i, n, k + 1, hz, hn, hk => by
    have hi : i < w.size := by omega
    have hb := bd_le i (by omega)
    obtain ⟨b, hbd⟩ : ∃ b, b = w.get! i := ⟨_, rfl⟩
    have hdrop : w.data.toList.drop i = b :: w.data.toList.drop (i + 1) := by
      have hk' : i < w.data.toList.length := by rw [← Lib.size_eq]; exact hi
      have h1 := List.drop_eq_getElem_cons hk'
      have h2 : w.data.toList[i] = b := by
        rw [hbd]
        simp only [ByteArray.get!]
        rw [getElem!_pos w.data i hi]
        rfl
      rw [h2] at h1
      exact h1
    rw [chiselref03_char.l0, if_pos (by omega), if_pos (by omega), bt_get, ← hbd, digit_pos b k (by omega), hdrop]
    simp only [Option.bind_some, hexFrom]
    cases hd : hexDigit b with
    | none => rw [if_pos (by decide)]
    | some d =>
      have hlt := hexDigit_lt16 hd
      simp only
      rw [if_neg (by omega)]
      have e1 : wrap64 (wrap64 (16 * (n : Int)) + (d : Int)) = ((16 * n + d : Nat) : Int) := by
        rw [w64_id (x := 16 * (n : Int)) (by omega), w64_id (by omega)]; omega
      have e2 : wrap64 ((i : Int) + 1) = ((i + 1 : Nat) : Int) := by rw [w64_id (by omega)]; omega
      rw [e1, e2]
      exact hex_from w hw f (i + 1) (16 * n + d) k (by omega) (by show _ < 16 * bd i; omega) (by omega)
theorem runes_len (w : ByteArray) : ∀ f p : Nat, (runesFrom w f p).length = Lib.runeCountFrom w f p
  | 0, p => rfl
  | f + 1, p => by
    rw [runesFrom, Lib.runeCountFrom]
    by_cases hp : p < w.size
    · rw [if_pos hp, if_pos hp, List.length_cons, runes_len w f]; omega
    · rw [if_neg hp, if_neg hp]; rfl
theorem lenOf_runes {w : ByteArray} (h : isText w = true) : lenOf w = ((runesOf w).length : Int) := by
  rw [lenOf_text h]
  have h1 : Lib.runeCount w = (runesOf w).length := (runes_len w _ _).symm
  rw [h1]
theorem sign_pos (w : ByteArray) : chiselref03_sign.f w = some (signB w) := by
  unfold chiselref03_sign.f signB
  by_cases h1 : w.toList = [60]
  · rw [if_pos h1, h1]; rfl
  · rw [if_neg h1]
    by_cases h2 : w.toList = [44]
    · rw [if_pos h2, h2]; rfl
    · rw [if_neg h2]
      have e1 : (w.toList == [60]) = false := beq_eq_false_iff_ne.2 h1
      have e2 : (w.toList == [44]) = false := beq_eq_false_iff_ne.2 h2
      rw [e1, e2]; rfl
def charZ (w : ByteArray) : Int := (charOf w).getD (-1)
/-- char: the character that a word writes, -1 if it writes none. -/
theorem char_pos (w : ByteArray) (hw : w.size ≤ 100000) (k : Nat) (hk : w.size + 30 ≤ k) : chiselref03_char.f k w = some (charZ w) := by
  obtain ⟨k, rfl⟩ : ∃ m, k = m + 20 := ⟨k - 20, by omega⟩
  have hsz : w.data.toList.length = w.size := (Lib.size_eq w).symm
  have hj : ∀ q : Bool, q = ([85, 43].isPrefixOf w.data.toList && decide (3 ≤ w.data.toList.length) && decide (w.data.toList.length ≤ 8)) → chiselref03_char.j0 (k + 20) w q = some (charZ w) := by
    intro q hq
    rw [chiselref03_char.j0]
    unfold charZ charOf
    simp only
    rw [← hq]
    cases q with
    | true =>
      have h3 := hq.symm
      simp only [Bool.and_eq_true, decide_eq_true_eq] at h3
      rw [if_pos rfl, if_pos rfl]
      have := hex_from w (by omega) (w.size - 2) 2 0 (k + 19) (by omega) (by decide) (by omega)
      rw [show ((0 : Nat) : Int) = 0 from rfl, show ((2 : Nat) : Int) = 2 from rfl] at this
      rw [this]
      cases hexFrom 0 (w.data.toList.drop 2) with
      | none => rfl
      | some m =>
        simp only
        cases isCharB (m : Int) <;> rfl
    | false =>
      rw [if_neg (by decide), if_neg (by decide), points_pos w hw (k + 19) (by omega)]
      simp only [Option.bind_some]
      by_cases h1 : lenOf w = 1
      · obtain ⟨ht, c, hr, hc, hd⟩ := lenOf_one h1
        have e1 : (lenOf w == 1) = true := beq_iff_eq.2 h1
        rw [ht, if_pos rfl, hr, e1, Bool.true_and, if_pos (by simp), sign_pos]
        simp only [Option.bind_some]
        cases hs : signB w with
        | true => rfl
        | false =>
          rw [if_neg (by decide), if_pos (by simp), rune0_of hc hd]; rfl
      · have e1 : (lenOf w == 1) = false := beq_eq_false_iff_ne.2 h1
        simp only [e1, Bool.false_and, Bool.false_eq_true, if_false]
        cases ht : isText w with
        | true =>
          rw [lenOf_runes ht] at h1
          rw [if_pos rfl, if_neg h1]; rfl
        | false => rfl
  have hpre : 2 ≤ w.size → ((w.extract 0 2).toList == ([85, 43] : List UInt8)) = [85, 43].isPrefixOf w.data.toList := by
    intro h2
    have e : (w.extract 0 2).toList = w.data.toList.take 2 := by
      rw [Lib.toList_data, ext_data w 0 2 (by omega) h2]; simp
    rw [e]
    cases hp : ([85, 43] : List UInt8).isPrefixOf w.data.toList with
    | true =>
      rw [List.isPrefixOf_iff_prefix] at hp
      obtain ⟨t, ht⟩ := hp
      rw [← ht]; simp
    | false =>
      rw [beq_eq_false_iff_ne]
      intro q
      rw [Bool.eq_false_iff] at hp
      apply hp
      rw [List.isPrefixOf_iff_prefix, ← q]
      exact List.take_prefix _ _
  unfold chiselref03_char.f
  by_cases h3 : 3 ≤ w.size
  · rw [if_pos (by omega)]
    by_cases h8 : w.size ≤ 8
    · rw [if_pos (by omega), if_pos (by decide), if_pos (by omega)]
      apply hj
      rw [hpre (by omega), decide_eq_true (show 3 ≤ w.data.toList.length by omega), decide_eq_true (show w.data.toList.length ≤ 8 by omega)]
      simp
    · rw [if_neg (by omega)]
      apply hj
      rw [decide_eq_false (show ¬ w.data.toList.length ≤ 8 by omega), Bool.and_false]
  · rw [if_neg (by omega)]
    apply hj
    rw [decide_eq_false (show ¬ 3 ≤ w.data.toList.length by omega), Bool.and_false, Bool.false_and]
end Go.Proofs.YtibhifjehbajnaaDoor

namespace Go.Proofs.YtibhifjehbajnaaDoor
open Go.RowKit Go.Maps
open Go.Proofs.YtibhifjehbajnaaDoor.Pform Go.Proofs.YtibhifjehbajnaaDoorW.PrintWords
set_option linter.unusedVariables false

theorem charZ_cases (w : ByteArray) : (charOf w = none ∧ charZ w = -1) ∨ ∃ c, charOf w = some c ∧ charZ w = c ∧ 0 ≤ c := by
  unfold charZ
  cases hc : charOf w with
  | none => exact .inl ⟨rfl, rfl⟩
  | some c =>
    refine .inr ⟨c, rfl, rfl, ?_⟩
    unfold charOf at hc
    simp only at hc
    split at hc
    · split at hc
      · split at hc
        · rename_i n _ _
          cases hc; omega
        · cases hc
      · cases hc
    · split at hc
      · cases hc
        unfold rune0
        omega
      · cases hc
theorem rd_words (l : List ByteArray) (i : Nat) (h : i < l.length) : rdOf ByteArray.empty l (i : Int) = l[i] := by
  unfold rdOf
  simp [h]
/-- The line with ignored characters. -/
theorem form_ig (l : List ByteArray) (hl : l.length ≤ 100000) (hs : ∀ x ∈ l, x.size ≤ 100000) : ∀ (f i : Nat) (acc : List Int) (k : Nat), l.length = i + f → acc.length ≤ i → f + 100040 ≤ k →
    chiselref03_form.l0 k l acc 1 (i : Int) = some (match charsOf (l.drop i) with | some cs => (acc ++ cs, decide (0 < (acc ++ cs).length)) | none => ([], false))
  | f, i, acc, 0, _, _, hk => by omega
  | 0, i, acc, k + 1, hz, ha, hk => by
    rw [chiselref03_form.l0, if_neg (by omega), List.drop_of_length_le (by omega)]
    simp only [charsOf, List.append_nil, if_true]
    by_cases h : 0 < acc.length
    · rw [if_pos (by omega), decide_eq_true h]
    · rw [if_neg (by omega), decide_eq_false h]
  | f + 1, i, acc, k + 1, hz, ha, hk => by
    have hi : i < l.length := by omega
    rw [chiselref03_form.l0, if_pos (by omega), if_pos (by omega), rd_words l i hi, char_pos _ (hs _ (List.getElem_mem hi)) k (by have := hs _ (List.getElem_mem hi); omega), List.drop_eq_getElem_cons hi]
    simp only [Option.bind_some, charsOf]
    rcases charZ_cases l[i] with ⟨h1, h2⟩ | ⟨c, h1, h2, h3⟩
    · rw [h2, h1, if_pos (by decide)]
    · rw [h2, h1, if_neg (by omega), if_neg (by decide), if_pos (by omega)]
      have e2 : wrap64 ((i : Int) + 1) = ((i + 1 : Nat) : Int) := by rw [w64_id (by omega)]; omega
      rw [e2, form_ig l hl hs f (i + 1) (acc ++ [c]) k (by omega) (by rw [List.length_append, List.length_singleton]; omega) (by omega)]
      cases charsOf (l.drop (i + 1)) with
      | none => rfl
      | some cs => simp
/-- The line with listed ones. -/
theorem form_li (l : List ByteArray) (hl : l.length ≤ 100000) (hs : ∀ x ∈ l, x.size ≤ 100000) : ∀ (f i : Nat) (acc : List Int) (k : Nat), l.length ≤ i + f → acc.length ≤ i → i % 2 = 0 → i ≤ l.length + 1 → f + 100040 ≤ k →
    chiselref03_form.l0 k l acc 2 (i : Int) = some (match formL false (l.drop i) with | some cs => (acc ++ cs, decide (0 < (acc ++ cs).length) && decide (l.length % 2 = 1)) | none => ([], false))
  | f, i, acc, 0, _, _, _, _, hk => by omega
  | f, i, acc, k + 1, hz, ha, hp, hil, hk => by
    by_cases hi : i < l.length
    · obtain ⟨f, rfl⟩ : ∃ m, f = m + 1 := ⟨f - 1, by omega⟩
      rw [chiselref03_form.l0, if_pos (by omega), if_pos (by omega), rd_words l i hi, char_pos _ (hs _ (List.getElem_mem hi)) k (by have := hs _ (List.getElem_mem hi); omega), List.drop_eq_getElem_cons hi]
      simp only [Option.bind_some, formL]
      have e1 : wrap64 ((i : Int) + 1) = ((i + 1 : Nat) : Int) := by rw [w64_id (by omega)]; omega
      have e2 : wrap64 ((i : Int) + 2) = ((i + 2 : Nat) : Int) := by rw [w64_id (by omega)]; omega
      rcases charZ_cases l[i] with ⟨h1, h2⟩ | ⟨c, h1, h2, h3⟩
      · rw [h2, h1, if_pos (by decide)]
      · have ih := form_li l hl hs f (i + 2) (acc ++ [c]) k (by omega) (by rw [List.length_append, List.length_singleton]; omega) (by omega) (by omega) (by omega)
        rw [h2, h1, if_neg (by omega), if_pos (by decide), e1, e2]
        by_cases hn : i + 1 < l.length
        · rw [if_pos (by omega), if_pos (by omega), rd_words l (i + 1) hn, sign_pos, List.drop_eq_getElem_cons hn]
          simp only [Option.bind_some, formL]
          cases hsg : signB l[i + 1] with
          | false => rw [if_neg (by decide)]; rfl
          | true =>
            rw [if_pos rfl, if_pos (by omega), ih]
            simp only [if_true]
            cases formL false (l.drop (i + 2)) with
            | none => rfl
            | some cs => simp
        · have hend : l.length = i + 1 := by omega
          have hd0 : l.drop (i + 1) = [] := List.drop_of_length_le (by omega)
          have hd1 : l.drop (i + 2) = [] := List.drop_of_length_le (by omega)
          rw [if_neg (by omega), if_pos (by omega), ih, hd0, hd1]
          simp [formL]
    · rw [chiselref03_form.l0, if_neg (by omega), List.drop_of_length_le (by omega)]
      simp only [formL, List.append_nil]
      by_cases h : 0 < acc.length
      · rw [if_pos (by omega), if_neg (by decide), decide_eq_true h, Bool.true_and]
        by_cases h2 : l.length % 2 = 1
        · have : ((l.length : Int) % 2 == 1) = true := by rw [beq_iff_eq]; omega
          rw [this, decide_eq_true h2]
        · have : ((l.length : Int) % 2 == 1) = false := by rw [beq_eq_false_iff_ne]; omega
          rw [this, decide_eq_false h2]
      · rw [if_neg (by omega), decide_eq_false h, Bool.false_and]
/-- What form says of the words of a line (the first of them is w). -/
def formP (w : ByteArray) (r : List ByteArray) : List Int × Bool :=
  if w.toList = [105, 103, 110, 111, 114, 101] then (match charsOf r with | some cs => (cs, decide (0 < cs.length)) | none => ([], false))
  else (match formL false (w :: r) with | some cs => (cs, decide (0 < cs.length) && decide ((w :: r).length % 2 = 1)) | none => ([], false))
theorem form_pos (w : ByteArray) (r : List ByteArray) (hl : (w :: r).length ≤ 100000) (hs : ∀ x ∈ w :: r, x.size ≤ 100000) : chiselref03_form.f 300000 (w :: r) = some (formP w r) := by
  unfold chiselref03_form.f formP
  rw [if_pos (by rw [List.length_cons]; omega)]
  have e0 : rdOf ByteArray.empty (w :: r) 0 = w := rfl
  rw [e0]
  by_cases h : w.toList = [105, 103, 110, 111, 114, 101]
  · rw [if_pos h, if_pos h]
    rw [show (300000 : Nat) = 299999 + 1 from rfl, chiselref03_form.j0]
    have := form_ig (w :: r) hl hs r.length 1 [] 299999 (by rw [List.length_cons]; omega) (by simp) (by rw [List.length_cons] at hl; omega)
    rw [show ((1 : Nat) : Int) = 1 from rfl] at this
    rw [this]
    simp only [List.drop_succ_cons, List.drop_zero, List.nil_append]
  · rw [if_neg h, if_neg h]
    rw [show (300000 : Nat) = 299999 + 1 from rfl, chiselref03_form.j0]
    have := form_li (w :: r) hl hs (w :: r).length 0 [] 299999 (by omega) (by simp) (by omega) (by omega) (by omega)
    rw [show ((0 : Nat) : Int) = 0 from rfl] at this
    rw [this]
    simp only [List.drop_zero, List.nil_append]
end Go.Proofs.YtibhifjehbajnaaDoor
