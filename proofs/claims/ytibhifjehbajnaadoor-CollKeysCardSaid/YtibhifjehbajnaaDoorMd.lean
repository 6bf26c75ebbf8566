/- CollOrder: rows of bytes are in a total order; the walk of the statement. CollPrefixes, the plain law: the key of a text is not above that of the text with further characters. CollPrefixes, the plain law: weights are small; the key of a text with further characters is not below. Texts as rows of characters: a text is the UTF-8 forms of its runes, one behind the other; these forms are in the order of the code points. CollLevels, the plain law: a description with one more line that states the strength; rows of triples compare level by level. CollIgnored, the plain law: words of a line by its characters; a description with one more line that ignores a character; keys without it; all instances of a character taken out of a text. -/
import Derived.Test.YtibhifjehbajnaaDoorMc
import Derived.Lib.MapLaws
import Derived.Lib.SplitLaws
import Derived.Lib.ReplaceLaws

namespace Go.Proofs.YtibhifjehbajnaaDoor
open Go.RowKit Go.Maps
set_option linter.unusedVariables false

theorem cb_range : ∀ (a b : List UInt8), Lib.compareBytes a b = -1 ∨ Lib.compareBytes a b = 0 ∨ Lib.compareBytes a b = 1
  | [], [] => .inr (.inl rfl)
  | [], _ :: _ => .inl rfl
  | _ :: _, [] => .inr (.inr rfl)
  | a :: r, b :: bs => by
    unfold Lib.compareBytes
    split
    · exact .inl rfl
    · split
      · exact .inr (.inr rfl)
      · exact cb_range r bs
theorem cb_self : ∀ a : List UInt8, Lib.compareBytes a a = 0
  | [] => rfl
  | a :: r => by
    unfold Lib.compareBytes
    rw [if_neg (UInt8.lt_irrefl a), if_neg (UInt8.lt_irrefl a)]
    exact cb_self r
theorem u8_lt {a b : UInt8} : a < b ↔ a.toNat < b.toNat := Iff.rfl
theorem cb_cons (a b : UInt8) (r s : List UInt8) : Lib.compareBytes (a :: r) (b :: s) = if a.toNat < b.toNat then -1 else if b.toNat < a.toNat then 1 else Lib.compareBytes r s := by
  rw [Lib.compareBytes]; simp only [u8_lt]
theorem cb_anti : ∀ (a b : List UInt8), Lib.compareBytes b a = - Lib.compareBytes a b
  | [], [] => rfl
  | [], _ :: _ => rfl
  | _ :: _, [] => rfl
  | a :: r, b :: s => by
    rw [cb_cons, cb_cons]
    have := cb_anti r s
    repeat' split
    all_goals omega
theorem cb_eq : ∀ (a b : List UInt8), Lib.compareBytes a b = 0 → a = b
  | [], [], _ => rfl
  | [], _ :: _, h => by cases h
  | _ :: _, [], h => by cases h
  | a :: r, b :: s, h => by
    rw [cb_cons] at h
    by_cases ha : a.toNat < b.toNat
    · rw [if_pos ha] at h; cases h
    · by_cases hb : b.toNat < a.toNat
      · rw [if_neg ha, if_pos hb] at h; cases h
      · rw [if_neg ha, if_neg hb] at h
        have : a = b := UInt8.toNat_inj.1 (by omega)
        rw [this, cb_eq r s h]
theorem cb_lt : ∀ (a b c : List UInt8), Lib.compareBytes a b = -1 → Lib.compareBytes b c = -1 → Lib.compareBytes a c = -1
  | [], [], _, h, _ => by cases h
  | [], _ :: _, [], _, h => by cases h
  | [], _ :: _, _ :: _, _, _ => rfl
  | _ :: _, [], _, h, _ => by cases h
  | _ :: _, _ :: _, [], _, h => by cases h
  | a :: r, b :: s, c :: u, h, k => by
    rw [cb_cons] at h k ⊢
    by_cases ha : a.toNat < b.toNat
    · by_cases hb : b.toNat < c.toNat
      · rw [if_pos (by omega)]
      · rw [if_neg hb] at k
        by_cases hc : c.toNat < b.toNat
        · rw [if_pos hc] at k; cases k
        · rw [if_pos (by omega)]
    · rw [if_neg ha] at h
      by_cases hb : b.toNat < a.toNat
      · rw [if_pos hb] at h; cases h
      · rw [if_neg hb] at h
        by_cases hc : b.toNat < c.toNat
        · rw [if_pos (by omega)]
        · rw [if_neg hc] at k
          by_cases hd : c.toNat < b.toNat
          · rw [if_pos hd] at k; cases k
          · rw [if_neg hd] at k
            rw [if_neg (by omega), if_neg (by omega)]
            exact cb_lt r s u h k
/-- Three rows of bytes: how they compare, as far as the statement asks. -/
theorem cb_three (a b c : List UInt8) : ∀ x y z, x = Lib.compareBytes a b → y = Lib.compareBytes b c → z = Lib.compareBytes a c →
    ((x = -1 ∧ y = -1 ∧ z = -1) ∨ (x = -1 ∧ y = 0 ∧ z = -1) ∨ (x = -1 ∧ y = 1) ∨ (x = 0 ∧ y = -1 ∧ z = -1) ∨ (x = 0 ∧ y = 0 ∧ z = 0) ∨ (x = 0 ∧ y = 1 ∧ z = 1) ∨ (x = 1 ∧ y = -1) ∨ (x = 1 ∧ y = 0 ∧ z = 1) ∨ (x = 1 ∧ y = 1 ∧ z = 1)) := by
  rintro x y z rfl rfl rfl
  rcases cb_range a b with h | h | h
  · rcases cb_range b c with k | k | k
    · have := cb_lt a b c h k; omega
    · have := cb_eq b c k; subst this; omega
    · omega
  · have := cb_eq a b h
    subst this
    rcases cb_range a c with k | k | k <;> omega
  · rcases cb_range b c with k | k | k
    · omega
    · have := cb_eq b c k; subst this; omega
    · have h1 := cb_anti a b
      have h2 := cb_anti b c
      have h3 := cb_anti a c
      have := cb_lt c b a (by omega) (by omega)
      omega

theorem cmpP_self (t : CT) (a : ByteArray) : cmpP t a a = 0 := cb_self _
theorem cmpP_anti (t : CT) (a b : ByteArray) : cmpP t b a = - cmpP t a b := cb_anti _ _
theorem strs_of (W : World) (ws : List ByteArray) : StrsAt (W.alloc (.cells (ws.map Value.string).toArray 9)) W.heap.size 0 ws := by
  refine ⟨by simp, fun j hj => ?_⟩
  rw [World.cell?_alloc_at _ _ _ _ rfl]
  simp [hj]

set_option maxHeartbeats 8000000 in
set_option maxRecDepth 100000 in
theorem order_walk (text a b c : ByteArray) (W : World) (hL : LaidW W) (hl : lightB text [a, b, c] = true) :
    Calls Tryd.prog 6 #[.string text, .string a, .string b, .string c] W fun e w' => e = .returned (.bool true) ∧ Below W.heap.size W w' := by
  have hz : (a.size ≤ 200 ∧ b.size ≤ 200 ∧ c.size ≤ 200) ∧ text.size ≤ 2000 := by simpa [lightB] using hl
  have hlc : Calls Tryd.prog 14 #[.string text, .slice (some ⟨W.heap.size, 0, none⟩) 3 3] (W.alloc (.cells #[.string a, .string b, .string c] 9)) fun e w' => e = .returned (.bool true) ∧ (W.alloc (.cells #[.string a, .string b, .string c] 9)) = w' := by
    have := light_calls text [a, b, c] W.heap.size _ (strs_of W [a, b, c]) (by simp)
    rw [hl] at this
    exact this
  have h3 := cb_three (Lib.bytesOf (keyP (tabOf text) a)) (Lib.bytesOf (keyP (tabOf text) b)) (Lib.bytesOf (keyP (tabOf text) c)) _ _ _ rfl rfl rfl
  change ((cmpP (tabOf text) a b = -1 ∧ cmpP (tabOf text) b c = -1 ∧ cmpP (tabOf text) a c = -1) ∨ _) at h3
  have hanti := cmpP_anti (tabOf text) a b
  have hself := cmpP_self (tabOf text) a
  have hkb : cmpB (keyP (tabOf text) a) (keyP (tabOf text) b) = cmpP (tabOf text) a b := rfl
  have h3 : ((cmpP (tabOf text) a b = -1 ∧ cmpP (tabOf text) b c = -1 ∧ cmpP (tabOf text) a c = -1) ∨ (cmpP (tabOf text) a b = -1 ∧ cmpP (tabOf text) b c = 0 ∧ cmpP (tabOf text) a c = -1) ∨ (cmpP (tabOf text) a b = -1 ∧ cmpP (tabOf text) b c = 1) ∨ (cmpP (tabOf text) a b = 0 ∧ cmpP (tabOf text) b c = -1 ∧ cmpP (tabOf text) a c = -1) ∨ (cmpP (tabOf text) a b = 0 ∧ cmpP (tabOf text) b c = 0 ∧ cmpP (tabOf text) a c = 0) ∨ (cmpP (tabOf text) a b = 0 ∧ cmpP (tabOf text) b c = 1 ∧ cmpP (tabOf text) a c = 1) ∨ (cmpP (tabOf text) a b = 1 ∧ cmpP (tabOf text) b c = -1) ∨ (cmpP (tabOf text) a b = 1 ∧ cmpP (tabOf text) b c = 0 ∧ cmpP (tabOf text) a c = 1) ∨ (cmpP (tabOf text) a b = 1 ∧ cmpP (tabOf text) b c = 1 ∧ cmpP (tabOf text) a c = 1)) := h3
  generalize hx : cmpP (tabOf text) a b = x at h3 hanti hkb
  generalize hy : cmpP (tabOf text) b c = y at h3
  generalize hzz : cmpP (tabOf text) a c = z at h3
  generalize hxn : cmpP (tabOf text) b a = xn at hanti
  have h4 : ((x = -1 ∧ xn = 1 ∧ y = -1 ∧ z = -1) ∨ (x = -1 ∧ xn = 1 ∧ y = 0 ∧ z = -1) ∨ (x = -1 ∧ xn = 1 ∧ y = 1) ∨ (x = 0 ∧ xn = 0 ∧ y = -1 ∧ z = -1) ∨ (x = 0 ∧ xn = 0 ∧ y = 0 ∧ z = 0) ∨ (x = 0 ∧ xn = 0 ∧ y = 1 ∧ z = 1) ∨ (x = 1 ∧ xn = -1 ∧ y = -1) ∨ (x = 1 ∧ xn = -1 ∧ y = 0 ∧ z = 1) ∨ (x = 1 ∧ xn = -1 ∧ y = 1 ∧ z = 1)) := by
    rcases h3 with h | h | h | h | h | h | h | h | h
    · exact .inl ⟨h.1, by omega, h.2⟩
    · exact .inr (.inl ⟨h.1, by omega, h.2⟩)
    · exact .inr (.inr (.inl ⟨h.1, by omega, h.2⟩))
    · exact .inr (.inr (.inr (.inl ⟨h.1, by omega, h.2⟩)))
    · exact .inr (.inr (.inr (.inr (.inl ⟨h.1, by omega, h.2⟩))))
    · exact .inr (.inr (.inr (.inr (.inr (.inl ⟨h.1, by omega, h.2⟩)))))
    · exact .inr (.inr (.inr (.inr (.inr (.inr (.inl ⟨h.1, by omega, h.2⟩))))))
    · exact .inr (.inr (.inr (.inr (.inr (.inr (.inr (.inl ⟨h.1, by omega, h.2⟩)))))))
    · exact .inr (.inr (.inr (.inr (.inr (.inr (.inr (.inr (⟨h.1, by omega, h.2⟩))))))))
  clear h3
  have hx := Lib.hid hx
  have hy := Lib.hid hy
  have hzz := Lib.hid hzz
  have hxn := Lib.hid hxn
  clear hanti
  have hself := Lib.hid hself
  have hkb := Lib.hid hkb
  obtain ⟨⟨ha, hb, hc⟩, ht⟩ := hz
  clear hl
  go_enter Tryd.func6, Tryd.ntmps6
  go_wp2_with (go_at_call 14; refine hlc.mono ?_; rintro e w1 ⟨rfl, rfl⟩)
  obtain ⟨W1, hW1⟩ : ∃ W1, W1 = W.alloc (.cells #[.string a, .string b, .string c] 9) := ⟨_, rfl⟩
  have hb1 : Below W.heap.size W W1 := by rw [hW1]; exact (Below.refl _ _).alloc (Nat.le_refl _) _
  rw [← hW1]
  clear hW1 hlc
  have hL1 := hL.below hb1 hL.size
  go_wp2_with fail
  refine (Parse_gives text W1 hL1 (by omega)).mono ?_
  rintro e w2 ⟨p, rfl, hp, hb2, hG⟩
  have hG := Lib.hid hG
  have hL2 := Lib.hid (hL1.below hb2 hL1.size)
  clear hp
  go_wp2_with fail
  refine (Compare_calls w2 p _ hG.out a b (by omega) (by omega)).mono ?_
  rintro e w3 ⟨rfl, hb3⟩
  rw [hx.out]
  go_wp2_with fail
  refine (Compare_calls w3 p _ (hG.out.later hb3) b c (by omega) (by omega)).mono ?_
  rintro e w4 ⟨rfl, hb4⟩
  rw [hy.out]
  have hb34 := hb3.trans (hb4.mono hb3.size)
  clear hb3 hb4
  go_wp2_with fail
  refine (Compare_calls w4 p _ (hG.out.later hb34) a c (by omega) (by omega)).mono ?_
  rintro e w5 ⟨rfl, hb5⟩
  rw [hzz.out]
  have hb25 := hb34.trans (hb5.mono hb34.size)
  clear hb34 hb5
  rcases h4 with ⟨rfl, rfl, rfl, rfl⟩ | ⟨rfl, rfl, rfl, rfl⟩ | ⟨rfl, rfl, rfl⟩ | ⟨rfl, rfl, rfl, rfl⟩ | ⟨rfl, rfl, rfl, rfl⟩ | ⟨rfl, rfl, rfl, rfl⟩ | ⟨rfl, rfl, rfl⟩ | ⟨rfl, rfl, rfl, rfl⟩ | ⟨rfl, rfl, rfl, rfl⟩
  all_goals
    go_wp2_with fail
    refine (Compare_calls w5 p _ (hG.out.later hb25) b a (by omega) (by omega)).mono ?_
    rintro e w6 ⟨rfl, hb6⟩
    rw [hxn.out]
    have hb26 := hb25.trans (hb6.mono hb25.size)
    clear hb25 hb6
    go_wp2_with fail
    refine (Compare_calls w6 p _ (hG.out.later hb26) a a (by omega) (by omega)).mono ?_
    rintro e w7 ⟨rfl, hb7⟩
    rw [hself.out]
    have hb27 := hb26.trans (hb7.mono hb26.size)
    clear hb26 hb7
    go_wp2_with fail
    refine (hG.out w7 hb27 a (by omega)).mono ?_
    rintro e w8 ⟨v1, rfl, ho1, hb8⟩
    have hr1 := Lib.hid (bytesRd_of ho1)
    have hb28 := hb27.trans (hb8.mono hb27.size)
    clear ho1 hb27 hb8
    go_wp2_with fail
    refine (hG.out w8 hb28 b (by omega)).mono ?_
    rintro e w9 ⟨v2, rfl, ho2, hb9⟩
    have hr2 := Lib.hid (bytesRd_of ho2)
    have hr3 := Lib.hid (hr1.out.below hb9)
    have hb29 := hb28.trans (hb9.mono hb28.size)
    clear ho2 hb28 hb9
    go_wp2_with fail
    refine (Compare_bytes w9 v1 v2 _ _ hr3.out hr2.out).mono ?_
    rintro e w10 ⟨rfl, rfl⟩
    rw [hkb.out]
    go_wp2_with fail
    refine (works_calls w9 (hL2.out.below hb29 hL2.out.size)).mono ?_
    rintro e w11 ⟨rfl, hb11⟩
    go_wp2_with fail
    go_ret
    have q1 := hb1.size
    have q2 := hb2.size
    have q3 := hb29.size
    exact ⟨rfl, hb1.trans ((hb2.mono q1).trans ((hb29.mono (by omega)).trans (hb11.mono (by omega))))⟩

theorem order_all (text a b c : ByteArray) (W : World) (hL : LaidW W) (h0 : text.size ≤ maxLen) (h1 : a.size ≤ maxLen) (h2 : b.size ≤ maxLen) (h3 : c.size ≤ maxLen) :
    Calls Tryd.prog 6 #[.string text, .string a, .string b, .string c] W fun e w' => e = .returned (.bool true) ∧ Below W.heap.size W w' := by
  cases hl : lightB text [a, b, c] with
  | true => exact order_walk text a b c W hL hl
  | false =>
    have hlc : Calls Tryd.prog 14 #[.string text, .slice (some ⟨W.heap.size, 0, none⟩) 3 3] (W.alloc (.cells #[.string a, .string b, .string c] 9)) fun e w' => e = .returned (.bool false) ∧ (W.alloc (.cells #[.string a, .string b, .string c] 9)) = w' := by
      have := light_calls text [a, b, c] W.heap.size _ (strs_of W [a, b, c]) (by simp)
      rw [hl] at this
      exact this
    have hb1 : Below W.heap.size W (W.alloc (.cells #[.string a, .string b, .string c] 9)) := (Below.refl _ _).alloc (Nat.le_refl _) _
    have hL1 := hL.below hb1 hL.size
    go_enter Tryd.func6, Tryd.ntmps6
    go_wp2_with (first | (go_at_call 14; refine hlc.mono ?_; rintro e w1 ⟨rfl, rfl⟩) | (go_at_call 15; refine (works_calls _ hL1).mono ?_; rintro e w2 ⟨rfl, hb2⟩))
    go_ret
    exact ⟨rfl, hb1.trans (hb2.mono hb1.size)⟩
end Go.Proofs.YtibhifjehbajnaaDoor

namespace Go.Proofs.YtibhifjehbajnaaDoor
open Go.RowKit Go.Maps
set_option linter.unusedVariables false

theorem decodeN_more (n n' b0 b1 b2 b3 c1 c2 c3 : Nat) (hn : n ≤ n') (h1 : 1 < n → c1 = b1) (h2 : 2 < n → c2 = b2) (h3 : 3 < n → c3 = b3) (hne : Lib.decodeN n b0 b1 b2 b3 ≠ (65533, 1)) : Lib.decodeN n' b0 c1 c2 c3 = Lib.decodeN n b0 b1 b2 b3 := by
  rcases Lib.decodeN_shape n b0 b1 b2 b3 with ⟨a, e⟩ | ⟨a, b, c, d, e⟩ | ⟨a, b, c, d, f, g, e⟩ | ⟨a, b, c, d, f, g, h, e⟩ | e
  · rw [e]; unfold Lib.decodeN; rw [if_pos a]
  · rw [e]
    obtain rfl := h1 b
    unfold Lib.decodeN
    rw [if_neg (by omega), if_pos ⟨a, by omega, c⟩, if_pos d]
  · rw [e]
    obtain rfl := h1 (by omega)
    obtain rfl := h2 b
    unfold Lib.decodeN
    rw [if_neg (by omega), if_neg (by omega), if_pos ⟨a, ⟨by omega, c⟩, by omega, d⟩, if_pos ⟨f, by omega⟩]
  · rw [e]
    obtain rfl := h1 (by omega)
    obtain rfl := h2 (by omega)
    obtain rfl := h3 b
    unfold Lib.decodeN
    rw [if_neg (by omega), if_neg (by omega), if_neg (by omega), if_pos ⟨a, ⟨by omega, c⟩, ⟨by omega, d⟩, by omega, f⟩, if_pos ⟨g, by omega⟩]
  · exact absurd e hne

theorem get_app (a b : ByteArray) (i : Nat) (h : i < a.size) : (a ++ b).get! i = a.get! i := by
  have e : (a ++ b).data = a.data ++ b.data := by simp
  show (a ++ b).data[i]! = a.data[i]!
  rw [e, getElem!_pos (a.data ++ b.data) i (by have h' : i < a.data.size := h; simp; omega), getElem!_pos a.data i h, Array.getElem_append_left h]
theorem size_app (a b : ByteArray) : (a ++ b).size = a.size + b.size := by simp

theorem decode_app (a b : ByteArray) (p : Nat) (hp : p < a.size) (hne : Utf8.decode a p ≠ (65533, 1)) : Utf8.decode (a ++ b) p = Utf8.decode a p := by
  rw [Lib.decode_at, Lib.decode_at] at *
  rw [get_app a b p hp, size_app]
  refine decodeN_more _ _ _ _ _ _ _ _ _ (by omega) (fun h => ?_) (fun h => ?_) (fun h => ?_) hne
  · rw [get_app a b _ (by omega)]
  · rw [get_app a b _ (by omega)]
  · rw [get_app a b _ (by omega)]

theorem good_ne (a : ByteArray) (p : Nat) (hp : p < a.size) (hg : goodAt a p ((Utf8.decode a p).1 : Int) = true) : Utf8.decode a p ≠ (65533, 1) := by
  intro e
  rw [e] at hg
  have hpre : [239, 191, 189].isPrefixOf (a.extract p a.size).data.toList = true := by
    unfold goodAt at hg
    rw [Bool.and_eq_true] at hg
    have h2 := hg.2
    cases hh : [239, 191, 189].isPrefixOf (a.extract p a.size).data.toList with
    | true => rfl
    | false => rw [hh] at h2; exact absurd h2 (by decide)
  have hd : (a.extract p a.size).data.toList = a.data.toList.drop p := by
    have h0 : (a.data.toList.drop p).length = a.size - p := by rw [List.length_drop, ← Lib.size_eq]
    have h1 : (a.extract p a.size).data.toList = (a.data.toList.drop p).take (a.size - p) := by simp [ByteArray.data_extract, Array.toList_extract]
    rw [h1, List.take_of_length_le (by omega)]
  rw [hd] at hpre
  obtain ⟨r, hr⟩ := List.isPrefixOf_iff_prefix.1 hpre
  have hlen : 3 + r.length = a.size - p := by
    have := congrArg List.length hr
    have h0 : (a.data.toList.drop p).length = a.size - p := by rw [List.length_drop, ← Lib.size_eq]
    rw [h0] at this
    simp at this
    omega
  have hb : ∀ i (h : i < 3), (a.get! (p + i)).toNat = [239, 191, 189].getD i 0 := by
    intro i hi
    have h1 : (a.data.toList.drop p)[i]? = some (([239, 191, 189] : List UInt8).getD i 0) := by
      rw [← hr]
      rcases (show i = 0 ∨ i = 1 ∨ i = 2 by omega) with rfl | rfl | rfl <;> rfl
    rw [List.getElem?_drop] at h1
    show (a.data[p + i]!).toNat = _
    rw [getElem!_pos a.data (p + i) (show p + i < a.data.size from by show p + i < a.size; omega)]
    have h2 : a.data.toList[p + i]? = some (a.data[p + i]'(by show p + i < a.size; omega)) := by simp
    rw [h2] at h1
    injection h1 with h1
    rw [h1]
    rcases (show i = 0 ∨ i = 1 ∨ i = 2 by omega) with rfl | rfl | rfl <;> rfl
  rw [Lib.decode_at] at e
  have g0 := hb 0 (by omega)
  have g1 := hb 1 (by omega)
  have g2 := hb 2 (by omega)
  simp only [Nat.add_zero] at g0
  rw [g0, g1, g2] at e
  have h3 : 2 < a.size - p := by omega
  simp [Lib.decodeN, show 1 < a.size - p by omega, h3] at e

theorem runes_app (a b : ByteArray) : ∀ (f p f' : Nat), a.size ≤ p + f → textFrom a f p = true → (a ++ b).size ≤ p + f' → ∃ rest, runesFrom (a ++ b) f' p = runesFrom a f p ++ rest
  | 0, p, f', _, _, _ => ⟨_, rfl⟩
  | f + 1, p, f', h1, ht, h2 => by
    by_cases hp : p < a.size
    · rw [textFrom, if_pos hp, Bool.and_eq_true] at ht
      have hne := good_ne a p hp ht.1
      have hd := decode_app a b p hp hne
      have hk := Lib.decode_width_pos a p hp
      rw [size_app] at h2
      obtain ⟨g, rfl⟩ : ∃ g, f' = g + 1 := ⟨f' - 1, by omega⟩
      obtain ⟨rest, hr⟩ := runes_app a b f (p + (Utf8.decode a p).2) g (by omega) ht.2 (by rw [size_app]; omega)
      refine ⟨rest, ?_⟩
      rw [runesFrom, if_pos (by rw [size_app]; omega), hd, hr]
      rw [show runesFrom a (f + 1) p = ((Utf8.decode a p).1 : Int) :: runesFrom a f (p + (Utf8.decode a p).2) by rw [runesFrom, if_pos hp]]
      rfl
    · rw [show runesFrom a (f + 1) p = [] by rw [runesFrom, if_neg hp]]
      exact ⟨_, rfl⟩
theorem runesOf_app (a b : ByteArray) (h : isText a = true) : ∃ rest, runesOf (a ++ b) = runesOf a ++ rest :=
  runes_app a b a.size 0 (a ++ b).size (by omega) h (by omega)
end Go.Proofs.YtibhifjehbajnaaDoor

namespace Go.Proofs.YtibhifjehbajnaaDoor
open Go.RowKit Go.Maps
set_option linter.unusedVariables false

/-- The weights in a table are at most as many as its characters. -/
def wOk (t : CT) : Prop := ∀ x ∈ t.M, x.2.1 ≤ t.M.length ∧ x.2.2.1 ≤ t.M.length ∧ x.2.2.2 ≤ t.M.length
theorem wOk_mono {t : CT} {M : List (Int × W3)} (h : wOk t) (hl : t.M.length ≤ M.length) (hM : ∀ x ∈ M, x ∈ t.M ∨ (x.2.1 ≤ M.length ∧ x.2.2.1 ≤ M.length ∧ x.2.2.2 ≤ M.length)) : ∀ x ∈ M, x.2.1 ≤ M.length ∧ x.2.2.1 ≤ M.length ∧ x.2.2.2 ≤ M.length := by
  intro x hx
  rcases hM x hx with h1 | h1
  · have := h x h1; omega
  · exact h1
theorem putAll_mem : ∀ {M : List (Int × W3)} {l M' : List (Int × W3)}, putAll M l = some M' → (∀ x ∈ l, x.2 = (0, 0, 0)) → ∀ x ∈ M', x ∈ M ∨ x.2 = (0, 0, 0)
  | M, [], M', h, _ => by simp [putAll] at h; subst h; exact fun x hx => .inl hx
  | M, y :: l, M', h, hz => by
    simp only [putAll] at h
    split at h
    · cases h
    · intro x hx
      rcases putAll_mem h (fun z hz' => hz z (List.mem_cons_of_mem _ hz')) x hx with h1 | h1
      · rcases List.mem_append.1 h1 with h2 | h2
        · exact .inl h2
        · have : x = y := by simpa using h2
          subst this
          exact .inr (hz x (List.mem_cons_self ..))
      · exact .inr h1
theorem listPut_w {ws : List ByteArray} : ∀ {l : List Int} {i : Nat} {t t' : CT}, listPut ws i l t = some t' → t.ok → wOk t → wOk t'
  | [], i, t, t', h, ho, hw => by simp [listPut] at h; subst h; exact hw
  | c :: l, i, t, t', h, ho, hw => by
    simp only [listPut] at h
    split at h
    · cases h
    · have hk := CT.ok_after ho (signAt ws i) c
      refine listPut_w h hk ?_
      refine wOk_mono (t := t) (M := t.M ++ [(c, afterW t.last (signAt ws i))]) hw (by simp) (fun x hx => ?_)
      rcases List.mem_append.1 hx with h2 | h2
      · exact .inl h2
      · have : x = (c, afterW t.last (signAt ws i)) := by simpa using h2
        subst this
        obtain ⟨k1, k2, k3, k4, k5, k6⟩ := hk
        exact .inr ⟨k2, k4, k6⟩
theorem addP_w {t : CT} {ws : List ByteArray} (ho : t.ok) (hw : wOk t) : wOk (addP t ws).1 := by
  unfold addP
  split
  · exact hw
  · split
    · exact hw
    · split
      · unfold levelP
        repeat' split
        all_goals exact hw
      · split
        · unfold ignoreP
          split
          · exact hw
          · exact hw
          · split
            · exact hw
            · rename_i M hM
              have hl := putAll_ok hM
              refine wOk_mono (t := t) (M := M) hw hl (fun x hx => ?_)
              rcases putAll_mem hM (fun y hy => by obtain ⟨z, _, rfl⟩ := List.mem_map.1 hy; rfl) x hx with h1 | h1
              · exact .inl h1
              · rw [h1]; exact .inr ⟨by simp, by simp, by simp⟩
        · unfold listP
          split
          · exact hw
          · split
            · exact hw
            · split
              · exact hw
              · rename_i t' ht
                exact listPut_w ht ho hw
theorem parseL_w : ∀ (ls : List ByteArray) (i : Nat) (t : CT), t.ok → t.M.length ≤ 4096 → wOk t → (parseL i t ls).2.1 = 0 → wOk (parseL i t ls).2.2
  | [], i, t, h1, h2, h3, _ => h3
  | l :: ls, i, t, h1, h2, h3, he => by
    rw [parseL] at he ⊢
    by_cases hc : (addP t (wordsOf l)).2 = 0
    · rw [if_pos hc] at he ⊢
      have := addP_ok hc h1 h2
      exact parseL_w ls _ _ this.1 this.2 (addP_w h1 h3) he
    · rw [if_neg hc] at he
      exact absurd he hc
theorem wOk_t0 : wOk t0 := fun x hx => by cases hx
theorem parseP_w (s : ByteArray) (he : (parseP s).2.1 = 0) : wOk (parseP s).2.2 := by
  unfold parseP at he ⊢
  split
  · exact wOk_t0
  · rename_i h
    rw [if_neg h] at he
    split
    · exact wOk_t0
    · rename_i h2
      rw [if_neg h2] at he
      exact parseL_w (linesOf s) 0 t0 (by simp [CT.ok, t0]) (by simp [t0]) wOk_t0 he

/-- What the law asks of a table. -/
structure Fine (t : CT) : Prop where
  ok : t.ok
  len : t.M.length ≤ 4096
  st : stOk t
  w : wOk t
theorem fine_tabOf (s : ByteArray) : Fine (tabOf s) := by
  unfold tabOf
  split
  · rename_i he
    have := parseP_inv s he
    exact ⟨this.1, this.2.1, this.2.2, parseP_w s he⟩
  · exact ⟨by simp [CT.ok, t0], by simp [t0], ⟨by decide, by decide⟩, wOk_t0⟩

theorem getW_mem : ∀ (M : List (Int × W3)) (c : Int) (d : W3), getW M c d = d ∨ ∃ x ∈ M, x.2 = getW M c d := by
  intro M c d
  unfold getW
  split
  · rename_i p hp
    exact .inr ⟨p, List.mem_of_find?_eq_some hp, rfl⟩
  · exact .inl rfl
theorem weight_lt {t : CT} (h : Fine t) (k : Nat) (c : Int) (hc : c ≤ 1114111) : comp (weightOf t c) k < 16777216 := by
  obtain ⟨h1, h2, _⟩ := h.ok
  have hl := h.len
  have hcase : (weightOf t c).1 < 16777216 ∧ (weightOf t c).2.1 < 16777216 ∧ (weightOf t c).2.2 < 16777216 := by
    unfold weightOf
    split
    · rcases getW_mem t.M c (0, 0, 0) with e | ⟨x, hx, e⟩
      · rw [e]; decide
      · rw [← e]
        have := h.w x hx
        omega
    · exact ⟨by show c + t.last.1 + 1 < 16777216; omega, by show (1 : Int) < 16777216; decide, by show (1 : Int) < 16777216; decide⟩
  unfold comp
  split
  · exact hcase.1
  · exact hcase.2.1
  · exact hcase.2.2

theorem cb_app : ∀ (p x y : List UInt8), Lib.compareBytes (p ++ x) (p ++ y) = Lib.compareBytes x y
  | [], _, _ => rfl
  | a :: p, x, y => by
    rw [List.cons_append, List.cons_append, cb_cons, if_neg (by omega), if_neg (by omega)]
    exact cb_app p x y
theorem cb_pre : ∀ (x y : List UInt8), Lib.compareBytes x (x ++ y) ≤ 0
  | [], [] => by decide
  | [], _ :: _ => by show (-1 : Int) ≤ 0; decide
  | a :: x, y => by
    rw [List.cons_append, cb_cons, if_neg (by omega), if_neg (by omega)]
    exact cb_pre x y
theorem bytes_app (x y : List Int) : Lib.bytesOf (x ++ y) = Lib.bytesOf x ++ Lib.bytesOf y := by simp [Lib.bytesOf]
theorem cb_zero (n : Int) (h0 : 0 < n) (h1 : n < 16777216) (u v : List Int) : Lib.compareBytes (Lib.bytesOf ([0, 0, 0] ++ u)) (Lib.bytesOf (three n ++ v)) = -1 := by
  have e : three n = [n / 65536 % 256, n / 256 % 256, n % 256] := rfl
  rw [e]
  simp only [Lib.bytesOf, List.map_cons, List.cons_append, List.nil_append, cb_cons]
  have z : (UInt8.ofNat (Int.toNat 0)).toNat = 0 := rfl
  have f : ∀ m : Int, 0 ≤ m → m < 256 → (UInt8.ofNat m.toNat).toNat = m.toNat := fun m a b => by
    rw [UInt8.toNat_ofNat']; omega
  rw [z, f _ (by omega) (by omega), f _ (by omega) (by omega), f _ (by omega) (by omega)]
  by_cases c1 : 0 < (n / 65536 % 256).toNat
  · rw [if_pos c1]
  · rw [if_neg c1, if_neg (by omega)]
    by_cases c2 : 0 < (n / 256 % 256).toNat
    · rw [if_pos c2]
    · rw [if_neg c2, if_neg (by omega)]
      rw [if_pos (by omega)]
theorem level_first {t : CT} (h : Fine t) (k : Nat) : ∀ cs : List Int, (∀ c ∈ cs, c ≤ 1114111) → levelOf t k cs = [] ∨ ∃ n rest, levelOf t k cs = three n ++ rest ∧ 0 < n ∧ n < 16777216
  | [], _ => .inl rfl
  | c :: cs, hc => by
    rw [levelOf_cons]
    by_cases hp : 0 < comp (weightOf t c) k
    · have : lev1 t k c = three (comp (weightOf t c) k) := if_pos hp
      rw [this]
      exact .inr ⟨_, _, rfl, hp, weight_lt h k c (hc c (List.mem_cons_self ..))⟩
    · have : lev1 t k c = [] := if_neg hp
      rw [this, List.nil_append]
      exact level_first h k cs (fun x hx => hc x (List.mem_cons_of_mem _ hx))
theorem level_app (t : CT) (k : Nat) (x y : List Int) : levelOf t k (x ++ y) = levelOf t k x ++ levelOf t k y := by simp [levelOf]

/-- Behind a shared front: one more level. -/
theorem more (front L0a L0b u v : List Int) (hf : L0b = [] ∨ ∃ n rest, L0b = three n ++ rest ∧ 0 < n ∧ n < 16777216) (h : Lib.compareBytes (Lib.bytesOf u) (Lib.bytesOf v) ≤ 0) :
    Lib.compareBytes (Lib.bytesOf (front ++ (L0a ++ ([0, 0, 0] ++ u)))) (Lib.bytesOf (front ++ ((L0a ++ L0b) ++ ([0, 0, 0] ++ v)))) ≤ 0 := by
  rw [bytes_app, bytes_app front, cb_app, List.append_assoc, bytes_app, bytes_app L0a, cb_app]
  rcases hf with rfl | ⟨n, rest, rfl, h0, h1⟩
  · rw [List.nil_append, bytes_app, bytes_app [0, 0, 0], cb_app]; exact h
  · rw [List.append_assoc, cb_zero n h0 h1]; decide

theorem key_pre {t : CT} (h : Fine t) (ra rb : List Int) (hb : ∀ c ∈ rb, c ≤ 1114111) (k : Nat) : cmpB (keyK t ra k) (keyK t (ra ++ rb) k) ≤ 0 := by
  unfold cmpB keyK
  rw [level_app, level_app, level_app]
  have f0 := level_first h 0 rb hb
  have f1 := level_first h 1 rb hb
  by_cases h2 : 2 ≤ k
  · by_cases h3 : 3 ≤ k
    · rw [if_pos h2, if_pos h3, if_pos h2, if_pos h3]
      have e : ∀ a b c d : List Int, (a ++ ([0, 0, 0] ++ b)) ++ ([0, 0, 0] ++ c) = [] ++ (a ++ ([0, 0, 0] ++ (b ++ ([0, 0, 0] ++ c)))) := by intros; simp
      rw [e _ _ _ [], e _ _ _ []]
      refine more _ _ _ _ _ f0 ?_
      have := more [] (levelOf t 1 ra) (levelOf t 1 rb) (levelOf t 2 ra) (levelOf t 2 ra ++ levelOf t 2 rb) f1 (by rw [bytes_app]; exact cb_pre _ _)
      simpa using this
    · rw [if_pos h2, if_neg h3, if_pos h2, if_neg h3]
      have := more [] (levelOf t 0 ra) (levelOf t 0 rb) (levelOf t 1 ra) (levelOf t 1 ra ++ levelOf t 1 rb) f0 (by rw [bytes_app]; exact cb_pre _ _)
      simpa using this
  · rw [if_neg h2, if_neg (by omega), if_neg h2, if_neg (by omega)]
    simp only [List.append_nil]
    rw [bytes_app]
    exact cb_pre _ _

theorem runesFrom_max (s : ByteArray) : ∀ (f p : Nat), ∀ c ∈ runesFrom s f p, c ≤ 1114111
  | 0, p, c, h => by simp [runesFrom] at h
  | f + 1, p, c, h => by
    rw [runesFrom] at h
    split at h
    · rcases List.mem_cons.1 h with rfl | h
      · have := decode_max s p; omega
      · exact runesFrom_max s f _ c h
    · cases h
theorem cmp_pre (d a b : ByteArray) (ha : isText a = true) (hab : isText (a ++ b) = true) : cmpP (tabOf d) a (a ++ b) ≤ 0 := by
  obtain ⟨rb, hr⟩ := runesOf_app a b ha
  unfold cmpP keyP
  rw [if_pos ha, if_pos hab, hr]
  refine key_pre (fine_tabOf d) _ _ (fun c hc => runesFrom_max (a ++ b) _ _ c (show c ∈ runesOf (a ++ b) from ?_)) _
  rw [hr]
  exact List.mem_append_right _ hc
end Go.Proofs.YtibhifjehbajnaaDoor

namespace Go.Proofs.YtibhifjehbajnaaDoor
open Go.RowKit Go.Maps
set_option linter.unusedVariables false

def encA (rs : List Int) : List UInt8 := (rs.map Lib.encodeRune).flatten
theorem encA_cons (c : Int) (rs : List Int) : encA (c :: rs) = Lib.encodeRune c ++ encA rs := by simp [encA]
theorem encA_nil : encA [] = [] := rfl
theorem encA_app (a b : List Int) : encA (a ++ b) = encA a ++ encA b := by simp [encA]
abbrev Chars (rs : List Int) : Prop := ∀ c ∈ rs, isCharB c = true

theorem isCharB_cases {c : Int} (h : isCharB c = true) : (9 ≤ c ∧ c < 55296) ∨ (57344 ≤ c ∧ c ≤ 1114111) := by
  simp only [isCharB, Bool.or_eq_true, Bool.and_eq_true, beq_iff_eq, decide_eq_true_eq] at h
  omega
theorem u8_of (z : Int) (h0 : 0 ≤ z) (h1 : z < 256) : (z.toNat.toUInt8.toNat : Int) = z := by
  have : z.toNat.toUInt8.toNat = z.toNat := by
    show z.toNat % 256 = z.toNat
    omega
  rw [this]; omega
/-- The four forms. -/
theorem enc_shape {c : Int} (h : isCharB c = true) :
    (c < 128 ∧ ∃ b0 : UInt8, Lib.encodeRune c = [b0] ∧ (b0.toNat : Int) = c) ∨
    (128 ≤ c ∧ c ≤ 2047 ∧ ∃ b0 b1 : UInt8, Lib.encodeRune c = [b0, b1] ∧ (b0.toNat : Int) = 192 + c / 64 ∧ (b1.toNat : Int) = 128 + c % 64) ∨
    (2048 ≤ c ∧ c ≤ 65535 ∧ (c < 55296 ∨ 57343 < c) ∧ ∃ b0 b1 b2 : UInt8, Lib.encodeRune c = [b0, b1, b2] ∧ (b0.toNat : Int) = 224 + c / 4096 ∧ (b1.toNat : Int) = 128 + c / 64 % 64 ∧ (b2.toNat : Int) = 128 + c % 64) ∨
    (65536 ≤ c ∧ c ≤ 1114111 ∧ ∃ b0 b1 b2 b3 : UInt8, Lib.encodeRune c = [b0, b1, b2, b3] ∧ (b0.toNat : Int) = 240 + c / 262144 ∧ (b1.toNat : Int) = 128 + c / 4096 % 64 ∧ (b2.toNat : Int) = 128 + c / 64 % 64 ∧ (b3.toNat : Int) = 128 + c % 64) := by
  have hc := isCharB_cases h
  rcases (show c < 128 ∨ (128 ≤ c ∧ c ≤ 2047) ∨ (2048 ≤ c ∧ c ≤ 65535) ∨ 65536 ≤ c by omega) with k | k | k | k
  · left
    refine ⟨k, _, by rw [Lib.encodeRune, Lib.encodeRuneZ_one (by omega) (by omega)]; rfl, u8_of _ (by omega) (by omega)⟩
  · right; left
    refine ⟨k.1, k.2, _, _, by rw [Lib.encodeRune, Lib.encodeRuneZ_two (by omega) (by omega)]; rfl, u8_of _ (by omega) (by omega), u8_of _ (by omega) (by omega)⟩
  · right; right; left
    refine ⟨k.1, k.2, by omega, _, _, _, by rw [Lib.encodeRune, Lib.encodeRuneZ_three (by omega)]; rfl, u8_of _ (by omega) (by omega), u8_of _ (by omega) (by omega), u8_of _ (by omega) (by omega)⟩
  · right; right; right
    refine ⟨k, by omega, _, _, _, _, by rw [Lib.encodeRune, Lib.encodeRuneZ_four (by omega) (by omega)]; rfl, u8_of _ (by omega) (by omega), u8_of _ (by omega) (by omega), u8_of _ (by omega) (by omega), u8_of _ (by omega) (by omega)⟩
theorem enc_ne {c : Int} : Lib.encodeRune c ≠ [] := by
  intro e
  have := (Lib.encodeRuneZ_length c).1
  have h : (Lib.encodeRune c).length = (Lib.encodeRuneZ c).length := by simp [Lib.encodeRune]
  rw [e] at h; simp at h; omega
/-- What was written is read. -/
theorem decode_encode {c : Int} (h : isCharB c = true) (t : List UInt8) : Lib.decodeL (Lib.encodeRune c ++ t) = (c.toNat, (Lib.encodeRune c).length) := by
  have hc := isCharB_cases h
  rw [Lib.decodeL_N]
  rcases enc_shape h with ⟨k, b0, e, h0⟩ | ⟨k1, k2, b0, b1, e, h0, h1⟩ | ⟨k1, k2, k3, b0, b1, b2, e, h0, h1, h2⟩ | ⟨k1, k2, b0, b1, b2, b3, e, h0, h1, h2, h3⟩
  · rw [e]
    simp only [List.cons_append, List.nil_append, List.length_cons, List.length_nil, List.getD_cons_zero]
    unfold Lib.decodeN
    rw [if_pos (by omega)]
    exact Prod.ext (by show b0.toNat = _; omega) rfl
  · rw [e]
    simp only [List.cons_append, List.nil_append, List.length_cons, List.length_nil, List.getD_cons_zero, List.getD_cons_succ]
    unfold Lib.decodeN
    rw [if_neg (by omega), if_pos (by omega), if_pos (by omega)]
    exact Prod.ext (by show _ = c.toNat; simp only; omega) rfl
  · rw [e]
    simp only [List.cons_append, List.nil_append, List.length_cons, List.length_nil, List.getD_cons_zero, List.getD_cons_succ]
    unfold Lib.decodeN
    rw [if_neg (by omega), if_neg (by omega), if_pos (by omega), if_pos (by omega)]
    exact Prod.ext (by show _ = c.toNat; simp only; omega) rfl
  · rw [e]
    simp only [List.cons_append, List.nil_append, List.length_cons, List.length_nil, List.getD_cons_zero, List.getD_cons_succ]
    unfold Lib.decodeN
    rw [if_neg (by omega), if_neg (by omega), if_neg (by omega), if_pos (by omega), if_pos (by omega)]
    exact Prod.ext (by show _ = c.toNat; simp only; omega) rfl

theorem drop_extract (s : ByteArray) (p : Nat) (hp : p ≤ s.size) : (s.extract p s.size).data.toList = s.data.toList.drop p := by
  have h0 : (s.data.toList.drop p).length = s.size - p := by rw [List.length_drop, ← Lib.size_eq]
  have h1 : (s.extract p s.size).data.toList = (s.data.toList.drop p).take (s.size - p) := by simp [ByteArray.data_extract, Array.toList_extract]
  rw [h1, List.take_of_length_le (by omega)]
theorem text_enc_from (s : ByteArray) : ∀ (f p : Nat), p ≤ s.size → s.size ≤ p + f → textFrom s f p = true → s.data.toList.drop p = encA (runesFrom s f p) ∧ Chars (runesFrom s f p)
  | 0, p, hp, hf, _ => by
    refine ⟨?_, fun c hc => by cases hc⟩
    rw [List.drop_of_length_le (by rw [← Lib.size_eq]; omega)]; rfl
  | f + 1, p, hp, hf, ht => by
    by_cases hlt : p < s.size
    · rw [textFrom, if_pos hlt, Bool.and_eq_true] at ht
      have hne := good_ne s p hlt ht.1
      have hw := width_le s p hlt
      have hk := Lib.decode_width_pos s p hlt
      have ih := text_enc_from s f _ hw (by omega) ht.2
      rw [runesFrom, if_pos hlt, encA_cons, ← ih.1]
      have hl : s.data.toList.drop p ≠ [] := fun e => by
        have : (s.data.toList.drop p).length = 0 := by rw [e]; rfl
        rw [List.length_drop, ← Lib.size_eq] at this; omega
      have he := Lib.encode_decode (s.data.toList.drop p) hl (by
        rw [Lib.decodeL_drop]
        intro ⟨h1, h2⟩
        exact hne (Prod.ext h1 h2))
      rw [Lib.decodeL_drop] at he
      refine ⟨?_, fun c hc => ?_⟩
      · rw [he, ← List.drop_drop, List.take_append_drop]
      · rcases List.mem_cons.1 hc with rfl | hc
        · have := ht.1
          unfold goodAt at this
          rw [Bool.and_eq_true] at this
          exact this.1
        · exact ih.2 c hc
    · rw [runesFrom, if_neg hlt]
      refine ⟨?_, fun c hc => by cases hc⟩
      rw [List.drop_of_length_le (by rw [← Lib.size_eq]; omega)]; rfl
/-- A text is the forms of its characters. -/
theorem text_enc {s : ByteArray} (h : isText s = true) : s.data.toList = encA (runesOf s) ∧ Chars (runesOf s) := by
  have := text_enc_from s s.size 0 (Nat.zero_le _) (by omega) h
  rw [List.drop_zero] at this
  exact this
theorem enc_text_from (s : ByteArray) : ∀ (rs : List Int) (f p : Nat), Chars rs → s.data.toList.drop p = encA rs → p ≤ s.size → s.size ≤ p + f → textFrom s f p = true ∧ runesFrom s f p = rs
  | [], f, p, _, hd, hp, hf => by
    have hl : (s.data.toList.drop p).length = 0 := by rw [hd]; rfl
    rw [List.length_drop, ← Lib.size_eq] at hl
    have hlt : ¬ p < s.size := by omega
    cases f with
    | zero => exact ⟨rfl, rfl⟩
    | succ f => rw [textFrom, if_neg hlt, runesFrom, if_neg hlt]; exact ⟨rfl, rfl⟩
  | c :: rs, f, p, hc, hd, hp, hf => by
    have h1 := hc c (List.mem_cons_self ..)
    have hn := (isCharB_cases h1)
    rw [encA_cons] at hd
    have hw0 : 0 < (Lib.encodeRune c).length := List.length_pos_iff.2 enc_ne
    have hl := congrArg List.length hd
    rw [List.length_drop, ← Lib.size_eq, List.length_append] at hl
    have hlt : p < s.size := by omega
    obtain ⟨g, rfl⟩ : ∃ g, f = g + 1 := ⟨f - 1, by omega⟩
    have hdec : Utf8.decode s p = (c.toNat, (Lib.encodeRune c).length) := by
      rw [← Lib.decodeL_drop, hd, decode_encode h1]
    have hd2 : s.data.toList.drop (p + (Lib.encodeRune c).length) = encA rs := by
      rw [← List.drop_drop, hd, List.drop_left]
    have ih := enc_text_from s rs g (p + (Lib.encodeRune c).length) (fun x hx => hc x (List.mem_cons_of_mem _ hx)) hd2 (by omega) (by omega)
    have hcc : ((c.toNat : Nat) : Int) = c := by omega
    rw [textFrom, if_pos hlt, runesFrom, if_pos hlt, hdec]
    simp only [hcc]
    refine ⟨?_, by rw [ih.2]⟩
    rw [ih.1, Bool.and_true]
    unfold goodAt
    rw [h1, Bool.true_and]
    by_cases e : c = 65533
    · have hp2 : [239, 191, 189].isPrefixOf (s.extract p s.size).data.toList = true := by
        rw [drop_extract s p hp, hd, e]
        have : Lib.encodeRune 65533 = [239, 191, 189] := by decide
        rw [this]
        simp [List.isPrefixOf]
      rw [hp2]; simp
    · have : (c == 65533) = false := beq_eq_false_iff_ne.2 e
      rw [this]; rfl
/-- The forms of characters are a text with these characters. -/
theorem enc_text {s : ByteArray} {rs : List Int} (hc : Chars rs) (h : s.data.toList = encA rs) : isText s = true ∧ runesOf s = rs :=
  enc_text_from s rs s.size 0 hc (by simpa using h) (Nat.zero_le _) (by omega)

/-- Rows of numbers in order. -/
def cmpI : List Int → List Int → Int
  | [], [] => 0
  | [], _ :: _ => -1
  | _ :: _, [] => 1
  | a :: x, b :: y => if a < b then -1 else if b < a then 1 else cmpI x y
theorem cb_lt_enc {c d : Int} (hc : isCharB c = true) (hd : isCharB d = true) (h : c < d) (u v : List UInt8) : Lib.compareBytes (Lib.encodeRune c ++ u) (Lib.encodeRune d ++ v) = -1 := by
  rcases enc_shape hc with ⟨k, b0, e, h0⟩ | ⟨k1, k2, b0, b1, e, h0, h1⟩ | ⟨k1, k2, k3, b0, b1, b2, e, h0, h1, h2⟩ | ⟨k1, k2, b0, b1, b2, b3, e, h0, h1, h2, h3⟩ <;>
  rcases enc_shape hd with ⟨m, d0, e', g0⟩ | ⟨m1, m2, d0, d1, e', g0, g1⟩ | ⟨m1, m2, m3, d0, d1, d2, e', g0, g1, g2⟩ | ⟨m1, m2, d0, d1, d2, d3, e', g0, g1, g2, g3⟩ <;>
  (rw [e, e']; simp only [List.cons_append, List.nil_append]; rw [cb_cons])
  · rw [if_pos (by omega)]
  · rw [if_pos (by omega)]
  · rw [if_pos (by omega)]
  · rw [if_pos (by omega)]
  · omega
  · by_cases q0 : b0.toNat < d0.toNat
    · rw [if_pos q0]
    · rw [if_neg q0, if_neg (by omega), cb_cons, if_pos (by omega)]
  · rw [if_pos (by omega)]
  · rw [if_pos (by omega)]
  · omega
  · omega
  · by_cases q0 : b0.toNat < d0.toNat
    · rw [if_pos q0]
    · rw [if_neg q0, if_neg (by omega), cb_cons]
      by_cases q1 : b1.toNat < d1.toNat
      · rw [if_pos q1]
      · rw [if_neg q1, if_neg (by omega), cb_cons, if_pos (by omega)]
  · rw [if_pos (by omega)]
  · omega
  · omega
  · omega
  · by_cases q0 : b0.toNat < d0.toNat
    · rw [if_pos q0]
    · rw [if_neg q0, if_neg (by omega), cb_cons]
      by_cases q1 : b1.toNat < d1.toNat
      · rw [if_pos q1]
      · rw [if_neg q1, if_neg (by omega), cb_cons]
        by_cases q2 : b2.toNat < d2.toNat
        · rw [if_pos q2]
        · rw [if_neg q2, if_neg (by omega), cb_cons, if_pos (by omega)]
/-- Texts are in the order of their characters. -/
theorem cb_enc : ∀ {x y : List Int}, Chars x → Chars y → Lib.compareBytes (encA x) (encA y) = cmpI x y
  | [], [], _, _ => rfl
  | [], c :: y, _, hy => by
    rw [encA_cons, encA_nil, cmpI]
    cases h : Lib.encodeRune c with
    | nil => exact absurd h enc_ne
    | cons a l => rfl
  | c :: x, [], _, _ => by
    rw [encA_cons, encA_nil, cmpI]
    cases h : Lib.encodeRune c with
    | nil => exact absurd h enc_ne
    | cons a l => rfl
  | c :: x, d :: y, hx, hy => by
    have h1 := hx c (List.mem_cons_self ..)
    have h2 := hy d (List.mem_cons_self ..)
    rw [encA_cons, encA_cons, cmpI]
    by_cases q : c < d
    · rw [if_pos q, cb_lt_enc h1 h2 q]
    · rw [if_neg q]
      by_cases q2 : d < c
      · rw [if_pos q2, cb_anti, cb_lt_enc h2 h1 q2]; rfl
      · obtain rfl : c = d := by omega
        rw [if_neg q2, cb_app]
        exact cb_enc (fun a ha => hx a (List.mem_cons_of_mem _ ha)) (fun a ha => hy a (List.mem_cons_of_mem _ ha))
end Go.Proofs.YtibhifjehbajnaaDoor

namespace Go.Proofs.YtibhifjehbajnaaDoor
open Go.RowKit Go.Maps
set_option linter.unusedVariables false

def cut1 (c : UInt8) : List UInt8 → List (List UInt8)
  | [] => [[]]
  | b :: l => if b = c then [] :: cut1 c l else match cut1 c l with
    | [] => [[b]]
    | h :: r => (b :: h) :: r
theorem cut1_ne (c : UInt8) : ∀ l, cut1 c l ≠ []
  | [] => by simp [cut1]
  | b :: l => by
    rw [cut1]
    split
    · simp
    · split <;> simp
theorem cut1_app (c : UInt8) (y : List UInt8) : ∀ x, cut1 c (x ++ c :: y) = cut1 c x ++ cut1 c y
  | [] => by simp [cut1]
  | b :: l => by
    rw [List.cons_append, cut1, cut1, cut1_app c y l]
    split
    · simp
    · have := cut1_ne c l
      cases h : cut1 c l with
      | nil => exact absurd h this
      | cons z r => simp
theorem index_eq1 (c : UInt8) (l : List UInt8) : Lib.index (c :: l) [c] = 0 := by rw [Lib.index]; simp [List.isPrefixOf]
theorem index_ne1 (b c : UInt8) (l : List UInt8) (h : b ≠ c) : Lib.index (b :: l) [c] = if Lib.index l [c] == -1 then -1 else Lib.index l [c] + 1 := by
  have hp : ([c] : List UInt8).isPrefixOf (b :: l) = false := by simp [List.isPrefixOf, Ne.symm h]
  rw [Lib.index, hp]; simp
theorem split_cut (c : UInt8) : ∀ l : List UInt8, Lib.splitK [c] 0 (Lib.count l [c]) l = cut1 c l
  | [] => by rw [Lib.count_one]; rfl
  | b :: l => by
    have ih := split_cut c l
    by_cases hb : b = c
    · subst hb
      rw [Lib.count_cons_eq, Nat.add_comm, Lib.splitK, index_eq1, cut1, if_pos rfl, ← ih]
      simp
    · rw [Lib.count_cons_ne b c l hb, cut1, if_neg hb]
      rw [← ih]
      cases hk : Lib.count l [c] with
      | zero => simp [Lib.splitK]
      | succ k =>
        by_cases hm : Lib.index l [c] = -1
        · rw [Lib.splitK, Lib.splitK, index_ne1 b c l hb, hm]
          simp
        · have hge := Lib.index_ge l [c]
          obtain ⟨j, hj⟩ : ∃ j : Nat, Lib.index l [c] = j := ⟨(Lib.index l [c]).toNat, by omega⟩
          have h1 : ((j : Int) == -1) = false := by rw [beq_eq_false_iff_ne]; omega
          have h2 : ((j : Int) + 1 == -1) = false := by rw [beq_eq_false_iff_ne]; omega
          have h3 : ((j : Int) + 1).toNat = j + 1 := by omega
          rw [Lib.splitK, Lib.splitK, index_ne1 b c l hb, hj]
          simp [h1, h2, h3]
theorem lines_data (s : ByteArray) : (linesOf s).map (·.data.toList) = cut1 10 s.data.toList := by
  unfold linesOf
  rw [Lib.splitB_data]
  have : Lib.countB s nl = Lib.count s.data.toList [10] := by
    first | rfl | simp [Lib.countB, nl]
  rw [this]
  exact split_cut 10 _
theorem data_inj {a b : ByteArray} (h : a.data.toList = b.data.toList) : a = b := by
  apply ByteArray.ext
  exact Array.toList_inj.1 h
theorem map_data_inj : ∀ {x y : List ByteArray}, x.map (·.data.toList) = y.map (·.data.toList) → x = y
  | [], [], _ => rfl
  | [], _ :: _, h => by simp at h
  | _ :: _, [], h => by simp at h
  | a :: x, b :: y, h => by
    simp only [List.map_cons, List.cons.injEq] at h
    rw [data_inj h.1, map_data_inj h.2]
theorem lines_app (a v : ByteArray) : linesOf (a ++ (nl ++ v)) = linesOf a ++ linesOf v := by
  apply map_data_inj
  rw [List.map_append, lines_data, lines_data, lines_data]
  have : (a ++ (nl ++ v)).data.toList = a.data.toList ++ 10 :: v.data.toList := by simp [nl]
  rw [this]
  exact cut1_app 10 _ _

theorem parseL_app : ∀ (ls : List ByteArray) (i : Nat) (t : CT) (r : List ByteArray), (parseL i t (ls ++ r)).2.1 = 0 → (parseL i t ls).2.1 = 0 ∧ parseL i t (ls ++ r) = parseL (i + ls.length) (parseL i t ls).2.2 r
  | [], i, t, r, _ => ⟨rfl, rfl⟩
  | l :: ls, i, t, r, h => by
    simp only [List.cons_append, parseL] at h ⊢
    by_cases hc : (addP t (wordsOf l)).2 = 0
    · simp only [if_pos hc] at h ⊢
      have := parseL_app ls _ _ r h
      refine ⟨this.1, ?_⟩
      rw [this.2, List.length_cons, Nat.add_right_comm, Nat.add_assoc]
    · simp only [if_neg hc] at h
      exact absurd h hc

theorem decodeN_nl (n n' b0 b1 b2 b3 c1 c2 c3 : Nat) (h0 : 1 ≤ n) (hn : n < n') (h1 : 1 < n → c1 = b1) (k1 : n = 1 → c1 = 10) (h2 : 2 < n → c2 = b2) (k2 : n = 2 → c2 = 10) (h3 : 3 < n → c3 = b3) (k3 : n = 3 → c3 = 10) : Lib.decodeN n' b0 c1 c2 c3 = Lib.decodeN n b0 b1 b2 b3 := by
  rcases (show n = 1 ∨ n = 2 ∨ n = 3 ∨ 4 ≤ n by omega) with rfl | rfl | rfl | h4
  · obtain rfl := k1 rfl
    simp [Lib.decodeN]
  · obtain rfl := h1 (by omega)
    obtain rfl := k2 rfl
    have e1 : 1 < n' := by omega
    simp [Lib.decodeN, e1]
  · obtain rfl := h1 (by omega)
    obtain rfl := h2 (by omega)
    obtain rfl := k3 rfl
    have e1 : 1 < n' := by omega
    have e2 : 2 < n' := by omega
    simp [Lib.decodeN, e1, e2]
  · obtain rfl := h1 (by omega)
    obtain rfl := h2 (by omega)
    obtain rfl := h3 (by omega)
    have e1 : 1 < n' := by omega
    have e2 : 2 < n' := by omega
    have e3 : 3 < n' := by omega
    have g1 : 1 < n := by omega
    have g2 : 2 < n := by omega
    have g3 : 3 < n := by omega
    simp [Lib.decodeN, e1, e2, e3, g1, g2, g3]
theorem get_end (a v : ByteArray) : ((a ++ (nl ++ v)).get! a.size).toNat = 10 := by
  have e : (a ++ (nl ++ v)).data = a.data ++ (nl.data ++ v.data) := by simp
  show ((a ++ (nl ++ v)).data[a.size]!).toNat = 10
  rw [e, getElem!_pos (a.data ++ (nl.data ++ v.data)) a.size (by have : a.data.size = a.size := rfl; simp [nl]; omega)]
  rw [Array.getElem_append_right (by exact Nat.le_refl _)]
  simp [nl]
theorem decode_nl (a v : ByteArray) (p : Nat) (hp : p < a.size) : Utf8.decode (a ++ (nl ++ v)) p = Utf8.decode a p := by
  rw [Lib.decode_at, Lib.decode_at, get_app a _ p hp]
  have hs : (a ++ (nl ++ v)).size = a.size + (1 + v.size) := by rw [size_app, size_app]; rfl
  rw [hs]
  refine decodeN_nl _ _ _ _ _ _ _ _ _ (by omega) (by omega) (fun h => ?_) (fun h => ?_) (fun h => ?_) (fun h => ?_) (fun h => ?_) (fun h => ?_)
  · rw [get_app a _ _ (by omega)]
  · rw [show p + 1 = a.size by omega]; exact get_end a v
  · rw [get_app a _ _ (by omega)]
  · rw [show p + 2 = a.size by omega]; exact get_end a v
  · rw [get_app a _ _ (by omega)]
  · rw [show p + 3 = a.size by omega]; exact get_end a v
theorem pre_nl (x v : List UInt8) (h : ([239, 191, 189] : List UInt8).isPrefixOf (x ++ 10 :: v) = true) : ([239, 191, 189] : List UInt8).isPrefixOf x = true := by
  match x with
  | [] => simp [List.isPrefixOf] at h
  | [x0] => simp [List.isPrefixOf] at h
  | [x0, x1] => simp [List.isPrefixOf] at h
  | x0 :: x1 :: x2 :: r => simpa [List.isPrefixOf] using h
theorem extract_all (a : ByteArray) (p : Nat) (hp : p ≤ a.size) : (a.extract p a.size).data.toList = a.data.toList.drop p := by
  have h0 : (a.data.toList.drop p).length = a.size - p := by rw [List.length_drop, ← Lib.size_eq]
  have h1 : (a.extract p a.size).data.toList = (a.data.toList.drop p).take (a.size - p) := by simp [ByteArray.data_extract, Array.toList_extract]
  rw [h1, List.take_of_length_le (by omega)]
theorem good_nl (a v : ByteArray) (p : Nat) (c : Int) (hp : p < a.size) (h : goodAt (a ++ (nl ++ v)) p c = true) : goodAt a p c = true := by
  have hs : (a ++ (nl ++ v)).size = a.size + (1 + v.size) := by rw [size_app, size_app]; rfl
  unfold goodAt at h ⊢
  rw [Bool.and_eq_true] at h ⊢
  refine ⟨h.1, ?_⟩
  have h2 := h.2
  rw [extract_all _ _ (by omega)] at h2 ⊢
  have hd : (a ++ (nl ++ v)).data.toList.drop p = a.data.toList.drop p ++ 10 :: v.data.toList := by
    have : (a ++ (nl ++ v)).data.toList = a.data.toList ++ 10 :: v.data.toList := by simp [nl]
    rw [this, List.drop_append_of_le_length (by rw [← Lib.size_eq]; omega)]
  rw [hd] at h2
  cases hc : c == 65533 with
  | false => rfl
  | true =>
    rw [hc] at h2
    cases hq : ([239, 191, 189] : List UInt8).isPrefixOf (a.data.toList.drop p ++ 10 :: v.data.toList) with
    | false => rw [hq] at h2; exact absurd h2 (by decide)
    | true => rw [pre_nl _ _ hq]; rfl
theorem text_nl (a v : ByteArray) : ∀ (f f' p : Nat), a.size ≤ p + f → a.size < p + f' + 1 → textFrom (a ++ (nl ++ v)) f' p = true → textFrom a f p = true
  | 0, f', p, _, _, _ => rfl
  | f + 1, f', p, h1, h2, ht => by
    by_cases hp : p < a.size
    · obtain ⟨g, rfl⟩ : ∃ g, f' = g + 1 := ⟨f' - 1, by omega⟩
      have hs : (a ++ (nl ++ v)).size = a.size + (1 + v.size) := by rw [size_app, size_app]; rfl
      rw [textFrom, if_pos (by omega), Bool.and_eq_true, decode_nl a v p hp] at ht
      have hk := Lib.decode_width_pos a p hp
      rw [textFrom, if_pos hp, Bool.and_eq_true]
      exact ⟨good_nl a v p _ hp ht.1, text_nl a v f g _ (by omega) (by omega) ht.2⟩
    · rw [textFrom, if_neg hp]
theorem isText_nl (a v : ByteArray) (h : isText (a ++ (nl ++ v)) = true) : isText a = true := by
  have hs : (a ++ (nl ++ v)).size = a.size + (1 + v.size) := by rw [size_app, size_app]; rfl
  exact text_nl a v a.size _ 0 (by omega) (by omega) h

def strLine (d : UInt8) : ByteArray := ⟨#[115, 116, 114, 101, 110, 103, 116, 104, 32, d]⟩
theorem line_one (d : UInt8) (h : d ≠ 10) : linesOf (strLine d) = [strLine d] := by
  apply map_data_inj
  rw [lines_data]
  simp [strLine, cut1, h]
/-- A description with one more line that states its strength. -/
theorem ext_parse (a : ByteArray) (d : UInt8) (n : Int) (ha : a.size ≤ 2000) (hd : d ≠ 10) (hw : ∀ t : CT, addP t (wordsOf (strLine d)) = if 0 < t.st then (t, 4) else ({ t with st := n }, 0)) (h1 : 1 ≤ n) (he : (parseP (a ++ (nl ++ strLine d))).2.1 = 0) :
    (parseP a).2.1 = 0 ∧ tabOf (a ++ (nl ++ strLine d)) = { tabOf a with st := n } ∧ (tabOf a).st = 3 := by
  have hs : (a ++ (nl ++ strLine d)).size = a.size + (1 + 10) := by rw [size_app, size_app]; rfl
  have hP : parseP (a ++ (nl ++ strLine d)) = (if isText (a ++ (nl ++ strLine d)) = false then (0, 10, t0) else
    let r := parseL 0 t0 (linesOf a ++ [strLine d])
    (r.1, r.2.1, { r.2.2 with st := if r.2.2.st = 0 then 3 else r.2.2.st })) := by
    unfold parseP
    rw [if_neg (by omega), lines_app, line_one d hd]
  have hA : parseP a = (if isText a = false then (0, 10, t0) else
    let r := parseL 0 t0 (linesOf a)
    (r.1, r.2.1, { r.2.2 with st := if r.2.2.st = 0 then 3 else r.2.2.st })) := by
    unfold parseP
    rw [if_neg (by omega)]
  cases ht : isText (a ++ (nl ++ strLine d)) with
  | false => rw [hP, if_pos ht] at he; exact absurd he (by decide)
  | true =>
    have hta := isText_nl a (strLine d) ht
    rw [if_neg (by rw [ht]; decide)] at hP
    rw [if_neg (by rw [hta]; decide)] at hA
    have he2 : (parseL 0 t0 (linesOf a ++ [strLine d])).2.1 = 0 := by rw [hP] at he; exact he
    obtain ⟨q1, q2⟩ := parseL_app (linesOf a) 0 t0 [strLine d] he2
    rw [q2] at hP he2
    generalize hT : parseL 0 t0 (linesOf a) = T at q1 hP hA he2
    simp only [parseL, hw] at hP he2
    by_cases hst : 0 < T.2.2.st
    · simp [hst] at he2
    · have hinv := parseL_inv (linesOf a) 0 t0 (by simp [CT.ok, t0]) (by simp [t0]) ⟨by decide, by decide⟩ (by rw [hT]; exact q1)
      rw [hT] at hinv
      have h0 : T.2.2.st = 0 := by have := hinv.2.2.1; omega
      simp only [if_neg hst] at hP
      have e1 : (parseP a).2.1 = 0 := by rw [hA]; exact q1
      have e2 : (parseP (a ++ (nl ++ strLine d))).2.1 = 0 := by rw [hP]; rfl
      refine ⟨e1, ?_, ?_⟩
      · unfold tabOf
        rw [if_pos e1, if_pos e2, hA, hP]
        simp [show n ≠ 0 by omega]
      · unfold tabOf
        rw [if_pos e1, hA]
        simp [h0]
theorem add_s1 (t : CT) : addP t (wordsOf (strLine 49)) = if 0 < t.st then (t, 4) else ({ t with st := 1 }, 0) := by
  have h : wordsOf (strLine 49) = [⟨#[115, 116, 114, 101, 110, 103, 116, 104]⟩, ⟨#[49]⟩] := by decide +kernel
  have h1 : ¬ ((⟨#[115, 116, 114, 101, 110, 103, 116, 104]⟩ : ByteArray).data.toList.head? = some 35) := by decide
  have h2 : (⟨#[115, 116, 114, 101, 110, 103, 116, 104]⟩ : ByteArray).toList = [115, 116, 114, 101, 110, 103, 116, 104] := by decide +kernel
  have h3 : strengthOf ⟨#[49]⟩ = some 1 := by decide +kernel
  rw [h]
  simp only [addP, if_neg h1, if_pos h2, levelP, h3]
theorem add_s2 (t : CT) : addP t (wordsOf (strLine 50)) = if 0 < t.st then (t, 4) else ({ t with st := 2 }, 0) := by
  have h : wordsOf (strLine 50) = [⟨#[115, 116, 114, 101, 110, 103, 116, 104]⟩, ⟨#[50]⟩] := by decide +kernel
  have h1 : ¬ ((⟨#[115, 116, 114, 101, 110, 103, 116, 104]⟩ : ByteArray).data.toList.head? = some 35) := by decide
  have h2 : (⟨#[115, 116, 114, 101, 110, 103, 116, 104]⟩ : ByteArray).toList = [115, 116, 114, 101, 110, 103, 116, 104] := by decide +kernel
  have h3 : strengthOf ⟨#[50]⟩ = some 2 := by decide +kernel
  rw [h]
  simp only [addP, if_neg h1, if_pos h2, levelP, h3]
theorem add_s3 (t : CT) : addP t (wordsOf (strLine 51)) = if 0 < t.st then (t, 4) else ({ t with st := 3 }, 0) := by
  have h : wordsOf (strLine 51) = [⟨#[115, 116, 114, 101, 110, 103, 116, 104]⟩, ⟨#[51]⟩] := by decide +kernel
  have h1 : ¬ ((⟨#[115, 116, 114, 101, 110, 103, 116, 104]⟩ : ByteArray).data.toList.head? = some 35) := by decide
  have h2 : (⟨#[115, 116, 114, 101, 110, 103, 116, 104]⟩ : ByteArray).toList = [115, 116, 114, 101, 110, 103, 116, 104] := by decide +kernel
  have h3 : strengthOf ⟨#[51]⟩ = some 3 := by decide +kernel
  rw [h]
  simp only [addP, if_neg h1, if_pos h2, levelP, h3]

theorem bytes_app' (x y : List Int) : Lib.bytesOf (x ++ y) = Lib.bytesOf x ++ Lib.bytesOf y := by simp [Lib.bytesOf]
theorem cb_same : ∀ (p q x y : List UInt8), p.length = q.length → Lib.compareBytes (p ++ x) (q ++ y) = if Lib.compareBytes p q = 0 then Lib.compareBytes x y else Lib.compareBytes p q
  | [], [], x, y, _ => by
    rw [show Lib.compareBytes ([] : List UInt8) [] = 0 from rfl, if_pos rfl]; rfl
  | [], _ :: _, _, _, h => by simp at h
  | _ :: _, [], _, _, h => by simp at h
  | a :: p, b :: q, x, y, h => by
    rw [List.cons_append, List.cons_append, cb_cons, cb_cons]
    have ih := cb_same p q x y (by simpa using h)
    by_cases h1 : a.toNat < b.toNat
    · rw [if_pos h1, if_pos h1]; rfl
    · by_cases h2 : b.toNat < a.toNat
      · rw [if_neg h1, if_pos h2, if_neg h1, if_pos h2]; rfl
      · rw [if_neg h1, if_neg h2, if_neg h1, if_neg h2]; exact ih
def T (ns : List Int) : List Int := (ns.map three).flatten
def inR (ns : List Int) : Prop := ∀ n ∈ ns, 0 < n ∧ n < 16777216
theorem T_cons (n : Int) (ns : List Int) : T (n :: ns) = three n ++ T ns := by simp [T]
theorem bytes_len (x : List Int) : (Lib.bytesOf x).length = x.length := by simp [Lib.bytesOf]
theorem trip : ∀ (ns ms u v : List Int), inR ns → inR ms → (∀ n, 0 < n → n < 16777216 → ∀ u v, Lib.compareBytes (Lib.bytesOf ([0, 0, 0] ++ u)) (Lib.bytesOf (three n ++ v)) = -1) →
    Lib.compareBytes (Lib.bytesOf (T ns ++ ([0, 0, 0] ++ u))) (Lib.bytesOf (T ms ++ ([0, 0, 0] ++ v))) = if Lib.compareBytes (Lib.bytesOf (T ns)) (Lib.bytesOf (T ms)) = 0 then Lib.compareBytes (Lib.bytesOf u) (Lib.bytesOf v) else Lib.compareBytes (Lib.bytesOf (T ns)) (Lib.bytesOf (T ms))
  | [], [], u, v, _, _, _ => by
    show Lib.compareBytes (Lib.bytesOf ([0, 0, 0] ++ u)) (Lib.bytesOf ([0, 0, 0] ++ v)) = _
    rw [bytes_app', bytes_app' [0, 0, 0], cb_same _ _ _ _ rfl, if_pos (cb_self _), show Lib.compareBytes (Lib.bytesOf (T [])) (Lib.bytesOf (T [])) = 0 from rfl, if_pos rfl]
  | [], m :: ms, u, v, _, hm, hz => by
    have h := hm m (List.mem_cons_self ..)
    rw [T_cons, List.append_assoc]
    have := hz m h.1 h.2 u (T ms ++ ([0, 0, 0] ++ v))
    show Lib.compareBytes (Lib.bytesOf ([0, 0, 0] ++ u)) _ = _
    rw [this]
    rfl
  | n :: ns, [], u, v, hn, _, hz => by
    have h := hn n (List.mem_cons_self ..)
    rw [T_cons, List.append_assoc]
    have := hz n h.1 h.2 v (T ns ++ ([0, 0, 0] ++ u))
    have h2 := cb_anti (Lib.bytesOf ([0, 0, 0] ++ v)) (Lib.bytesOf (three n ++ (T ns ++ ([0, 0, 0] ++ u))))
    rw [this] at h2
    show Lib.compareBytes _ (Lib.bytesOf ([0, 0, 0] ++ v)) = _
    rw [h2]
    rfl
  | n :: ns, m :: ms, u, v, hn, hm, hz => by
    have ih := trip ns ms u v (fun x hx => hn x (List.mem_cons_of_mem _ hx)) (fun x hx => hm x (List.mem_cons_of_mem _ hx)) hz
    have hl : (Lib.bytesOf (three n)).length = (Lib.bytesOf (three m)).length := rfl
    rw [T_cons, T_cons, List.append_assoc, List.append_assoc, bytes_app' (three n), bytes_app' (three m), bytes_app' (three n), bytes_app' (three m), cb_same _ _ _ _ hl, cb_same _ _ _ _ hl, ih]
    by_cases h0 : Lib.compareBytes (Lib.bytesOf (three n)) (Lib.bytesOf (three m)) = 0
    · simp only [if_pos h0]
    · simp only [if_neg h0]


theorem level_trip {t : CT} (h : Fine t) (k : Nat) : ∀ cs : List Int, (∀ c ∈ cs, c ≤ 1114111) → ∃ ns, levelOf t k cs = T ns ∧ inR ns
  | [], _ => ⟨[], rfl, fun x hx => by cases hx⟩
  | c :: cs, hc => by
    obtain ⟨ns, e, hr⟩ := level_trip h k cs (fun x hx => hc x (List.mem_cons_of_mem _ hx))
    rw [levelOf_cons]
    by_cases hp : 0 < comp (weightOf t c) k
    · refine ⟨comp (weightOf t c) k :: ns, ?_, ?_⟩
      · rw [T_cons, ← e]
        have : lev1 t k c = three (comp (weightOf t c) k) := if_pos hp
        rw [this]
      · intro x hx
        rcases List.mem_cons.1 hx with rfl | hx
        · exact ⟨hp, weight_lt h k c (hc c (List.mem_cons_self ..))⟩
        · exact hr x hx
    · have : lev1 t k c = [] := if_neg hp
      rw [this, List.nil_append]
      exact ⟨ns, e, hr⟩

/-- How the keys of two texts compare by one, two and three levels. -/
theorem key_levels {t : CT} (h : Fine t) (ra rb : List Int) (ha : ∀ c ∈ ra, c ≤ 1114111) (hb : ∀ c ∈ rb, c ≤ 1114111) :
    (cmpB (keyK t ra 1) (keyK t rb 1) ≠ 0 → cmpB (keyK t ra 2) (keyK t rb 2) = cmpB (keyK t ra 1) (keyK t rb 1)) ∧
    (cmpB (keyK t ra 2) (keyK t rb 2) ≠ 0 → cmpB (keyK t ra 3) (keyK t rb 3) = cmpB (keyK t ra 2) (keyK t rb 2)) := by
  obtain ⟨n0, e0, r0⟩ := level_trip h 0 ra ha
  obtain ⟨n1, e1, r1⟩ := level_trip h 1 ra ha
  obtain ⟨m0, f0, s0⟩ := level_trip h 0 rb hb
  obtain ⟨m1, f1, s1⟩ := level_trip h 1 rb hb
  have hz : ∀ n, 0 < n → n < 16777216 → ∀ u v, Lib.compareBytes (Lib.bytesOf ([0, 0, 0] ++ u)) (Lib.bytesOf (three n ++ v)) = -1 := fun n h0 h1 u v => cb_zero n h0 h1 u v
  have k1 : ∀ cs, keyK t cs 1 = levelOf t 0 cs := keyK_one t
  have k2 : ∀ cs, keyK t cs 2 = levelOf t 0 cs ++ ([0, 0, 0] ++ levelOf t 1 cs) := fun cs => by simp [keyK]
  have k3 : ∀ cs, keyK t cs 3 = levelOf t 0 cs ++ ([0, 0, 0] ++ (levelOf t 1 cs ++ ([0, 0, 0] ++ levelOf t 2 cs))) := fun cs => by simp [keyK]
  unfold cmpB
  rw [k1, k1, k2, k2, k3, k3, e0, e1, f0, f1, trip n0 m0 _ _ r0 s0 hz, trip n0 m0 _ _ r0 s0 hz, trip n1 m1 _ _ r1 s1 hz]
  constructor
  · intro hx; rw [if_neg hx]
  · intro hy
    by_cases hx : Lib.compareBytes (Lib.bytesOf (T n0)) (Lib.bytesOf (T m0)) = 0
    · simp only [if_pos hx] at hy ⊢
      rw [if_neg hy]
    · simp only [if_neg hx]
end Go.Proofs.YtibhifjehbajnaaDoor

namespace Go.Proofs.YtibhifjehbajnaaDoor
open Go.RowKit Go.Maps
set_option linter.unusedVariables false

def mkB (rs : List Int) : ByteArray := ⟨(encA rs).toArray⟩
theorem mkB_data (rs : List Int) : (mkB rs).data.toList = encA rs := by simp [mkB]
theorem mkB_of {s : ByteArray} {rs : List Int} (h : s.data.toList = encA rs) : s = mkB rs := data_inj (by rw [h, mkB_data])

/-! words -/
def fR : Option (List Int) → List Int → List (List Int)
  | none, [] => []
  | some w, [] => [w]
  | none, c :: rs => if c = 32 then fR none rs else fR (some [c]) rs
  | some w, c :: rs => if c = 32 then w :: fR none rs else fR (some (w ++ [c])) rs
def closed (s : ByteArray) (x : List (Nat × Nat) × Option Nat) : List ByteArray := (Lib.closeSpans s x).map fun x => s.extract x.1 x.2
theorem ext_data (s : ByteArray) (a p : Nat) (h : a ≤ p) (hp : p ≤ s.size) : (s.extract a p).data.toList = (s.data.toList.drop a).take (p - a) := by simp [ByteArray.data_extract, Array.toList_extract]
theorem drop_step {s : ByteArray} {p : Nat} {c : Int} {rs : List Int} (hd : s.data.toList.drop p = encA (c :: rs)) : s.data.toList.drop (p + (Lib.encodeRune c).length) = encA rs := by
  rw [← List.drop_drop, hd, encA_cons, List.drop_left]
theorem ext_step {s : ByteArray} {a p : Nat} {c : Int} {w rs : List Int} (ha : a ≤ p) (hw : (s.data.toList.drop a).take (p - a) = encA w) (hd : s.data.toList.drop p = encA (c :: rs)) :
    (s.data.toList.drop a).take (p + (Lib.encodeRune c).length - a) = encA (w ++ [c]) := by
  have e : p + (Lib.encodeRune c).length - a = (p - a) + (Lib.encodeRune c).length := by omega
  rw [e, List.take_add, hw, List.drop_drop, show a + (p - a) = p by omega, hd, encA_cons, List.take_left, encA_app]
  simp [encA]
theorem words_from (s : ByteArray) : ∀ (rs : List Int) (f p : Nat) (acc : List (Nat × Nat)), Chars rs → s.data.toList.drop p = encA rs → p ≤ s.size → s.size ≤ p + f →
    closed s (Lib.spansFromP (fun r => r == 32) s f p none acc) = acc.map (fun x => s.extract x.1 x.2) ++ (fR none rs).map mkB ∧
    ∀ a w, a ≤ p → (s.data.toList.drop a).take (p - a) = encA w → closed s (Lib.spansFromP (fun r => r == 32) s f p (some a) acc) = acc.map (fun x => s.extract x.1 x.2) ++ (fR (some w) rs).map mkB
  | [], f, p, acc, _, hd, hp, hf => by
    have hl : (s.data.toList.drop p).length = 0 := by rw [hd]; rfl
    rw [List.length_drop, ← Lib.size_eq] at hl
    have hlt : ¬ p < s.size := by omega
    refine ⟨?_, fun a w ha hw => ?_⟩
    · rw [Lib.spansFromP_end _ _ _ _ _ _ hlt]
      simp [closed, Lib.closeSpans, fR]
    · rw [Lib.spansFromP_end _ _ _ _ _ _ hlt]
      have e : s.extract a s.size = mkB w := mkB_of (by rw [ext_data _ _ _ (by omega) (Nat.le_refl _), ← hw, show p = s.size by omega])
      simp [closed, Lib.closeSpans, fR, e]
  | c :: rs, f, p, acc, hc, hd, hp, hf => by
    have h1 := hc c (List.mem_cons_self ..)
    have hn := isCharB_cases h1
    have hw0 : 0 < (Lib.encodeRune c).length := List.length_pos_iff.2 enc_ne
    have hl := congrArg List.length hd
    rw [List.length_drop, ← Lib.size_eq, encA_cons, List.length_append] at hl
    have hlt : p < s.size := by omega
    obtain ⟨g, rfl⟩ : ∃ g, f = g + 1 := ⟨f - 1, by omega⟩
    have hdec : Utf8.decode s p = (c.toNat, (Lib.encodeRune c).length) := by
      rw [← Lib.decodeL_drop, hd, encA_cons, decode_encode h1]
    have hd2 := drop_step hd
    have hcs : Chars rs := fun x hx => hc x (List.mem_cons_of_mem _ hx)
    have hs : (c.toNat == 32) = true ↔ c = 32 := by rw [beq_iff_eq]; omega
    refine ⟨?_, fun a w ha hw => ?_⟩
    · simp only [Lib.spansFromP, if_pos hlt, hdec, fR]
      by_cases h32 : c = 32
      · rw [if_pos (hs.2 h32), if_pos h32]
        exact (words_from s rs g _ acc hcs hd2 (by omega) (by omega)).1
      · rw [if_neg (fun h => h32 (hs.1 h)), if_neg h32]
        refine (words_from s rs g _ acc hcs hd2 (by omega) (by omega)).2 p [c] (by omega) ?_
        rw [hd, encA_cons, show p + (Lib.encodeRune c).length - p = (Lib.encodeRune c).length by omega, List.take_left]
        simp [encA]
    · simp only [Lib.spansFromP, if_pos hlt, hdec, fR]
      by_cases h32 : c = 32
      · rw [if_pos (hs.2 h32), if_pos h32]
        rw [(words_from s rs g _ (acc ++ [(a, p)]) hcs hd2 (by omega) (by omega)).1]
        have e : s.extract a p = mkB w := mkB_of (by rw [ext_data _ _ _ ha hp, hw])
        simp [e]
      · rw [if_neg (fun h => h32 (hs.1 h)), if_neg h32]
        exact (words_from s rs g _ acc hcs hd2 (by omega) (by omega)).2 a (w ++ [c]) (by omega) (ext_step ha hw hd)
/-- The words of a line, by its characters. -/
theorem words_enc {s : ByteArray} {rs : List Int} (hc : Chars rs) (h : s.data.toList = encA rs) : wordsOf s = (fR none rs).map mkB := by
  have := (words_from s rs s.size 0 [] hc (by simpa using h) (Nat.zero_le _) (by omega)).1
  simpa [wordsOf, Lib.goFieldsP, Lib.spansOfP, closed] using this

/-! one line more -/
theorem cut1_none (c : UInt8) : ∀ l : List UInt8, c ∉ l → cut1 c l = [l]
  | [], _ => rfl
  | b :: l, h => by
    rw [List.mem_cons, not_or] at h
    rw [cut1, if_neg (fun e => h.1 e.symm), cut1_none c l h.2]
theorem lines_one {v : ByteArray} (h : (10 : UInt8) ∉ v.data.toList) : linesOf v = [v] := by
  apply map_data_inj
  rw [lines_data, cut1_none 10 _ h]; rfl
def igB : ByteArray := ⟨#[105, 103, 110, 111, 114, 101]⟩
def igS : ByteArray := ⟨#[105, 103, 110, 111, 114, 101, 32]⟩
def igR : List Int := [105, 103, 110, 111, 114, 101, 32]
theorem igR_chars : Chars igR := by decide
theorem igS_enc : igS.data.toList = encA igR := by decide +kernel
theorem igB_enc : mkB [105, 103, 110, 111, 114, 101] = igB := by decide +kernel
theorem lenOf_one {w : ByteArray} (h : lenOf w = 1) : isText w = true ∧ ∃ c, runesOf w = [c] ∧ isCharB c = true ∧ w.data.toList = Lib.encodeRune c := by
  have ht : isText w = true := by
    cases hc : isText w with
    | true => rfl
    | false => rw [lenOf_none hc] at h; omega
  refine ⟨ht, ?_⟩
  have hlen : ∀ (f p : Nat), (runesFrom w f p).length = Lib.runeCountFrom w f p := fun f => by
    induction f with
    | zero => intro p; rfl
    | succ f ih =>
      intro p
      rw [runesFrom, Lib.runeCountFrom]
      by_cases hp : p < w.size
      · rw [if_pos hp, if_pos hp, List.length_cons, ih]; omega
      · rw [if_neg hp, if_neg hp]; rfl
  have hr := hlen w.size 0
  rw [lenOf_text ht] at h
  have h1 : (runesOf w).length = 1 := by
    show (runesFrom w w.size 0).length = 1
    rw [hr]
    have : Lib.runeCount w = Lib.runeCountFrom w w.size 0 := rfl
    omega
  obtain ⟨c, hc⟩ := List.length_eq_one_iff.1 h1
  have he := text_enc ht
  rw [hc] at he
  exact ⟨c, hc, he.2 c (List.mem_singleton.2 rfl), by rw [he.1]; simp [encA]⟩
theorem rune0_of {w : ByteArray} {c : Int} (hc : isCharB c = true) (h : w.data.toList = Lib.encodeRune c) : rune0 w = c := by
  have hn := isCharB_cases hc
  unfold rune0
  rw [← Lib.decodeL_drop, List.drop_zero, h, ← List.append_nil (Lib.encodeRune c), decode_encode hc]
  show ((c.toNat : Nat) : Int) = c
  omega
theorem addP_ig (t : CT) (r : List ByteArray) : addP t (igB :: r) = ignoreP t r := by
  have h1 : ¬ (igB.data.toList.head? = some 35) := by decide
  have h2 : ¬ (igB.toList = [115, 116, 114, 101, 110, 103, 116, 104]) := by decide +kernel
  have h3 : igB.toList = [105, 103, 110, 111, 114, 101] := by decide +kernel
  simp only [addP, if_neg h1, if_neg h2, if_pos h3]
/-- The words of the line. -/
theorem ig_words {w : ByteArray} {c : Int} (hc : isCharB c = true) (h : w.data.toList = Lib.encodeRune c) : wordsOf (igS ++ w) = if c = 32 then [igB] else [igB, w] := by
  have hd : (igS ++ w).data.toList = encA (igR ++ [c]) := by
    rw [encA_app, ← igS_enc]
    simp [encA, h]
  rw [words_enc (rs := igR ++ [c]) (fun x hx => (List.mem_append.1 hx).elim (igR_chars x) (fun hx => by rw [List.mem_singleton.1 hx]; exact hc)) hd]
  have hw : w = mkB [c] := mkB_of (by rw [h]; simp [encA])
  by_cases h32 : c = 32
  · rw [if_pos h32, h32]
    simp [igR, fR, igB_enc]
  · rw [if_neg h32]
    simp [igR, fR, h32, igB_enc, ← hw]
theorem inM_app (M : List (Int × W3)) (c d : Int) (x : W3) : inM (M ++ [(c, x)]) d = (inM M d || c == d) := by simp [inM]
theorem getW_new {M : List (Int × W3)} {c : Int} (h : inM M c = false) (x z : W3) : getW (M ++ [(c, x)]) c z = x := by
  unfold getW
  have : M.find? (fun p => p.1 == c) = none := by
    rw [List.find?_eq_none]
    intro p hp
    have := List.any_eq_false.1 h p hp
    simpa using this
  rw [List.find?_append, this]
  simp
/-- A description with one more line that ignores a character: its weights are none. -/
theorem ig_weight (a w : ByteArray) (c : Int) (ha : a.size ≤ 2000) (hc : isCharB c = true) (hw : w.data.toList = Lib.encodeRune c) (hl : lenOf w = 1) (he : (parseP (a ++ (nl ++ (igS ++ w)))).2.1 = 0) :
    weightOf (tabOf (a ++ (nl ++ (igS ++ w)))) c = (0, 0, 0) := by
  have hP := he
  unfold parseP at hP
  by_cases hb : 1048576 < (a ++ (nl ++ (igS ++ w))).size
  · rw [if_pos hb] at hP; exact absurd hP (by decide)
  · rw [if_neg hb] at hP
    by_cases ht : isText (a ++ (nl ++ (igS ++ w))) = false
    · rw [if_pos ht] at hP; exact absurd hP (by decide)
    · rw [if_neg ht, lines_app] at hP
      have hT : tabOf (a ++ (nl ++ (igS ++ w))) = { (parseL 0 t0 (linesOf a ++ linesOf (igS ++ w))).2.2 with st := if (parseL 0 t0 (linesOf a ++ linesOf (igS ++ w))).2.2.st = 0 then 3 else (parseL 0 t0 (linesOf a ++ linesOf (igS ++ w))).2.2.st } := by
        unfold tabOf
        rw [if_pos he]
        unfold parseP
        rw [if_neg hb, if_neg ht, lines_app]
      have he2 : (parseL 0 t0 (linesOf a ++ linesOf (igS ++ w))).2.1 = 0 := hP
      obtain ⟨q1, q2⟩ := parseL_app (linesOf a) 0 t0 (linesOf (igS ++ w)) he2
      rw [q2] at hT he2
      generalize parseL 0 t0 (linesOf a) = T at *
      by_cases h10 : c = 10
      · exfalso
        have hw10 : w = nl := data_inj (by rw [hw, h10]; decide)
        have e1 : igS ++ w = igS ++ (nl ++ ByteArray.empty) := by rw [hw10]; rfl
        have e2 : linesOf igS = [igS] := by decide +kernel
        have e3 : wordsOf igS = [igB] := by decide +kernel
        rw [e1, lines_app, e2, List.singleton_append, parseL, e3, addP_ig] at he2
        have e4 : (ignoreP T.2.2 []).2 = 5 := rfl
        rw [e4] at he2
        rw [if_neg (by decide)] at he2
        exact absurd (show (5 : Int) = 0 from he2) (by decide)
      · have hno : (10 : UInt8) ∉ (igS ++ w).data.toList := by
          have e1 : (igS ++ w).data.toList = encA (igR ++ [c]) := by rw [encA_app, ← igS_enc]; simp [encA, hw]
          rw [e1]
          intro hm
          rcases (show ∃ x ∈ igR ++ [c], (10 : UInt8) ∈ Lib.encodeRune x by
            unfold encA at hm
            obtain ⟨l, hl1, hl2⟩ := List.mem_flatten.1 hm
            obtain ⟨x, hx, rfl⟩ := List.mem_map.1 hl1
            exact ⟨x, hx, hl2⟩) with ⟨x, hx, hxm⟩
          have hxc : isCharB x = true := (List.mem_append.1 hx).elim (igR_chars x) (fun hx => by rw [List.mem_singleton.1 hx]; exact hc)
          have hx10 : x ≠ 10 := by
            rcases List.mem_append.1 hx with h | h
            · revert h; simp only [igR, List.mem_cons, List.not_mem_nil, or_false]; omega
            · rw [List.mem_singleton.1 h]; exact h10
          have hxb := isCharB_cases hxc
          rcases enc_shape hxc with ⟨k, b0, e, h0⟩ | ⟨k1, k2, b0, b1, e, h0, h1⟩ | ⟨k1, k2, k3, b0, b1, b2, e, h0, h1, h2⟩ | ⟨k1, k2, b0, b1, b2, b3, e, h0, h1, h2, h3⟩ <;> rw [e] at hxm <;> simp only [List.mem_cons, List.not_mem_nil, or_false] at hxm
          all_goals
            have ht : ((10 : UInt8).toNat : Int) = 10 := by decide
            first
              | (subst hxm; omega)
              | (rcases hxm with rfl | rfl <;> omega)
              | (rcases hxm with rfl | rfl | rfl <;> omega)
              | (rcases hxm with rfl | rfl | rfl | rfl <;> omega)
        rw [lines_one hno] at hT he2
        rw [parseL, ig_words hc hw] at hT he2
        by_cases h32 : c = 32
        · exfalso
          rw [if_pos h32, addP_ig] at he2
          have e4 : (ignoreP T.2.2 []).2 = 5 := rfl
          rw [e4, if_neg (by decide)] at he2
          exact absurd (show (5 : Int) = 0 from he2) (by decide)
        · rw [if_neg h32, addP_ig] at hT he2
          by_cases hz : (ignoreP T.2.2 [w]).2 = 0
          · rw [if_pos hz] at hT
            simp only [parseL] at hT
            cases hch : charOf w with
            | none =>
              exfalso
              have e5 : (ignoreP T.2.2 [w]).2 = 5 := by simp [ignoreP, charsOf, hch]
              rw [e5] at hz; exact absurd hz (by decide)
            | some c' =>
              have hcc : c' = c := by
                unfold charOf at hch
                simp only at hch
                split at hch
                · rename_i hpre
                  exfalso
                  simp only [Bool.and_eq_true, decide_eq_true_eq] at hpre
                  have hp1 := hpre.1.1
                  have hlen3 := hpre.1.2
                  rw [hw] at hp1 hlen3
                  rcases enc_shape hc with ⟨k, b0, e, h0⟩ | ⟨k1, k2, b0, b1, e, h0, h1⟩ | ⟨k1, k2, k3, b0, b1, b2, e, h0, h1, h2⟩ | ⟨k1, k2, b0, b1, b2, b3, e, h0, h1, h2, h3⟩
                  all_goals
                    rw [e] at hp1 hlen3
                    simp [List.isPrefixOf] at hp1 hlen3
                  · obtain ⟨g1, g2⟩ := hp1
                    rw [← g1] at h0
                    have : ((85 : UInt8).toNat : Int) = 85 := by decide
                    omega
                  · obtain ⟨g1, g2⟩ := hp1
                    rw [← g1] at h0
                    have : ((85 : UInt8).toNat : Int) = 85 := by decide
                    omega
                · split at hch
                  · injection hch with hch
                    rw [← hch]; exact rune0_of hc hw
                  · cases hch
              rw [hcc] at hch
              cases hin : inM T.2.2.M c with
              | true =>
                exfalso
                have e5 : (ignoreP T.2.2 [w]).2 = 4 := by simp [ignoreP, charsOf, hch, putAll, hin]
                rw [e5] at hz; exact absurd hz (by decide)
              | false =>
                have e6 : (ignoreP T.2.2 [w]).1.M = T.2.2.M ++ [(c, (0, 0, 0))] := by simp [ignoreP, charsOf, hch, putAll, hin]
                unfold weightOf
                rw [hT]
                dsimp only
                rw [e6, inM_app, getW_new hin]
                simp
          · exfalso
            rw [if_neg hz] at he2
            exact hz he2

/-! keys -/
theorem lev1_ig {t : CT} {c : Int} (h : weightOf t c = (0, 0, 0)) (k : Nat) : lev1 t k c = [] := by
  unfold lev1
  rw [h]
  have : comp (0, 0, 0) k = 0 := by unfold comp; split <;> rfl
  rw [this]; rfl
theorem level_ig {t : CT} {c : Int} (h : weightOf t c = (0, 0, 0)) (k : Nat) (x y : List Int) : levelOf t k (x ++ c :: y) = levelOf t k (x ++ y) := by
  rw [level_app, level_app, levelOf_cons, lev1_ig h, List.nil_append]
theorem level_out {t : CT} {c : Int} (h : weightOf t c = (0, 0, 0)) (k : Nat) : ∀ x : List Int, levelOf t k (x.filter (· != c)) = levelOf t k x
  | [] => rfl
  | a :: x => by
    by_cases e : a = c
    · subst e
      rw [List.filter_cons_of_neg (by simp), levelOf_cons, lev1_ig h, List.nil_append, level_out h k x]
    · rw [List.filter_cons_of_pos (by simpa using e), levelOf_cons, levelOf_cons, level_out h k x]
theorem key_of_levels {t : CT} {a b : ByteArray} (ha : isText a = true) (hb : isText b = true) (h : ∀ k, levelOf t k (runesOf a) = levelOf t k (runesOf b)) : keyP t a = keyP t b := by
  unfold keyP keyK
  rw [if_pos ha, if_pos hb, h, h, h]

/-! all instances taken out -/
theorem enc_lead {c : Int} (hc : isCharB c = true) : ∃ b l, Lib.encodeRune c = b :: l ∧ (b.toNat < 128 ∨ 192 ≤ b.toNat) ∧ ∀ x ∈ l, 128 ≤ x.toNat ∧ x.toNat < 192 := by
  have hb := isCharB_cases hc
  rcases enc_shape hc with ⟨k, b0, e, h0⟩ | ⟨k1, k2, b0, b1, e, h0, h1⟩ | ⟨k1, k2, k3, b0, b1, b2, e, h0, h1, h2⟩ | ⟨k1, k2, b0, b1, b2, b3, e, h0, h1, h2, h3⟩
  · exact ⟨b0, [], e, by omega, fun x hx => by cases hx⟩
  · exact ⟨b0, [b1], e, by omega, fun x hx => by rw [List.mem_singleton.1 hx]; omega⟩
  · exact ⟨b0, [b1, b2], e, by omega, fun x hx => by
      simp only [List.mem_cons, List.not_mem_nil, or_false] at hx
      rcases hx with rfl | rfl <;> omega⟩
  · exact ⟨b0, [b1, b2, b3], e, by omega, fun x hx => by
      simp only [List.mem_cons, List.not_mem_nil, or_false] at hx
      rcases hx with rfl | rfl | rfl <;> omega⟩
/-- No instance begins behind a lead byte. -/
theorem no_cont {w : List UInt8} {b : UInt8} {r : List UInt8} (hw : w = b :: r) (hb : b.toNat < 128 ∨ 192 ≤ b.toNat) : ∀ (l X : List UInt8), (∀ x ∈ l, 128 ≤ x.toNat ∧ x.toNat < 192) →
    Lib.index (l ++ X) w = if Lib.index X w = -1 then -1 else (l.length : Int) + Lib.index X w
  | [], X, _ => by
    have := Lib.index_ge X w
    split
    · assumption
    · simp
  | x :: l, X, h => by
    have hx := h x (List.mem_cons_self ..)
    have ih := no_cont hw hb l X (fun y hy => h y (List.mem_cons_of_mem _ hy))
    have hge := Lib.index_ge X w
    have hp : w.isPrefixOf (x :: (l ++ X)) = false := by
      rw [hw]
      simp only [List.isPrefixOf]
      have : (b == x) = false := by
        rw [beq_eq_false_iff_ne]
        rintro rfl
        omega
      rw [this]; rfl
    rw [List.cons_append, Lib.index, hp, ih]
    simp only [Bool.false_eq_true, if_false]
    by_cases h0 : Lib.index X w = -1
    · simp [h0]
    · rw [if_neg h0, if_neg h0]
      have : (((l.length : Int) + Lib.index X w) == -1) = false := by rw [beq_eq_false_iff_ne]; omega
      rw [this]
      simp only [Bool.false_eq_true, if_false, List.length_cons]
      push_cast; omega
theorem enc_prefix {c d : Int} (hc : isCharB c = true) (hd : isCharB d = true) (X : List UInt8) (h : (Lib.encodeRune c).isPrefixOf (Lib.encodeRune d ++ X) = true) : c = d := by
  obtain ⟨Y, hY⟩ := List.isPrefixOf_iff_prefix.1 h
  have h1 := decode_encode hc Y
  have h2 := decode_encode hd X
  rw [hY, h2] at h1
  have := congrArg Prod.fst h1
  have n1 := isCharB_cases hc
  have n2 := isCharB_cases hd
  simp only at this
  omega
theorem index_skip {c d : Int} (hc : isCharB c = true) (hd : isCharB d = true) (hne : d ≠ c) (X : List UInt8) :
    Lib.index (Lib.encodeRune d ++ X) (Lib.encodeRune c) = if Lib.index X (Lib.encodeRune c) = -1 then -1 else ((Lib.encodeRune d).length : Int) + Lib.index X (Lib.encodeRune c) := by
  obtain ⟨b, r, hw, hb, _⟩ := enc_lead hc
  obtain ⟨b', l, hw', _, hl⟩ := enc_lead hd
  have hge := Lib.index_ge X (Lib.encodeRune c)
  have hnp : (Lib.encodeRune c).isPrefixOf (Lib.encodeRune d ++ X) = false := by
    cases hcs : (Lib.encodeRune c).isPrefixOf (Lib.encodeRune d ++ X) with
    | false => rfl
    | true => exact absurd (enc_prefix hc hd X hcs).symm hne
  rw [hw', List.cons_append] at hnp ⊢
  rw [Lib.index, hnp, no_cont hw hb l X hl]
  simp only [Bool.false_eq_true, if_false]
  by_cases h0 : Lib.index X (Lib.encodeRune c) = -1
  · simp [h0]
  · rw [if_neg h0, if_neg h0]
    have : (((l.length : Int) + Lib.index X (Lib.encodeRune c)) == -1) = false := by rw [beq_eq_false_iff_ne]; omega
    rw [this]
    simp only [Bool.false_eq_true, if_false, List.length_cons]
    push_cast; omega
theorem index_hit {c : Int} (X : List UInt8) : Lib.index (Lib.encodeRune c ++ X) (Lib.encodeRune c) = 0 := by
  cases h : Lib.encodeRune c with
  | nil => exact absurd h enc_ne
  | cons b l =>
    have : (b :: l).isPrefixOf (b :: (l ++ X)) = true := by
      rw [List.isPrefixOf_iff_prefix]
      exact ⟨X, by simp⟩
    rw [List.cons_append, Lib.index, this]; rfl
/-- The first instance of a character, or none. -/
theorem index_enc {c : Int} (hc : isCharB c = true) : ∀ rs : List Int, Chars rs → (c ∉ rs ∧ Lib.index (encA rs) (Lib.encodeRune c) = -1) ∨ ∃ x y, rs = x ++ c :: y ∧ c ∉ x ∧ Lib.index (encA rs) (Lib.encodeRune c) = ((encA x).length : Int)
  | [], _ => .inl ⟨by simp, by
      cases h : Lib.encodeRune c with
      | nil => exact absurd h enc_ne
      | cons b l => rfl⟩
  | d :: rs, hrs => by
    have hd := hrs d (List.mem_cons_self ..)
    rw [encA_cons]
    by_cases e : d = c
    · subst e
      exact .inr ⟨[], rs, rfl, by simp, by rw [index_hit]; rfl⟩
    · rcases index_enc hc rs (fun x hx => hrs x (List.mem_cons_of_mem _ hx)) with ⟨h1, h2⟩ | ⟨x, y, h1, h2, h3⟩
      · refine .inl ⟨?_, ?_⟩
        · rw [List.mem_cons, not_or]; exact ⟨fun e' => e e'.symm, h1⟩
        · rw [index_skip hc hd e, if_pos h2]
      · refine .inr ⟨d :: x, y, by rw [h1]; rfl, ?_, ?_⟩
        · rw [List.mem_cons, not_or]; exact ⟨fun e' => e e'.symm, h2⟩
        · rw [index_skip hc hd e, if_neg (by omega), h3, encA_cons, List.length_append]
          push_cast; rfl
theorem filter_none {c : Int} {x : List Int} (h : c ∉ x) : x.filter (· != c) = x := by
  rw [List.filter_eq_self]
  intro a ha
  have : a ≠ c := fun e => h (e ▸ ha)
  simpa using this
theorem replace_enc {c : Int} (hc : isCharB c = true) : ∀ (k : Nat) (rs : List Int), Chars rs → Lib.count (encA rs) (Lib.encodeRune c) ≤ k → Lib.replaceK (Lib.encodeRune c) [] k (encA rs) = encA (rs.filter (· != c))
  | 0, rs, hrs, hk => by
    rcases index_enc hc rs hrs with ⟨h1, h2⟩ | ⟨x, y, h1, h2, h3⟩
    · rw [filter_none h1]; rfl
    · exfalso
      have := Lib.count_hit enc_ne h3
      omega
  | k + 1, rs, hrs, hk => by
    rcases index_enc hc rs hrs with ⟨h1, h2⟩ | ⟨x, y, h1, h2, h3⟩
    · rw [Lib.replaceK, h2, filter_none h1]; rfl
    · rw [Lib.replaceK_hit _ _ _ _ _ h3]
      have hcnt := Lib.count_hit enc_ne h3
      have e1 : encA rs = encA x ++ (Lib.encodeRune c ++ encA y) := by rw [h1, encA_app, encA_cons]
      have e2 : (encA rs).take (encA x).length = encA x := by rw [e1, List.take_left]
      have e3 : (encA rs).drop ((encA x).length + (Lib.encodeRune c).length) = encA y := by rw [e1, ← List.drop_drop, List.drop_left, List.drop_left]
      rw [e3] at hcnt ⊢
      rw [e2, replace_enc hc k y (fun a ha => hrs a (by rw [h1]; exact List.mem_append_right _ (List.mem_cons_of_mem _ ha))) (by omega), List.append_nil, ← encA_app]
      congr 1
      rw [h1, List.filter_append, filter_none h2, List.filter_cons_of_neg (by simp)]
theorem replaceAll_enc {c : Int} (hc : isCharB c = true) {rs : List Int} (hrs : Chars rs) : Lib.replaceAll (encA rs) (Lib.encodeRune c) [] = encA (rs.filter (· != c)) := by
  unfold Lib.replaceAll Lib.replace
  have hne : (Lib.encodeRune c == ([] : List UInt8)) = false := by rw [beq_eq_false_iff_ne]; exact enc_ne
  rw [hne]
  simp only [Bool.false_eq_true, if_false]
  unfold Lib.replaceNum
  rw [if_pos (.inl (by decide))]
  exact replace_enc hc _ rs hrs (Nat.le_refl _)
end Go.Proofs.YtibhifjehbajnaaDoor
