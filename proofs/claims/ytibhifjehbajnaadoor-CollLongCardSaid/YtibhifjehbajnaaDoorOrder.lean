/- CollOrder: rows of bytes are in a total order; the walk of the statement. -/
import Derived.Test.YtibhifjehbajnaaDoorLight
namespace Go.Proofs.YtibhifjehbajnaaDoor
open Go.RowKit Go.Maps
set_option linter.unusedVariables false

theorem cb_range : ∀ (a b : List UInt8), Lib.compareBytes a b = -1 ∨ Lib.compareBytes a b = 0 ∨ Lib.compareBytes a b = 1
  | [], [] => .inr (.inl rfl)
  | [], _ :: _ => .inl rfl
  | _ :: _, [] => .inr (.inr rfl)
  | a :: r, b :: bs => by
    unfold Lib.compareBytes
    split
    · exact .inl rfl
    · split
      · exact .inr (.inr rfl)
      · exact cb_range r bs
theorem cb_self : ∀ a : List UInt8, Lib.compareBytes a a = 0
  | [] => rfl
  | a :: r => by
    unfold Lib.compareBytes
    rw [if_neg (UInt8.lt_irrefl a), if_neg (UInt8.lt_irrefl a)]
    exact cb_self r
theorem u8_lt {a b : UInt8} : a < b ↔ a.toNat < b.toNat := Iff.rfl
theorem cb_cons (a b : UInt8) (r s : List UInt8) : Lib.compareBytes (a :: r) (b :: s) = if a.toNat < b.toNat then -1 else if b.toNat < a.toNat then 1 else Lib.compareBytes r s := by
  rw [Lib.compareBytes]; simp only [u8_lt]
theorem cb_anti : ∀ (a b : List UInt8), Lib.compareBytes b a = - Lib.compareBytes a b
  | [], [] => rfl
  | [], _ :: _ => rfl
  | _ :: _, [] => rfl
  | a :: r, b :: s => by
    rw [cb_cons, cb_cons]
    have := cb_anti r s
    repeat' split
    all_goals omega
theorem cb_eq : ∀ (a b : List UInt8), Lib.compareBytes a b = 0 → a = b
  | [], [], _ => rfl
  | [], _ :: _, h => by cases h
  | _ :: _, [], h => by cases h
  | a :: r, b :: s, h => by
    rw [cb_cons] at h
    by_cases ha : a.toNat < b.toNat
    · rw [if_pos ha] at h; cases h
    · by_cases hb : b.toNat < a.toNat
      · rw [if_neg ha, if_pos hb] at h; cases h
      · rw [if_neg ha, if_neg hb] at h
        have : a = b := UInt8.toNat_inj.1 (by omega)
        rw [this, cb_eq r s h]
theorem cb_lt : ∀ (a b c : List UInt8), Lib.compareBytes a b = -1 → Lib.compareBytes b c = -1 → Lib.compareBytes a c = -1
  | [], [], _, h, _ => by cases h
  | [], _ :: _, [], _, h => by cases h
  | [], _ :: _, _ :: _, _, _ => rfl
  | _ :: _, [], _, h, _ => by cases h
  | _ :: _, _ :: _, [], _, h => by cases h
  | a :: r, b :: s, c :: u, h, k => by
    rw [cb_cons] at h k ⊢
    by_cases ha : a.toNat < b.toNat
    · by_cases hb : b.toNat < c.toNat
      · rw [if_pos (by omega)]
      · rw [if_neg hb] at k
        by_cases hc : c.toNat < b.toNat
        · rw [if_pos hc] at k; cases k
        · rw [if_pos (by omega)]
    · rw [if_neg ha] at h
      by_cases hb : b.toNat < a.toNat
      · rw [if_pos hb] at h; cases h
      · rw [if_neg hb] at h
        by_cases hc : b.toNat < c.toNat
        · rw [if_pos (by omega)]
        · rw [if_neg hc] at k
          by_cases hd : c.toNat < b.toNat
          · rw [if_pos hd] at k; cases k
          · rw [if_neg hd] at k
            rw [if_neg (by omega), if_neg (by omega)]
            exact cb_lt r s u h k
/-- Three rows of bytes: how they compare, as far as the statement asks. -/
theorem cb_three (a b c : List UInt8) : ∀ x y z, x = Lib.compareBytes a b → y = Lib.compareBytes b c → z = Lib.compareBytes a c →
    ((x = -1 ∧ y = -1 ∧ z = -1) ∨ (x = -1 ∧ y = 0 ∧ z = -1) ∨ (x = -1 ∧ y = 1) ∨ (x = 0 ∧ y = -1 ∧ z = -1) ∨ (x = 0 ∧ y = 0 ∧ z = 0) ∨ (x = 0 ∧ y = 1 ∧ z = 1) ∨ (x = 1 ∧ y = -1) ∨ (x = 1 ∧ y = 0 ∧ z = 1) ∨ (x = 1 ∧ y = 1 ∧ z = 1)) := by
  rintro x y z rfl rfl rfl
  rcases cb_range a b with h | h | h
  · rcases cb_range b c with k | k | k
    · have := cb_lt a b c h k; omega
    · have := cb_eq b c k; subst this; omega
    · omega
  · have := cb_eq a b h
    subst this
    rcases cb_range a c with k | k | k <;> omega
  · rcases cb_range b c with k | k | k
    · omega
    · have := cb_eq b c k; subst this; omega
    · have h1 := cb_anti a b
      have h2 := cb_anti b c
      have h3 := cb_anti a c
      have := cb_lt c b a (by omega) (by omega)
      omega

theorem cmpP_self (t : CT) (a : ByteArray) : cmpP t a a = 0 := cb_self _
theorem cmpP_anti (t : CT) (a b : ByteArray) : cmpP t b a = - cmpP t a b := cb_anti _ _
theorem strs_of (W : World) (ws : List ByteArray) : StrsAt (W.alloc (.cells (ws.map Value.string).toArray 9)) W.heap.size 0 ws := by
  refine ⟨by simp, fun j hj => ?_⟩
  rw [World.cell?_alloc_at _ _ _ _ rfl]
  simp [hj]

set_option maxHeartbeats 8000000 in
set_option maxRecDepth 100000 in
theorem order_walk (text a b c : ByteArray) (W : World) (hL : LaidW W) (hl : lightB text [a, b, c] = true) :
    Calls Tryd.prog 6 #[.string text, .string a, .string b, .string c] W fun e w' => e = .returned (.bool true) ∧ Below W.heap.size W w' := by
  have hz : (a.size ≤ 200 ∧ b.size ≤ 200 ∧ c.size ≤ 200) ∧ text.size ≤ 2000 := by simpa [lightB] using hl
  have hlc : Calls Tryd.prog 14 #[.string text, .slice (some ⟨W.heap.size, 0, none⟩) 3 3] (W.alloc (.cells #[.string a, .string b, .string c] 9)) fun e w' => e = .returned (.bool true) ∧ (W.alloc (.cells #[.string a, .string b, .string c] 9)) = w' := by
    have := light_calls text [a, b, c] W.heap.size _ (strs_of W [a, b, c]) (by simp)
    rw [hl] at this
    exact this
  have h3 := cb_three (Lib.bytesOf (keyP (tabOf text) a)) (Lib.bytesOf (keyP (tabOf text) b)) (Lib.bytesOf (keyP (tabOf text) c)) _ _ _ rfl rfl rfl
  change ((cmpP (tabOf text) a b = -1 ∧ cmpP (tabOf text) b c = -1 ∧ cmpP (tabOf text) a c = -1) ∨ _) at h3
  have hanti := cmpP_anti (tabOf text) a b
  have hself := cmpP_self (tabOf text) a
  have hkb : cmpB (keyP (tabOf text) a) (keyP (tabOf text) b) = cmpP (tabOf text) a b := rfl
  have h3 : ((cmpP (tabOf text) a b = -1 ∧ cmpP (tabOf text) b c = -1 ∧ cmpP (tabOf text) a c = -1) ∨ (cmpP (tabOf text) a b = -1 ∧ cmpP (tabOf text) b c = 0 ∧ cmpP (tabOf text) a c = -1) ∨ (cmpP (tabOf text) a b = -1 ∧ cmpP (tabOf text) b c = 1) ∨ (cmpP (tabOf text) a b = 0 ∧ cmpP (tabOf text) b c = -1 ∧ cmpP (tabOf text) a c = -1) ∨ (cmpP (tabOf text) a b = 0 ∧ cmpP (tabOf text) b c = 0 ∧ cmpP (tabOf text) a c = 0) ∨ (cmpP (tabOf text) a b = 0 ∧ cmpP (tabOf text) b c = 1 ∧ cmpP (tabOf text) a c = 1) ∨ (cmpP (tabOf text) a b = 1 ∧ cmpP (tabOf text) b c = -1) ∨ (cmpP (tabOf text) a b = 1 ∧ cmpP (tabOf text) b c = 0 ∧ cmpP (tabOf text) a c = 1) ∨ (cmpP (tabOf text) a b = 1 ∧ cmpP (tabOf text) b c = 1 ∧ cmpP (tabOf text) a c = 1)) := h3
  generalize hx : cmpP (tabOf text) a b = x at h3 hanti hkb
  generalize hy : cmpP (tabOf text) b c = y at h3
  generalize hzz : cmpP (tabOf text) a c = z at h3
  generalize hxn : cmpP (tabOf text) b a = xn at hanti
  have h4 : ((x = -1 ∧ xn = 1 ∧ y = -1 ∧ z = -1) ∨ (x = -1 ∧ xn = 1 ∧ y = 0 ∧ z = -1) ∨ (x = -1 ∧ xn = 1 ∧ y = 1) ∨ (x = 0 ∧ xn = 0 ∧ y = -1 ∧ z = -1) ∨ (x = 0 ∧ xn = 0 ∧ y = 0 ∧ z = 0) ∨ (x = 0 ∧ xn = 0 ∧ y = 1 ∧ z = 1) ∨ (x = 1 ∧ xn = -1 ∧ y = -1) ∨ (x = 1 ∧ xn = -1 ∧ y = 0 ∧ z = 1) ∨ (x = 1 ∧ xn = -1 ∧ y = 1 ∧ z = 1)) := by
    rcases h3 with h | h | h | h | h | h | h | h | h
    · exact .inl ⟨h.1, by omega, h.2⟩
    · exact .inr (.inl ⟨h.1, by omega, h.2⟩)
    · exact .inr (.inr (.inl ⟨h.1, by omega, h.2⟩))
    · exact .inr (.inr (.inr (.inl ⟨h.1, by omega, h.2⟩)))
    · exact .inr (.inr (.inr (.inr (.inl ⟨h.1, by omega, h.2⟩))))
    · exact .inr (.inr (.inr (.inr (.inr (.inl ⟨h.1, by omega, h.2⟩)))))
    · exact .inr (.inr (.inr (.inr (.inr (.inr (.inl ⟨h.1, by omega, h.2⟩))))))
    · exact .inr (.inr (.inr (.inr (.inr (.inr (.inr (.inl ⟨h.1, by omega, h.2⟩)))))))
    · exact .inr (.inr (.inr (.inr (.inr (.inr (.inr (.inr (⟨h.1, by omega, h.2⟩))))))))
  clear h3
  have hx := Lib.hid hx
  have hy := Lib.hid hy
  have hzz := Lib.hid hzz
  have hxn := Lib.hid hxn
  clear hanti
  have hself := Lib.hid hself
  have hkb := Lib.hid hkb
  obtain ⟨⟨ha, hb, hc⟩, ht⟩ := hz
  clear hl
  go_enter Tryd.func6, Tryd.ntmps6
  go_wp2_with (go_at_call 14; refine hlc.mono ?_; rintro e w1 ⟨rfl, rfl⟩)
  obtain ⟨W1, hW1⟩ : ∃ W1, W1 = W.alloc (.cells #[.string a, .string b, .string c] 9) := ⟨_, rfl⟩
  have hb1 : Below W.heap.size W W1 := by rw [hW1]; exact (Below.refl _ _).alloc (Nat.le_refl _) _
  rw [← hW1]
  clear hW1 hlc
  have hL1 := hL.below hb1 hL.size
  go_wp2_with fail
  refine (Parse_gives text W1 hL1 (by omega)).mono ?_
  rintro e w2 ⟨p, rfl, hp, hb2, hG⟩
  have hG := Lib.hid hG
  have hL2 := Lib.hid (hL1.below hb2 hL1.size)
  clear hp
  go_wp2_with fail
  refine (Compare_calls w2 p _ hG.out a b (by omega) (by omega)).mono ?_
  rintro e w3 ⟨rfl, hb3⟩
  rw [hx.out]
  go_wp2_with fail
  refine (Compare_calls w3 p _ (hG.out.later hb3) b c (by omega) (by omega)).mono ?_
  rintro e w4 ⟨rfl, hb4⟩
  rw [hy.out]
  have hb34 := hb3.trans (hb4.mono hb3.size)
  clear hb3 hb4
  go_wp2_with fail
  refine (Compare_calls w4 p _ (hG.out.later hb34) a c (by omega) (by omega)).mono ?_
  rintro e w5 ⟨rfl, hb5⟩
  rw [hzz.out]
  have hb25 := hb34.trans (hb5.mono hb34.size)
  clear hb34 hb5
  rcases h4 with ⟨rfl, rfl, rfl, rfl⟩ | ⟨rfl, rfl, rfl, rfl⟩ | ⟨rfl, rfl, rfl⟩ | ⟨rfl, rfl, rfl, rfl⟩ | ⟨rfl, rfl, rfl, rfl⟩ | ⟨rfl, rfl, rfl, rfl⟩ | ⟨rfl, rfl, rfl⟩ | ⟨rfl, rfl, rfl, rfl⟩ | ⟨rfl, rfl, rfl, rfl⟩
  all_goals
    go_wp2_with fail
    refine (Compare_calls w5 p _ (hG.out.later hb25) b a (by omega) (by omega)).mono ?_
    rintro e w6 ⟨rfl, hb6⟩
    rw [hxn.out]
    have hb26 := hb25.trans (hb6.mono hb25.size)
    clear hb25 hb6
    go_wp2_with fail
    refine (Compare_calls w6 p _ (hG.out.later hb26) a a (by omega) (by omega)).mono ?_
    rintro e w7 ⟨rfl, hb7⟩
    rw [hself.out]
    have hb27 := hb26.trans (hb7.mono hb26.size)
    clear hb26 hb7
    go_wp2_with fail
    refine (hG.out w7 hb27 a (by omega)).mono ?_
    rintro e w8 ⟨v1, rfl, ho1, hb8⟩
    have hr1 := Lib.hid (bytesRd_of ho1)
    have hb28 := hb27.trans (hb8.mono hb27.size)
    clear ho1 hb27 hb8
    go_wp2_with fail
    refine (hG.out w8 hb28 b (by omega)).mono ?_
    rintro e w9 ⟨v2, rfl, ho2, hb9⟩
    have hr2 := Lib.hid (bytesRd_of ho2)
    have hr3 := Lib.hid (hr1.out.below hb9)
    have hb29 := hb28.trans (hb9.mono hb28.size)
    clear ho2 hb28 hb9
    go_wp2_with fail
    refine (Compare_bytes w9 v1 v2 _ _ hr3.out hr2.out).mono ?_
    rintro e w10 ⟨rfl, rfl⟩
    rw [hkb.out]
    go_wp2_with fail
    refine (works_calls w9 (hL2.out.below hb29 hL2.out.size)).mono ?_
    rintro e w11 ⟨rfl, hb11⟩
    go_wp2_with fail
    go_ret
    have q1 := hb1.size
    have q2 := hb2.size
    have q3 := hb29.size
    exact ⟨rfl, hb1.trans ((hb2.mono q1).trans ((hb29.mono (by omega)).trans (hb11.mono (by omega))))⟩

theorem order_all (text a b c : ByteArray) (W : World) (hL : LaidW W) (h0 : text.size ≤ maxLen) (h1 : a.size ≤ maxLen) (h2 : b.size ≤ maxLen) (h3 : c.size ≤ maxLen) :
    Calls Tryd.prog 6 #[.string text, .string a, .string b, .string c] W fun e w' => e = .returned (.bool true) ∧ Below W.heap.size W w' := by
  cases hl : lightB text [a, b, c] with
  | true => exact order_walk text a b c W hL hl
  | false =>
    have hlc : Calls Tryd.prog 14 #[.string text, .slice (some ⟨W.heap.size, 0, none⟩) 3 3] (W.alloc (.cells #[.string a, .string b, .string c] 9)) fun e w' => e = .returned (.bool false) ∧ (W.alloc (.cells #[.string a, .string b, .string c] 9)) = w' := by
      have := light_calls text [a, b, c] W.heap.size _ (strs_of W [a, b, c]) (by simp)
      rw [hl] at this
      exact this
    have hb1 : Below W.heap.size W (W.alloc (.cells #[.string a, .string b, .string c] 9)) := (Below.refl _ _).alloc (Nat.le_refl _) _
    have hL1 := hL.below hb1 hL.size
    go_enter Tryd.func6, Tryd.ntmps6
    go_wp2_with (first | (go_at_call 14; refine hlc.mono ?_; rintro e w1 ⟨rfl, rfl⟩) | (go_at_call 15; refine (works_calls _ hL1).mono ?_; rintro e w2 ⟨rfl, hb2⟩))
    go_ret
    exact ⟨rfl, hb1.trans (hb2.mono hb1.size)⟩
end Go.Proofs.YtibhifjehbajnaaDoor
