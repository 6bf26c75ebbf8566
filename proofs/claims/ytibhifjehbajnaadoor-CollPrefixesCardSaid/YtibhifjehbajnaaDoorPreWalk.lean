/- CollPrefixes: the walk of the statement. -/
import Derived.Test.YtibhifjehbajnaaDoorPre2
namespace Go.Proofs.YtibhifjehbajnaaDoor
open Go.RowKit Go.Maps
set_option linter.unusedVariables false

set_option maxHeartbeats 8000000 in
set_option maxRecDepth 100000 in
theorem prefixes_all (text a b : ByteArray) (W : World) (hL : LaidW W) (h0 : text.size ≤ maxLen) (h1 : a.size ≤ maxLen) (h2 : b.size ≤ maxLen) :
    Calls Tryd.prog 7 #[.string text, .string a, .string b] W fun e w' => e = .returned (.bool true) ∧ Below W.heap.size W w' := by
  have hlc : Calls Tryd.prog 14 #[.string text, .slice (some ⟨W.heap.size, 0, none⟩) 2 2] (W.alloc (.cells #[.string a, .string b] 9)) fun e w' => e = .returned (.bool (lightB text [a, b])) ∧ (W.alloc (.cells #[.string a, .string b] 9)) = w' :=
    light_calls text [a, b] W.heap.size _ (strs_of W [a, b]) (by simp)
  have hb1 : Below W.heap.size W (W.alloc (.cells #[.string a, .string b] 9)) := (Below.refl _ _).alloc (Nat.le_refl _) _
  have hL1 := hL.below hb1 hL.size
  go_enter Tryd.func7, Tryd.ntmps7
  cases hl : lightB text [a, b] with
  | false =>
    rw [hl] at hlc
    go_wp2_with (first | (go_at_call 14; refine hlc.mono ?_; rintro e w1 ⟨rfl, rfl⟩) | (go_at_call 15; refine (works_calls _ hL1).mono ?_; rintro e w2 ⟨rfl, hb2⟩))
    go_ret
    exact ⟨rfl, hb1.trans (hb2.mono hb1.size)⟩
  | true =>
    rw [hl] at hlc
    have hz : (a.size ≤ 200 ∧ b.size ≤ 200) ∧ text.size ≤ 2000 := by simpa [lightB] using hl
    obtain ⟨⟨ha, hb⟩, ht⟩ := hz
    have hab : (a ++ b).size ≤ 400 := by rw [size_app]; omega
    clear hl
    cases hta : isText a with
    | false =>
      go_wp2_with (first | (go_at_call 14; refine hlc.mono ?_; rintro e w1 ⟨rfl, rfl⟩) | (go_at_call 24; refine (IsText_calls a _).mono ?_; rintro e w3 ⟨rfl, hb3⟩; rw [hta]) | (go_at_call 15; refine (works_calls _ (hL1.below hb3 hL1.size)).mono ?_; rintro e w2 ⟨rfl, hb2⟩))
      go_ret
      exact ⟨rfl, hb1.trans ((hb3.trans (hb2.mono hb3.size)).mono hb1.size)⟩
    | true =>
      go_wp2_with (go_at_call 14; refine hlc.mono ?_; rintro e w1 ⟨rfl, rfl⟩)
      obtain ⟨W1, hW1⟩ : ∃ W1, W1 = W.alloc (.cells #[.string a, .string b] 9) := ⟨_, rfl⟩
      rw [← hW1] at hb1 hL1 ⊢
      clear hW1 hlc
      refine (IsText_calls a W1).mono ?_
      rintro e w3 ⟨rfl, hb3⟩
      rw [hta]
      go_wp2_with fail
      refine (IsText_calls (a ++ b) w3).mono ?_
      rintro e w4 ⟨rfl, hb4⟩
      have hb34 := hb3.trans (hb4.mono hb3.size)
      have hL4 := Lib.hid (hL1.below hb34 hL1.size)
      have hb04 := hb1.trans (hb34.mono hb1.size)
      clear hb3 hb4 hb34 hb1 hL1
      cases htb : isText (a ++ b) with
      | false =>
        go_wp2_with (go_at_call 15; refine (works_calls _ hL4.out).mono ?_; rintro e w2 ⟨rfl, hb2⟩)
        go_ret
        exact ⟨rfl, hb04.trans (hb2.mono hb04.size)⟩
      | true =>
        have hcmp := Lib.hid (cmp_pre text a b hta htb)
        go_wp2_with fail
        refine (Parse_gives text w4 hL4.out (by omega)).mono ?_
        rintro e w5 ⟨p, rfl, hp, hb5, hG⟩
        have hG := Lib.hid hG
        clear hp
        go_wp2_with fail
        refine (Compare_calls w5 p _ hG.out a (a ++ b) (by omega) (by omega)).mono ?_
        rintro e w6 ⟨rfl, hb6⟩
        have hb46 := hb5.trans (hb6.mono hb5.size)
        have hL6 := Lib.hid (hL4.out.below hb46 hL4.out.size)
        have hc0 := hcmp.out
        generalize cmpP (tabOf text) a (a ++ b) = x at hc0
        go_wp2_with fail
        refine (works_calls _ hL6.out).mono ?_
        rintro e w7 ⟨rfl, hb7⟩
        go_wp2_with fail
        go_ret
        exact ⟨rfl, hb04.trans ((hb46.trans (hb7.mono hb46.size)).mono hb04.size)⟩
end Go.Proofs.YtibhifjehbajnaaDoor
