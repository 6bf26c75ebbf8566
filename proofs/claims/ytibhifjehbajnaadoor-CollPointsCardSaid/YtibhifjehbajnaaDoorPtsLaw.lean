/- CollPoints: the walk of the statement. -/
import Derived.Test.YtibhifjehbajnaaDoorPtsWalk
import Derived.Test.YtibhifjehbajnaaDoorNil
namespace Go.Proofs.YtibhifjehbajnaaDoor
open Go.RowKit Go.Maps
set_option linter.unusedVariables false

theorem data_app (a b : ByteArray) : (a ++ b).data.toList = a.data.toList ++ b.data.toList := by simp
theorem not_app {x : UInt8} {a b : ByteArray} (h : x ∉ (a ++ b).data.toList) : x ∉ a.data.toList ∧ x ∉ b.data.toList := by
  rw [data_app, List.mem_append, not_or] at h
  exact h
theorem text_app {a b : ByteArray} (ha : isText a = true) (hb : isText b = true) : isText (a ++ b) = true := by
  have h1 := text_enc ha
  have h2 := text_enc hb
  exact (enc_text (rs := runesOf a ++ runesOf b) (fun c hc => (List.mem_append.1 hc).elim (h1.2 c) (h2.2 c)) (by rw [data_app, h1.1, h2.1, encA_app])).1

set_option maxHeartbeats 8000000 in
set_option maxRecDepth 100000 in
theorem points_walk (a b : ByteArray) (W : World) (hL : LaidW W) (hl : lightB ⟨#[]⟩ [a, b] = true) :
    Calls Tryd.prog 13 #[.string a, .string b] W fun e w' => e = .returned (.bool true) ∧ Below W.heap.size W w' := by
  have hz : a.size ≤ 200 ∧ b.size ≤ 200 := by simp [lightB] at hl; exact hl.1
  have hlc : Calls Tryd.prog 14 #[.string ⟨#[]⟩, .slice (some ⟨W.heap.size, 0, none⟩) 2 2] (W.alloc (.cells #[.string a, .string b] 9)) fun e w' => e = .returned (.bool true) ∧ (W.alloc (.cells #[.string a, .string b] 9)) = w' := by
    have := light_calls ⟨#[]⟩ [a, b] W.heap.size _ (strs_of W [a, b]) (by simp)
    rw [hl] at this
    exact this
  obtain ⟨ha, hb⟩ := hz
  clear hl
  have hb1 : Below W.heap.size W (W.alloc (.cells #[.string a, .string b] 9)) := (Below.refl _ _).alloc (Nat.le_refl _) _
  have hL1 := hL.below hb1 hL.size
  have hab : (a ++ b).size ≤ 400 := by rw [size_app]; omega
  have finish : ∀ w : World, LaidW w → Calls Tryd.prog 15 #[] w fun e w' => e = .returned (.bool true) ∧ Below w.heap.size w w' := fun w h => works_calls w h
  go_enter Tryd.func13, Tryd.ntmps13
  go_wp2_with (go_at_call 14; refine hlc.mono ?_; rintro e w1 ⟨rfl, rfl⟩)
  obtain ⟨W1, hW1⟩ : ∃ W1, W1 = W.alloc (.cells #[.string a, .string b] 9) := ⟨_, rfl⟩
  rw [← hW1] at hb1 hL1 ⊢
  clear hW1 hlc
  refine (IsText_calls a W1).mono ?_
  rintro e w2 ⟨rfl, hb2⟩
  have hb02 := Lib.hid (hb1.trans (hb2.mono hb1.size))
  have hL2 := Lib.hid (hL1.below hb2 hL1.size)
  clear hb1 hL1 hb2
  cases hta : isText a with
  | false =>
    go_wp2_with fail
    refine (finish _ hL2.out).mono ?_
    rintro e w3 ⟨rfl, hb3⟩
    go_wp2_with fail
    go_ret
    exact ⟨rfl, hb02.out.trans (hb3.mono hb02.out.size)⟩
  | true =>
    go_wp2_with fail
    refine (IsText_calls b w2).mono ?_
    rintro e w3 ⟨rfl, hb3⟩
    have hb03 := Lib.hid (hb02.out.trans (hb3.mono hb02.out.size))
    have hL3 := Lib.hid (hL2.out.below hb3 hL2.out.size)
    clear hb02 hL2 hb3
    cases htb : isText b with
    | false =>
      go_wp2_with fail
      refine (finish _ hL3.out).mono ?_
      rintro e w4 ⟨rfl, hb4⟩
      go_wp2_with fail
      go_ret
      exact ⟨rfl, hb03.out.trans (hb4.mono hb03.out.size)⟩
    | true =>
      have hca := Lib.hid (containsAny_pts (a ++ b) (text_app hta htb) (by omega) w3)
      unfold aDash at hca
      have hta := Lib.hid hta
      have htb := Lib.hid htb
      go_wp2_with fail
      refine hca.out.mono ?_
      rintro e w4 ⟨⟨r, rfl, hr⟩, hb4⟩
      have hr := Lib.hid hr
      have hb04 := Lib.hid (hb03.out.trans (hb4.mono hb03.out.size))
      have hL4 := Lib.hid (hL3.out.below hb4 hL3.out.size)
      clear hca hb03 hL3 hb4
      cases r with
      | true =>
        go_wp2_with fail
        refine (finish _ hL4.out).mono ?_
        rintro e w5 ⟨rfl, hb5⟩
        go_wp2_with fail
        go_ret
        exact ⟨rfl, hb04.out.trans (hb5.mono hb04.out.size)⟩
      | false =>
        have hno := hr.out rfl
        have h97 := not_app hno.1
        have h45 := not_app hno.2
        have hcmp := Lib.hid (pts_cmp hta.out htb.out h97.1 h45.1 h97.2 h45.2)
        have hah : Hid (a.size ≠ 0 → cmpP (tabOf ptsB) ⟨#[97]⟩ a = -1 ∧ cmpP (tabOf ptsB) ⟨#[97, 97, 97]⟩ a = -1) := fun h0 => pts_ahead hta.out h0 h97.1 h45.1
        clear hno h97 h45 hr
        obtain ⟨x, hx⟩ : ∃ x, x = Lib.compareBytes a.data.toList b.data.toList := ⟨_, rfl⟩
        rw [← hx] at hcmp
        have hx := Lib.hid hx
        go_wp2_with fail
        refine (Parse_gives ptsB w4 hL4.out (by decide)).mono ?_
        rintro e w5 ⟨p, rfl, hp, hb5, hG⟩
        rw [pts_err]
        have hG := Lib.hid hG
        have hb05 := Lib.hid (hb04.out.trans (hb5.mono hb04.out.size))
        have hL5 := Lib.hid (hL4.out.below hb5 hL4.out.size)
        clear hb04 hL4 hb5 hp
        go_wp2_with fail
        refine (cmpString_calls a b w5).mono ?_
        rintro e w5' ⟨rfl, rfl⟩
        rw [← hx.out]
        go_wp2_with fail
        refine (Compare_calls w5 p _ hG.out a b (by omega) (by omega)).mono ?_
        rintro e w6 ⟨rfl, hb6⟩
        rw [hcmp.out.1]
        go_wp2_with fail
        refine (Compare_calls w6 none _ (gives_nil w6) a b (by omega) (by omega)).mono ?_
        rintro e w7 ⟨rfl, hb7⟩
        rw [hcmp.out.2]
        have hb57 := Lib.hid (hb6.trans (hb7.mono hb6.size))
        clear hb6 hb7
        obtain ⟨W8, hW8⟩ : ∃ W8, W8 = w7.alloc (.cells #[.map none, .int .i64 0, .int .i64 0, .int .i64 0, .int .i64 0] 46) := ⟨_, rfl⟩
        have hb8 : Below w7.heap.size w7 W8 := by rw [hW8]; exact (Below.refl _ _).alloc (Nat.le_refl _) _
        have hblk : W8.heap[w7.heap.size]? = some (.cells #[.map none, .int .i64 0, .int .i64 0, .int .i64 0, .int .i64 0] 46 (0, 0)) := by
          rw [hW8]
          exact (MapKept.heap_alloc _ _).1
        have hsz8 : W8.heap.size = w7.heap.size + 1 := by rw [hW8]; simp
        have hRd : TabRd W8 w7.heap.size t0 W8.heap.size := ⟨by omega, Nat.le_refl _, none, hblk, .inl ⟨rfl, rfl⟩⟩
        have hGn := Lib.hid (gives_some hRd (by decide) (by decide) (by decide))
        have hb58 := Lib.hid (hb57.out.trans (hb8.mono hb57.out.size))
        clear hb57 hb8 hblk hsz8 hRd
        go_wp2_with fail
        rw [← hW8]
        clear hW8
        refine (Compare_calls W8 _ _ hGn.out a b (by omega) (by omega)).mono ?_
        rintro e w9 ⟨rfl, hb9⟩
        rw [hcmp.out.2]
        have hb59 := Lib.hid (hb58.out.trans (hb9.mono hb58.out.size))
        clear hb58 hb9 hGn
        by_cases h0 : a.size = 0
        · have hL9 := Lib.hid (hL5.out.below hb59.out hL5.out.size)
          have hb09 := Lib.hid (hb05.out.trans (hb59.out.mono hb05.out.size))
          obtain rfl : a = ⟨#[]⟩ := by
            apply ByteArray.ext
            exact Array.eq_empty_of_size_eq_zero h0
          clear h0
          go_wp2_with fail
          refine (finish _ hL9.out).mono ?_
          rintro e w10 ⟨rfl, hb10⟩
          go_wp2_with fail
          go_ret
          exact ⟨rfl, hb09.out.trans (hb10.mono hb09.out.size)⟩
        · have hne : (a.toList == []) = false := by
            rw [beq_eq_false_iff_ne, Lib.toList_data]
            intro e
            have := congrArg List.length e
            rw [← Lib.size_eq] at this
            exact h0 this
          have h1 := Lib.hid (hah.out h0).1
          have h2 := Lib.hid (hah.out h0).2
          clear h0
          go_wp2_with fail
          refine (Compare_calls w9 p _ (hG.out.later hb59.out) ⟨#[97]⟩ a (by decide) (by omega)).mono ?_
          rintro e w10 ⟨rfl, hb10⟩
          rw [h1.out]
          have hb510 := Lib.hid (hb59.out.trans (hb10.mono hb59.out.size))
          clear hb59 hb10
          go_wp2_with fail
          refine (Compare_calls w10 p _ (hG.out.later hb510.out) ⟨#[97, 97, 97]⟩ a (by decide) (by omega)).mono ?_
          rintro e w11 ⟨rfl, hb11⟩
          rw [h2.out]
          have hb511 := Lib.hid (hb510.out.trans (hb11.mono hb510.out.size))
          clear hb510 hb11
          have hL11 := Lib.hid (hL5.out.below hb511.out hL5.out.size)
          have hb011 := Lib.hid (hb05.out.trans (hb511.out.mono hb05.out.size))
          go_wp2_with fail
          refine (finish _ hL11.out).mono ?_
          rintro e w12 ⟨rfl, hb12⟩
          go_wp2_with fail
          go_ret
          exact ⟨rfl, hb011.out.trans (hb12.mono hb011.out.size)⟩
theorem points_all (a b : ByteArray) (W : World) (hL : LaidW W) (h1 : a.size ≤ maxLen) (h2 : b.size ≤ maxLen) :
    Calls Tryd.prog 13 #[.string a, .string b] W fun e w' => e = .returned (.bool true) ∧ Below W.heap.size W w' := by
  cases hl : lightB ⟨#[]⟩ [a, b] with
  | true => exact points_walk a b W hL hl
  | false =>
    have hlc : Calls Tryd.prog 14 #[.string ⟨#[]⟩, .slice (some ⟨W.heap.size, 0, none⟩) 2 2] (W.alloc (.cells #[.string a, .string b] 9)) fun e w' => e = .returned (.bool false) ∧ (W.alloc (.cells #[.string a, .string b] 9)) = w' := by
      have := light_calls ⟨#[]⟩ [a, b] W.heap.size _ (strs_of W [a, b]) (by simp)
      rw [hl] at this
      exact this
    have hb1 : Below W.heap.size W (W.alloc (.cells #[.string a, .string b] 9)) := (Below.refl _ _).alloc (Nat.le_refl _) _
    have hL1 := hL.below hb1 hL.size
    go_enter Tryd.func13, Tryd.ntmps13
    go_wp2_with (first | (go_at_call 14; refine hlc.mono ?_; rintro e w1 ⟨rfl, rfl⟩) | (go_at_call 15; refine (works_calls _ hL1).mono ?_; rintro e w2 ⟨rfl, hb2⟩))
    go_ret
    exact ⟨rfl, hb1.trans (hb2.mono hb1.size)⟩
end Go.Proofs.YtibhifjehbajnaaDoor
