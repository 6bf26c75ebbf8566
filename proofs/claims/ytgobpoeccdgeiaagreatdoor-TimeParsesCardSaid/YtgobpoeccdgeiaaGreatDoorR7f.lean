/- Package chiselref07: cmp, second. -/
import Derived.Test.YtgobpoeccdgeiaaGreatDoorR7e
import Derived.Test.YtgobpoeccdgeiaaGreatDoorOe
namespace Go.Proofs.YtgobpoeccdgeiaaGreatDoor
open Go.RowKit NumP DigP DurP TimeP Go.Proofs.YtgobpoeccdgeiaaGreatDoorW.PrintWords
set_option linter.unusedVariables false

theorem sec_no {l : List UInt8} (h : (parseT l).2 ≠ 0 ∨ (parseT l).1 ≠ l) : (micP l).2 = false := by
  unfold micP
  rw [if_pos (by rcases h with h | h; exact Or.inl h; exact Or.inr (Or.inl h))]
theorem parse_can {l : List UInt8} (h0 : (parseT l).2 = 0) (h1 : (parseT l).1 = l) : ∃ x, NumP.Good x ∧ l = textN x := by
  unfold parseT at h0 h1
  cases hp : parseN l with
  | error k =>
    rw [hp] at h0 h1
    exact absurd (show k = 0 from h0) (by have := parseN_err hp; omega)
  | ok x =>
    rw [hp] at h1
    exact ⟨x, parseN_good hp, h1.symm⟩
theorem round_cut6 {x : NumP.Num} (hx : NumP.Good x) : (roundT (textN x) 6 [99, 117, 116]).1 = textN x ↔ x.d / P14 * P14 = x.d := by
  unfold roundT
  rw [canon_text hx]
  simp only
  rw [if_neg (by decide), show wayOf [99, 117, 116] = some .cut from rfl]
  simp only
  rw [show cutN .cut x.neg x.d (10 ^ (20 - (6 : Int)).toNat) * 10 ^ (20 - (6 : Int)).toNat = x.d / P14 * P14 from rfl]
  have hle : x.d / P14 * P14 ≤ x.d := Nat.div_mul_le_self _ _
  have hl := hx.1
  unfold checkedN
  rw [if_neg (show ¬ P50 ≤ x.d / P14 * P14 from Nat.not_le.2 (Nat.lt_of_le_of_lt hle hl))]
  show textN _ = textN x ↔ _
  constructor
  · intro h
    have := text_inj (x := ⟨x.neg && decide (0 < x.d / P14 * P14), x.d / P14 * P14⟩) ⟨Nat.lt_of_le_of_lt hle hl, by intro h2; simp at h2; exact h2.2⟩ hx h
    have := congrArg NumP.Num.d this
    exact this
  · intro h
    rw [h]
    cases hn : x.neg with
    | true => rw [decide_eq_true (hx.2 hn)]; rw [show x = ⟨x.neg, x.d⟩ from rfl, hn]; rfl
    | false => rw [show x = ⟨x.neg, x.d⟩ from rfl, hn]; rfl
theorem sec_iff {x : NumP.Num} (hx : NumP.Good x) : (micP (textN x)).2 = true ↔ 0 ≤ toI x ∧ toI x < 60 * (P20 : Nat) ∧ (roundT (textN x) 6 [99, 117, 116]).1 = textN x := by
  rw [round_cut6 hx]
  constructor
  · intro h
    have := mic_valid h
    obtain ⟨n, hn⟩ : ∃ n, n = (micP (textN x)).1 := ⟨_, rfl⟩
    rw [← hn] at this
    have he : x = ⟨false, n * P14⟩ := text_inj hx (good_pos (Nat.lt_trans (mic_small this.1) (by decide))) this.2
    have h14 : n * P14 < 60 * P20 := by
      have := Nat.mul_lt_mul_of_pos_right this.1 (show 0 < P14 by decide)
      exact this
    rw [he]
    refine ⟨Int.natCast_nonneg _, ?_, ?_⟩
    · show ((n * P14 : Nat) : Int) < _
      omega
    · show n * P14 / P14 * P14 = n * P14
      rw [Nat.mul_div_cancel _ (by decide)]
  · rintro ⟨h1, h2, h3⟩
    have hn : x.neg = false := by
      cases hn : x.neg with
      | false => rfl
      | true =>
        have := hx.2 hn
        unfold toI at h1
        rw [hn] at h1
        simp at h1
        omega
    have hd : x.d < 60 * P20 := by
      unfold toI at h2
      rw [hn] at h2
      simp at h2
      omega
    have hlt : x.d / P14 < 60000000 := by
      rw [Nat.div_lt_iff_lt_mul (by decide)]
      exact Nat.lt_of_lt_of_le hd (by decide)
    have := micP_text hlt
    rw [h3] at this
    have e : textN x = tx x.d := by rw [show x = ⟨x.neg, x.d⟩ from rfl, hn]; rfl
    rw [e, this]
set_option maxRecDepth 100000 in
set_option maxHeartbeats 2000000 in
theorem cmp7_r (s t : ByteArray) (W : World) (hs : s.size ≤ maxLen) (ht : t.size ≤ maxLen) : Calls Tryz.prog 65 #[.string s, .string t] W fun e w' => e = .returned (.int .i64 (cmpR (canonN s.data.toList) (canonN t.data.toList)).1) ∧ Below W.heap.size W w' := by
  have hc := Cmp_r s t W hs ht
  obtain ⟨a, ha⟩ : ∃ a, a = (cmpR (canonN s.data.toList) (canonN t.data.toList)).1 := ⟨_, rfl⟩
  obtain ⟨b, hb⟩ : ∃ a, a = (cmpR (canonN s.data.toList) (canonN t.data.toList)).2 := ⟨_, rfl⟩
  rw [← ha, ← hb] at hc
  rw [← ha]
  clear ha hb
  go_enter Tryz.func65, Tryz.ntmps65
  go_wp2_with fail
  refine hc.mono ?_
  rintro e w ⟨rfl, hb⟩
  go_wp2_with fail
  go_ret
  exact ⟨rfl, hb⟩
theorem can_zero : canonN [48] = .ok ⟨false, 0⟩ := by
  rw [show ([48] : List UInt8) = textN ⟨false, 0⟩ by decide +kernel]
  exact canon_text (good_pos (by decide))
theorem can_sixty : canonN [54, 48] = .ok ⟨false, 60 * P20⟩ := by
  rw [show ([54, 48] : List UInt8) = textN ⟨false, 60 * P20⟩ by decide +kernel]
  exact canon_text (good_pos (by decide))
theorem arr_eq {l : List UInt8} {s : ByteArray} (h : l = s.data.toList) : (⟨l.toArray⟩ : ByteArray) = s := by subst h; rfl
set_option maxRecDepth 100000 in
set_option maxHeartbeats 2000000 in
theorem second7_r (s : ByteArray) (W : World) (hs : s.size ≤ maxLen) : Calls Tryz.prog 86 #[.string s] W fun e w' => e = .returned (.bool (micP s.data.toList).2) ∧ Below W.heap.size W w' := by
  have hp := Parse_r s W hs
  obtain ⟨r, hr⟩ : ∃ r, r = (micP s.data.toList).2 := ⟨_, rfl⟩
  rw [← hr]
  obtain ⟨c, hc⟩ : ∃ c, c = (parseT s.data.toList).1 := ⟨_, rfl⟩
  obtain ⟨k, hk⟩ : ∃ c, c = (parseT s.data.toList).2 := ⟨_, rfl⟩
  unfold OutE at hp
  rw [← hc, ← hk] at hp
  obtain ⟨b, hb⟩ : ∃ b : ByteArray, b = ⟨c.toArray⟩ := ⟨_, rfl⟩
  rw [← hb] at hp
  by_cases h0 : k = 0
  · by_cases h1 : c = s.data.toList
    · subst h0
      obtain ⟨x, hx, hl⟩ := parse_can hk.symm (hc ▸ h1)
      have hbs : b = s := by rw [hb]; exact arr_eq h1
      subst hbs
      obtain ⟨n0, hn0⟩ : ∃ n, n = (cmpR (canonN b.data.toList) (canonN [48])).1 := ⟨_, rfl⟩
      obtain ⟨n6, hn6⟩ : ∃ n, n = (cmpR (canonN b.data.toList) (canonN [54, 48])).1 := ⟨_, rfl⟩
      have hc0 := fun w => cmp7_r b ⟨#[48]⟩ w hs (by decide)
      have hc6 := fun w => cmp7_r b ⟨#[54, 48]⟩ w hs (by decide)
      have hrd := fun w => RRound_cut b 6 w hs (by decide) (by decide)
      rw [← hn0] at hc0
      rw [← hn6] at hc6
      rw [hl, canon_text hx, can_zero] at hn0
      rw [hl, canon_text hx, can_sixty] at hn6
      have hi := sec_iff hx
      rw [← hl, ← hr] at hi
      obtain ⟨t, ht⟩ : ∃ t, t = (roundT b.data.toList 6 [99, 117, 116]).1 := ⟨_, rfl⟩
      rw [← ht] at hi
      unfold OutE at hrd
      rw [← ht] at hrd
      clear ht hr hc hk h1 hb hs
      have e0 : n0 = sgnI (toI x - 0) := hn0
      have e6 : n6 = sgnI (toI x - (60 * P20 : Nat)) := hn6
      clear hn0 hn6
      have s0 : n0 < 0 ↔ toI x < 0 := by rw [e0]; unfold sgnI; omega
      have s6 : n6 ≥ 0 ↔ toI x ≥ (60 * P20 : Nat) := by rw [e6]; unfold sgnI; omega
      clear e0 e6
      by_cases hA : n0 < 0
      · have hf : Hid (r = false) := Lib.hid (by cases r; rfl; have := hi.1 rfl; omega)
        clear hi s0 s6
        go_enter Tryz.func86, Tryz.ntmps86
        go_wp2_with fail
        refine (hp).mono ?_
        rintro e w ⟨rfl, hb⟩
        go_wp2_with fail
        refine (hc0 w).mono ?_
        rintro e w2 ⟨rfl, hb2⟩
        go_wp2_with fail
        go_ret
        exact ⟨by rw [hf.out]; rfl, hb.trans (hb2.mono hb.size)⟩
      by_cases hB : n6 ≥ 0
      · have hf : Hid (r = false) := Lib.hid (by cases r; rfl; have := hi.1 rfl; omega)
        clear hi s0 s6
        go_enter Tryz.func86, Tryz.ntmps86
        go_wp2_with fail
        refine (hp).mono ?_
        rintro e w ⟨rfl, hb⟩
        go_wp2_with fail
        refine (hc0 w).mono ?_
        rintro e w2 ⟨rfl, hb2⟩
        have hb2 := Lib.hid (hb.trans (hb2.mono hb.size))
        go_wp2_with fail
        refine (hc6 w2).mono ?_
        rintro e w3 ⟨rfl, hb3⟩
        go_wp2_with fail
        go_ret
        exact ⟨by rw [hf.out]; rfl, hb2.out.trans (hb3.mono hb2.out.size)⟩
      · have hf : Hid (r = decide (t = b.data.toList)) := Lib.hid (by
          cases r with
          | true => exact (decide_eq_true (hi.1 rfl).2.2).symm
          | false => exact (decide_eq_false fun e => by cases hi.2 ⟨by omega, by omega, e⟩).symm)
        clear hi s0 s6
        have hq : Hid ((t.toArray.toList == b.data.toList) = decide (t = b.data.toList)) := Lib.hid (by
          by_cases h : t = b.data.toList
          · rw [decide_eq_true h, beq_iff_eq]; exact h
          · rw [decide_eq_false h, beq_eq_false_iff_ne]; exact h)
        go_enter Tryz.func86, Tryz.ntmps86
        go_wp2_with fail
        refine (hp).mono ?_
        rintro e w ⟨rfl, hb⟩
        go_wp2_with fail
        refine (hc0 w).mono ?_
        rintro e w2 ⟨rfl, hb2⟩
        have hb2 := Lib.hid (hb.trans (hb2.mono hb.size))
        clear hb
        go_wp2_with fail
        refine (hc6 w2).mono ?_
        rintro e w3 ⟨rfl, hb3⟩
        have hb3 := Lib.hid (hb2.out.trans (hb3.mono hb2.out.size))
        clear hb2
        go_wp2_with fail
        refine (hrd w3).mono ?_
        rintro e w4 ⟨rfl, hb4⟩
        have hb4 := Lib.hid (hb3.out.trans (hb4.mono hb3.out.size))
        clear hb3
        go_wp2_with fail
        go_ret
        refine ⟨?_, hb4.out⟩
        rw [hf.out, ← hq.out]
        simp only [Lib.toList_data]
        rfl
    · have hf := sec_no (Or.inr (hc ▸ h1))
      subst h0
      have g1 : (b.toList == s.toList) = false := by rw [beq_eq_false_iff_ne, Lib.toList_data, Lib.toList_data, hb]; exact h1
      rw [← hr] at hf
      replace hf := Lib.hid hf
      clear hr hc hk h1 hb hs
      go_enter Tryz.func86, Tryz.ntmps86
      go_wp2_with fail
      refine hp.mono ?_
      rintro e w ⟨rfl, hb⟩
      go_wp2_with fail
      go_ret
      exact ⟨by rw [hf.out]; rfl, hb⟩
  · have hf := sec_no (Or.inl (hk ▸ h0))
    have g1 : (k == 0) = false := by simpa using h0
    rw [← hr] at hf
    replace hf := Lib.hid hf
    replace h0 := Lib.hid h0
    clear hr hc hk hb hs
    go_enter Tryz.func86, Tryz.ntmps86
    go_wp2_with fail
    refine hp.mono ?_
    rintro e w ⟨rfl, hb⟩
    go_wp2_with fail
    go_ret
    exact ⟨by rw [hf.out]; rfl, hb⟩
end Go.Proofs.YtgobpoeccdgeiaaGreatDoor
