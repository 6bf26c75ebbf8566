/- CollIgnored: the statement, walked. -/
import Derived.Test.YtibhifjehbajnaaDoorIgnWalk
namespace Go.Proofs.YtibhifjehbajnaaDoor
open Go.RowKit Go.Maps
set_option linter.unusedVariables false

/-- A row of runes in memory. -/
structure RunesAt (W : World) (B : Nat) (rs : List Int) : Prop where
  at_ : ∀ i (h : i < rs.length), W.cell? ⟨B, i, none⟩ = some (.int .i32 (rs[i]))
theorem conv_pre {W : World} {B : Nat} {rs : List Int} (h : RunesAt W B rs) (k cap : Nat) (hk : k ≤ rs.length) : (convert 54 9 (.slice (some ⟨B, 0, none⟩) k cap)).run Tryd.prog W = .ok (.string (runesBytes (rs.take k))) W := by
  refine run_convert_runes W 54 9 21 ⟨B, 0, none⟩ k cap rs hk Tryd.underlying54 Tryd.underlying21 Tryd.underlying9 (fun j hj => ?_)
  have e : ((⟨B, 0, none⟩ : Addr).add j) = ⟨B, 0 + j, none⟩ := by unfold Addr.add; split <;> simp_all
  rw [e, Nat.zero_add, h.at_ j hj]
  simp [List.getD, hj]
theorem conv_suf {W : World} {B : Nat} {rs : List Int} (h : RunesAt W B rs) (k cap : Nat) (hk : k ≤ rs.length) : (convert 54 9 (.slice (some ⟨B, k, none⟩) (rs.length - k) cap)).run Tryd.prog W = .ok (.string (runesBytes (rs.drop k))) W := by
  have := run_convert_runes W 54 9 21 ⟨B, k, none⟩ (rs.length - k) cap (rs.drop k) (by simp) Tryd.underlying54 Tryd.underlying21 Tryd.underlying9 (fun j hj => ?_)
  · rw [List.take_of_length_le (by simp)] at this
    exact this
  · have hj' : k + j < rs.length := by simp at hj; omega
    have e : ((⟨B, k, none⟩ : Addr).add j) = ⟨B, k + j, none⟩ := by unfold Addr.add; split <;> simp_all
    rw [e, h.at_ _ hj']
    simp [List.getD, hj']
/-- Nothing is left. -/
theorem conv_end {W : World} (B o cap : Nat) : (convert 54 9 (.slice (some ⟨B, o, none⟩) 0 cap)).run Tryd.prog W = .ok (.string (runesBytes [])) W := by
  have := run_convert_runes W 54 9 21 ⟨B, o, none⟩ 0 cap [] (by simp) Tryd.underlying54 Tryd.underlying21 Tryd.underlying9 (fun j hj => by simp at hj)
  simpa using this

theorem encA_out (p : Int → Bool) : ∀ x : List Int, (encA (x.filter p)).length ≤ (encA x).length
  | [] => Nat.le_refl _
  | a :: x => by
    have ih := encA_out p x
    rw [encA_cons, List.length_append]
    cases h : p a with
    | true => rw [List.filter_cons_of_pos h, encA_cons, List.length_append]; omega
    | false => rw [List.filter_cons_of_neg (by simp [h])]; omega
theorem rep_size {s w : ByteArray} (hs : isText s = true) (hl : lenOf w = 1) : (⟨(Lib.replaceAll s.data.toList w.data.toList []).toArray⟩ : ByteArray).size ≤ s.size := by
  obtain ⟨_, c, _, hc, hw⟩ := lenOf_one hl
  have hts := text_enc hs
  rw [Lib.size_eq, Lib.size_eq s]
  show (Lib.replaceAll s.data.toList w.data.toList []).length ≤ _
  rw [hts.1, hw, replaceAll_enc hc hts.2]
  exact encA_out _ _

set_option maxHeartbeats 8000000 in
set_option maxRecDepth 100000 in
theorem ignored_walk (text s w : ByteArray) (c : Int) (at_ : Int) (W : World) (hL : LaidW W) (hl : lightB text [s] = true) (hc : -2147483648 ≤ c ∧ c ≤ 2147483647) (hat : 0 ≤ at_ ∧ at_ ≤ 255) (hw : w = Utf8.encode c) :
    Calls Tryd.prog 11 #[.string text, .string s, .int .i32 c, .int .u8 at_] W fun e w' => e = .returned (.bool true) ∧ Below W.heap.size W w' := by
  have hz : s.size ≤ 200 ∧ text.size ≤ 2000 := by simpa [lightB] using hl
  have hlc : Calls Tryd.prog 14 #[.string text, .slice (some ⟨W.heap.size, 0, none⟩) 1 1] (W.alloc (.cells #[.string s] 9)) fun e w' => e = .returned (.bool true) ∧ (W.alloc (.cells #[.string s] 9)) = w' := by
    have := light_calls text [s] W.heap.size _ (strs_of W [s]) (by simp)
    rw [hl] at this
    exact this
  obtain ⟨hs, htx⟩ := hz
  clear hl
  have hwz : w.size ≤ 4 := by rw [hw]; exact encode_size_le c
  have hb1 : Below W.heap.size W (W.alloc (.cells #[.string s] 9)) := (Below.refl _ _).alloc (Nat.le_refl _) _
  have hL1 := hL.below hb1 hL.size
  have finish : ∀ w : World, LaidW w → Calls Tryd.prog 15 #[] w fun e w' => e = .returned (.bool true) ∧ Below w.heap.size w w' := fun w h => works_calls w h
  replace hw := Lib.hid hw
  go_enter Tryd.func11, Tryd.ntmps11
  go_wp2_with (go_at_call 14; refine hlc.mono ?_; rintro e w1 ⟨rfl, rfl⟩)
  obtain ⟨W1, hW1⟩ : ∃ W1, W1 = W.alloc (.cells #[.string s] 9) := ⟨_, rfl⟩
  rw [← hW1] at hb1 hL1 ⊢
  clear hW1 hlc
  refine (IsText_calls s W1).mono ?_
  rintro e w2 ⟨rfl, hb2⟩
  have hb02 := Lib.hid (hb1.trans (hb2.mono hb1.size))
  have hL2 := Lib.hid (hL1.below hb2 hL1.size)
  clear hb1 hL1 hb2
  cases hts : isText s with
  | false =>
    go_wp2_with fail
    refine (finish _ hL2.out).mono ?_
    rintro e w3 ⟨rfl, hb3⟩
    go_wp2_with fail
    go_ret
    exact ⟨rfl, hb02.out.trans (hb3.mono hb02.out.size)⟩
  | true =>
    have hts := Lib.hid hts
    have hP := Lib.hid (Parse_gives (igT text w) w2 hL2.out (by rw [igT_size]; omega))
    rw [← ig_is] at hP
    have hez := encode_size_le c
    go_wp2_with fail
    rw [← hw.out]
    clear hez
    refine hP.out.mono ?_
    rw [ig_is]
    rintro e w3 ⟨p, rfl, hp, hb3, hG⟩
    have hG := Lib.hid hG
    have hb03 := Lib.hid (hb02.out.trans (hb3.mono hb02.out.size))
    have hL3 := Lib.hid (hL2.out.below hb3 hL2.out.size)
    clear hb02 hL2 hb3 hp hP
    obtain ⟨er, her⟩ : ∃ er, er = (parseP (igT text w)).2.1 := ⟨_, rfl⟩
    rw [← her]
    replace her := Lib.hid her
    by_cases he : er = 0
    · subst he
      have hlen := Lib.hid (Len_calls w w3 (by omega))
      go_wp2_with fail
      refine hlen.out.mono ?_
      rintro e w4 ⟨rfl, hb4⟩
      have hb04 := Lib.hid (hb03.out.trans (hb4.mono hb03.out.size))
      have hL4 := Lib.hid (hL3.out.below hb4 hL3.out.size)
      have hG4 := Lib.hid (hG.out.later hb4)
      clear hb03 hL3 hb4 hG hlen
      obtain ⟨ln, hln⟩ : ∃ ln, ln = lenOf w := ⟨_, rfl⟩
      rw [← hln]
      replace hln := Lib.hid hln
      by_cases h1 : ln = 1
      · subst h1
        replace her := Lib.hid her.out.symm
        replace hln := Lib.hid hln.out.symm
        obtain ⟨cap, W5, hcv, hcells, hcap, hb5⟩ := runes_conv2 s w4 (by omega)
        have hRl := runesOf_len s
        have hRA : Hid (RunesAt W5 w4.heap.size (runesOf s)) := ⟨hcells⟩
        clear hcells
        have hb05 := Lib.hid (hb04.out.trans (hb5.mono hb04.out.size))
        have hL5 := Lib.hid (hL4.out.below hb5 hL4.out.size)
        have hG5 := Lib.hid (hG4.out.later hb5)
        obtain ⟨B, hB⟩ : ∃ B, B = w4.heap.size := ⟨_, rfl⟩
        rw [← hB] at hcv hRA
        obtain ⟨m, hm⟩ : ∃ m, m = (runesOf s).length := ⟨_, rfl⟩
        rw [← hm] at hcv hcap hRl
        replace hm := Lib.hid hm
        clear hB hb5 hb04 hL4 hG4
        have q0 : 0 ≤ at_ % ((m : Int) + 1) := Int.emod_nonneg _ (by omega)
        have q1 : at_ % ((m : Int) + 1) < (m : Int) + 1 := Int.emod_lt_of_pos _ (by omega)
        obtain ⟨K, hK⟩ : ∃ K : Nat, at_ % ((m : Int) + 1) = (K : Int) := ⟨(at_ % ((m : Int) + 1)).toNat, by omega⟩
        have hKm : K ≤ m := by omega
        clear q0 q1
        go_wp2_with fail
        rw [hK]
        clear hK hat
        obtain ⟨P1, hP1⟩ : ∃ P1, P1 = runesBytes ((runesOf s).take K) := ⟨_, rfl⟩
        obtain ⟨P2, hP2⟩ : ∃ P2, P2 = runesBytes ((runesOf s).drop K) := ⟨_, rfl⟩
        have z1 : P1.size ≤ 800 := by
          have := runesBytes_size_le ((runesOf s).take K)
          rw [← hP1, List.length_take] at this
          omega
        have z2 : P2.size ≤ 800 := by
          have := runesBytes_size_le ((runesOf s).drop K)
          rw [← hP2, List.length_drop, ← hm.out] at this
          omega
        have c1 : ∀ n, (convert 54 9 (.slice (some ⟨B, 0, none⟩) K cap)).run Tryd.prog (W5.drewN n) = .ok (.string P1) (W5.drewN n) := fun n => by
          rw [hP1]; exact conv_pre (W := W5.drewN n) ⟨hRA.out.at_⟩ K cap (by rw [← hm.out]; exact hKm)
        replace hP1 := Lib.hid hP1
        replace hP2 := Lib.hid hP2
        have d1 : (9223372036854775807 < P1.size + w.size) = False := eq_false (by omega)
        have d2 : (9223372036854775807 < (P1 ++ w).size + P2.size) = False := eq_false (by rw [size_app]; omega)
        have d3 : (9223372036854775807 < P1.size + w.size + P2.size) = False := eq_false (by omega)
        have k0 : (0 : Int) ≤ (K : Int) := by omega
        have k1 : (K : Int) ≤ (cap : Int) := by omega
        have k2 : (K : Int) ≤ (m : Int) := by omega
        have k3 : K ≤ cap := by omega
        by_cases hKc : cap = K
        · have e1 : m = K := by omega
          subst e1
          subst hKc
          have hP2e : P2 = runesBytes [] := by rw [hP2.out, hm.out, List.drop_length]
          have c2 : ∀ o cp n, (convert 54 9 (.slice (some ⟨B, o, none⟩) 0 cp)).run Tryd.prog (W5.drewN n) = .ok (.string P2) (W5.drewN n) := fun o cp n => by
            rw [hP2e]; exact conv_end (W := W5.drewN n) B o cp
          clear hP2e
          go_quiet (fail)
          rename_i nq
          have hbq := below_drewN (Below.refl W5.heap.size W5) nq
          obtain ⟨W6, hW6⟩ : ∃ W6, W6 = W5.drewN nq := ⟨_, rfl⟩
          rw [← hW6] at hbq ⊢
          have hb06 := Lib.hid (hb05.out.trans (hbq.mono hb05.out.size))
          have hL6 := Lib.hid (hL5.out.below hbq hL5.out.size)
          have hG6 := Lib.hid (hG5.out.later hbq)
          clear hW6 hbq hb05 hL5 hG5 c1 c2 d1 d2 d3 k0 k1 k2 k3
          obtain ⟨X, hX⟩ : ∃ X, X = P1 ++ w ++ P2 := ⟨_, rfl⟩
          have hXz : X.size ≤ 2000 := by rw [hX, size_app, size_app]; omega
          have hkeys := ign_keys text s w P1 P2 cap htx hts.out hln.out her.out (by rw [← hm.out]; omega) (by rw [hP1.out]; exact runesBytes_data fun x hx => (text_enc hts.out).2 x (List.mem_of_mem_take hx)) (by rw [hP2.out]; exact runesBytes_data fun x hx => (text_enc hts.out).2 x (List.mem_of_mem_drop hx))
          rw [← hX] at hkeys ⊢
          clear hX
          obtain ⟨R, hR⟩ : ∃ R : ByteArray, R = ⟨(Lib.replaceAll s.data.toList w.data.toList []).toArray⟩ := ⟨_, rfl⟩
          rw [← hR] at hkeys
          have hkeys := Lib.hid hkeys
          have hw1 : 1 ≤ w.size := by
            rcases Nat.eq_zero_or_pos w.size with h | h
            · have := lenOf_zero w h
              rw [hln.out] at this
              exact absurd this (by decide)
            · exact h
          have hRz : R.size ≤ 200 := by rw [hR]; exact Nat.le_trans (rep_size hts.out hln.out) hs
          replace hR := Lib.hid hR
          obtain ⟨mx, hmx⟩ := hL6.out.maxlen
          go_wp2_with fail
          refine (hG6.out W6 (Below.refl _ _) X (by omega)).mono ?_
          rintro e w7 ⟨v1, rfl, ho1, hb7⟩
          have hr1 := Lib.hid (bytesRd_of ho1)
          clear ho1
          go_wp2_with fail
          refine (hG6.out w7 hb7 s (by omega)).mono ?_
          rintro e w8 ⟨v2, rfl, ho2, hb8⟩
          have hr2 := Lib.hid (bytesRd_of ho2)
          have hr1 := Lib.hid (hr1.out.below hb8)
          have hb68 := Lib.hid (hb7.trans (hb8.mono hb7.size))
          clear ho2 hb7 hb8
          go_wp2_with fail
          refine (Equal_bytes w8 v1 v2 _ _ hr1.out hr2.out).mono ?_
          rintro e w9 ⟨rfl, rfl⟩
          rw [hkeys.out.1, beq_self_eq_true]
          go_wp2_with fail
          have hmx8 : w8.cell? ⟨0, 0, none⟩ = some (.int .i64 mx) := (hb68.out.cell (p := ⟨0, 0, none⟩) (by have := hL6.out.size; show 0 < _; omega)).trans hmx
          have hra := Lib.hid (Tryd.strings_ReplaceAll s w ⟨#[]⟩ mx w8 (by omega) hmx8 hw1 (by have : (⟨#[]⟩ : ByteArray).size = 0 := rfl; rw [this]; omega))
          clear hmx8 hmx
          rw [show (⟨#[]⟩ : ByteArray).data.toList = [] from rfl, ← hR.out] at hra
          refine hra.out.mono ?_
          rintro e w9 ⟨rfl, hb9⟩
          have hb69 := Lib.hid (hb68.out.trans (hb9.mono hb68.out.size))
          clear hb68 hb9 hra hr1 hr2
          go_wp2_with fail
          refine (hG6.out w9 hb69.out R (by omega)).mono ?_
          rintro e w10 ⟨v3, rfl, ho3, hb10⟩
          have hr3 := Lib.hid (bytesRd_of ho3)
          have hb610 := Lib.hid (hb69.out.trans (hb10.mono hb69.out.size))
          clear ho3 hb69 hb10
          go_wp2_with fail
          refine (hG6.out w10 hb610.out s (by omega)).mono ?_
          rintro e w11 ⟨v4, rfl, ho4, hb11⟩
          have hr4 := Lib.hid (bytesRd_of ho4)
          have hr3 := Lib.hid (hr3.out.below hb11)
          have hb611 := Lib.hid (hb610.out.trans (hb11.mono hb610.out.size))
          clear ho4 hb610 hb11
          go_wp2_with fail
          refine (Equal_bytes w11 v3 v4 _ _ hr3.out hr4.out).mono ?_
          rintro e w12 ⟨rfl, rfl⟩
          rw [hkeys.out.2, beq_self_eq_true]
          go_wp2_with fail
          refine (finish _ (hL6.out.below hb611.out hL6.out.size)).mono ?_
          rintro e w12 ⟨rfl, hb12⟩
          go_wp2_with fail
          go_ret
          have g1 := hb06.out.size
          have g2 := hb611.out.size
          exact ⟨rfl, hb06.out.trans ((hb611.out.mono g1).trans (hb12.mono (by omega)))⟩
        · have hK1 : K < cap := by omega
          have c2 : ∀ n, (convert 54 9 (.slice (some ⟨B, K, none⟩) (m - K) (cap - K))).run Tryd.prog (W5.drewN n) = .ok (.string P2) (W5.drewN n) := fun n => by
            rw [hP2.out, hm.out]; exact conv_suf (W := W5.drewN n) ⟨hRA.out.at_⟩ K (cap - K) (by rw [← hm.out]; exact hKm)
          go_quiet (fail)
          rename_i nq
          have hbq := below_drewN (Below.refl W5.heap.size W5) nq
          obtain ⟨W6, hW6⟩ : ∃ W6, W6 = W5.drewN nq := ⟨_, rfl⟩
          rw [← hW6] at hbq ⊢
          have hb06 := Lib.hid (hb05.out.trans (hbq.mono hb05.out.size))
          have hL6 := Lib.hid (hL5.out.below hbq hL5.out.size)
          have hG6 := Lib.hid (hG5.out.later hbq)
          clear hW6 hbq hb05 hL5 hG5 c1 c2 d1 d2 d3 k0 k1 k2 k3
          obtain ⟨X, hX⟩ : ∃ X, X = P1 ++ w ++ P2 := ⟨_, rfl⟩
          have hXz : X.size ≤ 2000 := by rw [hX, size_app, size_app]; omega
          have hkeys := ign_keys text s w P1 P2 K htx hts.out hln.out her.out (by rw [← hm.out]; omega) (by rw [hP1.out]; exact runesBytes_data fun x hx => (text_enc hts.out).2 x (List.mem_of_mem_take hx)) (by rw [hP2.out]; exact runesBytes_data fun x hx => (text_enc hts.out).2 x (List.mem_of_mem_drop hx))
          rw [← hX] at hkeys ⊢
          clear hX
          obtain ⟨R, hR⟩ : ∃ R : ByteArray, R = ⟨(Lib.replaceAll s.data.toList w.data.toList []).toArray⟩ := ⟨_, rfl⟩
          rw [← hR] at hkeys
          have hkeys := Lib.hid hkeys
          have hw1 : 1 ≤ w.size := by
            rcases Nat.eq_zero_or_pos w.size with h | h
            · have := lenOf_zero w h
              rw [hln.out] at this
              exact absurd this (by decide)
            · exact h
          have hRz : R.size ≤ 200 := by rw [hR]; exact Nat.le_trans (rep_size hts.out hln.out) hs
          replace hR := Lib.hid hR
          obtain ⟨mx, hmx⟩ := hL6.out.maxlen
          go_wp2_with fail
          refine (hG6.out W6 (Below.refl _ _) X (by omega)).mono ?_
          rintro e w7 ⟨v1, rfl, ho1, hb7⟩
          have hr1 := Lib.hid (bytesRd_of ho1)
          clear ho1
          go_wp2_with fail
          refine (hG6.out w7 hb7 s (by omega)).mono ?_
          rintro e w8 ⟨v2, rfl, ho2, hb8⟩
          have hr2 := Lib.hid (bytesRd_of ho2)
          have hr1 := Lib.hid (hr1.out.below hb8)
          have hb68 := Lib.hid (hb7.trans (hb8.mono hb7.size))
          clear ho2 hb7 hb8
          go_wp2_with fail
          refine (Equal_bytes w8 v1 v2 _ _ hr1.out hr2.out).mono ?_
          rintro e w9 ⟨rfl, rfl⟩
          rw [hkeys.out.1, beq_self_eq_true]
          go_wp2_with fail
          have hmx8 : w8.cell? ⟨0, 0, none⟩ = some (.int .i64 mx) := (hb68.out.cell (p := ⟨0, 0, none⟩) (by have := hL6.out.size; show 0 < _; omega)).trans hmx
          have hra := Lib.hid (Tryd.strings_ReplaceAll s w ⟨#[]⟩ mx w8 (by omega) hmx8 hw1 (by have : (⟨#[]⟩ : ByteArray).size = 0 := rfl; rw [this]; omega))
          clear hmx8 hmx
          rw [show (⟨#[]⟩ : ByteArray).data.toList = [] from rfl, ← hR.out] at hra
          refine hra.out.mono ?_
          rintro e w9 ⟨rfl, hb9⟩
          have hb69 := Lib.hid (hb68.out.trans (hb9.mono hb68.out.size))
          clear hb68 hb9 hra hr1 hr2
          go_wp2_with fail
          refine (hG6.out w9 hb69.out R (by omega)).mono ?_
          rintro e w10 ⟨v3, rfl, ho3, hb10⟩
          have hr3 := Lib.hid (bytesRd_of ho3)
          have hb610 := Lib.hid (hb69.out.trans (hb10.mono hb69.out.size))
          clear ho3 hb69 hb10
          go_wp2_with fail
          refine (hG6.out w10 hb610.out s (by omega)).mono ?_
          rintro e w11 ⟨v4, rfl, ho4, hb11⟩
          have hr4 := Lib.hid (bytesRd_of ho4)
          have hr3 := Lib.hid (hr3.out.below hb11)
          have hb611 := Lib.hid (hb610.out.trans (hb11.mono hb610.out.size))
          clear ho4 hb610 hb11
          go_wp2_with fail
          refine (Equal_bytes w11 v3 v4 _ _ hr3.out hr4.out).mono ?_
          rintro e w12 ⟨rfl, rfl⟩
          rw [hkeys.out.2, beq_self_eq_true]
          go_wp2_with fail
          refine (finish _ (hL6.out.below hb611.out hL6.out.size)).mono ?_
          rintro e w12 ⟨rfl, hb12⟩
          go_wp2_with fail
          go_ret
          have g1 := hb06.out.size
          have g2 := hb611.out.size
          exact ⟨rfl, hb06.out.trans ((hb611.out.mono g1).trans (hb12.mono (by omega)))⟩
      · have hne : (ln != 1) = true := by rw [bne_iff_ne]; exact h1
        go_wp2_with fail
        refine (finish _ hL4.out).mono ?_
        rintro e w5 ⟨rfl, hb5⟩
        go_wp2_with fail
        go_ret
        exact ⟨rfl, hb04.out.trans (hb5.mono hb04.out.size)⟩
    · have hne : (er != 0) = true := by rw [bne_iff_ne]; exact he
      go_wp2_with fail
      refine (finish _ hL3.out).mono ?_
      rintro e w4 ⟨rfl, hb4⟩
      go_wp2_with fail
      go_ret
      exact ⟨rfl, hb03.out.trans (hb4.mono hb03.out.size)⟩
theorem wf_bounds {k : IntKind} {n : Int} (h : (Lit.int k n).wf = true) : k.min ≤ n ∧ n ≤ k.max := by
  simpa [Lit.wf] using h
theorem ignored_all (text s : ByteArray) (c at_ : Int) (W : World) (hL : LaidW W) (h0 : text.size ≤ maxLen) (h1 : s.size ≤ maxLen) (h2 : IntKind.i32.min ≤ c ∧ c ≤ IntKind.i32.max) (h3 : IntKind.u8.min ≤ at_ ∧ at_ ≤ IntKind.u8.max) :
    Calls Tryd.prog 11 #[.string text, .string s, .int .i32 c, .int .u8 at_] W fun e w' => e = .returned (.bool true) ∧ Below W.heap.size W w' := by
  cases hl : lightB text [s] with
  | true => exact ignored_walk text s _ c at_ W hL hl h2 h3 rfl
  | false =>
    have hlc : Calls Tryd.prog 14 #[.string text, .slice (some ⟨W.heap.size, 0, none⟩) 1 1] (W.alloc (.cells #[.string s] 9)) fun e w' => e = .returned (.bool false) ∧ (W.alloc (.cells #[.string s] 9)) = w' := by
      have := light_calls text [s] W.heap.size _ (strs_of W [s]) (by simp)
      rw [hl] at this
      exact this
    have hb1 : Below W.heap.size W (W.alloc (.cells #[.string s] 9)) := (Below.refl _ _).alloc (Nat.le_refl _) _
    have hL1 := hL.below hb1 hL.size
    go_enter Tryd.func11, Tryd.ntmps11
    go_wp2_with (first | (go_at_call 14; refine hlc.mono ?_; rintro e w1 ⟨rfl, rfl⟩) | (go_at_call 15; refine (works_calls _ hL1).mono ?_; rintro e w2 ⟨rfl, hb2⟩))
    go_ret
    exact ⟨rfl, hb1.trans (hb2.mono hb1.size)⟩
end Go.Proofs.YtibhifjehbajnaaDoor
