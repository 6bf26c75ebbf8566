/- CollNil: a nil Table and a new one compare as the description "strength 1"; the walk of the statement. -/
import Derived.Test.YtibhifjehbajnaaDoorOrder
namespace Go.Proofs.YtibhifjehbajnaaDoor
open Go.RowKit Go.Maps
set_option linter.unusedVariables false

def strength1 : ByteArray := ⟨#[115, 116, 114, 101, 110, 103, 116, 104, 32, 49]⟩
theorem s1_err : (parseP strength1).2.1 = 0 := by decide +kernel
theorem s1_tab : (parseP strength1).2.2.M = [] ∧ (parseP strength1).2.2.last = (0, 0, 0) ∧ (parseP strength1).2.2.st = 1 := by decide +kernel
theorem s1_is : tabOf strength1 = ⟨[], (0, 0, 0), 1⟩ := by
  unfold tabOf
  rw [if_pos s1_err]
  obtain ⟨h1, h2, h3⟩ := s1_tab
  generalize (parseP strength1).2.2 = t at h1 h2 h3
  cases t; simp at h1 h2 h3; subst h1 h2 h3; rfl
theorem key_s1 (s : ByteArray) : keyP (tabOf strength1) s = keyP t0 s := by
  rw [s1_is]
  rfl

theorem lev_len (t : CT) (cs : List Int) (hM : t.M = []) (hl : t.last = (0, 0, 0)) (h : ∀ c ∈ cs, 0 ≤ c) : (levelOf t 0 cs).length = 3 * cs.length := by
  induction cs with
  | nil => rfl
  | cons c cs ih =>
    rw [levelOf_cons, List.length_append, ih (fun x hx => h x (List.mem_cons_of_mem _ hx))]
    have h0 := h c (List.mem_cons_self ..)
    have hw : weightOf t c = (c + 0 + 1, 1, 1) := by
      unfold weightOf
      rw [hM, hl]
      rfl
    have : lev1 t 0 c = three (c + 0 + 1) := by
      unfold lev1
      rw [hw]
      exact if_pos (show (0 : Int) < c + 0 + 1 by omega)
    rw [this, three_len, List.length_cons]
    omega
theorem runesFrom_pos (s : ByteArray) : ∀ (f p : Nat), ∀ c ∈ runesFrom s f p, 0 ≤ c
  | 0, p, c, h => by simp [runesFrom] at h
  | f + 1, p, c, h => by
    rw [runesFrom] at h
    split at h
    · rcases List.mem_cons.1 h with rfl | h
      · exact Int.natCast_nonneg _
      · exact runesFrom_pos s f _ c h
    · cases h
theorem key_len (s : ByteArray) (ht : isText s = true) (hs : s.size ≠ 0) : 0 < (keyP t0 s).length := by
  have h1 : keyP t0 s = levelOf t0 0 (runesOf s) := by unfold keyP; rw [if_pos ht]; exact keyK_one _ _
  rw [h1, lev_len t0 (runesOf s) rfl rfl (runesFrom_pos s _ _)]
  have : (runesOf s).length ≠ 0 := by
    unfold runesOf
    obtain ⟨n, hn⟩ : ∃ n, s.size = n + 1 := ⟨s.size - 1, by omega⟩
    rw [hn, runesFrom, if_pos (by omega)]
    simp
  omega
theorem key_empty (s : ByteArray) (hs : s.size = 0) : (keyP t0 s).length = 0 := by
  unfold keyP
  split
  · have : runesOf s = [] := by unfold runesOf; rw [hs]; rfl
    rw [this]; rfl
  · rfl

/-- What the round of the loop asks of a world. -/
structure NilAt (W : World) (A : Nat) (pn p : Option Addr) : Prop where
  c0 : W.cell? ⟨A, 0, none⟩ = some (.pointer none)
  c1 : W.cell? ⟨A, 1, none⟩ = some (.pointer pn)
  g : KeyGives W p (tabOf strength1)
  gn : KeyGives W pn t0
  lt : A < W.heap.size
  laid : LaidW W
theorem NilAt.later {W W' : World} {A : Nat} {pn p : Option Addr} (h : NilAt W A pn p) (hb : Below W.heap.size W W') : NilAt W' A pn p :=
  ⟨(hb.cell (p := ⟨A, 0, none⟩) h.lt).trans h.c0, (hb.cell (p := ⟨A, 1, none⟩) h.lt).trans h.c1, h.g.later hb, h.gn.later hb, Nat.lt_of_lt_of_le h.lt hb.size, h.laid.below hb h.laid.size⟩

theorem cmp_s1 (a b : ByteArray) : cmpP (tabOf strength1) a b = cmpP t0 a b := by unfold cmpP; rw [key_s1, key_s1]

set_option maxHeartbeats 8000000 in
set_option maxRecDepth 100000 in
theorem nil_walk (a b : ByteArray) (W : World) (hL : LaidW W) (hl : lightB ⟨#[]⟩ [a, b] = true) :
    Calls Tryd.prog 8 #[.string a, .string b] W fun e w' => e = .returned (.bool true) ∧ Below W.heap.size W w' := by
  have hz : a.size ≤ 200 ∧ b.size ≤ 200 := by simp [lightB] at hl; exact hl.1
  have hlc : Calls Tryd.prog 14 #[.string ⟨#[]⟩, .slice (some ⟨W.heap.size, 0, none⟩) 2 2] (W.alloc (.cells #[.string a, .string b] 9)) fun e w' => e = .returned (.bool true) ∧ (W.alloc (.cells #[.string a, .string b] 9)) = w' := by
    have := light_calls ⟨#[]⟩ [a, b] W.heap.size _ (strs_of W [a, b]) (by simp)
    rw [hl] at this
    exact this
  obtain ⟨ha, hb⟩ := hz
  clear hl
  go_enter Tryd.func8, Tryd.ntmps8
  go_wp2_with (go_at_call 14; refine hlc.mono ?_; rintro e w1 ⟨rfl, rfl⟩)
  obtain ⟨W1, hW1⟩ : ∃ W1, W1 = W.alloc (.cells #[.string a, .string b] 9) := ⟨_, rfl⟩
  have hb1 : Below W.heap.size W W1 := by rw [hW1]; exact (Below.refl _ _).alloc (Nat.le_refl _) _
  rw [← hW1]
  clear hW1 hlc
  have hL1 := hL.below hb1 hL.size
  go_wp2_with fail
  refine (Parse_gives strength1 W1 hL1 (by decide)).mono ?_
  rintro e w2 ⟨p, rfl, hp, hb2, hG⟩
  rw [s1_err, parseP_line strength1 s1_err]
  have hL2 := hL1.below hb2 hL1.size
  have hb02 : Below W.heap.size W w2 := hb1.trans (hb2.mono hb1.size)
  clear hp hb1 hb2
  obtain ⟨W3, hW3⟩ : ∃ W3, W3 = (w2.alloc (.cells #[.map none, .int .i64 0, .int .i64 0, .int .i64 0, .int .i64 0] 46)).alloc (.cells #[.pointer none, .pointer (some ⟨w2.heap.size, 0, none⟩)] 24) := ⟨_, rfl⟩
  have hb3 : Below w2.heap.size w2 W3 := by rw [hW3]; exact ((Below.refl _ _).alloc (Nat.le_refl _) _).alloc (by simp) _
  have hblk : W3.heap[w2.heap.size]? = some (.cells #[.map none, .int .i64 0, .int .i64 0, .int .i64 0, .int .i64 0] 46 (0, 0)) := by
    rw [hW3, Below.heap_alloc _ _ _ (by simp)]
    exact (MapKept.heap_alloc _ _).1
  have hsz3 : W3.heap.size = w2.heap.size + 2 := by rw [hW3]; simp
  have hRd : TabRd W3 w2.heap.size t0 W3.heap.size := ⟨by omega, Nat.le_refl _, none, hblk, .inl ⟨rfl, rfl⟩⟩
  have hN : NilAt W3 (w2.heap.size + 1) (some ⟨w2.heap.size, 0, none⟩) p := by
    refine ⟨?_, ?_, hG.later hb3, gives_some hRd (by decide) (by decide) (by decide), by omega, hL2.below hb3 hL2.size⟩
    · rw [hW3, World.cell?_alloc_at _ _ _ _ (by simp)]; rfl
    · rw [hW3, World.cell?_alloc_at _ _ _ _ (by simp)]; rfl
  have hN := Lib.hid hN
  have hb03 : Below W.heap.size W W3 := hb02.trans (hb3.mono hb02.size)
  clear hG hL2 hb3 hblk hsz3 hRd hb02
  go_wp2
  rw [← hW3]
  obtain ⟨q, hq⟩ : ∃ q, q = w2.heap.size := ⟨_, rfl⟩
  rw [← hq] at hN ⊢
  clear hW3 hq
  go_loopw [28] (fun i wr => ∃ k : Nat, i = .int .i64 k ∧ k ≤ 2 ∧ Hid (NilAt wr (q + 1) (some ⟨q, 0, none⟩) p) ∧ Hid (Below W.heap.size W wr)) (fun i _ => 2 - (intOf i).toNat)
  case atStart => exact ⟨0, rfl, by omega, hN, hb03⟩
  case round =>
    obtain ⟨k, rfl, hk, hn, hbw⟩ := hrel
    clear hN hb03
    obtain ⟨wo, hwo⟩ : ∃ wo : World, wo = wr := ⟨_, rfl⟩
    by_cases hlt : k < 2
    · have hu' : ∃ u, wr.cell? ⟨q + 1, k, none⟩ = some (.pointer u) ∧ KeyGives wr u t0 := by
        rcases (show k = 0 ∨ k = 1 by omega) with rfl | rfl
        · exact ⟨none, hn.out.c0, gives_nil wr⟩
        · exact ⟨_, hn.out.c1, hn.out.gn⟩
      obtain ⟨u, hcell, hu⟩ := hu'
      have hu := Lib.hid hu
      go_wp2_with fail
      refine (hu.out wr (Below.refl _ _) a (by omega)).mono ?_
      rintro e w4 ⟨v1, rfl, ho1, hb4⟩
      have hr1 := Lib.hid (bytesRd_of ho1)
      clear ho1
      go_wp2_with fail
      refine (hn.out.g w4 hb4 a (by omega)).mono ?_
      rintro e w5 ⟨v2, rfl, ho2, hb5⟩
      rw [key_s1] at ho2
      have hr2 := Lib.hid (bytesRd_of ho2)
      have hr3 := Lib.hid (hr1.out.below hb5)
      have hb45 := hb4.trans (hb5.mono hb4.size)
      clear ho2 hb4 hb5 hr1
      go_wp2_with fail
      refine (Equal_bytes w5 v1 v2 _ _ hr3.out hr2.out).mono ?_
      rintro e w6 ⟨rfl, rfl⟩
      rw [beq_self_eq_true]
      go_wp2_with fail
      refine (Compare_calls w5 u _ (hu.out.later hb45) a b (by omega) (by omega)).mono ?_
      rintro e w6 ⟨rfl, hb6⟩
      have hb46 := hb45.trans (hb6.mono hb45.size)
      clear hb45 hb6
      go_wp2_with fail
      refine (Compare_calls w6 p _ (hn.out.g.later hb46) a b (by omega) (by omega)).mono ?_
      rintro e w7 ⟨rfl, hb7⟩
      rw [cmp_s1]
      have hb47 := hb46.trans (hb7.mono hb46.size)
      clear hb46 hb7
      go_wp2
      go_roundw
      case rel => exact ⟨k + 1, by go_num, by omega, hn.out.later hb47, hbw.out.trans (hb47.mono hbw.out.size)⟩
      case measure => simp [intOf]; omega
    · obtain rfl : k = 2 := by omega
      go_wp2_with fail
      refine (hn.out.g wr (Below.refl _ _) a (by omega)).mono ?_
      rintro e w4 ⟨v1, rfl, ho1, hb4⟩
      rw [key_s1] at ho1
      obtain ⟨p1, n1, c1, rfl, hn1, -⟩ := bytesRd_of ho1
      clear ho1
      have hL4 := Lib.hid ((hn.out.later hb4).laid)
      have hb04 := hbw.out.trans (hb4.mono hbw.out.size)
      have hbs := hb04.size
      clear hb4
      by_cases he : a.size = 0
      · rw [key_empty a he] at hn1
        subst hn1
        have hae : a = ⟨#[]⟩ := by
          apply ByteArray.ext
          apply Array.eq_empty_of_size_eq_zero
          exact he
        subst hae
        go_wp2_with (go_at_call 15; refine (works_calls _ hL4.out).mono ?_; rintro e w5 ⟨rfl, hb5⟩)
        go_ret
        exact ⟨rfl, hb04.trans (hb5.mono hbs)⟩
      · have hemp : a.toList.isEmpty = false := by
          rw [← decide_eq_emptyBytes]
          exact decide_eq_false (fun h => he (by rw [h]; rfl))
        cases ht : isText a with
        | false =>
          rw [keyP_none ht] at hn1
          subst hn1
          go_wp2_with (first | (go_at_call 24; refine (IsText_calls _ _).mono ?_; rintro e w6 ⟨rfl, hb6⟩; rw [ht]; have hb06 := hb04.trans (hb6.mono hbs)) | (go_at_call 15; refine (works_calls _ (hL4.out.below hb6 hL4.out.size)).mono ?_; rintro e w5 ⟨rfl, hb5⟩))
          go_ret
          exact ⟨rfl, hb06.trans (hb5.mono hb06.size)⟩
        | true =>
          have hpos := key_len a ht he
          rw [← hn1] at hpos
          have hn0 : ((n1 : Int) == 0) = false := by rw [beq_eq_false_iff_ne]; omega
          clear hn1
          go_wp2_with (first | (go_at_call 24; refine (IsText_calls _ _).mono ?_; rintro e w6 ⟨rfl, hb6⟩; rw [ht]; have hb06 := hb04.trans (hb6.mono hbs)) | (go_at_call 15; refine (works_calls _ (hL4.out.below hb6 hL4.out.size)).mono ?_; rintro e w5 ⟨rfl, hb5⟩))
          go_ret
          exact ⟨rfl, hb06.trans (hb5.mono hb06.size)⟩

theorem nil_all (a b : ByteArray) (W : World) (hL : LaidW W) (h1 : a.size ≤ maxLen) (h2 : b.size ≤ maxLen) :
    Calls Tryd.prog 8 #[.string a, .string b] W fun e w' => e = .returned (.bool true) ∧ Below W.heap.size W w' := by
  cases hl : lightB ⟨#[]⟩ [a, b] with
  | true => exact nil_walk a b W hL hl
  | false =>
    have hlc : Calls Tryd.prog 14 #[.string ⟨#[]⟩, .slice (some ⟨W.heap.size, 0, none⟩) 2 2] (W.alloc (.cells #[.string a, .string b] 9)) fun e w' => e = .returned (.bool false) ∧ (W.alloc (.cells #[.string a, .string b] 9)) = w' := by
      have := light_calls ⟨#[]⟩ [a, b] W.heap.size _ (strs_of W [a, b]) (by simp)
      rw [hl] at this
      exact this
    have hb1 : Below W.heap.size W (W.alloc (.cells #[.string a, .string b] 9)) := (Below.refl _ _).alloc (Nat.le_refl _) _
    have hL1 := hL.below hb1 hL.size
    go_enter Tryd.func8, Tryd.ntmps8
    go_wp2_with (first | (go_at_call 14; refine hlc.mono ?_; rintro e w1 ⟨rfl, rfl⟩) | (go_at_call 15; refine (works_calls _ hL1).mono ?_; rintro e w2 ⟨rfl, hb2⟩))
    go_ret
    exact ⟨rfl, hb1.trans (hb2.mono hb1.size)⟩
end Go.Proofs.YtibhifjehbajnaaDoor
