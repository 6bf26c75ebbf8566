/- Rounding of package num: ways, its closures, cut. The decimal digits of a number: what the printed function digits computes. Powers of ten and the bound of package num: pow10, checked. Numbers of package num in memory: checked, text. The text of a number of package num. What parse of package num reads: the closure that finds what is no digit, the cut at the point. -/
import Derived.Test.YtjndcehkgfbagaaGreatDoorNb
import Derived.BigQuiet
import Derived.Test.YtjndcehkgfbagaaGreatDoorPdigitsx1
import Derived.Test.YtjndcehkgfbagaaGreatDoorShelf
import Derived.Deep.RegionHeld3
import Derived.Laws.ResultCell
import Derived.Deep.QuietTactic
import Derived.Lib.TrimUEq

namespace Go.Proofs.YtjndcehkgfbagaaGreatDoor
open Go.RowKit NumP PDiv Go.Proofs.YtjndcehkgfbagaaGreatDoorW.PrintWords
set_option linter.unusedVariables false

/-- The rounder 'even', as a function value of the program. -/
def evenF : Value := .func (.func 101) #[] #[]
set_option maxRecDepth 100000 in
theorem ways_even (W : World) : Calls Tryz.prog 57 #[.string ⟨#[101, 118, 101, 110]⟩] W fun e w' => e = .returned evenF ∧ W = w' := by
  go_enter Tryz.func57, Tryz.ntmps57
  go_wp2
  go_ret
  exact ⟨rfl, rfl⟩
def evenB (half : Int) (odd : Bool) : Bool := decide (0 < half) || (decide (half = 0) && odd)
set_option maxRecDepth 100000 in
theorem even_calls (W : World) (neg odd none : Bool) (half : Int) : Calls Tryz.prog 101 #[.bool neg, .bool odd, .int .i64 half, .bool none] W fun e w' => e = .returned (.bool (evenB half odd)) ∧ W = w' := by
  rcases Int.lt_trichotomy half 0 with h | h | h
  · have e1 : Hid (evenB half odd = false) := Lib.hid (by unfold evenB; rw [decide_eq_false (by omega), decide_eq_false (by omega)]; rfl)
    have h1 : ¬ 0 < half := by omega
    have h2 : (half == 0) = false := by simp; omega
    go_enter Tryz.func101, Tryz.ntmps101
    go_wp2
    go_ret
    exact ⟨by rw [e1.out]; rfl, rfl⟩
  · subst h
    have e1 : Hid (evenB 0 odd = odd) := Lib.hid (by unfold evenB; simp)
    go_enter Tryz.func101, Tryz.ntmps101
    go_wp2
    go_ret
    exact ⟨by rw [e1.out]; rfl, rfl⟩
  · have e1 : Hid (evenB half odd = true) := Lib.hid (by unfold evenB; rw [decide_eq_true h]; rfl)
    go_enter Tryz.func101, Tryz.ntmps101
    go_wp2
    go_ret
    exact ⟨by rw [e1.out]; rfl, rfl⟩
theorem words_head {q : Nat} (h : 0 < q) : ∃ l, wordsN q = ((q % 1000000000 : Nat) : Int) :: l := by
  unfold wordsN
  cases q with
  | zero => omega
  | succ q => exact ⟨_, by rw [wordsF, if_neg (by omega)]⟩
theorem one_word_one : wordsN 1 = [1] := one_word (by decide) (by decide)
set_option maxHeartbeats 1000000 in
set_option maxRecDepth 100000 in
theorem cut_even (W : World) (neg : Bool) (v u : Value) (n m : Nat) (hv : BN W v n) (hu : BN W u m) (hn : (wordsN n).length ≤ 400000) (hm : (wordsN m).length ≤ 400000) (h0 : 0 < m) :
    Calls Tryz.prog 54 #[.bool neg, v, u, evenF] W (BPost W (wordsN (cutN .even neg n m))) := by
  have hov := over_b W v u n m hv hu hn hm h0
  obtain ⟨q, hq⟩ : ∃ q, q = n / m := ⟨_, rfl⟩
  obtain ⟨r, hr⟩ : ∃ r, r = n % m := ⟨_, rfl⟩
  have hrm : r < m := by rw [hr]; exact Nat.mod_lt _ h0
  have hqn : q ≤ n := by rw [hq]; exact Nat.div_le_self _ _
  have hcut : Hid (cutN .even neg n m = q + (evenB (if m < 2 * r then 1 else if 2 * r = m then 0 else -1) (decide (q % 2 = 1))).toNat) := Lib.hid (by
    unfold cutN Way.up evenB
    rw [← hq, ← hr]
    simp only
    congr 2
    by_cases h1 : m < 2 * r
    · simp [h1]
    · by_cases h2 : 2 * r = m
      · simp [h2]
      · simp [h1, h2])
  have hlen : ∀ a b : Nat, a ≤ b → (wordsN a).length ≤ (wordsN b).length := fun a b hab => by
    rcases Nat.lt_or_ge (wordsN b).length (wordsN a).length with h | h
    · have := (wordsN_is b).lt_of_len (wordsN_is a) h
      omega
    · exact h
  have hql := hlen q n hqn
  have hrl := hlen r m (by omega)
  rw [← hq, ← hr] at hov
  replace hlen := Lib.hid hlen
  replace hu := Lib.hid hu
  clear hq hr
  unfold evenF
  go_enter Tryz.func54, Tryz.ntmps54
  go_wp2_with fail
  refine hov.mono ?_
  rintro e w1 ⟨qv, rv, rfl, hQ, hR, hb1⟩
  clear hov
  obtain ⟨Aq, cq, rfl⟩ := BAt.form hQ
  obtain ⟨Ar, cr, rfl⟩ := BAt.form hR
  have hU1 := Lib.hid (hu.out.below hb1)
  have hpl := plus_b w1 _ _ r r hR hR (by omega) (by omega)
  have hrz : Hid ((wordsN r).length = 0 ↔ r = 0) := Lib.hid (by
    have := (wordsN_is r).zero
    rw [← this, List.length_eq_zero_iff])
  obtain ⟨lq, hlq⟩ : ∃ lq, lq = (wordsN q).length := ⟨_, rfl⟩
  obtain ⟨lr, hlr⟩ : ∃ lr, lr = (wordsN r).length := ⟨_, rfl⟩
  rw [← hlq] at hql hQ ⊢
  have hQ1 := Lib.hid hQ
  rw [← hlr] at hrl hpl hrz ⊢
  have hUl : Hid ((wordsN (2 * r)).length ≤ 400001) := Lib.hid (by
    refine Nat.le_trans (words_len (n := 2 * r) (k := (wordsN m).length + 1) ?_) (by omega)
    have h1 := (wordsN_is m).lt
    rw [Nat.pow_succ]
    have h2 : 2 * r < 1000000000 ^ (wordsN m).length * 2 := by omega
    refine Nat.lt_of_lt_of_le h2 (Nat.mul_le_mul_left _ (by decide)))
  have hcases : (q = 0 ∧ lq = 0) ∨ (∃ ad z : _, Aq = some ad ∧ 0 < lq ∧ w1.cell? ad = some (.int .u64 z) ∧ (0 ≤ z ∧ z < 1000000000) ∧ (q % 2 = 1 ↔ z % 2 = 1)) := by
    rcases Nat.eq_zero_or_pos q with hq0 | hq0
    · exact .inl ⟨hq0, by rw [hlq, hq0]; rfl⟩
    · obtain ⟨l, hl⟩ := words_head hq0
      obtain ⟨ad, e, hc⟩ := BAt.cellAt hQ 0 (by rw [hl]; simp)
      refine .inr ⟨ad, ((q % 1000000000 : Nat) : Int), e, by rw [hlq, hl]; simp, ?_, by omega, by omega⟩
      have : Addr.add ad 0 = ad := rfl
      rw [this] at hc
      rw [hc]; simp only [hl]; rfl
  obtain ⟨odd, hodd⟩ : ∃ odd, odd = decide (q % 2 = 1) := ⟨_, rfl⟩
  rw [← hodd] at hcut
  replace hlq := Lib.hid hlq
  clear hQ hR hlr
  rcases hcases with ⟨hq0, hl0⟩ | ⟨ad, z, rfl, hl0, hc, ⟨z0, z1⟩, hz⟩
  · obtain rfl : odd = false := by rw [hodd, hq0]; rfl
    subst hl0
    replace hq0 := Lib.hid hq0
    clear hodd
    go_wp2_with fail
    refine hpl.mono ?_
    rintro e w2 ⟨p2, rfl, hP2, hb2⟩
    clear hpl
    have hP2' : BN w2 p2 (2 * r) := by
      have h : BAt w2 p2 (wordsN (r + r)) := hP2
      rw [show r + r = 2 * r by omega] at h; exact h
    have hcm := cmp_b w2 p2 u (2 * r) m hP2' (hU1.out.below hb2) (by unfold Small; have := hUl.out; omega) (by unfold Small; omega)
    have hQ2 := Lib.hid (hQ1.out.below hb2)
    have hb02 : Hid (Below W.heap.size W w2) := Lib.hid (hb1.trans (hb2.mono hb1.size))
    clear hP2 hP2' hb2
    go_wp2_with fail
    refine hcm.mono ?_
    rintro e w3 ⟨⟨cmpv, rfl, hsg⟩, hb3⟩
    clear hcm
    obtain ⟨sg1, sg2, sg3, sg4⟩ := hsg
    have hev : Hid (evenB cmpv false = evenB (if m < 2 * r then 1 else if 2 * r = m then 0 else -1) false) := Lib.hid (by
      unfold evenB
      by_cases h1 : m < 2 * r
      · rw [if_pos h1, decide_eq_true (show 0 < cmpv by omega)]; rfl
      · rw [if_neg h1, decide_eq_false (show ¬ 0 < cmpv by omega)]
        by_cases h2 : 2 * r = m
        · rw [if_pos h2, decide_eq_true (show cmpv = 0 by omega)]; rfl
        · rw [if_neg h2, decide_eq_false (show ¬ cmpv = 0 by omega)]; rfl)
    obtain ⟨up, hup⟩ : ∃ up, up = evenB cmpv false := ⟨_, rfl⟩
    have hfin : Hid (cutN .even neg n m = q + up.toNat) := Lib.hid (by rw [hcut.out, hup, hev.out])
    have hb03 : Hid (Below W.heap.size W w3) := Lib.hid (hb02.out.trans (hb3.mono hb02.out.size))
    have hQ3 := Lib.hid (hQ2.out.below hb3)
    clear hcut hev sg1 sg2 sg3 sg4 hb3
    go_wp2_with fail
    refine (even_calls _ _ _ _ _).mono ?_
    rintro e w4 ⟨rfl, rfl⟩
    rw [← hup]
    clear hup
    cases up
    · go_wp2_with fail
      go_ret
      exact ⟨_, rfl, by rw [hfin.out]; exact hQ3.out, hb03.out⟩
    · have hbm := lit_BAt w3 1
      have hbl : Below w3.heap.size w3 (w3.alloc (.cells #[.int .u64 1] 108)) := (Below.refl _ _).alloc (Nat.le_refl _) _
      obtain ⟨W6, hW6⟩ : ∃ W6, W6 = w3.alloc (.cells #[.int .u64 1] 108) := ⟨_, rfl⟩
      rw [← hW6] at hbm hbl
      have hbn : BN W6 (.slice (some ⟨w3.heap.size, 0, none⟩) 1 1) 1 := by
        unfold BN
        rw [one_word_one]; exact hbm
      have hp6 := plus_b W6 _ _ q 1 (hQ3.out.below hbl) hbn (by rw [← hlq.out]; omega) (by rw [one_word_one]; simp)
      have hb06 : Hid (Below W.heap.size W W6) := Lib.hid (hb03.out.trans (hbl.mono hb03.out.size))
      clear hbm hbl hbn
      go_wp2_with fail
      rw [← hW6]
      refine hp6.mono ?_
      rintro e w7 ⟨r7, rfl, hB7, hb7⟩
      go_wp2_with fail
      go_ret
      exact ⟨_, rfl, by rw [hfin.out]; exact hB7, hb06.out.trans (hb7.mono hb06.out.size)⟩
  · have hzz : (z % 2 == 1) = odd := by
      rw [hodd]
      by_cases h : q % 2 = 1
      · rw [decide_eq_true h, hz.1 h]; rfl
      · rw [decide_eq_false h, beq_eq_false_iff_ne]; exact fun e => h (hz.2 e)
    cases odd
    · clear hodd hz
      go_wp2_with fail
      refine hpl.mono ?_
      rintro e w2 ⟨p2, rfl, hP2, hb2⟩
      clear hpl
      have hP2' : BN w2 p2 (2 * r) := by
        have h : BAt w2 p2 (wordsN (r + r)) := hP2
        rw [show r + r = 2 * r by omega] at h; exact h
      have hcm := cmp_b w2 p2 u (2 * r) m hP2' (hU1.out.below hb2) (by unfold Small; have := hUl.out; omega) (by unfold Small; omega)
      have hQ2 := Lib.hid (hQ1.out.below hb2)
      have hb02 : Hid (Below W.heap.size W w2) := Lib.hid (hb1.trans (hb2.mono hb1.size))
      clear hP2 hP2' hb2
      go_wp2_with fail
      refine hcm.mono ?_
      rintro e w3 ⟨⟨cmpv, rfl, hsg⟩, hb3⟩
      clear hcm
      obtain ⟨sg1, sg2, sg3, sg4⟩ := hsg
      have hev : Hid (evenB cmpv false = evenB (if m < 2 * r then 1 else if 2 * r = m then 0 else -1) false) := Lib.hid (by
        unfold evenB
        by_cases h1 : m < 2 * r
        · rw [if_pos h1, decide_eq_true (show 0 < cmpv by omega)]; rfl
        · rw [if_neg h1, decide_eq_false (show ¬ 0 < cmpv by omega)]
          by_cases h2 : 2 * r = m
          · rw [if_pos h2, decide_eq_true (show cmpv = 0 by omega)]; rfl
          · rw [if_neg h2, decide_eq_false (show ¬ cmpv = 0 by omega)]; rfl)
      obtain ⟨up, hup⟩ : ∃ up, up = evenB cmpv false := ⟨_, rfl⟩
      have hfin : Hid (cutN .even neg n m = q + up.toNat) := Lib.hid (by rw [hcut.out, hup, hev.out])
      have hb03 : Hid (Below W.heap.size W w3) := Lib.hid (hb02.out.trans (hb3.mono hb02.out.size))
      have hQ3 := Lib.hid (hQ2.out.below hb3)
      clear hcut hev sg1 sg2 sg3 sg4 hb3
      go_wp2_with fail
      refine (even_calls _ _ _ _ _).mono ?_
      rintro e w4 ⟨rfl, rfl⟩
      rw [← hup]
      clear hup
      cases up
      · go_wp2_with fail
        go_ret
        exact ⟨_, rfl, by rw [hfin.out]; exact hQ3.out, hb03.out⟩
      · have hbm := lit_BAt w3 1
        have hbl : Below w3.heap.size w3 (w3.alloc (.cells #[.int .u64 1] 108)) := (Below.refl _ _).alloc (Nat.le_refl _) _
        obtain ⟨W6, hW6⟩ : ∃ W6, W6 = w3.alloc (.cells #[.int .u64 1] 108) := ⟨_, rfl⟩
        rw [← hW6] at hbm hbl
        have hbn : BN W6 (.slice (some ⟨w3.heap.size, 0, none⟩) 1 1) 1 := by
          unfold BN
          rw [one_word_one]; exact hbm
        have hp6 := plus_b W6 _ _ q 1 (hQ3.out.below hbl) hbn (by rw [← hlq.out]; omega) (by rw [one_word_one]; simp)
        have hb06 : Hid (Below W.heap.size W W6) := Lib.hid (hb03.out.trans (hbl.mono hb03.out.size))
        clear hbm hbl hbn
        go_wp2_with fail
        rw [← hW6]
        refine hp6.mono ?_
        rintro e w7 ⟨r7, rfl, hB7, hb7⟩
        go_wp2_with fail
        go_ret
        exact ⟨_, rfl, by rw [hfin.out]; exact hB7, hb06.out.trans (hb7.mono hb06.out.size)⟩
    · clear hodd hz
      go_wp2_with fail
      refine hpl.mono ?_
      rintro e w2 ⟨p2, rfl, hP2, hb2⟩
      clear hpl
      have hP2' : BN w2 p2 (2 * r) := by
        have h : BAt w2 p2 (wordsN (r + r)) := hP2
        rw [show r + r = 2 * r by omega] at h; exact h
      have hcm := cmp_b w2 p2 u (2 * r) m hP2' (hU1.out.below hb2) (by unfold Small; have := hUl.out; omega) (by unfold Small; omega)
      have hQ2 := Lib.hid (hQ1.out.below hb2)
      have hb02 : Hid (Below W.heap.size W w2) := Lib.hid (hb1.trans (hb2.mono hb1.size))
      clear hP2 hP2' hb2
      go_wp2_with fail
      refine hcm.mono ?_
      rintro e w3 ⟨⟨cmpv, rfl, hsg⟩, hb3⟩
      clear hcm
      obtain ⟨sg1, sg2, sg3, sg4⟩ := hsg
      have hev : Hid (evenB cmpv true = evenB (if m < 2 * r then 1 else if 2 * r = m then 0 else -1) true) := Lib.hid (by
        unfold evenB
        by_cases h1 : m < 2 * r
        · rw [if_pos h1, decide_eq_true (show 0 < cmpv by omega)]; rfl
        · rw [if_neg h1, decide_eq_false (show ¬ 0 < cmpv by omega)]
          by_cases h2 : 2 * r = m
          · rw [if_pos h2, decide_eq_true (show cmpv = 0 by omega)]; rfl
          · rw [if_neg h2, decide_eq_false (show ¬ cmpv = 0 by omega)]; rfl)
      obtain ⟨up, hup⟩ : ∃ up, up = evenB cmpv true := ⟨_, rfl⟩
      have hfin : Hid (cutN .even neg n m = q + up.toNat) := Lib.hid (by rw [hcut.out, hup, hev.out])
      have hb03 : Hid (Below W.heap.size W w3) := Lib.hid (hb02.out.trans (hb3.mono hb02.out.size))
      have hQ3 := Lib.hid (hQ2.out.below hb3)
      clear hcut hev sg1 sg2 sg3 sg4 hb3
      go_wp2_with fail
      refine (even_calls _ _ _ _ _).mono ?_
      rintro e w4 ⟨rfl, rfl⟩
      rw [← hup]
      clear hup
      cases up
      · go_wp2_with fail
        go_ret
        exact ⟨_, rfl, by rw [hfin.out]; exact hQ3.out, hb03.out⟩
      · have hbm := lit_BAt w3 1
        have hbl : Below w3.heap.size w3 (w3.alloc (.cells #[.int .u64 1] 108)) := (Below.refl _ _).alloc (Nat.le_refl _) _
        obtain ⟨W6, hW6⟩ : ∃ W6, W6 = w3.alloc (.cells #[.int .u64 1] 108) := ⟨_, rfl⟩
        rw [← hW6] at hbm hbl
        have hbn : BN W6 (.slice (some ⟨w3.heap.size, 0, none⟩) 1 1) 1 := by
          unfold BN
          rw [one_word_one]; exact hbm
        have hp6 := plus_b W6 _ _ q 1 (hQ3.out.below hbl) hbn (by rw [← hlq.out]; omega) (by rw [one_word_one]; simp)
        have hb06 : Hid (Below W.heap.size W W6) := Lib.hid (hb03.out.trans (hbl.mono hb03.out.size))
        clear hbm hbl hbn
        go_wp2_with fail
        rw [← hW6]
        refine hp6.mono ?_
        rintro e w7 ⟨r7, rfl, hB7, hb7⟩
        go_wp2_with fail
        go_ret
        exact ⟨_, rfl, by rw [hfin.out]; exact hB7, hb06.out.trans (hb7.mono hb06.out.size)⟩
end Go.Proofs.YtjndcehkgfbagaaGreatDoor

namespace Go.Proofs.YtjndcehkgfbagaaGreatDoor
open Go.RowKit NumP Go.Proofs.YtjndcehkgfbagaaGreatDoorW.PrintWords Go.Proofs.YtjndcehkgfbagaaGreatDoor.Pdigits
set_option linter.unusedVariables false

/-- k digits of a number, the lowest first. -/
def lowD : Nat → Nat → List Int
  | 0, _ => []
  | k + 1, n => ((48 + n % 10 : Nat) : Int) :: lowD k (n / 10)
theorem lowD_len : ∀ k n, (lowD k n).length = k
  | 0, _ => rfl
  | k + 1, n => by simp [lowD, lowD_len k]
theorem lowD_app : ∀ (j k n : Nat), lowD (j + k) n = lowD j n ++ lowD k (n / 10 ^ j)
  | 0, k, n => by simp [lowD]
  | j + 1, k, n => by
    rw [show j + 1 + k = (j + k) + 1 by omega, lowD, lowD_app j k (n / 10), lowD]
    rw [Nat.div_div_eq_div_mul, Nat.pow_succ, Nat.mul_comm 10]
    rfl
theorem lowD_mod : ∀ (j n : Nat), lowD j (n % 10 ^ j) = lowD j n
  | 0, n => rfl
  | j + 1, n => by
    have h1 : n % 10 ^ (j + 1) % 10 = n % 10 := by
      rw [Nat.pow_succ, Nat.mul_comm]; exact Nat.mod_mul_right_mod n 10 _
    have h2 : n % 10 ^ (j + 1) / 10 = n / 10 % 10 ^ j := by
      rw [Nat.pow_succ, Nat.mul_comm]; exact Nat.mod_mul_right_div_self n 10 _
    rw [lowD, lowD, h1, h2, lowD_mod j]
theorem lowD_words : ∀ {ws : List Int} {n : Nat}, Wd ws → vB ws = n → lowD (9 * ws.length) n = (ws.map fun w => lowD 9 w.toNat).flatten
  | [], n, _, _ => rfl
  | w :: ws, n, h, hv => by
    have h1 := h.head
    have h2 := vB_nonneg h.tail
    have ih := lowD_words (n := n / 1000000000) h.tail (by simp only [vB] at hv; omega)
    have e : n % 10 ^ 9 = w.toNat := by
      simp only [vB] at hv
      rw [show (10 : Nat) ^ 9 = 1000000000 by decide]; omega
    rw [List.length_cons, show 9 * (ws.length + 1) = 9 + 9 * ws.length by omega, lowD_app, ← lowD_mod, e, show (10 : Nat) ^ 9 = 1000000000 by decide, ih]
    rfl
theorem lowD_snoc (k n : Nat) : lowD (k + 1) n = lowD k n ++ [((48 + n / 10 ^ k % 10 : Nat) : Int)] := by
  rw [lowD_app k 1]; rfl
theorem fixD_low : ∀ k n, fixD k n = ((lowD k n).map fun x => UInt8.ofNat x.toNat).reverse
  | 0, _ => rfl
  | k + 1, n => by
    rw [fixD, fixD_low k, lowD, List.map_cons, List.reverse_cons]
    congr 1
theorem lenF_le : ∀ (f n K : Nat), n < 2 ^ f → (lenF f n ≤ K ↔ n < 10 ^ K)
  | 0, n, K, h => by
    have : n = 0 := by simpa using h
    subst this
    simp [lenF]
    exact Nat.pow_pos (by decide)
  | f + 1, n, K, h => by
    rw [lenF]
    by_cases h0 : n = 0
    · subst h0
      simp
      exact Nat.pow_pos (by decide)
    · rw [if_neg h0]
      cases K with
      | zero => simp; omega
      | succ K =>
        have ih := lenF_le f (n / 10) K (by rw [Nat.pow_succ] at h; omega)
        rw [Nat.pow_succ, ← Nat.div_lt_iff_lt_mul (by decide), ← ih]
        omega
theorem lenD_le (n K : Nat) : lenD n ≤ K ↔ n < 10 ^ K := lenF_le _ n K Nat.lt_log2_self
theorem rd_last (x : List Int) (v : Int) : rd (x ++ [v]) (x.length : Int) = v := by simp [rd]
/-! digits -/
theorem dig_l1 (least : Int) (x8 : List Int) (x9 x10 : Int) : ∀ (d j k : Nat) (acc : List Int) (n : Nat), j + d = 9 → n < 1000000000 → acc.length + d < 1000000000 →
    num_big_digits.l1 (k + d + 1) least acc (n : Int) x8 x9 x10 (j : Int) = num_big_digits.l0 k least (acc ++ lowD d n) x8 x9 (wrap64 (x10 + 1))
  | 0, j, k, acc, n, hj, hn, hl => by
    rw [num_big_digits.l1, if_neg (by omega), lowD, List.append_nil]
  | d + 1, j, k, acc, n, hj, hn, hl => by
    rw [show k + (d + 1) + 1 = (k + d + 1) + 1 by omega, num_big_digits.l1, if_pos (by omega), if_pos (by omega)]
    have e1 : IntKind.u64.wrap (48 + Int.tmod (n : Int) 10) % 256 = ((48 + n % 10 : Nat) : Int) := by
      rw [IntWalk.rem_in _ _ (by omega), u64w _ (by omega)]; omega
    have e2 : IntKind.u64.wrap (Int.tdiv (n : Int) 10) = ((n / 10 : Nat) : Int) := by
      rw [IntWalk.u64_quo _ _ (by omega)]; omega
    rw [e1, e2, w64_succ j (by omega), dig_l1 least x8 x9 x10 d (j + 1) k _ (n / 10) (by omega) (by omega) (by rw [List.length_append, List.length_singleton]; omega), lowD]
    simp
theorem dig_l0 (least : Int) (ws : List Int) (hw : Wd ws) (hl : ws.length < 1000000) : ∀ (d i k : Nat) (acc : List Int), i + d = ws.length → acc.length = 9 * i →
    num_big_digits.l0 (k + 11 * d + 1) least acc ws (ws.length : Int) (i : Int) = num_big_digits.l2 k least (acc ++ ((ws.drop i).map fun w => lowD 9 w.toNat).flatten)
  | 0, i, k, acc, hi, ha => by
    rw [num_big_digits.l0, if_neg (by omega), List.drop_of_length_le (by omega)]
    simp
  | d + 1, i, k, acc, hi, ha => by
    have hil : i < ws.length := by omega
    have hwi := hw _ (List.getElem_mem hil)
    rw [show k + 11 * (d + 1) + 1 = ((k + 11 * d + 1) + 9 + 1) + 1 by omega, num_big_digits.l0, if_pos (by omega), if_pos (by omega), if_pos (by omega), rd_at ws i hil]
    have e : ws[i] = ((ws[i].toNat : Nat) : Int) := by omega
    rw [e]
    have h1 := dig_l1 least ws (ws.length : Int) (i : Int) 9 0 (k + 11 * d + 1) acc ws[i].toNat rfl (by omega) (by omega)
    rw [show ((0 : Nat) : Int) = 0 from rfl] at h1
    rw [h1, w64_succ i (by omega), dig_l0 least ws hw hl d (i + 1) k _ (by omega) (by rw [List.length_append, lowD_len]; omega), List.drop_eq_getElem_cons hil]
    simp only [List.map_cons, List.flatten_cons, List.append_assoc]
theorem dig_l3 (least : Nat) (hl : least < 1000000) : ∀ (d K k n : Nat), K + d = least → n < 10 ^ K →
    num_big_digits.l3 (k + d + 1) (least : Int) (lowD K n) = (slices_Reverse_byte_byte.f k (lowD least n)).bind fun t => some (strOfNums t)
  | 0, K, k, n, hK, hn => by
    rw [num_big_digits.l3, if_neg (by rw [lowD_len]; omega)]
    rw [show least = K by omega]
  | d + 1, K, k, n, hK, hn => by
    have e : lowD K n ++ [48] = lowD (K + 1) n := by
      rw [lowD_snoc, Nat.div_eq_of_lt hn]; rfl
    rw [show k + (d + 1) + 1 = (k + d + 1) + 1 by omega, num_big_digits.l3, if_pos (by rw [lowD_len]; omega), if_pos (by rw [lowD_len]; omega), e]
    exact dig_l3 least hl d (K + 1) k n (by omega) (by rw [Nat.pow_succ]; omega)
theorem dig_big (least : Nat) (k n K : Nat) (hK : least ≤ K) (hK9 : K < 1000000000) : num_big_digits.l3 (k + 1) (least : Int) (lowD K n) = (slices_Reverse_byte_byte.f k (lowD K n)).bind fun t => some (strOfNums t) := by
  rw [num_big_digits.l3, if_neg (by rw [lowD_len]; omega)]
theorem rev_l (o : List Int) (hl : o.length < 1000000000) : ∀ (d i k : Nat) (x : List Int), o.length ≤ 2 * i + d → d < k → i ≤ o.length → x.length = o.length →
    (∀ p, p < o.length → x[p]? = if p < i ∨ o.length - 1 - p < i then o[o.length - 1 - p]? else o[p]?) → slices_Reverse_byte_byte.l0 k x (i : Int) ((o.length : Int) - 1 - i) = some o.reverse
  | d, i, 0, x, hd, hk, hi, hx, h => by omega
  | d, i, k + 1, x, hd, hk, hi, hx, h => by
    rw [slices_Reverse_byte_byte.l0]
    by_cases hc : (i : Int) < (o.length : Int) - 1 - i
    · obtain ⟨j, hj⟩ : ∃ j, j = o.length - 1 - i := ⟨_, rfl⟩
      have ej : (o.length : Int) - 1 - i = (j : Int) := by omega
      have hjl : j < x.length := by omega
      have hil : i < x.length := by omega
      rw [ej] at hc ⊢
      rw [if_pos hc, if_pos (by omega), if_pos (by omega), if_pos (by omega), if_pos (by omega), w64_succ i (by omega), w64 _ (by omega), Int.toNat_natCast, Int.toNat_natCast, rd_at x j hjl, rd_at x i hil]
      have e2 : (j : Int) - 1 = (o.length : Int) - 1 - ((i + 1 : Nat) : Int) := by omega
      rw [e2]
      refine rev_l o hl (d - 1) (i + 1) k _ (by omega) (by omega) (by omega) (by simpa using hx) (fun p hp => ?_)
      have hp1 := h p hp
      have hi1 := h i (by omega)
      have hj1 := h j (by omega)
      rw [if_neg (by omega)] at hi1 hj1
      rw [List.getElem?_eq_getElem hil] at hi1
      rw [List.getElem?_eq_getElem hjl] at hj1
      by_cases e1 : p = j
      · subst e1
        rw [List.getElem?_set_self (by simpa using hjl), if_pos (by omega), hi1]
        congr 1; omega
      · rw [List.getElem?_set_ne (fun q => e1 q.symm)]
        by_cases e3 : p = i
        · subst e3
          rw [List.getElem?_set_self hil, if_pos (by omega), hj1]
          congr 1
        · rw [List.getElem?_set_ne (fun q => e3 q.symm), hp1]
          by_cases e4 : p < i ∨ o.length - 1 - p < i
          · rw [if_pos e4, if_pos (by omega)]
          · rw [if_neg e4, if_neg (by omega)]
    · rw [if_neg hc]
      congr 1
      apply List.ext_getElem?
      intro p
      rcases Nat.lt_or_ge p o.length with hp | hp
      · rw [h p hp, List.getElem?_reverse hp]
        by_cases e4 : p < i ∨ o.length - 1 - p < i
        · rw [if_pos e4]
        · rw [if_neg e4]
          congr 1; omega
      · rw [List.getElem?_eq_none (by omega), List.getElem?_eq_none (by simpa using hp)]
theorem rev_f (o : List Int) (hl : o.length < 1000000000) (k : Nat) (hk : o.length < k) : slices_Reverse_byte_byte.f k o = some o.reverse := by
  unfold slices_Reverse_byte_byte.f
  have := rev_l o hl o.length 0 k o (by omega) hk (by omega) rfl (fun p hp => by rw [if_neg (by omega)])
  rw [w64 _ (by omega)]
  simpa using this
def digB (least n : Nat) : ByteArray := strOfNums (lowD (max least (lenD n)) n).reverse
theorem dig_end (least : Nat) (hl : least < 1000000) (K n : Nat) (hn : n < 10 ^ K) (hK : K < 100000000) (hb : K ≤ least ∨ ¬ n < 10 ^ (K - 1)) : ∃ k, num_big_digits.j3 k (least : Int) (lowD K n) = some (digB least n) := by
  have h1 := lenD_le n K
  rcases Nat.lt_or_ge least K with h | h
  · have hb : ¬ n < 10 ^ (K - 1) := hb.resolve_left (by omega)
    have h2 := lenD_le n (K - 1)
    have e : max least (lenD n) = K := by
      have h3 := h1.2 hn
      have h4 : ¬ lenD n ≤ K - 1 := fun q => hb (h2.1 q)
      omega
    refine ⟨(K + 2 + 1) + 1, ?_⟩
    rw [num_big_digits.j3, dig_big least _ n K (by omega) (by omega), rev_f _ (by rw [lowD_len]; omega) _ (by rw [lowD_len]; omega)]
    unfold digB
    rw [e]; rfl
  · have e : max least (lenD n) = least := by
      have h3 := h1.2 hn
      omega
    refine ⟨((least + 2) + (least - K) + 1) + 1, ?_⟩
    rw [num_big_digits.j3, dig_l3 least hl (least - K) K _ n (by omega) hn, rev_f _ (by rw [lowD_len]; omega) _ (by rw [lowD_len]; omega)]
    unfold digB
    rw [e]; rfl
theorem dig_l2 (least : Nat) (hl : least < 1000000) : ∀ (K n : Nat), n < 10 ^ K → K < 100000000 → ∃ k, num_big_digits.l2 k (least : Int) (lowD K n) = some (digB least n)
  | 0, n, hn, hK => by
    obtain ⟨k, hk⟩ := dig_end least hl 0 n hn hK (.inl (by omega))
    refine ⟨k + 1, ?_⟩
    rw [num_big_digits.l2, if_neg (by rw [lowD_len]; omega)]
    exact hk
  | K + 1, n, hn, hK => by
    by_cases hc : least < K + 1
    · have e1 : wrap64 (((lowD (K + 1) n).length : Int) - 1) = (K : Int) := by rw [lowD_len, w64 _ (by omega)]; omega
      have e2 : rd (lowD (K + 1) n) (K : Int) = ((48 + n / 10 ^ K % 10 : Nat) : Int) := by
        rw [lowD_snoc]
        have := rd_last (lowD K n) ((48 + n / 10 ^ K % 10 : Nat) : Int)
        rw [lowD_len] at this
        exact this
      have e3 : (lowD (K + 1) n).take K = lowD K n := by
        rw [lowD_snoc, List.take_append_of_le_length (by rw [lowD_len]; omega), List.take_of_length_le (by rw [lowD_len]; omega)]
      have hdig : n / 10 ^ K % 10 = n / 10 ^ K := Nat.mod_eq_of_lt (by
        rw [Nat.pow_succ] at hn
        exact (Nat.div_lt_iff_lt_mul (Nat.pow_pos (by decide))).2 (by rw [Nat.mul_comm]; exact hn))
      by_cases hz : n < 10 ^ K
      · obtain ⟨k, hk⟩ := dig_l2 least hl K n hz (by omega)
        refine ⟨k + 1, ?_⟩
        rw [num_big_digits.l2, e1, e2, if_pos (by rw [lowD_len]; omega), if_pos (by omega), if_pos (by rw [lowD_len]; omega), if_pos (by rw [Nat.div_eq_of_lt hz]; rfl), if_pos (by rw [lowD_len]; omega), Int.toNat_natCast, e3]
        exact hk
      · obtain ⟨k, hk⟩ := dig_end least hl (K + 1) n hn hK (.inr hz)
        refine ⟨k + 1, ?_⟩
        have hnz : 0 < n / 10 ^ K := Nat.div_pos (by omega) (Nat.pow_pos (by decide))
        rw [num_big_digits.l2, e1, e2, if_pos (by rw [lowD_len]; omega), if_pos (by omega), if_pos (by rw [lowD_len]; omega), if_neg (by rw [hdig]; omega)]
        exact hk
    · obtain ⟨k, hk⟩ := dig_end least hl (K + 1) n hn hK (.inl (by omega))
      refine ⟨k + 1, ?_⟩
      rw [num_big_digits.l2, if_neg (by rw [lowD_len]; omega)]
      exact hk
theorem dig_f (n least : Nat) (hl : least < 1000000) (hn : (wordsN n).length < 1000000) : ∃ k, num_big_digits.f k (wordsN n) (least : Int) = some (digB least n) := by
  have hi := wordsN_is n
  have h10 : n < 10 ^ (9 * (wordsN n).length) := by
    have := hi.lt
    rw [Nat.pow_mul]; exact this
  obtain ⟨k, hk⟩ := dig_l2 least hl (9 * (wordsN n).length) n h10 (by omega)
  refine ⟨k + 11 * (wordsN n).length + 1, ?_⟩
  unfold num_big_digits.f
  have := dig_l0 (least : Int) (wordsN n) hi.wd hn (wordsN n).length 0 k [] (by omega) rfl
  rw [show ((0 : Nat) : Int) = 0 from rfl] at this
  rw [this, List.nil_append, List.drop_zero, ← lowD_words hi.wd hi.v]
  exact hk
theorem digB_data (least n : Nat) : (digB least n).data.toList = fixD (max least (lenD n)) n := by
  rw [fixD_low]
  unfold digB strOfNums
  simp
/-- The digits of a number, as a contract. -/
theorem digits_b (w : World) (v : Value) (n least : Nat) (hv : BN w v n) (hl : least < 1000000) (hn : (wordsN n).length < 1000000) :
    Calls Tryz.prog 93 #[v, .int .i64 (least : Int)] w fun e w' => e = .returned (.string (digB least n)) ∧ Below w.heap.size w w' := by
  obtain ⟨A, c, rfl, h1, _, _⟩ := hv.at_
  obtain ⟨k, hk⟩ := dig_f n least hl hn
  exact num_big_digits.calls k A c _ _ _ w hv.C.2.2 h1 hk
end Go.Proofs.YtjndcehkgfbagaaGreatDoor

namespace Go.Proofs.YtjndcehkgfbagaaGreatDoor
open Go.RowKit NumP Go.Proofs.YtjndcehkgfbagaaGreatDoorW.PrintWords
set_option linter.unusedVariables false

theorem repeat_zero : ∀ n : Nat, Lib.repeatL [48] n = List.replicate n 48
  | 0 => rfl
  | n + 1 => by
    rw [List.replicate_succ, ← repeat_zero n]
    rfl
theorem valD_zeros : ∀ n : Nat, valD (49 :: List.replicate n 48) = 10 ^ n
  | 0 => by decide
  | n + 1 => by
    have h1 : (49 : UInt8) :: List.replicate (n + 1) 48 = (49 :: List.replicate n 48) ++ [48] := by
      rw [List.replicate_succ', List.cons_append]
    rw [h1, valD_snoc, valD_zeros n, Nat.pow_succ]
    show 10 * 10 ^ n + (48 - 48) = _
    omega
def tenB (n : Nat) : ByteArray := ⟨(49 :: List.replicate n 48).toArray⟩
set_option maxRecDepth 100000 in
theorem pow10_b (W : World) (n : Nat) (hn : n ≤ 1000) : Calls Tryz.prog 56 #[.int .i64 (n : Int)] W (BPost W (wordsN (10 ^ n))) := by
  have hrep := Tryz.strings_Repeat ⟨#[48]⟩ n W (by omega) (by show 1 * n ≤ _; omega)
  obtain ⟨z, hz⟩ : ∃ z : ByteArray, z = ⟨(Lib.repeatL (⟨#[48]⟩ : ByteArray).data.toList n).toArray⟩ := ⟨_, rfl⟩
  have hzl : Hid (z.data.toList = List.replicate n 48) := Lib.hid (by rw [hz]; exact repeat_zero n)
  have hzs : z.size = n := by rw [← list_len z, hzl.out]; simp
  have hcat : Hid ((⟨#[49]⟩ : ByteArray) ++ z = tenB n) := Lib.hid (data_inj (by
    rw [show ((⟨#[49]⟩ : ByteArray) ++ z).data.toList = [49] ++ z.data.toList by simp, hzl.out]
    simp [tenB]))
  rw [← hz] at hrep
  clear hz
  go_enter Tryz.func56, Tryz.ntmps56
  go_wp2_with fail
  refine hrep.mono ?_
  rintro e w1 ⟨rfl, hb1⟩
  clear hrep
  have hf := from_b (tenB n) w1 (by rw [← list_len]; simp [tenB]; omega) (fun c hc => by
    simp [tenB] at hc
    rcases hc with rfl | ⟨_, rfl⟩ <;> decide)
  have hval : Hid (valD (tenB n).data.toList = 10 ^ n) := Lib.hid (by
    rw [show (tenB n).data.toList = 49 :: List.replicate n 48 by simp [tenB]]
    exact valD_zeros n)
  rw [hval.out] at hf
  go_wp2_with fail
  rw [hcat.out]
  refine hf.mono ?_
  rintro e w2 ⟨r, rfl, hB, hb2⟩
  go_wp2_with fail
  go_ret
  exact ⟨r, rfl, hB, hb1.trans (hb2.mono hb1.size)⟩
end Go.Proofs.YtjndcehkgfbagaaGreatDoor

namespace Go.Proofs.YtjndcehkgfbagaaGreatDoor
open Go.RowKit NumP Go.Proofs.YtjndcehkgfbagaaGreatDoorW.PrintWords
set_option linter.unusedVariables false

/-- Two cells of block q, and what lies below, stay. -/
theorem two_out {W4 w : World} {q : Nat} {a b : Value} (h : w.cell? ⟨q, 0, none⟩ = some a ∧ w.cell? ⟨q, 1, none⟩ = some b ∧ Hid (Below W4.heap.size W4 w)) : Below W4.heap.size W4 w := h.2.2.out
theorem two_later {W4 : World} {q : Nat} {a b : Value} {w w' : World} (hq : Hid (q < W4.heap.size)) (h : w.cell? ⟨q, 0, none⟩ = some a ∧ w.cell? ⟨q, 1, none⟩ = some b ∧ Hid (Below W4.heap.size W4 w)) (hb : Below w.heap.size w w') :
    w'.cell? ⟨q, 0, none⟩ = some a ∧ w'.cell? ⟨q, 1, none⟩ = some b ∧ Hid (Below W4.heap.size W4 w') := by
  obtain ⟨c0, c1, h⟩ := h
  have hz := h.out.size
  have hq' := hq.out
  exact ⟨(hb.cell (p := ⟨q, 0, none⟩) (by show q < _; omega)).trans c0, (hb.cell (p := ⟨q, 1, none⟩) (by show q < _; omega)).trans c1, Lib.hid (h.out.trans (hb.mono h.out.size))⟩
theorem res_two {fn : Func} {p t : Tmp} {ty : TypeId} (h : fn.results = #[.cell p ty, .tmp t]) (tmps : Array Value) (P : Program) (w : World) :
    (results fn tmps).run P w = ((asAddr (tmps.getD p undef)).run P w).andThen fun a w₁ => ((loadVar ty a).run P w₁).andThen fun v w₂ => .ok (.tuple #[v, tmps.getD t undef]) w₂ := by
  simp only [results, h]
  simp [Sem.run_bind, Result.andThen]
theorem put2 {w : World} {q : Nat} {T : TypeId} {x y : Value} (h : w.heap[q]? = some (.cells #[x, y] T (0, 0))) (a b : Value) {B : Nat} (hB : B ≤ q) :
    ∃ W5, W5 = (w.setCell ⟨q, 0, none⟩ a).setCell ⟨q, 1, none⟩ b ∧ W5.heap[q]? = some (.cells #[a, b] T (0, 0)) ∧ Below B w W5 ∧ (∀ k, k ≠ q → W5.heap[k]? = w.heap[k]?) := by
  refine ⟨_, rfl, Lib.heap_setCell_same (i := 1) (Lib.heap_setCell_same (i := 0) h a) b, ((Below.refl B w).setCell (p := ⟨q, 0, none⟩) hB a).setCell (p := ⟨q, 1, none⟩) hB b, fun k hk => ?_⟩
  rw [Below.heap_setCell _ _ _ _ hk, Below.heap_setCell _ _ _ _ hk]
theorem cells2 {w : World} {q : Nat} {T : TypeId} {x y : Value} (h : w.heap[q]? = some (.cells #[x, y] T (0, 0))) :
    (w.cell? ⟨q, 0, none⟩ = some x ∧ w.cell? ⟨q, 1, none⟩ = some y) ∧ (∀ i, w.frozen? ⟨q, i, none⟩ = false) := by
  refine ⟨⟨?_, ?_⟩, fun i => Lib.frozen_of_heap h i⟩ <;> (rw [Lib.cell_of_heap h]; rfl)
theorem heap_lt {W : World} {j : Nat} {o : Obj} (h : W.heap[j]? = some o) : j < W.heap.size := (Array.getElem?_eq_some_iff.1 h).1

/-- What a function leaves that returns a number and an error. -/
def NumPost (W : World) (r : R) (e : Ending) (w' : World) : Prop :=
  Below W.heap.size W w' ∧ match r with
    | .ok x => ∃ A n c, e = .returned (.tuple #[.agg #[.bool x.neg, .slice A n c], .int .i64 0]) ∧ BN w' (.slice A n c) x.d ∧ n = (wordsN x.d).length
    | .error k => e = .returned (.tuple #[.agg #[.bool false, .slice none 0 0], .int .i64 k])
theorem pow50_b (W : World) : Calls Tryz.prog 56 #[.int .i64 50] W (BPost W (wordsN P50)) := pow10_b W 50 (by decide)
theorem P50_small : (wordsN P50).length ≤ 6 := words_len (by decide)
set_option maxHeartbeats 1000000 in
set_option maxRecDepth 100000 in
theorem checked_b (W : World) (neg : Bool) (A : Option Addr) (n c d : Nat) (hv : BN W (.slice A n c) d) (hd : (wordsN d).length ≤ 400000) :
    Calls Tryz.prog 92 #[.agg #[.bool neg, .slice A n c]] W (NumPost W (checkedN ⟨neg, d⟩)) := by
  have hn : n = (wordsN d).length := by
    obtain ⟨A', c', e⟩ := BAt.form hv
    injection e
  obtain ⟨W1, hW1⟩ : ∃ W1, W1 = W.alloc (.cells #[.bool neg, .slice A n c] 64) := ⟨_, rfl⟩
  obtain ⟨W2, hW2⟩ : ∃ W2, W2 = W1.alloc (.cells #[.bool false, .slice none 0 0] 64) := ⟨_, rfl⟩
  obtain ⟨q, hq⟩ : ∃ q, q = W.heap.size := ⟨_, rfl⟩
  have hz1 : W1.heap.size = q + 1 := by rw [hW1, hq]; simp
  have hb1 : Below W.heap.size W W1 := by rw [hW1]; exact (Below.refl _ _).alloc (Nat.le_refl _) _
  have hb2 : Below W1.heap.size W1 W2 := by rw [hW2]; exact (Below.refl _ _).alloc (Nat.le_refl _) _
  have hblk1 : W1.heap[q]? = some (.cells #[.bool neg, .slice A n c] 64 (0, 0)) := by rw [hW1, hq]; exact (MapKept.heap_alloc _ _).1
  have hblk : W2.heap[q]? = some (.cells #[.bool neg, .slice A n c] 64 (0, 0)) := by rw [hb2.block q (heap_lt hblk1)]; exact hblk1
  have hres : W2.heap[q + 1]? = some (.cells #[.bool false, .slice none 0 0] 64 (0, 0)) := by rw [← hz1, hW2]; exact (MapKept.heap_alloc _ _).1
  have hb02 : Hid (Below W.heap.size W W2) := Lib.hid (hb1.trans (hb2.mono hb1.size))
  have hBN2 : Hid (BN W2 (.slice A n c) d) := Lib.hid (hv.below hb02.out)
  have hql : Hid (q < W2.heap.size) := Lib.hid (heap_lt hblk)
  obtain ⟨⟨b0, b1⟩, -⟩ := cells2 hblk
  replace hblk := Lib.hid hblk
  replace hres := Lib.hid hres
  replace hn := Lib.hid hn
  replace hv := Lib.hid hv
  have hsm : Hid (Small d) := Lib.hid (by unfold Small; omega)
  have hs50 : Hid (Small P50) := Lib.hid (by have := P50_small; unfold Small; omega)
  clear hblk1 hb1 hb2
  go_enter Tryz.func92, Tryz.ntmps92
  go_wp2_with fail
  rw [← hW1, ← hW2, ← hq]
  clear hW1 hW2
  replace hq := Lib.hid hq
  replace hz1 := Lib.hid hz1
  have hS : Hid (W2.drew.cell? ⟨q, 0, none⟩ = some (.bool neg) ∧ W2.drew.cell? ⟨q, 1, none⟩ = some (.slice A n c) ∧ Hid (Below W2.heap.size W2 W2.drew)) := Lib.hid ⟨b0, b1, Lib.hid (Below.refl _ _).drew⟩
  clear b0 b1
  go_region_held3 (fun w' => w'.cell? ⟨q, 0, none⟩ = some (.bool neg) ∧ w'.cell? ⟨q, 1, none⟩ = some (.slice A n c) ∧ Hid (Below W2.heap.size W2 w'))
    (first | exact hS.out | exact two_later hql (by assumption) (by assumption))
    (first
      | (go_at_call 56; refine (pow50_b _).mono ?_; rintro e w' ⟨v6, rfl, hv6, hbb⟩)
      | (go_at_call 96; refine (cmp_b _ _ _ d P50 (hBN2.out.below (two_out (by assumption))) (by assumption) hsm.out hs50.out).mono ?_; rintro e w' ⟨⟨cr, rfl, hsg⟩, hbb⟩))
  rename_i hH
  obtain ⟨sg1, sg2, -, -⟩ := hsg
  obtain ⟨c0, c1, hbw⟩ := hH
  have hb0w : Hid (Below W.heap.size W w') := Lib.hid (hb02.out.trans (hbw.out.mono hb02.out.size))
  have hqb : Hid (w'.heap[q]? = some (.cells #[.bool neg, .slice A n c] 64 (0, 0))) := Lib.hid (by rw [hbw.out.block q (heap_lt hblk.out)]; exact hblk.out)
  have hrb : Hid (w'.heap[q + 1]? = some (.cells #[.bool false, .slice none 0 0] 64 (0, 0))) := Lib.hid (by rw [hbw.out.block (q + 1) (heap_lt hres.out)]; exact hres.out)
  have hBw : Hid (BN w' (.slice A n c) d) := Lib.hid (hv.out.below hb0w.out)
  obtain ⟨w3, hw3⟩ : ∃ w3, w3 = w' := ⟨_, rfl⟩
  rw [← hw3] at c0 c1 hb0w hqb hrb hBw ⊢
  clear hw3 hbb hbw hv6
  obtain ⟨⟨r0, r1⟩, fr⟩ := cells2 hrb.out
  have f0 := fr 0
  have f1 := fr 1
  have fq := (cells2 hqb.out).2 0
  clear fr
  by_cases hge : P50 ≤ d
  · have hc : 0 ≤ cr := by omega
    have hR : Hid (checkedN ⟨neg, d⟩ = .error 40) := Lib.hid (by unfold checkedN; rw [if_pos hge])
    clear sg1 sg2 hge
    go_wp2_with fail
    obtain ⟨W5, hW5, h5, hb5, hk5⟩ := put2 hrb.out (.bool false) (.slice none 0 0) (B := W.heap.size) (by rw [hq.out]; omega)
    rw [← hW5]
    clear hW5 f0 f1 fq r0 r1 c0 c1
    obtain ⟨⟨y0, y1⟩, -⟩ := cells2 h5
    replace h5 := Lib.hid h5
    refine bodyPost_ret (v := .tuple #[.agg #[.bool false, .slice none 0 0], .int .i64 40]) ?ret rfl ?post
    case ret => rw [res_two rfl]; go_simp
    case post => exact ⟨hb0w.out.trans hb5, by rw [hR.out]⟩
  · have hc : ¬ 0 ≤ cr := by omega
    have hzd : Hid ((0 < n) ↔ (0 < d)) := Lib.hid (by rw [hn.out]; exact (wordsN_is d).pos)
    obtain ⟨ng, hng⟩ : ∃ ng, ng = (neg && decide (0 < d)) := ⟨_, rfl⟩
    have hR : Hid (checkedN ⟨neg, d⟩ = .ok ⟨ng, d⟩) := Lib.hid (by unfold checkedN; rw [if_neg hge, hng])
    have hqq : Hid (q ≠ q + 1) := Lib.hid (by omega)
    clear sg1 sg2 hge
    have hcases : (neg = false ∧ ng = false) ∨ (neg = true ∧ 0 < n ∧ ng = true) ∨ (neg = true ∧ ¬ 0 < n ∧ ng = false) := by
      cases neg
      · exact .inl ⟨rfl, by simp [hng]⟩
      · by_cases h : 0 < n
        · exact .inr (.inl ⟨rfl, h, by simp [hng, hzd.out.1 h]⟩)
        · exact .inr (.inr ⟨rfl, h, by rw [hng, decide_eq_false (fun q => h (hzd.out.2 q)), Bool.and_false]⟩)
    clear hng
    rcases hcases with ⟨rfl, rfl⟩ | ⟨rfl, h0, rfl⟩ | ⟨rfl, h0, rfl⟩
    · skip
      have hres4 : Hid ((w3.setCell ⟨q, 0, none⟩ (.bool false)).heap[q + 1]? = some (.cells #[.bool false, .slice none 0 0] 64 (0, 0))) := Lib.hid (by rw [Below.heap_setCell _ _ _ _ (fun e => hqq.out e.symm)]; exact hrb.out)
      have hb4 : Hid (Below W.heap.size W (w3.setCell ⟨q, 0, none⟩ (.bool false))) := Lib.hid (hb0w.out.setCell (p := ⟨q, 0, none⟩) (by rw [hq.out]; exact Nat.le_refl _) _)
      go_wp2_with fail
      obtain ⟨W5, hW5, h5, hb5, hk5⟩ := put2 hres4.out (.bool false) (.slice A n c) (B := W.heap.size) (by rw [hq.out]; omega)
      rw [← hW5]
      clear hW5 f0 f1 fq r0 r1 c0 c1
      obtain ⟨⟨y0, y1⟩, -⟩ := cells2 h5
      replace h5 := Lib.hid h5
      refine bodyPost_ret (v := .tuple #[.agg #[.bool false, .slice A n c], .int .i64 0]) ?ret rfl ?post
      case ret => rw [res_two rfl]; go_simp
      case post => exact ⟨hb4.out.trans hb5, by rw [hR.out]; exact ⟨A, n, c, rfl, hv.out.below (hb4.out.trans hb5), hn.out⟩⟩
    · skip
      have hres4 : Hid ((w3.setCell ⟨q, 0, none⟩ (.bool true)).heap[q + 1]? = some (.cells #[.bool false, .slice none 0 0] 64 (0, 0))) := Lib.hid (by rw [Below.heap_setCell _ _ _ _ (fun e => hqq.out e.symm)]; exact hrb.out)
      have hb4 : Hid (Below W.heap.size W (w3.setCell ⟨q, 0, none⟩ (.bool true))) := Lib.hid (hb0w.out.setCell (p := ⟨q, 0, none⟩) (by rw [hq.out]; exact Nat.le_refl _) _)
      go_wp2_with fail
      obtain ⟨W5, hW5, h5, hb5, hk5⟩ := put2 hres4.out (.bool true) (.slice A n c) (B := W.heap.size) (by rw [hq.out]; omega)
      rw [← hW5]
      clear hW5 f0 f1 fq r0 r1 c0 c1
      obtain ⟨⟨y0, y1⟩, -⟩ := cells2 h5
      replace h5 := Lib.hid h5
      refine bodyPost_ret (v := .tuple #[.agg #[.bool true, .slice A n c], .int .i64 0]) ?ret rfl ?post
      case ret => rw [res_two rfl]; go_simp
      case post => exact ⟨hb4.out.trans hb5, by rw [hR.out]; exact ⟨A, n, c, rfl, hv.out.below (hb4.out.trans hb5), hn.out⟩⟩
    · skip
      have hres4 : Hid ((w3.setCell ⟨q, 0, none⟩ (.bool false)).heap[q + 1]? = some (.cells #[.bool false, .slice none 0 0] 64 (0, 0))) := Lib.hid (by rw [Below.heap_setCell _ _ _ _ (fun e => hqq.out e.symm)]; exact hrb.out)
      have hb4 : Hid (Below W.heap.size W (w3.setCell ⟨q, 0, none⟩ (.bool false))) := Lib.hid (hb0w.out.setCell (p := ⟨q, 0, none⟩) (by rw [hq.out]; exact Nat.le_refl _) _)
      go_wp2_with fail
      obtain ⟨W5, hW5, h5, hb5, hk5⟩ := put2 hres4.out (.bool false) (.slice A n c) (B := W.heap.size) (by rw [hq.out]; omega)
      rw [← hW5]
      clear hW5 f0 f1 fq r0 r1 c0 c1
      obtain ⟨⟨y0, y1⟩, -⟩ := cells2 h5
      replace h5 := Lib.hid h5
      refine bodyPost_ret (v := .tuple #[.agg #[.bool false, .slice A n c], .int .i64 0]) ?ret rfl ?post
      case ret => rw [res_two rfl]; go_simp
      case post => exact ⟨hb4.out.trans hb5, by rw [hR.out]; exact ⟨A, n, c, rfl, hv.out.below (hb4.out.trans hb5), hn.out⟩⟩
end Go.Proofs.YtjndcehkgfbagaaGreatDoor

namespace Go.Proofs.YtjndcehkgfbagaaGreatDoor
open Go.RowKit NumP Go.Proofs.YtjndcehkgfbagaaGreatDoorW.PrintWords
set_option linter.unusedVariables false

theorem ret_str {a b : ByteArray} (h : a = b) : Ending.returned (.string a) = .returned (.string b) := by rw [h]
def txtB (x : Num) : ByteArray := ⟨(textN x).toArray⟩
theorem txtB_data (x : Num) : (txtB x).data.toList = textN x := by simp [txtB]
theorem lenD_words (d k : Nat) (h : (wordsN d).length ≤ k) : lenD d ≤ 9 * k := (lenD_le d (9 * k)).2 (by
  have h1 := (wordsN_is d).lt
  have h2 : 1000000000 ^ (wordsN d).length ≤ 1000000000 ^ k := Nat.pow_le_pow_right (by decide) h
  rw [Nat.pow_mul]
  exact Nat.lt_of_lt_of_le h1 h2)
set_option maxHeartbeats 1000000 in
set_option maxRecDepth 100000 in
theorem text_b (W : World) (neg : Bool) (A : Option Addr) (n c d : Nat) (hv : BN W (.slice A n c) d) (hd : (wordsN d).length ≤ 1000) :
    Calls Tryz.prog 50 #[.agg #[.bool neg, .slice A n c]] W fun e w' => e = .returned (.string (txtB ⟨neg, d⟩)) ∧ Below W.heap.size W w' := by
  obtain ⟨W1, hW1⟩ : ∃ W1, W1 = W.alloc (.cells #[.bool neg, .slice A n c] 64) := ⟨_, rfl⟩
  obtain ⟨q, hq⟩ : ∃ q, q = W.heap.size := ⟨_, rfl⟩
  have hb1 : Below W.heap.size W W1 := by rw [hW1]; exact (Below.refl _ _).alloc (Nat.le_refl _) _
  have hblk : W1.heap[q]? = some (.cells #[.bool neg, .slice A n c] 64 (0, 0)) := by rw [hW1, hq]; exact (MapKept.heap_alloc _ _).1
  have hdg := digits_b W1 (.slice A n c) d 21 (hv.below hb1) (by omega) (by omega)
  have hdg' : Calls Tryz.prog 93 #[.slice A n c, .int .i64 21] W1 fun e w' => e = .returned (.string (digB 21 d)) ∧ Below W1.heap.size W1 w' := hdg
  have hL : lenD d ≤ 9 * 1000 := lenD_words d 1000 hd
  have hdat := digB_data 21 d
  have hsz : (digB 21 d).size = max 21 (lenD d) := by rw [← list_len, hdat, fixD_len]
  obtain ⟨L, hLe⟩ : ∃ L, L = max 21 (lenD d) := ⟨_, rfl⟩
  rw [← hLe] at hdat hsz
  have hL1 : 21 ≤ L := by omega
  have hL2 : L ≤ 9000 := by omega
  obtain ⟨s, hs⟩ : ∃ s, s = digB 21 d := ⟨_, rfl⟩
  rw [← hs] at hdg' hdat hsz
  obtain ⟨⟨b0, b1⟩, -⟩ := cells2 hblk
  replace hblk := Lib.hid hblk
  replace hdat := Lib.hid hdat
  replace hLe := Lib.hid hLe
  replace hv := Lib.hid hv
  clear hdg hs hL
  go_enter Tryz.func50, Tryz.ntmps50
  go_wp2_with fail
  rw [← hW1, ← hq]
  clear hW1
  refine hdg'.mono ?_
  rintro e w2 ⟨rfl, hb2⟩
  clear hdg'
  have c0 : w2.cell? ⟨q, 0, none⟩ = some (.bool neg) := by rw [hb2.cell (p := ⟨q, 0, none⟩) (heap_lt hblk.out)]; exact b0
  clear b0 b1
  have hb02 : Hid (Below W.heap.size W w2) := Lib.hid (hb1.trans (hb2.mono hb1.size))
  replace hq := Lib.hid hq
  clear hb1 hb2
  obtain ⟨X, hX⟩ : ∃ X, X = s.extract (s.size - 20) s.size := ⟨_, rfl⟩
  have htr := fun w => Tryz.strings_TrimRight_one X 48 (by decide) w (by rw [hX, ByteArray.size_extract]; omega)
  have g1 : 20 ≤ s.size := by omega
  have g2 : s.size ≤ 9000 := by omega
  replace hsz := Lib.hid hsz
  obtain ⟨F, hF⟩ : ∃ F : ByteArray, F = ⟨(Lib.trimRightB X.data.toList 48).toArray⟩ := ⟨_, rfl⟩
  simp only [← hF] at htr
  rw [hX] at htr hF
  replace hF := Lib.hid hF
  clear hX
  have k1 : (0 : Int) ≤ (s.size : Int) - 20 := by omega
  have k2 : (s.size : Int) - 20 ≤ (s.size : Int) := by omega
  go_wp2_with fail
  go_quiet ((go_at_call 94; go_loud (exact Calls.quiet_of_same (htr _))))
  obtain ⟨w3, hw3⟩ : ∃ w3, w3 = w2.drewN nq := ⟨_, rfl⟩
  obtain ⟨G, hG⟩ : ∃ G, G = s.extract 0 (s.size - 20) := ⟨_, rfl⟩
  have c3 : w3.cell? ⟨q, 0, none⟩ = some (.bool neg) := by rw [hw3]; exact c0
  have hb03 : Hid (Below W.heap.size W w3) := Lib.hid (by rw [hw3]; exact hb02.out.trans ⟨rfl, rfl, rfl, Nat.le_refl _, fun _ _ => rfl⟩)
  rw [← hw3, ← hG]
  have hGd : Hid (G.data.toList = (fixD L d).take (L - 20)) := Lib.hid (by rw [hG, ext_take, hdat.out, hsz.out])
  have hFd : Hid (F.data.toList = trimZ ((fixD L d).drop (L - 20))) := Lib.hid (by
    rw [hF.out, ext_drop, hdat.out, hsz.out]; rfl)
  have z1 : G.size ≤ 9000 := by
    rw [← list_len, hGd.out, List.length_take, fixD_len]; omega
  have z2 : F.size ≤ 9000 := by
    rw [← list_len, hFd.out]
    unfold trimZ
    rw [List.length_reverse]
    refine Nat.le_trans (List.dropWhile_suffix _).length_le ?_
    rw [List.length_reverse, List.length_drop, fixD_len]; omega
  have htx : Hid (∀ Z : ByteArray, Z.data.toList = (if neg then [45] else []) ++ (G.data.toList ++ (if F.data.toList = [] then [] else 46 :: F.data.toList)) → Z = txtB ⟨neg, d⟩) := Lib.hid (fun Z hZ => data_inj (by
    rw [txtB_data, hZ, hGd.out, hFd.out]
    unfold textN
    simp only [← hLe.out, fixD_len, List.append_assoc]))
  clear hw3 hG c0 htr hF k1 k2 g1 g2
  have n1 : (9223372036854775807 < 1 + F.size) = False := eq_false (by omega)
  have n2 : (9223372036854775807 < G.size + (1 + F.size)) = False := eq_false (by omega)
  have n3 : (9223372036854775807 < 1 + (G.size + (1 + F.size))) = False := eq_false (by omega)
  have n4 : (9223372036854775807 < 1 + G.size) = False := eq_false (by omega)
  by_cases hFe : F.data.toList = []
  · have hF0 : F = ⟨#[]⟩ := data_inj hFe
    subst hF0
    cases neg
    all_goals
      go_wp2_with fail
      go_ret
      exact ⟨ret_str (htx.out _ (by simp)), hb03.out⟩
  · have q1 : (F.toList == []) = false := beq_eq_false_iff_ne.2 (by rw [Lib.toList_data]; exact hFe)
    have q2 : (F.toList != []) = true := by rw [bne, q1]; rfl
    have q3 : F.toList.isEmpty = false := by
      cases h : F.toList with
      | nil => rw [h] at q1; cases q1
      | cons a l => rfl
    replace htx : Hid (∀ Z : ByteArray, Z.data.toList = (if neg then [45] else []) ++ (G.data.toList ++ 46 :: F.data.toList) → Z = txtB ⟨neg, d⟩) := Lib.hid (fun Z hZ => htx.out Z (by rw [if_neg hFe]; exact hZ))
    clear hFe
    cases neg
    all_goals
      go_wp2_with fail
      go_ret
      exact ⟨ret_str (htx.out _ (by simp)), hb03.out⟩
end Go.Proofs.YtjndcehkgfbagaaGreatDoor

namespace Go.Proofs.YtjndcehkgfbagaaGreatDoor
open Go.RowKit NumP Go.Proofs.YtjndcehkgfbagaaGreatDoorW.PrintWords
set_option linter.unusedVariables false

def notDig (r : Nat) : Bool := !(decide (48 ≤ r) && decide (r ≤ 57))
set_option maxRecDepth 100000 in
theorem notdig_pred (w : World) : PredAt Tryz.prog 90 #[] encR notDig w := fun W r _ => by
  unfold FnGives
  have hcases : r < 48 ∨ (48 ≤ r ∧ r ≤ 57) ∨ 57 < r := by omega
  rcases hcases with h | ⟨h, h2⟩ | h
  · have e : notDig r = true := by unfold notDig; rw [decide_eq_false (by omega)]; rfl
    have h1 : (r : Int) < 48 := by omega
    rw [e]
    clear e
    go_enter Tryz.func90, Tryz.ntmps90
    go_wp2_with fail
    go_ret
    exact ⟨rfl, 0, rfl⟩
  · have e : notDig r = false := by unfold notDig; rw [decide_eq_true h, decide_eq_true h2]; rfl
    have h1 : ¬ (r : Int) < 48 := by omega
    have h3 : ¬ (r : Int) > 57 := by omega
    rw [e]
    clear e
    go_enter Tryz.func90, Tryz.ntmps90
    go_wp2_with fail
    go_ret
    exact ⟨rfl, 0, rfl⟩
  · have e : notDig r = true := by unfold notDig; rw [decide_eq_false (show ¬ r ≤ 57 by omega), Bool.and_false]; rfl
    have h1 : ¬ (r : Int) < 48 := by omega
    have h3 : (r : Int) > 57 := by omega
    rw [e]
    clear e
    go_enter Tryz.func90, Tryz.ntmps90
    go_wp2_with fail
    go_ret
    exact ⟨rfl, 0, rfl⟩
theorem decodeN_big (n b0 b1 b2 b3 : Nat) (h : 128 ≤ b0) : 128 ≤ (Lib.decodeN n b0 b1 b2 b3).1 := by
  unfold Lib.decodeN
  rw [if_neg (by omega)]
  repeat' split
  all_goals first | (show 128 ≤ 65533; decide) | (simp only; omega)
theorem dec_byte (s : ByteArray) (pos : Nat) (h : pos < s.size) : (∃ b : UInt8, s.data.toList[pos]? = some b ∧ ((b.toNat < 128 ∧ Utf8.decode s pos = (b.toNat, 1)) ∨ (128 ≤ b.toNat ∧ 128 ≤ (Utf8.decode s pos).1))) := by
  have hl : pos < s.data.toList.length := by rw [list_len]; exact h
  refine ⟨s.data.toList[pos], List.getElem?_eq_getElem hl, ?_⟩
  have hg : (s.data.toList.drop pos).getD 0 0 = s.data.toList[pos] := by
    rw [List.drop_eq_getElem_cons hl]; rfl
  have hd := Lib.decodeL_drop s pos
  rw [Lib.decodeL_N, hg] at hd
  rcases Nat.lt_or_ge (s.data.toList[pos]).toNat 128 with hb | hb
  · refine .inl ⟨hb, ?_⟩
    rw [← hd, Lib.decodeN_ascii _ _ _ _ _ hb]
  · refine .inr ⟨hb, ?_⟩
    rw [← hd]
    exact decodeN_big _ _ _ _ _ hb
theorem idx_from (s : ByteArray) : ∀ (f pos : Nat), pos ≤ s.size → s.size ≤ pos + f → ((∀ c ∈ s.data.toList.drop pos, isDig c = true) ∧ Lib.idxFuncFrom notDig true s f pos = -1) ∨ ((¬ ∀ c ∈ s.data.toList.drop pos, isDig c = true) ∧ 0 ≤ Lib.idxFuncFrom notDig true s f pos)
  | 0, pos, h1, h2 => by
    refine .inl ⟨fun c hc => ?_, rfl⟩
    rw [List.drop_of_length_le (by rw [list_len]; omega)] at hc
    exact (List.not_mem_nil hc).elim
  | f + 1, pos, h1, h2 => by
    by_cases hp : pos < s.size
    · have hl : pos < s.data.toList.length := by rw [list_len]; exact hp
      obtain ⟨b, hb, hbb⟩ := dec_byte s pos hp
      have hb' : s.data.toList[pos] = b := by
        rw [List.getElem?_eq_getElem hl] at hb; exact Option.some.inj hb
      rw [Lib.idxFuncFrom, if_pos hp, List.drop_eq_getElem_cons hl, hb']
      rcases hbb with ⟨h3, h4⟩ | ⟨h3, h4⟩
      · rw [h4]
        simp only
        by_cases hd : isDig b = true
        · have hn : notDig b.toNat = false := by
            simp only [isDig, Bool.and_eq_true, decide_eq_true_eq] at hd
            unfold notDig
            rw [decide_eq_true hd.1, decide_eq_true hd.2]; rfl
          rw [hn, if_neg (by decide)]
          rcases idx_from s f (pos + 1) (by omega) (by omega) with ⟨h5, h6⟩ | ⟨h5, h6⟩
          · refine .inl ⟨fun c hc => ?_, h6⟩
            rcases List.mem_cons.1 hc with rfl | hc
            · exact hd
            · exact h5 c hc
          · exact .inr ⟨fun q => h5 fun c hc => q c (List.mem_cons_of_mem _ hc), h6⟩
        · have hn : notDig b.toNat = true := by
            unfold notDig
            cases h : (decide (48 ≤ b.toNat) && decide (b.toNat ≤ 57)) with
            | false => rfl
            | true => exact absurd h hd
          rw [hn, if_pos rfl]
          exact .inr ⟨fun q => hd (q b (List.mem_cons_self ..)), by omega⟩
      · have hn : notDig (Utf8.decode s pos).1 = true := by
          unfold notDig; rw [decide_eq_false (show ¬ (Utf8.decode s pos).1 ≤ 57 by omega), Bool.and_false]; rfl
        rw [hn, if_pos rfl]
        refine .inr ⟨fun q => ?_, by omega⟩
        have := q b (List.mem_cons_self ..)
        simp only [isDig, Bool.and_eq_true, decide_eq_true_eq] at this
        omega
    · refine .inl ⟨fun c hc => ?_, by rw [Lib.idxFuncFrom, if_neg hp]⟩
      rw [List.drop_of_length_le (by rw [list_len]; omega)] at hc
      exact (List.not_mem_nil hc).elim
theorem idx_all (s : ByteArray) : (s.data.toList.all isDig = true ∧ Lib.idxFunc notDig true s = -1) ∨ (s.data.toList.all isDig = false ∧ 0 ≤ Lib.idxFunc notDig true s) := by
  rcases idx_from s s.size 0 (Nat.zero_le _) (by omega) with ⟨h1, h2⟩ | ⟨h1, h2⟩
  · exact .inl ⟨List.all_eq_true.2 h1, h2⟩
  · refine .inr ⟨?_, h2⟩
    rw [List.drop_zero] at h1
    cases h : s.data.toList.all isDig with
    | false => rfl
    | true => exact absurd (List.all_eq_true.1 h) h1
set_option maxRecDepth 100000 in
theorem index_b (s : ByteArray) (w : World) : Calls Tryz.prog 89 #[.string s, .func (.func 90) #[] #[]] w fun e w' => e = .returned (.int .i64 (Lib.idxFunc notDig true s)) ∧ Below w.heap.size w w' :=
  Tryz.strings_IndexFunc 90 #[] (fun args w => by kernel_rfl) notDig s w (notdig_pred w)
theorem cut_point (l : List UInt8) : (Lib.cut l [46]).1 = before 46 l ∧ (Lib.cut l [46]).2.1 = behind 46 l := by
  unfold Lib.cut before behind
  rw [Lib.index_one]
  induction l with
  | nil => exact ⟨rfl, rfl⟩
  | cons b l ih =>
    by_cases hb : b = 46
    · subst hb
      have e : Lib.indexByte (46 :: l) 46 = 0 := by simp [Lib.indexByte]
      rw [e]
      simp
    · have e : Lib.indexByte (b :: l) 46 = if Lib.indexByte l 46 == -1 then -1 else Lib.indexByte l 46 + 1 := by
        rw [Lib.indexByte, if_neg (by simpa using hb)]
      have hg : -1 ≤ Lib.indexByte l 46 := by rw [← Lib.index_one]; exact Lib.index_ge _ _
      have hbb : (b != 46) = true := by simpa using hb
      rw [e, List.takeWhile_cons, List.dropWhile_cons, hbb]
      simp only [if_true]
      by_cases h1 : Lib.indexByte l 46 = -1
      · rw [h1] at ih ⊢
        simp at ih ⊢
        exact ⟨ih.1, ih.2⟩
      · have h0 : 0 ≤ Lib.indexByte l 46 := by omega
        have h2 : (Lib.indexByte l 46 == -1) = false := by simpa using h1
        rw [h2] at ⊢
        rw [if_pos h0] at ih
        simp only [Bool.false_eq_true, if_false]
        rw [if_pos (by omega)]
        have h3 : (Lib.indexByte l 46 + 1).toNat = (Lib.indexByte l 46).toNat + 1 := by omega
        rw [h3]
        simp only [List.take_succ_cons] at ih ⊢
        refine ⟨by rw [ih.1], ?_⟩
        rw [← ih.2, show (Lib.indexByte l 46).toNat + 1 + [(46 : UInt8)].length = ((Lib.indexByte l 46).toNat + [(46 : UInt8)].length) + 1 by simp, List.drop_succ_cons]
end Go.Proofs.YtjndcehkgfbagaaGreatDoor
