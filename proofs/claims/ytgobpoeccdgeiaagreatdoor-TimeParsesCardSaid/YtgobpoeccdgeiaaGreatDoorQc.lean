/- Rounding of package num: ways, its closures, cut. The decimal digits of a number: digits of package num, and slices.Reverse over bytes, by own walks. Powers of ten and the bound of package num: pow10, checked. Numbers of package num in memory: checked, text. The text of a number of package num. What parse of package num reads: the closure that finds what is no digit, the cut at the point. -/
import Derived.Test.YtgobpoeccdgeiaaGreatDoorQb
import Derived.BigQuiet
import Derived.RegionTactic
import Derived.BigRegion
import Derived.Test.YtgobpoeccdgeiaaGreatDoorShelf
import Derived.Deep.RegionHeld3
import Derived.Laws.ResultCell
import Derived.Deep.QuietTactic
import Derived.Lib.TrimUEq

namespace Go.Proofs.YtgobpoeccdgeiaaGreatDoor
open Go.RowKit NumP Go.Proofs.YtgobpoeccdgeiaaGreatDoorW.PrintWords
set_option linter.unusedVariables false

/-- The rounder 'even', as a function value of the program. -/
def evenF : Value := .func (.func 123) #[] #[]
set_option maxRecDepth 100000 in
theorem ways_even (W : World) : Calls Tryz.prog 71 #[.string ⟨#[101, 118, 101, 110]⟩] W fun e w' => e = .returned evenF ∧ W = w' := by
  go_enter Tryz.func71, Tryz.ntmps71
  go_wp2
  go_ret
  exact ⟨rfl, rfl⟩
def evenB (half : Int) (odd : Bool) : Bool := decide (0 < half) || (decide (half = 0) && odd)
set_option maxRecDepth 100000 in
theorem even_calls (W : World) (neg odd none : Bool) (half : Int) : Calls Tryz.prog 123 #[.bool neg, .bool odd, .int .i64 half, .bool none] W fun e w' => e = .returned (.bool (evenB half odd)) ∧ W = w' := by
  rcases Int.lt_trichotomy half 0 with h | h | h
  · have e1 : Hid (evenB half odd = false) := Lib.hid (by unfold evenB; rw [decide_eq_false (by omega), decide_eq_false (by omega)]; rfl)
    have h1 : ¬ 0 < half := by omega
    have h2 : (half == 0) = false := by simp; omega
    go_enter Tryz.func123, Tryz.ntmps123
    go_wp2
    go_ret
    exact ⟨by rw [e1.out]; rfl, rfl⟩
  · subst h
    have e1 : Hid (evenB 0 odd = odd) := Lib.hid (by unfold evenB; simp)
    go_enter Tryz.func123, Tryz.ntmps123
    go_wp2
    go_ret
    exact ⟨by rw [e1.out]; rfl, rfl⟩
  · have e1 : Hid (evenB half odd = true) := Lib.hid (by unfold evenB; rw [decide_eq_true h]; rfl)
    go_enter Tryz.func123, Tryz.ntmps123
    go_wp2
    go_ret
    exact ⟨by rw [e1.out]; rfl, rfl⟩
theorem words_head {q : Nat} (h : 0 < q) : ∃ l, wordsN q = ((q % 1000000000 : Nat) : Int) :: l := by
  unfold wordsN
  cases q with
  | zero => omega
  | succ q => exact ⟨_, by rw [wordsF, if_neg (by omega)]⟩
theorem one_word_one : wordsN 1 = [1] := one_word (by decide) (by decide)
set_option maxHeartbeats 1000000 in
set_option maxRecDepth 100000 in
theorem cut_even (W : World) (neg : Bool) (v u : Value) (n m : Nat) (hv : BN W v n) (hu : BN W u m) (hn : (wordsN n).length ≤ 400000) (hm : (wordsN m).length ≤ 400000) (h0 : 0 < m) :
    Calls Tryz.prog 75 #[.bool neg, v, u, evenF] W (BPost W (wordsN (cutN .even neg n m))) := by
  have hov := over_b W v u n m hv hu hn hm h0
  obtain ⟨q, hq⟩ : ∃ q, q = n / m := ⟨_, rfl⟩
  obtain ⟨r, hr⟩ : ∃ r, r = n % m := ⟨_, rfl⟩
  have hrm : r < m := by rw [hr]; exact Nat.mod_lt _ h0
  have hqn : q ≤ n := by rw [hq]; exact Nat.div_le_self _ _
  have hcut : Hid (cutN .even neg n m = q + (evenB (if m < 2 * r then 1 else if 2 * r = m then 0 else -1) (decide (q % 2 = 1))).toNat) := Lib.hid (by
    unfold cutN Way.up evenB
    rw [← hq, ← hr]
    simp only
    congr 2
    by_cases h1 : m < 2 * r
    · simp [h1]
    · by_cases h2 : 2 * r = m
      · simp [h2]
      · simp [h1, h2])
  have hlen : ∀ a b : Nat, a ≤ b → (wordsN a).length ≤ (wordsN b).length := fun a b hab => by
    rcases Nat.lt_or_ge (wordsN b).length (wordsN a).length with h | h
    · have := (wordsN_is b).lt_of_len (wordsN_is a) h
      omega
    · exact h
  have hql := hlen q n hqn
  have hrl := hlen r m (by omega)
  rw [← hq, ← hr] at hov
  replace hlen := Lib.hid hlen
  replace hu := Lib.hid hu
  clear hq hr
  unfold evenF
  go_enter Tryz.func75, Tryz.ntmps75
  go_wp2_with fail
  refine hov.mono ?_
  rintro e w1 ⟨qv, rv, rfl, hQ, hR, hb1⟩
  clear hov
  obtain ⟨Aq, cq, rfl⟩ := BAt.form hQ
  obtain ⟨Ar, cr, rfl⟩ := BAt.form hR
  have hU1 := Lib.hid (hu.out.below hb1)
  have hpl := plus_b w1 _ _ r r hR hR (by omega) (by omega)
  have hrz : Hid ((wordsN r).length = 0 ↔ r = 0) := Lib.hid (by
    have := (wordsN_is r).zero
    rw [← this, List.length_eq_zero_iff])
  obtain ⟨lq, hlq⟩ : ∃ lq, lq = (wordsN q).length := ⟨_, rfl⟩
  obtain ⟨lr, hlr⟩ : ∃ lr, lr = (wordsN r).length := ⟨_, rfl⟩
  rw [← hlq] at hql hQ ⊢
  have hQ1 := Lib.hid hQ
  rw [← hlr] at hrl hpl hrz ⊢
  have hUl : Hid ((wordsN (2 * r)).length ≤ 400001) := Lib.hid (by
    refine Nat.le_trans (words_len (n := 2 * r) (k := (wordsN m).length + 1) ?_) (by omega)
    have h1 := (wordsN_is m).lt
    rw [Nat.pow_succ]
    have h2 : 2 * r < 1000000000 ^ (wordsN m).length * 2 := by omega
    refine Nat.lt_of_lt_of_le h2 (Nat.mul_le_mul_left _ (by decide)))
  have hcases : (q = 0 ∧ lq = 0) ∨ (∃ ad z : _, Aq = some ad ∧ 0 < lq ∧ w1.cell? ad = some (.int .u64 z) ∧ (0 ≤ z ∧ z < 1000000000) ∧ (q % 2 = 1 ↔ z % 2 = 1)) := by
    rcases Nat.eq_zero_or_pos q with hq0 | hq0
    · exact .inl ⟨hq0, by rw [hlq, hq0]; rfl⟩
    · obtain ⟨l, hl⟩ := words_head hq0
      obtain ⟨ad, e, hc⟩ := BAt.cellAt hQ 0 (by rw [hl]; simp)
      refine .inr ⟨ad, ((q % 1000000000 : Nat) : Int), e, by rw [hlq, hl]; simp, ?_, by omega, by omega⟩
      have : Addr.add ad 0 = ad := rfl
      rw [this] at hc
      rw [hc]; simp only [hl]; rfl
  obtain ⟨odd, hodd⟩ : ∃ odd, odd = decide (q % 2 = 1) := ⟨_, rfl⟩
  rw [← hodd] at hcut
  replace hlq := Lib.hid hlq
  clear hQ hR hlr
  rcases hcases with ⟨hq0, hl0⟩ | ⟨ad, z, rfl, hl0, hc, ⟨z0, z1⟩, hz⟩
  · obtain rfl : odd = false := by rw [hodd, hq0]; rfl
    subst hl0
    replace hq0 := Lib.hid hq0
    clear hodd
    go_wp2_with fail
    refine hpl.mono ?_
    rintro e w2 ⟨p2, rfl, hP2, hb2⟩
    clear hpl
    have hP2' : BN w2 p2 (2 * r) := by
      have h : BAt w2 p2 (wordsN (r + r)) := hP2
      rw [show r + r = 2 * r by omega] at h; exact h
    have hcm := cmp_b w2 p2 u (2 * r) m hP2' (hU1.out.below hb2) (by unfold Small; have := hUl.out; omega) (by unfold Small; omega)
    have hQ2 := Lib.hid (hQ1.out.below hb2)
    have hb02 : Hid (Below W.heap.size W w2) := Lib.hid (hb1.trans (hb2.mono hb1.size))
    clear hP2 hP2' hb2
    go_wp2_with fail
    refine hcm.mono ?_
    rintro e w3 ⟨⟨cmpv, rfl, hsg⟩, hb3⟩
    clear hcm
    obtain ⟨sg1, sg2, sg3, sg4⟩ := hsg
    have hev : Hid (evenB cmpv false = evenB (if m < 2 * r then 1 else if 2 * r = m then 0 else -1) false) := Lib.hid (by
      unfold evenB
      by_cases h1 : m < 2 * r
      · rw [if_pos h1, decide_eq_true (show 0 < cmpv by omega)]; rfl
      · rw [if_neg h1, decide_eq_false (show ¬ 0 < cmpv by omega)]
        by_cases h2 : 2 * r = m
        · rw [if_pos h2, decide_eq_true (show cmpv = 0 by omega)]; rfl
        · rw [if_neg h2, decide_eq_false (show ¬ cmpv = 0 by omega)]; rfl)
    obtain ⟨up, hup⟩ : ∃ up, up = evenB cmpv false := ⟨_, rfl⟩
    have hfin : Hid (cutN .even neg n m = q + up.toNat) := Lib.hid (by rw [hcut.out, hup, hev.out])
    have hb03 : Hid (Below W.heap.size W w3) := Lib.hid (hb02.out.trans (hb3.mono hb02.out.size))
    have hQ3 := Lib.hid (hQ2.out.below hb3)
    clear hcut hev sg1 sg2 sg3 sg4 hb3
    go_wp2_with fail
    refine (even_calls _ _ _ _ _).mono ?_
    rintro e w4 ⟨rfl, rfl⟩
    rw [← hup]
    clear hup
    cases up
    · go_wp2_with fail
      go_ret
      exact ⟨_, rfl, by rw [hfin.out]; exact hQ3.out, hb03.out⟩
    · have hbm := lit_BAt w3 1
      have hbl : Below w3.heap.size w3 (w3.alloc (.cells #[.int .u64 1] 142)) := (Below.refl _ _).alloc (Nat.le_refl _) _
      obtain ⟨W6, hW6⟩ : ∃ W6, W6 = w3.alloc (.cells #[.int .u64 1] 142) := ⟨_, rfl⟩
      rw [← hW6] at hbm hbl
      have hbn : BN W6 (.slice (some ⟨w3.heap.size, 0, none⟩) 1 1) 1 := by
        unfold BN
        rw [one_word_one]; exact hbm
      have hp6 := plus_b W6 _ _ q 1 (hQ3.out.below hbl) hbn (by rw [← hlq.out]; omega) (by rw [one_word_one]; simp)
      have hb06 : Hid (Below W.heap.size W W6) := Lib.hid (hb03.out.trans (hbl.mono hb03.out.size))
      clear hbm hbl hbn
      go_wp2_with fail
      rw [← hW6]
      refine hp6.mono ?_
      rintro e w7 ⟨r7, rfl, hB7, hb7⟩
      go_wp2_with fail
      go_ret
      exact ⟨_, rfl, by rw [hfin.out]; exact hB7, hb06.out.trans (hb7.mono hb06.out.size)⟩
  · have hzz : (z % 2 == 1) = odd := by
      rw [hodd]
      by_cases h : q % 2 = 1
      · rw [decide_eq_true h, hz.1 h]; rfl
      · rw [decide_eq_false h, beq_eq_false_iff_ne]; exact fun e => h (hz.2 e)
    cases odd
    · clear hodd hz
      go_wp2_with fail
      refine hpl.mono ?_
      rintro e w2 ⟨p2, rfl, hP2, hb2⟩
      clear hpl
      have hP2' : BN w2 p2 (2 * r) := by
        have h : BAt w2 p2 (wordsN (r + r)) := hP2
        rw [show r + r = 2 * r by omega] at h; exact h
      have hcm := cmp_b w2 p2 u (2 * r) m hP2' (hU1.out.below hb2) (by unfold Small; have := hUl.out; omega) (by unfold Small; omega)
      have hQ2 := Lib.hid (hQ1.out.below hb2)
      have hb02 : Hid (Below W.heap.size W w2) := Lib.hid (hb1.trans (hb2.mono hb1.size))
      clear hP2 hP2' hb2
      go_wp2_with fail
      refine hcm.mono ?_
      rintro e w3 ⟨⟨cmpv, rfl, hsg⟩, hb3⟩
      clear hcm
      obtain ⟨sg1, sg2, sg3, sg4⟩ := hsg
      have hev : Hid (evenB cmpv false = evenB (if m < 2 * r then 1 else if 2 * r = m then 0 else -1) false) := Lib.hid (by
        unfold evenB
        by_cases h1 : m < 2 * r
        · rw [if_pos h1, decide_eq_true (show 0 < cmpv by omega)]; rfl
        · rw [if_neg h1, decide_eq_false (show ¬ 0 < cmpv by omega)]
          by_cases h2 : 2 * r = m
          · rw [if_pos h2, decide_eq_true (show cmpv = 0 by omega)]; rfl
          · rw [if_neg h2, decide_eq_false (show ¬ cmpv = 0 by omega)]; rfl)
      obtain ⟨up, hup⟩ : ∃ up, up = evenB cmpv false := ⟨_, rfl⟩
      have hfin : Hid (cutN .even neg n m = q + up.toNat) := Lib.hid (by rw [hcut.out, hup, hev.out])
      have hb03 : Hid (Below W.heap.size W w3) := Lib.hid (hb02.out.trans (hb3.mono hb02.out.size))
      have hQ3 := Lib.hid (hQ2.out.below hb3)
      clear hcut hev sg1 sg2 sg3 sg4 hb3
      go_wp2_with fail
      refine (even_calls _ _ _ _ _).mono ?_
      rintro e w4 ⟨rfl, rfl⟩
      rw [← hup]
      clear hup
      cases up
      · go_wp2_with fail
        go_ret
        exact ⟨_, rfl, by rw [hfin.out]; exact hQ3.out, hb03.out⟩
      · have hbm := lit_BAt w3 1
        have hbl : Below w3.heap.size w3 (w3.alloc (.cells #[.int .u64 1] 142)) := (Below.refl _ _).alloc (Nat.le_refl _) _
        obtain ⟨W6, hW6⟩ : ∃ W6, W6 = w3.alloc (.cells #[.int .u64 1] 142) := ⟨_, rfl⟩
        rw [← hW6] at hbm hbl
        have hbn : BN W6 (.slice (some ⟨w3.heap.size, 0, none⟩) 1 1) 1 := by
          unfold BN
          rw [one_word_one]; exact hbm
        have hp6 := plus_b W6 _ _ q 1 (hQ3.out.below hbl) hbn (by rw [← hlq.out]; omega) (by rw [one_word_one]; simp)
        have hb06 : Hid (Below W.heap.size W W6) := Lib.hid (hb03.out.trans (hbl.mono hb03.out.size))
        clear hbm hbl hbn
        go_wp2_with fail
        rw [← hW6]
        refine hp6.mono ?_
        rintro e w7 ⟨r7, rfl, hB7, hb7⟩
        go_wp2_with fail
        go_ret
        exact ⟨_, rfl, by rw [hfin.out]; exact hB7, hb06.out.trans (hb7.mono hb06.out.size)⟩
    · clear hodd hz
      go_wp2_with fail
      refine hpl.mono ?_
      rintro e w2 ⟨p2, rfl, hP2, hb2⟩
      clear hpl
      have hP2' : BN w2 p2 (2 * r) := by
        have h : BAt w2 p2 (wordsN (r + r)) := hP2
        rw [show r + r = 2 * r by omega] at h; exact h
      have hcm := cmp_b w2 p2 u (2 * r) m hP2' (hU1.out.below hb2) (by unfold Small; have := hUl.out; omega) (by unfold Small; omega)
      have hQ2 := Lib.hid (hQ1.out.below hb2)
      have hb02 : Hid (Below W.heap.size W w2) := Lib.hid (hb1.trans (hb2.mono hb1.size))
      clear hP2 hP2' hb2
      go_wp2_with fail
      refine hcm.mono ?_
      rintro e w3 ⟨⟨cmpv, rfl, hsg⟩, hb3⟩
      clear hcm
      obtain ⟨sg1, sg2, sg3, sg4⟩ := hsg
      have hev : Hid (evenB cmpv true = evenB (if m < 2 * r then 1 else if 2 * r = m then 0 else -1) true) := Lib.hid (by
        unfold evenB
        by_cases h1 : m < 2 * r
        · rw [if_pos h1, decide_eq_true (show 0 < cmpv by omega)]; rfl
        · rw [if_neg h1, decide_eq_false (show ¬ 0 < cmpv by omega)]
          by_cases h2 : 2 * r = m
          · rw [if_pos h2, decide_eq_true (show cmpv = 0 by omega)]; rfl
          · rw [if_neg h2, decide_eq_false (show ¬ cmpv = 0 by omega)]; rfl)
      obtain ⟨up, hup⟩ : ∃ up, up = evenB cmpv true := ⟨_, rfl⟩
      have hfin : Hid (cutN .even neg n m = q + up.toNat) := Lib.hid (by rw [hcut.out, hup, hev.out])
      have hb03 : Hid (Below W.heap.size W w3) := Lib.hid (hb02.out.trans (hb3.mono hb02.out.size))
      have hQ3 := Lib.hid (hQ2.out.below hb3)
      clear hcut hev sg1 sg2 sg3 sg4 hb3
      go_wp2_with fail
      refine (even_calls _ _ _ _ _).mono ?_
      rintro e w4 ⟨rfl, rfl⟩
      rw [← hup]
      clear hup
      cases up
      · go_wp2_with fail
        go_ret
        exact ⟨_, rfl, by rw [hfin.out]; exact hQ3.out, hb03.out⟩
      · have hbm := lit_BAt w3 1
        have hbl : Below w3.heap.size w3 (w3.alloc (.cells #[.int .u64 1] 142)) := (Below.refl _ _).alloc (Nat.le_refl _) _
        obtain ⟨W6, hW6⟩ : ∃ W6, W6 = w3.alloc (.cells #[.int .u64 1] 142) := ⟨_, rfl⟩
        rw [← hW6] at hbm hbl
        have hbn : BN W6 (.slice (some ⟨w3.heap.size, 0, none⟩) 1 1) 1 := by
          unfold BN
          rw [one_word_one]; exact hbm
        have hp6 := plus_b W6 _ _ q 1 (hQ3.out.below hbl) hbn (by rw [← hlq.out]; omega) (by rw [one_word_one]; simp)
        have hb06 : Hid (Below W.heap.size W W6) := Lib.hid (hb03.out.trans (hbl.mono hb03.out.size))
        clear hbm hbl hbn
        go_wp2_with fail
        rw [← hW6]
        refine hp6.mono ?_
        rintro e w7 ⟨r7, rfl, hB7, hb7⟩
        go_wp2_with fail
        go_ret
        exact ⟨_, rfl, by rw [hfin.out]; exact hB7, hb06.out.trans (hb7.mono hb06.out.size)⟩
end Go.Proofs.YtgobpoeccdgeiaaGreatDoor

namespace Go.Proofs.YtgobpoeccdgeiaaGreatDoor
open Go.RowKit NumP Go.Proofs.YtgobpoeccdgeiaaGreatDoorW.PrintWords
set_option linter.unusedVariables false

/-- k digits of a number, the lowest first. -/
def lowD : Nat → Nat → List Int
  | 0, _ => []
  | k + 1, n => ((48 + n % 10 : Nat) : Int) :: lowD k (n / 10)
theorem lowD_len : ∀ k n, (lowD k n).length = k
  | 0, _ => rfl
  | k + 1, n => by simp [lowD, lowD_len k]
theorem lowD_app : ∀ (j k n : Nat), lowD (j + k) n = lowD j n ++ lowD k (n / 10 ^ j)
  | 0, k, n => by simp [lowD]
  | j + 1, k, n => by
    rw [show j + 1 + k = (j + k) + 1 by omega, lowD, lowD_app j k (n / 10), lowD]
    rw [Nat.div_div_eq_div_mul, Nat.pow_succ, Nat.mul_comm 10]
    rfl
theorem lowD_mod : ∀ (j n : Nat), lowD j (n % 10 ^ j) = lowD j n
  | 0, n => rfl
  | j + 1, n => by
    have h1 : n % 10 ^ (j + 1) % 10 = n % 10 := by
      rw [Nat.pow_succ, Nat.mul_comm]; exact Nat.mod_mul_right_mod n 10 _
    have h2 : n % 10 ^ (j + 1) / 10 = n / 10 % 10 ^ j := by
      rw [Nat.pow_succ, Nat.mul_comm]; exact Nat.mod_mul_right_div_self n 10 _
    rw [lowD, lowD, h1, h2, lowD_mod j]
theorem lowD_words : ∀ {ws : List Int} {n : Nat}, Wd ws → vB ws = n → lowD (9 * ws.length) n = (ws.map fun w => lowD 9 w.toNat).flatten
  | [], n, _, _ => rfl
  | w :: ws, n, h, hv => by
    have h1 := h.head
    have h2 := vB_nonneg h.tail
    have ih := lowD_words (n := n / 1000000000) h.tail (by simp only [vB] at hv; omega)
    have e : n % 10 ^ 9 = w.toNat := by
      simp only [vB] at hv
      rw [show (10 : Nat) ^ 9 = 1000000000 by decide]; omega
    rw [List.length_cons, show 9 * (ws.length + 1) = 9 + 9 * ws.length by omega, lowD_app, ← lowD_mod, e, show (10 : Nat) ^ 9 = 1000000000 by decide, ih]
    rfl
theorem lowD_snoc (k n : Nat) : lowD (k + 1) n = lowD k n ++ [((48 + n / 10 ^ k % 10 : Nat) : Int)] := by
  rw [lowD_app k 1]; rfl
theorem fixD_low : ∀ k n, fixD k n = ((lowD k n).map fun x => UInt8.ofNat x.toNat).reverse
  | 0, _ => rfl
  | k + 1, n => by
    rw [fixD, fixD_low k, lowD, List.map_cons, List.reverse_cons]
    congr 1
theorem lenF_le : ∀ (f n K : Nat), n < 2 ^ f → (lenF f n ≤ K ↔ n < 10 ^ K)
  | 0, n, K, h => by
    have : n = 0 := by simpa using h
    subst this
    simp [lenF]
    exact Nat.pow_pos (by decide)
  | f + 1, n, K, h => by
    rw [lenF]
    by_cases h0 : n = 0
    · subst h0
      simp
      exact Nat.pow_pos (by decide)
    · rw [if_neg h0]
      cases K with
      | zero => simp; omega
      | succ K =>
        have ih := lenF_le f (n / 10) K (by rw [Nat.pow_succ] at h; omega)
        rw [Nat.pow_succ, ← Nat.div_lt_iff_lt_mul (by decide), ← ih]
        omega
theorem lenD_le (n K : Nat) : lenD n ≤ K ↔ n < 10 ^ K := lenF_le _ n K Nat.lt_log2_self
/-- The same as bytes. -/
def lowB (k n : Nat) : List UInt8 := (lowD k n).map fun x => UInt8.ofNat x.toNat
theorem lowB_len (k n : Nat) : (lowB k n).length = k := by unfold lowB; rw [List.length_map, lowD_len]
theorem lowB_rev (k n : Nat) : (lowB k n).reverse = fixD k n := (fixD_low k n).symm
theorem lowB_snoc (k n : Nat) : lowB (k + 1) n = lowB k n ++ [UInt8.ofNat (48 + n / 10 ^ k % 10)] := by
  unfold lowB
  rw [lowD_snoc, List.map_append]
  rfl
/-- The bytes of the first words. -/
def preB (ws : List Int) (i : Nat) : List UInt8 := ((ws.take i).map fun w => lowB 9 w.toNat).flatten
theorem preB_succ {ws : List Int} {i : Nat} (h : i < ws.length) : preB ws (i + 1) = preB ws i ++ lowB 9 (ws[i]).toNat := by
  unfold preB
  rw [take_snoc ws i h, List.map_append, List.flatten_append]
  simp
theorem preB_all {ws : List Int} {n : Nat} (h : Wd ws) (hv : vB ws = n) : preB ws ws.length = lowB (9 * ws.length) n := by
  unfold preB lowB
  rw [List.take_length, lowD_words h hv, List.map_flatten, List.map_map]
  rfl
def digB (least n : Nat) : ByteArray := ⟨(fixD (max least (lenD n)) n).toArray⟩
theorem digB_data (least n : Nat) : (digB least n).data.toList = fixD (max least (lenD n)) n := rfl
theorem own_take {w : World} {B n k c : Nat} {e : TypeId} {A : Option Addr} {xs : List Value} (h : w.ownsRow B e 1 (.slice A n c) n xs) (hk : k ≤ n) : w.ownsRow B e 1 (.slice A k c) k (xs.take k) := by
  have hl := h.1
  refine ⟨by rw [List.length_take]; omega, ?_⟩
  rcases h.2 with ⟨e1, e2⟩ | ⟨g, cap, cur, e1, h1, h2, h3, h4, h5, h6⟩
  · injection e1 with a1 a2 a3
    subst a1 a3
    have : k = 0 := by omega
    subst this
    exact .inl ⟨rfl, rfl⟩
  · injection e1 with a1 a2 a3
    subst a1 a3
    exact .inr ⟨g, c, cur, rfl, h1, h2, by omega, h4, h5, by rw [← h6, List.take_take]; congr 1; omega⟩
theorem heap_lt2 {W : World} {j : Nat} {o : Obj} (h : W.heap[j]? = some o) : j < W.heap.size := (Array.getElem?_eq_some_iff.1 h).1
theorem own_drew {w : World} {B n : Nat} {e : TypeId} {v : Value} {xs : List Value} (h : w.ownsRow B e 1 v n xs) : w.drew.ownsRow B e 1 v n xs := h
theorem own_cell {w : World} {B n c : Nat} {A : Option Addr} {l : List UInt8} (h : w.ownsRow B 5 1 (.slice A n c) n (byts l)) (k : Nat) (hk : k < n) : l.length = n ∧ n ≤ c ∧ ∃ g, A = some ⟨g, 0, none⟩ ∧ B ≤ g ∧ g < w.heap.size ∧ w.cell? ⟨g, k, none⟩ = some (.int .u8 ((l.getD k 0).toNat : Int)) ∧ w.frozen? ⟨g, k, none⟩ = false := by
  have hl := h.1
  rw [byts_len, Nat.mul_one] at hl
  rcases h.2 with ⟨e1, e2⟩ | ⟨g, cap, cur, e1, h1, h2, h3, h4, h5, h6⟩
  · omega
  · injection e1 with a1 a2 a3
    subst a1 a3
    refine ⟨hl, h3, g, rfl, h1, heap_lt2 h2, ?_, h.frozenAt k⟩
    rw [h.cellAt k (by omega)]
    unfold byts
    rw [List.getElem?_map, List.getElem?_eq_getElem (by omega), List.getD_eq_getElem?_getD, List.getElem?_eq_getElem (by omega)]
    rfl
/-- What Reverse has turned behind i rounds. -/
structure RevAt (o l : List UInt8) (i : Nat) : Prop where
  len : l.length = o.length
  at_ : ∀ p, p < o.length → l[p]? = if p < i ∨ o.length - 1 - p < i then o[o.length - 1 - p]? else o[p]?
theorem RevAt.zero (o : List UInt8) : RevAt o o 0 := ⟨rfl, fun p hp => by rw [if_neg (by omega)]⟩
theorem RevAt.step {o l : List UInt8} {i j : Nat} (h : RevAt o l i) (hij : i < j) (hj : j + i + 1 = o.length) : RevAt o ((l.set i (l.getD j 0)).set j (l.getD i 0)) (i + 1) := by
  have hl := h.len
  refine ⟨by simpa using hl, fun p hp => ?_⟩
  have hp1 := h.at_ p hp
  have hi1 := h.at_ i (by omega)
  have hj1 := h.at_ j (by omega)
  rw [if_neg (by omega)] at hi1 hj1
  have gi : l.getD i 0 = l[i]'(by omega) := by rw [List.getD_eq_getElem?_getD, List.getElem?_eq_getElem (by omega)]; rfl
  have gj : l.getD j 0 = l[j]'(by omega) := by rw [List.getD_eq_getElem?_getD, List.getElem?_eq_getElem (by omega)]; rfl
  rw [List.getElem?_eq_getElem (by omega)] at hi1 hj1
  by_cases e1 : p = j
  · subst e1
    rw [List.getElem?_set_self (by rw [List.length_set]; omega), if_pos (by omega), gi, hi1]
    congr 1; omega
  · rw [List.getElem?_set_ne (fun q => e1 q.symm)]
    by_cases e3 : p = i
    · subst e3
      rw [List.getElem?_set_self (by omega), if_pos (by omega), gj, hj1]
      congr 1; omega
    · rw [List.getElem?_set_ne (fun q => e3 q.symm), hp1]
      by_cases e4 : p < i ∨ o.length - 1 - p < i
      · rw [if_pos e4, if_pos (by omega)]
      · rw [if_neg e4, if_neg (by omega)]
theorem RevAt.done {o l : List UInt8} {i : Nat} (h : RevAt o l i) (hi : o.length ≤ 2 * i + 1) : l = o.reverse := by
  apply List.ext_getElem?
  intro p
  rcases Nat.lt_or_ge p o.length with hp | hp
  · rw [h.at_ p hp, List.getElem?_reverse hp]
    by_cases e4 : p < i ∨ o.length - 1 - p < i
    · rw [if_pos e4]
    · rw [if_neg e4]
      congr 1; omega
  · rw [List.getElem?_eq_none (by have := h.len; omega), List.getElem?_eq_none (by simpa using hp)]
theorem byts_set (l : List UInt8) (k : Nat) (c : UInt8) : byts (l.set k c) = (byts l).set k (.int .u8 (c.toNat : Int)) := by unfold byts; rw [List.map_set]
set_option maxHeartbeats 2000000 in
set_option maxRecDepth 100000 in
theorem rev_b (B n c : Nat) (A : Option Addr) (o : List UInt8) (w : World) (h : w.ownsRow B 5 1 (.slice A n c) n (byts o)) (hn : n ≤ 1000000000) : Calls Tryz.prog 154 #[.slice A n c] w fun e w' => e = .returned (.tuple #[]) ∧ w'.ownsRow B 5 1 (.slice A n c) n (byts o.reverse) ∧ Below B w w' := by
  have hl := h.1
  rw [byts_len, Nat.mul_one] at hl
  have hH := Lib.hid h
  replace hl := Lib.hid hl
  clear h
  go_enter Tryz.func154, Tryz.ntmps154
  go_wp2_with fail
  go_loopw [2, 3] (fun iv jv wr => ∃ (i : Nat) (l : List UInt8), iv = .int .i64 (i : Int) ∧ jv = .int .i64 ((n : Int) - 1 - (i : Int)) ∧ 2 * i ≤ n + 1 ∧ Hid (RevAt o l i ∧ wr.ownsRow B 5 1 (.slice A n c) n (byts l) ∧ Below B w wr)) (fun iv _ _ => n - (intOf iv).toNat)
  case atStart => exact ⟨0, o, rfl, by simp, by omega, Lib.hid ⟨RevAt.zero o, hH.out, Below.refl _ _⟩⟩
  case round =>
    obtain ⟨i, l, rfl, rfl, hi2, hr⟩ := hrel
    by_cases hlt : 2 * i + 1 < n
    · obtain ⟨j, hj⟩ : ∃ j, j = n - 1 - i := ⟨_, rfl⟩
      have gj : (n : Int) - 1 - (i : Int) = (j : Int) := by omega
      rw [gj]
      have gij : (i : Int) < (j : Int) := by omega
      have gjn : (j : Int) < (n : Int) := by omega
      have gin : (i : Int) < (n : Int) := by omega
      have gij2 : i < j := by omega
      have gjn2 : j < n := by omega
      have gin2 : i < n := by omega
      have gne : ¬ i = j := by omega
      have gne2 : ¬ j = i := by omega
      obtain ⟨h1, h2, g, rfl, h3, h4, ci, fi⟩ := own_cell hr.out.2.1 i gin2
      obtain ⟨-, -, g', e, -, -, cj, fj⟩ := own_cell hr.out.2.1 j gjn2
      injection e with e
      injection e with e
      subst e
      obtain ⟨x, hx⟩ : ∃ x, x = l.getD i 0 := ⟨_, rfl⟩
      obtain ⟨y, hy⟩ : ∃ y, y = l.getD j 0 := ⟨_, rfl⟩
      rw [← hx] at ci
      rw [← hy] at cj
      have hnew : Hid (RevAt o ((l.set i y).set j x) (i + 1) ∧ (((wr.setCell ⟨g, i, none⟩ (.int .u8 (y.toNat : Int))).setCell ⟨g, j, none⟩ (.int .u8 (x.toNat : Int))).drew).ownsRow B 5 1 (.slice (some ⟨g, 0, none⟩) n c) n (byts ((l.set i y).set j x)) ∧ Below B w ((wr.setCell ⟨g, i, none⟩ (.int .u8 (y.toNat : Int))).setCell ⟨g, j, none⟩ (.int .u8 (x.toNat : Int))).drew) := Lib.hid (by
        refine ⟨by rw [hx, hy]; exact hr.out.1.step gij2 (by have := hl.out; omega), ?_, (((hr.out.2.2.setCell (p := ⟨g, i, none⟩) h3 _).setCell (p := ⟨g, j, none⟩) h3 _)).drew⟩
        rw [byts_set, byts_set]
        exact own_drew ((hr.out.2.1.stored i (.int .u8 (y.toNat : Int))).1.stored j (.int .u8 (x.toNat : Int))).1)
      have hnew2 : Hid (RevAt o ((l.set i y).set j x) (i + 1) ∧ (((wr.setCell ⟨g, j, none⟩ (.int .u8 (x.toNat : Int))).setCell ⟨g, i, none⟩ (.int .u8 (y.toNat : Int))).drew).ownsRow B 5 1 (.slice (some ⟨g, 0, none⟩) n c) n (byts ((l.set i y).set j x)) ∧ Below B w ((wr.setCell ⟨g, j, none⟩ (.int .u8 (x.toNat : Int))).setCell ⟨g, i, none⟩ (.int .u8 (y.toNat : Int))).drew) := Lib.hid (by
        refine ⟨by rw [hx, hy]; exact hr.out.1.step gij2 (by have := hl.out; omega), ?_, (((hr.out.2.2.setCell (p := ⟨g, j, none⟩) h3 _).setCell (p := ⟨g, i, none⟩) h3 _)).drew⟩
        rw [List.set_comm _ _ gne, byts_set, byts_set]
        exact own_drew ((hr.out.2.1.stored j (.int .u8 (x.toNat : Int))).1.stored i (.int .u8 (y.toNat : Int))).1)
      obtain ⟨xi, hxi⟩ : ∃ xi, xi = x.toNat := ⟨_, rfl⟩
      obtain ⟨yi, hyi⟩ : ∃ yi, yi = y.toNat := ⟨_, rfl⟩
      rw [← hxi] at ci hnew hnew2
      rw [← hyi] at cj hnew hnew2
      replace hx := Lib.hid hx
      replace hy := Lib.hid hy
      replace hxi := Lib.hid hxi
      replace hyi := Lib.hid hyi
      replace hj := Lib.hid hj
      replace h1 := Lib.hid h1
      clear hH
      go_wp2_with fail
      go_region
      all_goals
        go_wp2_with fail
        go_roundw
        case rel => exact ⟨i + 1, _, by go_num, by first | rfl | (congr 1; omega), by omega, by first | exact hnew | exact hnew2⟩
        case measure => simp [intOf]; omega
    · have g1 : ¬ ((i : Int) < (n : Int) - 1 - (i : Int)) := by omega
      have hd := Lib.hid (hr.out.1.done (by have := hl.out; omega))
      have ho : Hid (wr.ownsRow B 5 1 (.slice A n c) n (byts o.reverse)) := Lib.hid (by rw [← hd.out]; exact hr.out.2.1)
      have hB : Hid (Below B w wr) := Lib.hid hr.out.2.2
      clear hr hH hd
      go_wp2_with fail
      go_end0
      exact ⟨rfl, ho.out, hB.out⟩
/-- What is known of the bytes under way. -/
structure DigRel (W wr : World) (v : Value) (n : Nat) (l : List UInt8) : Prop where
  own : wr.ownsRow W.heap.size 5 1 v n (byts l)
  below : Below W.heap.size W wr
theorem own_open {w : World} {B n : Nat} {e : TypeId} {v : Value} {xs : List Value} (h : w.ownsRow B e 1 v n xs) : ∃ (A : Option Addr) (c : Nat), v = .slice A n c := by
  rcases h.2 with ⟨rfl, hn⟩ | ⟨g, cap, cur, hv, _⟩
  · exact ⟨none, 0, by rw [hn]⟩
  · exact ⟨_, cap, hv⟩
theorem byte_d (d : Nat) (h : d < 10) : (48 : Int) + (d : Int) = ((UInt8.ofNat (48 + d)).toNat : Int) := by
  have : (UInt8.ofNat (48 + d)).toNat = (48 + d) % 256 := UInt8.toNat_ofNat'
  omega
set_option maxHeartbeats 4000000 in
set_option maxRecDepth 100000 in
/-- The digits of a number, as a contract. -/
theorem digits_b (w : World) (v : Value) (n least : Nat) (hv : BN w v n) (hl : least < 1000000) (hn : (wordsN n).length < 1000000) :
    Calls Tryz.prog 120 #[v, .int .i64 (least : Int)] w fun e w' => e = .returned (.string (digB least n)) ∧ Below w.heap.size w w' := by
  obtain ⟨jj0, hjj, hy0, hy1, hy2⟩ := info_parts info_byte
  obtain ⟨A, c, rfl⟩ := BAt.form hv
  have ia := wordsN_is n
  obtain ⟨ws, hws⟩ : ∃ ws, ws = wordsN n := ⟨_, rfl⟩
  unfold BN at hv
  rw [← hws] at hv ia hn ⊢
  clear hws
  obtain ⟨p, hp⟩ : ∃ p, p = ws.length := ⟨_, rfl⟩
  rw [← hp] at hv hn ⊢
  have h10 : Hid (n < 10 ^ (9 * p)) := Lib.hid (by
    have := ia.lt
    rw [Nat.pow_mul, hp]; exact this)
  have hall : Hid (preB ws p = lowB (9 * p) n) := Lib.hid (by rw [hp]; exact preB_all ia.wd ia.v)
  replace hp := Lib.hid hp
  replace hv := Lib.hid hv
  replace ia := Lib.hid ia
  go_enter Tryz.func120, Tryz.ntmps120
  go_wp2_with fail
  go_loopw [5, 10] (fun bv iv wr => ∃ (i : Nat) (L : Option Addr) (cc : Nat), iv = .int .i64 (i : Int) ∧ i ≤ p ∧ bv = .slice L (9 * i) cc ∧ Hid (DigRel w wr (.slice L (9 * i) cc) (9 * i) (preB ws i))) (fun _ iv _ => p - (intOf iv).toNat)
  case atStart => exact ⟨0, none, 0, rfl, Nat.zero_le _, rfl, Lib.hid ⟨World.ownsRow_nil _ _ _ _, Below.refl _ _⟩⟩
  case round =>
    obtain ⟨i, L, cc, rfl, hi, rfl, hr⟩ := hrel
    by_cases hlt : i < p
    · obtain ⟨wo, rfl⟩ : ∃ wo : World, wo = wr := ⟨_, rfl⟩
      have gi : (i : Int) < (p : Int) := by omega
      have hia : i < ws.length := by have := hp.out; omega
      obtain ⟨ad, rfl, hca⟩ := hv.out.cellAt i hia
      have cx : wo.cell? (ad.add i) = some (.int .u64 ws[i]) := by rw [hr.out.below.cell (World.block_lt_of_cell? w _ hca), hca]
      have wx := ia.out.wd _ (List.getElem_mem hia)
      have hnext := preB_succ hia
      obtain ⟨X, hX⟩ : ∃ X, X = ws[i] := ⟨_, rfl⟩
      obtain ⟨x, hx⟩ : ∃ x : Nat, x = X.toNat := ⟨_, rfl⟩
      rw [← hX] at cx wx hnext
      rw [← hx] at hnext
      obtain ⟨x0, x1⟩ := wx
      have x2 : X ≤ 999999999 := by omega
      have hxX : Hid (X = ((x / 10 ^ 0 : Nat) : Int)) := Lib.hid (by rw [hx, Nat.pow_zero, Nat.div_one]; omega)
      replace hx := Lib.hid hx
      replace hX := Lib.hid hX
      replace hca := Lib.hid hca
      replace hnext := Lib.hid hnext
      have hst : Hid (DigRel w wo (.slice L (9 * i + 0) cc) (9 * i + 0) (preB ws i ++ lowB 0 x)) := Lib.hid (by rw [show lowB 0 x = [] from rfl, List.append_nil]; exact hr.out)
      go_wp2_with fail
      go_loopw [5, 7, 14] (fun bv wv jv wr => ∃ (j : Nat) (L' : Option Addr) (c' : Nat) (y : Int), jv = .int .i64 (j : Int) ∧ j ≤ 9 ∧ bv = .slice L' (9 * i + j) c' ∧ wv = .int .u64 y ∧ 0 ≤ y ∧ y ≤ 999999999 ∧ Hid (y = ((x / 10 ^ j : Nat) : Int)) ∧ Hid (DigRel w wr (.slice L' (9 * i + j) c') (9 * i + j) (preB ws i ++ lowB j x))) (fun _ _ jv _ => 9 - (intOf jv).toNat)
      case atStart => exact ⟨0, L, cc, X, rfl, by omega, rfl, rfl, x0, x2, hxX, hst⟩
      case round =>
        obtain ⟨j, L', c', y, rfl, hj, rfl, rfl, hy0', hy1', hy, hr2⟩ := hrel
        by_cases hj9 : j < 9
        · have gj : (j : Int) < 9 := by omega
          obtain ⟨d, hd⟩ : ∃ d : Nat, d = (y % 10).toNat := ⟨_, rfl⟩
          obtain ⟨z, hz⟩ : ∃ z, z = y / 10 := ⟨_, rfl⟩
          have gd : y % 10 = (d : Int) := by omega
          have hd10 : d < 10 := by omega
          have hz0 : 0 ≤ z := by omega
          have hz1 : z ≤ 999999999 := by omega
          have gb : ((48 : Int) + (d : Int)) % 256 = 48 + (d : Int) := by omega
          have hby := byte_d d hd10
          have hnew := byte_news (w := wr) (c := UInt8.ofNat (48 + d)) hby
          have hzz : Hid (z = ((x / 10 ^ (j + 1) : Nat) : Int)) := Lib.hid (by rw [hz, hy.out, Nat.pow_succ, ← Nat.div_div_eq_div_mul]; omega)
          have hln : Hid (preB ws i ++ lowB j x ++ [UInt8.ofNat (48 + d)] = preB ws i ++ lowB (j + 1) x) := Lib.hid (by
            have e : d = x / 10 ^ j % 10 := by rw [hd, hy.out]; omega
            rw [lowB_snoc, List.append_assoc, ← e])
          have hrow := hr2.out.own
          have hBw := hr2.out.below
          have hbs : w.heap.size ≤ (wr.alloc (.cells #[.int .u8 (48 + (d : Int))] 5)).heap.size := by have := hBw.size; simp; omega
          have hm9 : 9 * i + j + 1 ≤ maxLen := by unfold maxLen; omega
          have hm8 : (9 * i + j + 1) * 1 ≤ 140737488355328 := by omega
          replace hm9 := Lib.hid hm9
          replace hm8 := Lib.hid hm8
          replace hrow := Lib.hid hrow
          replace hBw := Lib.hid hBw
          replace hd := Lib.hid hd
          replace hz := Lib.hid hz
          replace hby := Lib.hid hby
          replace hnew := Lib.hid hnew
          clear hst hr hr2
          go_wp2_with (at_builtin; refine wpList_append_own _ rfl _ _ 116 rfl w.heap.size 5 jj0 (.int .u8 0) 1 1 Tryz.underlying116 hjj hy0 hy1 hy2 rfl (by decide) _ _ _ rfl (hrow.out.alloc _) ⟨wr.heap.size, 0, none⟩ 1 1 (byts [UInt8.ofNat (48 + d)]) rfl rfl hnew.out (byts_one [UInt8.ofNat (48 + d)]) hm9.out hm8.out hbs ?_; intro v2 w5 hv2 hgrow2 hnil2; rw [← byts_app, hln.out] at hv2; have hbw2 := Lib.hid (Below.grown (hBw.out.alloc hBw.out.size _) hgrow2 hbs (fun j hj => (hrow.out.lt _ hj).1)); obtain ⟨A8, c8, rfl⟩ := own_open hv2; replace hv2 := Lib.hid hv2; clear hgrow2 hnil2)
          go_roundw
          case rel => exact ⟨j + 1, A8, c8, z, by go_num, by omega, rfl, by rw [hz.out], hz0, hz1, hzz, Lib.hid ⟨hv2.out, hbw2.out⟩⟩
          case measure => simp [intOf]; omega
        · obtain rfl : j = 9 := by omega
          have e9 : 9 * i + 9 = 9 * (i + 1) := by omega
          rw [e9] at hr2 ⊢
          have hr3 : Hid (DigRel w wr (.slice L' (9 * (i + 1)) c') (9 * (i + 1)) (preB ws (i + 1))) := Lib.hid (by rw [hnext.out]; exact hr2.out)
          clear hst hr hr2 e9
          go_wp2_with fail
          go_roundw
          case rel => exact ⟨i + 1, L', c', by go_num, by omega, rfl, hr3⟩
          case measure => simp [intOf]; omega
    · obtain rfl : i = p := by omega
      obtain ⟨wo, rfl⟩ : ∃ wo : World, wo = wr := ⟨_, rfl⟩
      have hst : Hid (DigRel w wo (.slice L (9 * i) cc) (9 * i) (lowB (9 * i) n)) := Lib.hid (by rw [← hall.out]; exact hr.out)
      clear hr
      go_wp2_with fail
      go_loopw [5] (fun bv wr => ∃ (K : Nat) (L' : Option Addr) (c' : Nat), bv = .slice L' K c' ∧ K ≤ 9 * i ∧ Hid (n < 10 ^ K) ∧ Hid (DigRel w wr (.slice L' K c') K (lowB K n))) (fun bv _ => lenS bv)
      case atStart => exact ⟨9 * i, L, cc, rfl, Nat.le_refl _, h10, hst⟩
      case round =>
        obtain ⟨K, L', c', rfl, hK, hnK, hr2⟩ := hrel
        have hK9 : Hid (K ≤ 9000000) := Lib.hid (by omega)
        by_cases hc : least < K
        · obtain ⟨k, rfl⟩ : ∃ k, K = k + 1 := ⟨K - 1, by omega⟩
          obtain ⟨hbl, hKc, g, rfl, hg1, hg2, ck, -⟩ := own_cell hr2.out.own k (Nat.lt_succ_self k)
          obtain ⟨d, hd⟩ : ∃ d, d = n / 10 ^ k % 10 := ⟨_, rfl⟩
          have hd10 : d < 10 := by omega
          have hgd : (lowB (k + 1) n).getD k 0 = UInt8.ofNat (48 + d) := by
            rw [lowB_snoc, List.getD_eq_getElem?_getD, List.getElem?_append_right (by rw [lowB_len]; exact Nat.le_refl _), lowB_len, Nat.sub_self, hd]
            rfl
          rw [hgd, ← byte_d d hd10] at ck
          have g1 : (((k + 1 : Nat) : Int) > (least : Int)) := by omega
          have g2 : ((k + 1 : Nat) : Int) - 1 = (k : Int) := by omega
          have g3 : (k : Int) < ((k + 1 : Nat) : Int) := by omega
          have g4 : k < k + 1 := by omega
          have g5 : k ≤ c' := by omega
          have g6 : (k : Int) ≤ (c' : Int) := by omega
          have hdig : n / 10 ^ k % 10 = n / 10 ^ k := Nat.mod_eq_of_lt (by
            have := hnK.out
            rw [Nat.pow_succ] at this
            exact (Nat.div_lt_iff_lt_mul (Nat.pow_pos (by decide))).2 (by rw [Nat.mul_comm]; exact this))
          by_cases hd0 : d = 0
          · have gd : ((48 : Int) + (d : Int) == 48) = true := by rw [hd0]; rfl
            have hn2 : Hid (n < 10 ^ k) := Lib.hid (by
              have h1 : n / 10 ^ k = 0 := by rw [← hdig, ← hd, hd0]
              rcases Nat.div_eq_zero_iff.1 h1 with h2 | h2
              · exact absurd h2 (Nat.ne_of_gt (Nat.pow_pos (by decide)))
              · exact h2)
            have hr4 : Hid (DigRel w wr (.slice (some ⟨g, 0, none⟩) k c') k (lowB k n)) := Lib.hid ⟨by
              have h1 := own_take hr2.out.own (Nat.le_succ k)
              rw [lowB_snoc, byts_app, List.take_append_of_le_length (by rw [byts_len, lowB_len]; exact Nat.le_refl _), List.take_of_length_le (by rw [byts_len, lowB_len]; exact Nat.le_refl _)] at h1
              exact h1, hr2.out.below⟩
            replace hd := Lib.hid hd
            replace hd0 := Lib.hid hd0
            replace hgd := Lib.hid hgd
            replace hdig := Lib.hid hdig
            replace hbl := Lib.hid hbl
            clear hst hr2
            go_wp2_with fail
            go_roundw
            case rel => exact ⟨k, _, c', rfl, by omega, hn2, hr4⟩
            case measure => exact Nat.lt_succ_self k
          · have gd : ((48 : Int) + (d : Int) == 48) = false := by simp; omega
            have hfin : Hid (k + 1 ≤ least ∨ lenD n = k + 1) := Lib.hid (Or.inr (by
              have h1 := (lenD_le n (k + 1)).2 hnK.out
              have h2 : ¬ n < 10 ^ k := fun h => by
                rw [Nat.div_eq_of_lt h] at hd
                omega
              have h3 : ¬ lenD n ≤ k := fun q => h2 ((lenD_le n k).1 q)
              omega))
            obtain ⟨L', hL'⟩ : ∃ L' : Option Addr, L' = some ⟨g, 0, none⟩ := ⟨_, rfl⟩
            replace hd := Lib.hid hd
            replace hd0 := Lib.hid hd0
            replace hgd := Lib.hid hgd
            replace hdig := Lib.hid hdig
            replace hbl := Lib.hid hbl
            clear hL' L'
            obtain ⟨wo2, rfl⟩ : ∃ wo2 : World, wo2 = wr := ⟨_, rfl⟩
            clear hst
            go_wp2_with fail
            go_loopw [5] (fun bv wr => ∃ (M : Nat) (L3 : Option Addr) (c3 : Nat), bv = .slice L3 M c3 ∧ k + 1 ≤ M ∧ (M ≤ k + 1 ∨ M ≤ least) ∧ Hid (DigRel w wr (.slice L3 M c3) M (lowB M n))) (fun bv _ => least - lenS bv)
            case atStart => exact ⟨k + 1, _, c', rfl, Nat.le_refl _, Or.inl (Nat.le_refl _), hr2⟩
            case round =>
              obtain ⟨M, L3, c3, rfl, hM1, hM2, hr3⟩ := hrel
              have hM9 : Hid (M ≤ 10000000) := Lib.hid (by have := hK9.out; omega)
              by_cases hml : M < least
              · exact absurd hml (by omega)
              · have hmax : Hid (max least (lenD n) = M) := Lib.hid (by
                  have h1 := (lenD_le n (k + 1)).2 hnK.out
                  rcases hfin.out with h | h <;> omega)
                have hrv := rev_b w.heap.size M c3 L3 (lowB M n) wr hr3.out.own (by have := hM9.out; omega)
                have hB := Lib.hid hr3.out.below
                clear hr3 hM2
                go_wp2_with fail
                refine hrv.mono ?_
                rintro e w6 ⟨rfl, ho6, hb6⟩
                rw [lowB_rev] at ho6
                have hcv := str_own ho6
                clear ho6 hrv
                go_wp2_with fail
                go_ret
                exact ⟨by unfold digB; rw [hmax.out]; rfl, hB.out.trans hb6⟩
        · have g1 : ¬ ((K : Int) > (least : Int)) := by omega
          have hfin : Hid (K ≤ least ∨ lenD n = K) := Lib.hid (Or.inl (by omega))
          obtain ⟨wo2, rfl⟩ : ∃ wo2 : World, wo2 = wr := ⟨_, rfl⟩
          clear hst
          go_wp2_with fail
          go_loopw [5] (fun bv wr => ∃ (M : Nat) (L3 : Option Addr) (c3 : Nat), bv = .slice L3 M c3 ∧ K ≤ M ∧ (M ≤ K ∨ M ≤ least) ∧ Hid (DigRel w wr (.slice L3 M c3) M (lowB M n))) (fun bv _ => least - lenS bv)
          case atStart => exact ⟨K, L', c', rfl, Nat.le_refl _, Or.inl (Nat.le_refl _), hr2⟩
          case round =>
            obtain ⟨M, L3, c3, rfl, hM1, hM2, hr3⟩ := hrel
            have hM9 : Hid (M ≤ 10000000) := Lib.hid (by have := hK9.out; omega)
            by_cases hml : M < least
            · have hnew := byte_news (w := wr) (c := 48) (x := 48) rfl
              have hln : Hid (lowB M n ++ [48] = lowB (M + 1) n) := Lib.hid (by
                rw [lowB_snoc, Nat.div_eq_of_lt (Nat.lt_of_lt_of_le hnK.out (Nat.pow_le_pow_right (by decide) hM1))]
                rfl)
              have hrow := hr3.out.own
              have hBw := hr3.out.below
              have hbs : w.heap.size ≤ (wr.alloc (.cells #[.int .u8 48] 5)).heap.size := by have := hBw.size; simp; omega
              have hm9 : Hid (M + 1 ≤ maxLen) := Lib.hid (by have := hM9.out; unfold maxLen; omega)
              have hm8 : Hid ((M + 1) * 1 ≤ 140737488355328) := Lib.hid (by have := hM9.out; omega)
              replace hrow := Lib.hid hrow
              replace hBw := Lib.hid hBw
              replace hnew := Lib.hid hnew
              clear hr3 hM2
              go_wp2_with (at_builtin; refine wpList_append_own _ rfl _ _ 116 rfl w.heap.size 5 jj0 (.int .u8 0) 1 1 Tryz.underlying116 hjj hy0 hy1 hy2 rfl (by decide) _ _ _ rfl (hrow.out.alloc _) ⟨wr.heap.size, 0, none⟩ 1 1 (byts [48]) rfl rfl hnew.out (byts_one [48]) hm9.out hm8.out hbs ?_; intro v2 w5 hv2 hgrow2 hnil2; rw [← byts_app, hln.out] at hv2; have hbw2 := Lib.hid (Below.grown (hBw.out.alloc hBw.out.size _) hgrow2 hbs (fun j hj => (hrow.out.lt _ hj).1)); obtain ⟨A8, c8, rfl⟩ := own_open hv2; replace hv2 := Lib.hid hv2; clear hgrow2 hnil2)
              go_roundw
              case rel => exact ⟨M + 1, A8, c8, rfl, by omega, Or.inr (by omega), Lib.hid ⟨hv2.out, hbw2.out⟩⟩
              case measure => simp [lenS]; omega
            · have hmax : Hid (max least (lenD n) = M) := Lib.hid (by
                have h1 := (lenD_le n K).2 hnK.out
                rcases hfin.out with h | h <;> omega)
              have hrv := rev_b w.heap.size M c3 L3 (lowB M n) wr hr3.out.own (by have := hM9.out; omega)
              have hB := Lib.hid hr3.out.below
              clear hr3 hM2
              go_wp2_with fail
              refine hrv.mono ?_
              rintro e w6 ⟨rfl, ho6, hb6⟩
              rw [lowB_rev] at ho6
              have hcv := str_own ho6
              clear ho6 hrv
              go_wp2_with fail
              go_ret
              exact ⟨by unfold digB; rw [hmax.out]; rfl, hB.out.trans hb6⟩
end Go.Proofs.YtgobpoeccdgeiaaGreatDoor

namespace Go.Proofs.YtgobpoeccdgeiaaGreatDoor
open Go.RowKit NumP Go.Proofs.YtgobpoeccdgeiaaGreatDoorW.PrintWords
set_option linter.unusedVariables false

theorem repeat_zero : ∀ n : Nat, Lib.repeatL [48] n = List.replicate n 48
  | 0 => rfl
  | n + 1 => by
    rw [List.replicate_succ, ← repeat_zero n]
    rfl
theorem valD_zeros : ∀ n : Nat, valD (49 :: List.replicate n 48) = 10 ^ n
  | 0 => by decide
  | n + 1 => by
    have h1 : (49 : UInt8) :: List.replicate (n + 1) 48 = (49 :: List.replicate n 48) ++ [48] := by
      rw [List.replicate_succ', List.cons_append]
    rw [h1, valD_snoc, valD_zeros n, Nat.pow_succ]
    show 10 * 10 ^ n + (48 - 48) = _
    omega
def tenB (n : Nat) : ByteArray := ⟨(49 :: List.replicate n 48).toArray⟩
set_option maxRecDepth 100000 in
theorem pow10_b (W : World) (n : Nat) (hn : n ≤ 1000) : Calls Tryz.prog 72 #[.int .i64 (n : Int)] W (BPost W (wordsN (10 ^ n))) := by
  have hrep := Tryz.strings_Repeat ⟨#[48]⟩ n W (by omega) (by show 1 * n ≤ _; omega)
  obtain ⟨z, hz⟩ : ∃ z : ByteArray, z = ⟨(Lib.repeatL (⟨#[48]⟩ : ByteArray).data.toList n).toArray⟩ := ⟨_, rfl⟩
  have hzl : Hid (z.data.toList = List.replicate n 48) := Lib.hid (by rw [hz]; exact repeat_zero n)
  have hzs : z.size = n := by rw [← list_len z, hzl.out]; simp
  have hcat : Hid ((⟨#[49]⟩ : ByteArray) ++ z = tenB n) := Lib.hid (data_inj (by
    rw [show ((⟨#[49]⟩ : ByteArray) ++ z).data.toList = [49] ++ z.data.toList by simp, hzl.out]
    simp [tenB]))
  rw [← hz] at hrep
  clear hz
  go_enter Tryz.func72, Tryz.ntmps72
  go_wp2_with fail
  refine hrep.mono ?_
  rintro e w1 ⟨rfl, hb1⟩
  clear hrep
  have hf := from_b (tenB n) w1 (by rw [← list_len]; simp [tenB]; omega) (fun c hc => by
    simp [tenB] at hc
    rcases hc with rfl | ⟨_, rfl⟩ <;> decide)
  have hval : Hid (valD (tenB n).data.toList = 10 ^ n) := Lib.hid (by
    rw [show (tenB n).data.toList = 49 :: List.replicate n 48 by simp [tenB]]
    exact valD_zeros n)
  rw [hval.out] at hf
  go_wp2_with fail
  rw [hcat.out]
  refine hf.mono ?_
  rintro e w2 ⟨r, rfl, hB, hb2⟩
  go_wp2_with fail
  go_ret
  exact ⟨r, rfl, hB, hb1.trans (hb2.mono hb1.size)⟩
end Go.Proofs.YtgobpoeccdgeiaaGreatDoor

namespace Go.Proofs.YtgobpoeccdgeiaaGreatDoor
open Go.RowKit NumP Go.Proofs.YtgobpoeccdgeiaaGreatDoorW.PrintWords
set_option linter.unusedVariables false

/-- Two cells of block q, and what lies below, stay. -/
theorem two_out {W4 w : World} {q : Nat} {a b : Value} (h : w.cell? ⟨q, 0, none⟩ = some a ∧ w.cell? ⟨q, 1, none⟩ = some b ∧ Hid (Below W4.heap.size W4 w)) : Below W4.heap.size W4 w := h.2.2.out
theorem two_later {W4 : World} {q : Nat} {a b : Value} {w w' : World} (hq : Hid (q < W4.heap.size)) (h : w.cell? ⟨q, 0, none⟩ = some a ∧ w.cell? ⟨q, 1, none⟩ = some b ∧ Hid (Below W4.heap.size W4 w)) (hb : Below w.heap.size w w') :
    w'.cell? ⟨q, 0, none⟩ = some a ∧ w'.cell? ⟨q, 1, none⟩ = some b ∧ Hid (Below W4.heap.size W4 w') := by
  obtain ⟨c0, c1, h⟩ := h
  have hz := h.out.size
  have hq' := hq.out
  exact ⟨(hb.cell (p := ⟨q, 0, none⟩) (by show q < _; omega)).trans c0, (hb.cell (p := ⟨q, 1, none⟩) (by show q < _; omega)).trans c1, Lib.hid (h.out.trans (hb.mono h.out.size))⟩
theorem res_two {fn : Func} {p t : Tmp} {ty : TypeId} (h : fn.results = #[.cell p ty, .tmp t]) (tmps : Array Value) (P : Program) (w : World) :
    (results fn tmps).run P w = ((asAddr (tmps.getD p undef)).run P w).andThen fun a w₁ => ((loadVar ty a).run P w₁).andThen fun v w₂ => .ok (.tuple #[v, tmps.getD t undef]) w₂ := by
  simp only [results, h]
  simp [Sem.run_bind, Result.andThen]
theorem put2 {w : World} {q : Nat} {T : TypeId} {x y : Value} (h : w.heap[q]? = some (.cells #[x, y] T (0, 0))) (a b : Value) {B : Nat} (hB : B ≤ q) :
    ∃ W5, W5 = (w.setCell ⟨q, 0, none⟩ a).setCell ⟨q, 1, none⟩ b ∧ W5.heap[q]? = some (.cells #[a, b] T (0, 0)) ∧ Below B w W5 ∧ (∀ k, k ≠ q → W5.heap[k]? = w.heap[k]?) := by
  refine ⟨_, rfl, Lib.heap_setCell_same (i := 1) (Lib.heap_setCell_same (i := 0) h a) b, ((Below.refl B w).setCell (p := ⟨q, 0, none⟩) hB a).setCell (p := ⟨q, 1, none⟩) hB b, fun k hk => ?_⟩
  rw [Below.heap_setCell _ _ _ _ hk, Below.heap_setCell _ _ _ _ hk]
theorem cells2 {w : World} {q : Nat} {T : TypeId} {x y : Value} (h : w.heap[q]? = some (.cells #[x, y] T (0, 0))) :
    (w.cell? ⟨q, 0, none⟩ = some x ∧ w.cell? ⟨q, 1, none⟩ = some y) ∧ (∀ i, w.frozen? ⟨q, i, none⟩ = false) := by
  refine ⟨⟨?_, ?_⟩, fun i => Lib.frozen_of_heap h i⟩ <;> (rw [Lib.cell_of_heap h]; rfl)
theorem heap_lt {W : World} {j : Nat} {o : Obj} (h : W.heap[j]? = some o) : j < W.heap.size := (Array.getElem?_eq_some_iff.1 h).1

/-- What a function leaves that returns a number and an error. -/
def NumPost (W : World) (r : R) (e : Ending) (w' : World) : Prop :=
  Below W.heap.size W w' ∧ match r with
    | .ok x => ∃ A n c, e = .returned (.tuple #[.agg #[.bool x.neg, .slice A n c], .int .i64 0]) ∧ BN w' (.slice A n c) x.d ∧ n = (wordsN x.d).length
    | .error k => e = .returned (.tuple #[.agg #[.bool false, .slice none 0 0], .int .i64 k])
theorem pow50_b (W : World) : Calls Tryz.prog 72 #[.int .i64 50] W (BPost W (wordsN P50)) := pow10_b W 50 (by decide)
theorem P50_small : (wordsN P50).length ≤ 6 := words_len (by decide)
set_option maxHeartbeats 1000000 in
set_option maxRecDepth 100000 in
theorem checked_b (W : World) (neg : Bool) (A : Option Addr) (n c d : Nat) (hv : BN W (.slice A n c) d) (hd : (wordsN d).length ≤ 400000) :
    Calls Tryz.prog 119 #[.agg #[.bool neg, .slice A n c]] W (NumPost W (checkedN ⟨neg, d⟩)) := by
  have hn : n = (wordsN d).length := by
    obtain ⟨A', c', e⟩ := BAt.form hv
    injection e
  obtain ⟨W1, hW1⟩ : ∃ W1, W1 = W.alloc (.cells #[.bool neg, .slice A n c] 87) := ⟨_, rfl⟩
  obtain ⟨W2, hW2⟩ : ∃ W2, W2 = W1.alloc (.cells #[.bool false, .slice none 0 0] 87) := ⟨_, rfl⟩
  obtain ⟨q, hq⟩ : ∃ q, q = W.heap.size := ⟨_, rfl⟩
  have hz1 : W1.heap.size = q + 1 := by rw [hW1, hq]; simp
  have hb1 : Below W.heap.size W W1 := by rw [hW1]; exact (Below.refl _ _).alloc (Nat.le_refl _) _
  have hb2 : Below W1.heap.size W1 W2 := by rw [hW2]; exact (Below.refl _ _).alloc (Nat.le_refl _) _
  have hblk1 : W1.heap[q]? = some (.cells #[.bool neg, .slice A n c] 87 (0, 0)) := by rw [hW1, hq]; exact (MapKept.heap_alloc _ _).1
  have hblk : W2.heap[q]? = some (.cells #[.bool neg, .slice A n c] 87 (0, 0)) := by rw [hb2.block q (heap_lt hblk1)]; exact hblk1
  have hres : W2.heap[q + 1]? = some (.cells #[.bool false, .slice none 0 0] 87 (0, 0)) := by rw [← hz1, hW2]; exact (MapKept.heap_alloc _ _).1
  have hb02 : Hid (Below W.heap.size W W2) := Lib.hid (hb1.trans (hb2.mono hb1.size))
  have hBN2 : Hid (BN W2 (.slice A n c) d) := Lib.hid (hv.below hb02.out)
  have hql : Hid (q < W2.heap.size) := Lib.hid (heap_lt hblk)
  obtain ⟨⟨b0, b1⟩, -⟩ := cells2 hblk
  replace hblk := Lib.hid hblk
  replace hres := Lib.hid hres
  replace hn := Lib.hid hn
  replace hv := Lib.hid hv
  have hsm : Hid (Small d) := Lib.hid (by unfold Small; omega)
  have hs50 : Hid (Small P50) := Lib.hid (by have := P50_small; unfold Small; omega)
  clear hblk1 hb1 hb2
  go_enter Tryz.func119, Tryz.ntmps119
  go_wp2_with fail
  rw [← hW1, ← hW2, ← hq]
  clear hW1 hW2
  replace hq := Lib.hid hq
  replace hz1 := Lib.hid hz1
  have hS : Hid (W2.drew.cell? ⟨q, 0, none⟩ = some (.bool neg) ∧ W2.drew.cell? ⟨q, 1, none⟩ = some (.slice A n c) ∧ Hid (Below W2.heap.size W2 W2.drew)) := Lib.hid ⟨b0, b1, Lib.hid (Below.refl _ _).drew⟩
  clear b0 b1
  go_region_held3 (fun w' => w'.cell? ⟨q, 0, none⟩ = some (.bool neg) ∧ w'.cell? ⟨q, 1, none⟩ = some (.slice A n c) ∧ Hid (Below W2.heap.size W2 w'))
    (first | exact hS.out | exact two_later hql (by assumption) (by assumption))
    (first
      | (go_at_call 72; refine (pow50_b _).mono ?_; rintro e w' ⟨v6, rfl, hv6, hbb⟩)
      | (go_at_call 129; refine (cmp_b _ _ _ d P50 (hBN2.out.below (two_out (by assumption))) (by assumption) hsm.out hs50.out).mono ?_; rintro e w' ⟨⟨cr, rfl, hsg⟩, hbb⟩))
  rename_i hH
  obtain ⟨sg1, sg2, -, -⟩ := hsg
  obtain ⟨c0, c1, hbw⟩ := hH
  have hb0w : Hid (Below W.heap.size W w') := Lib.hid (hb02.out.trans (hbw.out.mono hb02.out.size))
  have hqb : Hid (w'.heap[q]? = some (.cells #[.bool neg, .slice A n c] 87 (0, 0))) := Lib.hid (by rw [hbw.out.block q (heap_lt hblk.out)]; exact hblk.out)
  have hrb : Hid (w'.heap[q + 1]? = some (.cells #[.bool false, .slice none 0 0] 87 (0, 0))) := Lib.hid (by rw [hbw.out.block (q + 1) (heap_lt hres.out)]; exact hres.out)
  have hBw : Hid (BN w' (.slice A n c) d) := Lib.hid (hv.out.below hb0w.out)
  obtain ⟨w3, hw3⟩ : ∃ w3, w3 = w' := ⟨_, rfl⟩
  rw [← hw3] at c0 c1 hb0w hqb hrb hBw ⊢
  clear hw3 hbb hbw hv6
  obtain ⟨⟨r0, r1⟩, fr⟩ := cells2 hrb.out
  have f0 := fr 0
  have f1 := fr 1
  have fq := (cells2 hqb.out).2 0
  clear fr
  by_cases hge : P50 ≤ d
  · have hc : 0 ≤ cr := by omega
    have hR : Hid (checkedN ⟨neg, d⟩ = .error 40) := Lib.hid (by unfold checkedN; rw [if_pos hge])
    clear sg1 sg2 hge
    go_wp2_with fail
    obtain ⟨W5, hW5, h5, hb5, hk5⟩ := put2 hrb.out (.bool false) (.slice none 0 0) (B := W.heap.size) (by rw [hq.out]; omega)
    rw [← hW5]
    clear hW5 f0 f1 fq r0 r1 c0 c1
    obtain ⟨⟨y0, y1⟩, -⟩ := cells2 h5
    replace h5 := Lib.hid h5
    refine bodyPost_ret (v := .tuple #[.agg #[.bool false, .slice none 0 0], .int .i64 40]) ?ret rfl ?post
    case ret => rw [res_two rfl]; go_simp
    case post => exact ⟨hb0w.out.trans hb5, by rw [hR.out]⟩
  · have hc : ¬ 0 ≤ cr := by omega
    have hzd : Hid ((0 < n) ↔ (0 < d)) := Lib.hid (by rw [hn.out]; exact (wordsN_is d).pos)
    obtain ⟨ng, hng⟩ : ∃ ng, ng = (neg && decide (0 < d)) := ⟨_, rfl⟩
    have hR : Hid (checkedN ⟨neg, d⟩ = .ok ⟨ng, d⟩) := Lib.hid (by unfold checkedN; rw [if_neg hge, hng])
    have hqq : Hid (q ≠ q + 1) := Lib.hid (by omega)
    clear sg1 sg2 hge
    have hcases : (neg = false ∧ ng = false) ∨ (neg = true ∧ 0 < n ∧ ng = true) ∨ (neg = true ∧ ¬ 0 < n ∧ ng = false) := by
      cases neg
      · exact .inl ⟨rfl, by simp [hng]⟩
      · by_cases h : 0 < n
        · exact .inr (.inl ⟨rfl, h, by simp [hng, hzd.out.1 h]⟩)
        · exact .inr (.inr ⟨rfl, h, by rw [hng, decide_eq_false (fun q => h (hzd.out.2 q)), Bool.and_false]⟩)
    clear hng
    rcases hcases with ⟨rfl, rfl⟩ | ⟨rfl, h0, rfl⟩ | ⟨rfl, h0, rfl⟩
    · skip
      have hres4 : Hid ((w3.setCell ⟨q, 0, none⟩ (.bool false)).heap[q + 1]? = some (.cells #[.bool false, .slice none 0 0] 87 (0, 0))) := Lib.hid (by rw [Below.heap_setCell _ _ _ _ (fun e => hqq.out e.symm)]; exact hrb.out)
      have hb4 : Hid (Below W.heap.size W (w3.setCell ⟨q, 0, none⟩ (.bool false))) := Lib.hid (hb0w.out.setCell (p := ⟨q, 0, none⟩) (by rw [hq.out]; exact Nat.le_refl _) _)
      go_wp2_with fail
      obtain ⟨W5, hW5, h5, hb5, hk5⟩ := put2 hres4.out (.bool false) (.slice A n c) (B := W.heap.size) (by rw [hq.out]; omega)
      rw [← hW5]
      clear hW5 f0 f1 fq r0 r1 c0 c1
      obtain ⟨⟨y0, y1⟩, -⟩ := cells2 h5
      replace h5 := Lib.hid h5
      refine bodyPost_ret (v := .tuple #[.agg #[.bool false, .slice A n c], .int .i64 0]) ?ret rfl ?post
      case ret => rw [res_two rfl]; go_simp
      case post => exact ⟨hb4.out.trans hb5, by rw [hR.out]; exact ⟨A, n, c, rfl, hv.out.below (hb4.out.trans hb5), hn.out⟩⟩
    · skip
      have hres4 : Hid ((w3.setCell ⟨q, 0, none⟩ (.bool true)).heap[q + 1]? = some (.cells #[.bool false, .slice none 0 0] 87 (0, 0))) := Lib.hid (by rw [Below.heap_setCell _ _ _ _ (fun e => hqq.out e.symm)]; exact hrb.out)
      have hb4 : Hid (Below W.heap.size W (w3.setCell ⟨q, 0, none⟩ (.bool true))) := Lib.hid (hb0w.out.setCell (p := ⟨q, 0, none⟩) (by rw [hq.out]; exact Nat.le_refl _) _)
      go_wp2_with fail
      obtain ⟨W5, hW5, h5, hb5, hk5⟩ := put2 hres4.out (.bool true) (.slice A n c) (B := W.heap.size) (by rw [hq.out]; omega)
      rw [← hW5]
      clear hW5 f0 f1 fq r0 r1 c0 c1
      obtain ⟨⟨y0, y1⟩, -⟩ := cells2 h5
      replace h5 := Lib.hid h5
      refine bodyPost_ret (v := .tuple #[.agg #[.bool true, .slice A n c], .int .i64 0]) ?ret rfl ?post
      case ret => rw [res_two rfl]; go_simp
      case post => exact ⟨hb4.out.trans hb5, by rw [hR.out]; exact ⟨A, n, c, rfl, hv.out.below (hb4.out.trans hb5), hn.out⟩⟩
    · skip
      have hres4 : Hid ((w3.setCell ⟨q, 0, none⟩ (.bool false)).heap[q + 1]? = some (.cells #[.bool false, .slice none 0 0] 87 (0, 0))) := Lib.hid (by rw [Below.heap_setCell _ _ _ _ (fun e => hqq.out e.symm)]; exact hrb.out)
      have hb4 : Hid (Below W.heap.size W (w3.setCell ⟨q, 0, none⟩ (.bool false))) := Lib.hid (hb0w.out.setCell (p := ⟨q, 0, none⟩) (by rw [hq.out]; exact Nat.le_refl _) _)
      go_wp2_with fail
      obtain ⟨W5, hW5, h5, hb5, hk5⟩ := put2 hres4.out (.bool false) (.slice A n c) (B := W.heap.size) (by rw [hq.out]; omega)
      rw [← hW5]
      clear hW5 f0 f1 fq r0 r1 c0 c1
      obtain ⟨⟨y0, y1⟩, -⟩ := cells2 h5
      replace h5 := Lib.hid h5
      refine bodyPost_ret (v := .tuple #[.agg #[.bool false, .slice A n c], .int .i64 0]) ?ret rfl ?post
      case ret => rw [res_two rfl]; go_simp
      case post => exact ⟨hb4.out.trans hb5, by rw [hR.out]; exact ⟨A, n, c, rfl, hv.out.below (hb4.out.trans hb5), hn.out⟩⟩
end Go.Proofs.YtgobpoeccdgeiaaGreatDoor

namespace Go.Proofs.YtgobpoeccdgeiaaGreatDoor
open Go.RowKit NumP Go.Proofs.YtgobpoeccdgeiaaGreatDoorW.PrintWords
set_option linter.unusedVariables false

theorem ret_str {a b : ByteArray} (h : a = b) : Ending.returned (.string a) = .returned (.string b) := by rw [h]
def txtB (x : Num) : ByteArray := ⟨(textN x).toArray⟩
theorem txtB_data (x : Num) : (txtB x).data.toList = textN x := by simp [txtB]
theorem lenD_words (d k : Nat) (h : (wordsN d).length ≤ k) : lenD d ≤ 9 * k := (lenD_le d (9 * k)).2 (by
  have h1 := (wordsN_is d).lt
  have h2 : 1000000000 ^ (wordsN d).length ≤ 1000000000 ^ k := Nat.pow_le_pow_right (by decide) h
  rw [Nat.pow_mul]
  exact Nat.lt_of_lt_of_le h1 h2)
set_option maxHeartbeats 1000000 in
set_option maxRecDepth 100000 in
theorem text_b (W : World) (neg : Bool) (A : Option Addr) (n c d : Nat) (hv : BN W (.slice A n c) d) (hd : (wordsN d).length ≤ 1000) :
    Calls Tryz.prog 69 #[.agg #[.bool neg, .slice A n c]] W fun e w' => e = .returned (.string (txtB ⟨neg, d⟩)) ∧ Below W.heap.size W w' := by
  obtain ⟨W1, hW1⟩ : ∃ W1, W1 = W.alloc (.cells #[.bool neg, .slice A n c] 87) := ⟨_, rfl⟩
  obtain ⟨q, hq⟩ : ∃ q, q = W.heap.size := ⟨_, rfl⟩
  have hb1 : Below W.heap.size W W1 := by rw [hW1]; exact (Below.refl _ _).alloc (Nat.le_refl _) _
  have hblk : W1.heap[q]? = some (.cells #[.bool neg, .slice A n c] 87 (0, 0)) := by rw [hW1, hq]; exact (MapKept.heap_alloc _ _).1
  have hdg := digits_b W1 (.slice A n c) d 21 (hv.below hb1) (by omega) (by omega)
  have hdg' : Calls Tryz.prog 120 #[.slice A n c, .int .i64 21] W1 fun e w' => e = .returned (.string (digB 21 d)) ∧ Below W1.heap.size W1 w' := hdg
  have hL : lenD d ≤ 9 * 1000 := lenD_words d 1000 hd
  have hdat := digB_data 21 d
  have hsz : (digB 21 d).size = max 21 (lenD d) := by rw [← list_len, hdat, fixD_len]
  obtain ⟨L, hLe⟩ : ∃ L, L = max 21 (lenD d) := ⟨_, rfl⟩
  rw [← hLe] at hdat hsz
  have hL1 : 21 ≤ L := by omega
  have hL2 : L ≤ 9000 := by omega
  obtain ⟨s, hs⟩ : ∃ s, s = digB 21 d := ⟨_, rfl⟩
  rw [← hs] at hdg' hdat hsz
  obtain ⟨⟨b0, b1⟩, -⟩ := cells2 hblk
  replace hblk := Lib.hid hblk
  replace hdat := Lib.hid hdat
  replace hLe := Lib.hid hLe
  replace hv := Lib.hid hv
  clear hdg hs hL
  go_enter Tryz.func69, Tryz.ntmps69
  go_wp2_with fail
  rw [← hW1, ← hq]
  clear hW1
  refine hdg'.mono ?_
  rintro e w2 ⟨rfl, hb2⟩
  clear hdg'
  have c0 : w2.cell? ⟨q, 0, none⟩ = some (.bool neg) := by rw [hb2.cell (p := ⟨q, 0, none⟩) (heap_lt hblk.out)]; exact b0
  clear b0 b1
  have hb02 : Hid (Below W.heap.size W w2) := Lib.hid (hb1.trans (hb2.mono hb1.size))
  replace hq := Lib.hid hq
  clear hb1 hb2
  obtain ⟨X, hX⟩ : ∃ X, X = s.extract (s.size - 20) s.size := ⟨_, rfl⟩
  have htr := fun w => Tryz.strings_TrimRight_one X 48 (by decide) w (by rw [hX, ByteArray.size_extract]; omega)
  have g1 : 20 ≤ s.size := by omega
  have g2 : s.size ≤ 9000 := by omega
  replace hsz := Lib.hid hsz
  obtain ⟨F, hF⟩ : ∃ F : ByteArray, F = ⟨(Lib.trimRightB X.data.toList 48).toArray⟩ := ⟨_, rfl⟩
  simp only [← hF] at htr
  rw [hX] at htr hF
  replace hF := Lib.hid hF
  clear hX
  have k1 : (0 : Int) ≤ (s.size : Int) - 20 := by omega
  have k2 : (s.size : Int) - 20 ≤ (s.size : Int) := by omega
  go_wp2_with fail
  go_quiet ((go_at_call 121; go_loud (exact Calls.quiet_of_same (htr _))))
  obtain ⟨w3, hw3⟩ : ∃ w3, w3 = w2.drewN nq := ⟨_, rfl⟩
  obtain ⟨G, hG⟩ : ∃ G, G = s.extract 0 (s.size - 20) := ⟨_, rfl⟩
  have c3 : w3.cell? ⟨q, 0, none⟩ = some (.bool neg) := by rw [hw3]; exact c0
  have hb03 : Hid (Below W.heap.size W w3) := Lib.hid (by rw [hw3]; exact hb02.out.trans ⟨rfl, rfl, rfl, Nat.le_refl _, fun _ _ => rfl⟩)
  rw [← hw3, ← hG]
  have hGd : Hid (G.data.toList = (fixD L d).take (L - 20)) := Lib.hid (by rw [hG, ext_take, hdat.out, hsz.out])
  have hFd : Hid (F.data.toList = trimZ ((fixD L d).drop (L - 20))) := Lib.hid (by
    rw [hF.out, ext_drop, hdat.out, hsz.out]; rfl)
  have z1 : G.size ≤ 9000 := by
    rw [← list_len, hGd.out, List.length_take, fixD_len]; omega
  have z2 : F.size ≤ 9000 := by
    rw [← list_len, hFd.out]
    unfold trimZ
    rw [List.length_reverse]
    refine Nat.le_trans (List.dropWhile_suffix _).length_le ?_
    rw [List.length_reverse, List.length_drop, fixD_len]; omega
  have htx : Hid (∀ Z : ByteArray, Z.data.toList = (if neg then [45] else []) ++ (G.data.toList ++ (if F.data.toList = [] then [] else 46 :: F.data.toList)) → Z = txtB ⟨neg, d⟩) := Lib.hid (fun Z hZ => data_inj (by
    rw [txtB_data, hZ, hGd.out, hFd.out]
    unfold textN
    simp only [← hLe.out, fixD_len, List.append_assoc]))
  clear hw3 hG c0 htr hF k1 k2 g1 g2
  have n1 : (9223372036854775807 < 1 + F.size) = False := eq_false (by omega)
  have n2 : (9223372036854775807 < G.size + (1 + F.size)) = False := eq_false (by omega)
  have n3 : (9223372036854775807 < 1 + (G.size + (1 + F.size))) = False := eq_false (by omega)
  have n4 : (9223372036854775807 < 1 + G.size) = False := eq_false (by omega)
  by_cases hFe : F.data.toList = []
  · have hF0 : F = ⟨#[]⟩ := data_inj hFe
    subst hF0
    cases neg
    all_goals
      go_wp2_with fail
      go_ret
      exact ⟨ret_str (htx.out _ (by simp)), hb03.out⟩
  · have q1 : (F.toList == []) = false := beq_eq_false_iff_ne.2 (by rw [Lib.toList_data]; exact hFe)
    have q2 : (F.toList != []) = true := by rw [bne, q1]; rfl
    have q3 : F.toList.isEmpty = false := by
      cases h : F.toList with
      | nil => rw [h] at q1; cases q1
      | cons a l => rfl
    replace htx : Hid (∀ Z : ByteArray, Z.data.toList = (if neg then [45] else []) ++ (G.data.toList ++ 46 :: F.data.toList) → Z = txtB ⟨neg, d⟩) := Lib.hid (fun Z hZ => htx.out Z (by rw [if_neg hFe]; exact hZ))
    clear hFe
    cases neg
    all_goals
      go_wp2_with fail
      go_ret
      exact ⟨ret_str (htx.out _ (by simp)), hb03.out⟩
end Go.Proofs.YtgobpoeccdgeiaaGreatDoor

namespace Go.Proofs.YtgobpoeccdgeiaaGreatDoor
open Go.RowKit NumP Go.Proofs.YtgobpoeccdgeiaaGreatDoorW.PrintWords
set_option linter.unusedVariables false

def notDig (r : Nat) : Bool := !(decide (48 ≤ r) && decide (r ≤ 57))
set_option maxRecDepth 100000 in
theorem notdig_pred (w : World) : PredAt Tryz.prog 117 #[] encR notDig w := fun W r _ => by
  unfold FnGives
  have hcases : r < 48 ∨ (48 ≤ r ∧ r ≤ 57) ∨ 57 < r := by omega
  rcases hcases with h | ⟨h, h2⟩ | h
  · have e : notDig r = true := by unfold notDig; rw [decide_eq_false (by omega)]; rfl
    have h1 : (r : Int) < 48 := by omega
    rw [e]
    clear e
    go_enter Tryz.func117, Tryz.ntmps117
    go_wp2_with fail
    go_ret
    exact ⟨rfl, 0, rfl⟩
  · have e : notDig r = false := by unfold notDig; rw [decide_eq_true h, decide_eq_true h2]; rfl
    have h1 : ¬ (r : Int) < 48 := by omega
    have h3 : ¬ (r : Int) > 57 := by omega
    rw [e]
    clear e
    go_enter Tryz.func117, Tryz.ntmps117
    go_wp2_with fail
    go_ret
    exact ⟨rfl, 0, rfl⟩
  · have e : notDig r = true := by unfold notDig; rw [decide_eq_false (show ¬ r ≤ 57 by omega), Bool.and_false]; rfl
    have h1 : ¬ (r : Int) < 48 := by omega
    have h3 : (r : Int) > 57 := by omega
    rw [e]
    clear e
    go_enter Tryz.func117, Tryz.ntmps117
    go_wp2_with fail
    go_ret
    exact ⟨rfl, 0, rfl⟩
theorem decodeN_big (n b0 b1 b2 b3 : Nat) (h : 128 ≤ b0) : 128 ≤ (Lib.decodeN n b0 b1 b2 b3).1 := by
  unfold Lib.decodeN
  rw [if_neg (by omega)]
  repeat' split
  all_goals first | (show 128 ≤ 65533; decide) | (simp only; omega)
theorem dec_byte (s : ByteArray) (pos : Nat) (h : pos < s.size) : (∃ b : UInt8, s.data.toList[pos]? = some b ∧ ((b.toNat < 128 ∧ Utf8.decode s pos = (b.toNat, 1)) ∨ (128 ≤ b.toNat ∧ 128 ≤ (Utf8.decode s pos).1))) := by
  have hl : pos < s.data.toList.length := by rw [list_len]; exact h
  refine ⟨s.data.toList[pos], List.getElem?_eq_getElem hl, ?_⟩
  have hg : (s.data.toList.drop pos).getD 0 0 = s.data.toList[pos] := by
    rw [List.drop_eq_getElem_cons hl]; rfl
  have hd := Lib.decodeL_drop s pos
  rw [Lib.decodeL_N, hg] at hd
  rcases Nat.lt_or_ge (s.data.toList[pos]).toNat 128 with hb | hb
  · refine .inl ⟨hb, ?_⟩
    rw [← hd, Lib.decodeN_ascii _ _ _ _ _ hb]
  · refine .inr ⟨hb, ?_⟩
    rw [← hd]
    exact decodeN_big _ _ _ _ _ hb
theorem idx_from (s : ByteArray) : ∀ (f pos : Nat), pos ≤ s.size → s.size ≤ pos + f → ((∀ c ∈ s.data.toList.drop pos, isDig c = true) ∧ Lib.idxFuncFrom notDig true s f pos = -1) ∨ ((¬ ∀ c ∈ s.data.toList.drop pos, isDig c = true) ∧ 0 ≤ Lib.idxFuncFrom notDig true s f pos)
  | 0, pos, h1, h2 => by
    refine .inl ⟨fun c hc => ?_, rfl⟩
    rw [List.drop_of_length_le (by rw [list_len]; omega)] at hc
    exact (List.not_mem_nil hc).elim
  | f + 1, pos, h1, h2 => by
    by_cases hp : pos < s.size
    · have hl : pos < s.data.toList.length := by rw [list_len]; exact hp
      obtain ⟨b, hb, hbb⟩ := dec_byte s pos hp
      have hb' : s.data.toList[pos] = b := by
        rw [List.getElem?_eq_getElem hl] at hb; exact Option.some.inj hb
      rw [Lib.idxFuncFrom, if_pos hp, List.drop_eq_getElem_cons hl, hb']
      rcases hbb with ⟨h3, h4⟩ | ⟨h3, h4⟩
      · rw [h4]
        simp only
        by_cases hd : isDig b = true
        · have hn : notDig b.toNat = false := by
            simp only [isDig, Bool.and_eq_true, decide_eq_true_eq] at hd
            unfold notDig
            rw [decide_eq_true hd.1, decide_eq_true hd.2]; rfl
          rw [hn, if_neg (by decide)]
          rcases idx_from s f (pos + 1) (by omega) (by omega) with ⟨h5, h6⟩ | ⟨h5, h6⟩
          · refine .inl ⟨fun c hc => ?_, h6⟩
            rcases List.mem_cons.1 hc with rfl | hc
            · exact hd
            · exact h5 c hc
          · exact .inr ⟨fun q => h5 fun c hc => q c (List.mem_cons_of_mem _ hc), h6⟩
        · have hn : notDig b.toNat = true := by
            unfold notDig
            cases h : (decide (48 ≤ b.toNat) && decide (b.toNat ≤ 57)) with
            | false => rfl
            | true => exact absurd h hd
          rw [hn, if_pos rfl]
          exact .inr ⟨fun q => hd (q b (List.mem_cons_self ..)), by omega⟩
      · have hn : notDig (Utf8.decode s pos).1 = true := by
          unfold notDig; rw [decide_eq_false (show ¬ (Utf8.decode s pos).1 ≤ 57 by omega), Bool.and_false]; rfl
        rw [hn, if_pos rfl]
        refine .inr ⟨fun q => ?_, by omega⟩
        have := q b (List.mem_cons_self ..)
        simp only [isDig, Bool.and_eq_true, decide_eq_true_eq] at this
        omega
    · refine .inl ⟨fun c hc => ?_, by rw [Lib.idxFuncFrom, if_neg hp]⟩
      rw [List.drop_of_length_le (by rw [list_len]; omega)] at hc
      exact (List.not_mem_nil hc).elim
theorem idx_all (s : ByteArray) : (s.data.toList.all isDig = true ∧ Lib.idxFunc notDig true s = -1) ∨ (s.data.toList.all isDig = false ∧ 0 ≤ Lib.idxFunc notDig true s) := by
  rcases idx_from s s.size 0 (Nat.zero_le _) (by omega) with ⟨h1, h2⟩ | ⟨h1, h2⟩
  · exact .inl ⟨List.all_eq_true.2 h1, h2⟩
  · refine .inr ⟨?_, h2⟩
    rw [List.drop_zero] at h1
    cases h : s.data.toList.all isDig with
    | false => rfl
    | true => exact absurd (List.all_eq_true.1 h) h1
set_option maxRecDepth 100000 in
theorem index_b (s : ByteArray) (w : World) : Calls Tryz.prog 116 #[.string s, .func (.func 117) #[] #[]] w fun e w' => e = .returned (.int .i64 (Lib.idxFunc notDig true s)) ∧ Below w.heap.size w w' :=
  Tryz.strings_IndexFunc 117 #[] (fun args w => by kernel_rfl) notDig s w (notdig_pred w)
theorem cut_point (l : List UInt8) : (Lib.cut l [46]).1 = before 46 l ∧ (Lib.cut l [46]).2.1 = behind 46 l := by
  unfold Lib.cut before behind
  rw [Lib.index_one]
  induction l with
  | nil => exact ⟨rfl, rfl⟩
  | cons b l ih =>
    by_cases hb : b = 46
    · subst hb
      have e : Lib.indexByte (46 :: l) 46 = 0 := by simp [Lib.indexByte]
      rw [e]
      simp
    · have e : Lib.indexByte (b :: l) 46 = if Lib.indexByte l 46 == -1 then -1 else Lib.indexByte l 46 + 1 := by
        rw [Lib.indexByte, if_neg (by simpa using hb)]
      have hg : -1 ≤ Lib.indexByte l 46 := by rw [← Lib.index_one]; exact Lib.index_ge _ _
      have hbb : (b != 46) = true := by simpa using hb
      rw [e, List.takeWhile_cons, List.dropWhile_cons, hbb]
      simp only [if_true]
      by_cases h1 : Lib.indexByte l 46 = -1
      · rw [h1] at ih ⊢
        simp at ih ⊢
        exact ⟨ih.1, ih.2⟩
      · have h0 : 0 ≤ Lib.indexByte l 46 := by omega
        have h2 : (Lib.indexByte l 46 == -1) = false := by simpa using h1
        rw [h2] at ⊢
        rw [if_pos h0] at ih
        simp only [Bool.false_eq_true, if_false]
        rw [if_pos (by omega)]
        have h3 : (Lib.indexByte l 46 + 1).toNat = (Lib.indexByte l 46).toNat + 1 := by omega
        rw [h3]
        simp only [List.take_succ_cons] at ih ⊢
        refine ⟨by rw [ih.1], ?_⟩
        rw [← ih.2, show (Lib.indexByte l 46).toNat + 1 + [(46 : UInt8)].length = ((Lib.indexByte l 46).toNat + [(46 : UInt8)].length) + 1 by simp, List.drop_succ_cons]
end Go.Proofs.YtgobpoeccdgeiaaGreatDoor
