/- CollLong: the walk of the statement. -/
import Derived.Test.YtibhifjehbajnaaDoorLongWalk
import Derived.Laws.Cover1
import Derived.Laws.Runes
namespace Go.Proofs.YtibhifjehbajnaaDoor
open Go.RowKit Go.Maps
set_option linter.unusedVariables false

def str1 : ByteArray := ⟨#[35, 32, 99, 104, 97, 114, 97, 99, 116, 101, 114, 115, 10]⟩
theorem Holds.below0 (W : World) : Holds (W.alloc (.cells #[.pointer none, .slice none 0 0] 60)) W.heap.size [] := ⟨Lib.IsBuilderF.of (Lib.fresh_isBuilder _ _ _)⟩
structure L1 (W : World) (n k : Nat) (w : World) : Prop where
  hold : Holds w W.heap.size (hdR ++ 10 :: line1 k)
  below : Below W.heap.size W w
  le : k ≤ n
structure L2 (W : World) (n m k : Nat) (w : World) : Prop where
  hold : Holds w W.heap.size (descR n k)
  below : Below W.heap.size W w
  le : k ≤ m
theorem descR_len (n m : Nat) (hn : n ≤ 4100) (hm : m ≤ 4100) : (descR n m).length ≤ 30000 := by
  have h2 := line1_len n
  have h3 := line2_len m
  have h4 : (descR n m).length = 12 + (1 + ((line1 n).length + (1 + (line2 m).length))) := by
    simp [descR, hdR]; omega
  omega
theorem hd_len (n : Nat) (hn : n ≤ 4100) : (hdR ++ 10 :: line1 n).length ≤ 30000 := by
  have h2 := line1_len n
  have h4 : (hdR ++ 10 :: line1 n).length = 12 + (1 + (line1 n).length) := by
    simp [hdR]; omega
  omega

theorem encA_rep : ∀ k, encA (List.replicate k 120) = Lib.repeatL [120] k
  | 0 => rfl
  | k + 1 => by
    rw [List.replicate_succ, encA_cons, encA_rep k]
    have : Lib.encodeRune 120 = [120] := by decide
    rw [this]; rfl
/-- What Repeat gives, behind the sign of a remark. -/
theorem rep_facts (k : Nat) {R : ByteArray} (hR : R.data.toList = Lib.repeatL [120] k) : R.size = k ∧ ((⟨#[35]⟩ : ByteArray) ++ R).data.toList = encA (35 :: List.replicate k 120) ∧ ((⟨#[35]⟩ : ByteArray) ++ R).size = k + 1 := by
  have h1 : R.size = k := by rw [Lib.size_eq, hR, Lib.repeatL_length]; simp
  have h2 : ((⟨#[35]⟩ : ByteArray) ++ R).data.toList = encA (35 :: List.replicate k 120) := by
    rw [encA_cons, encA_rep, ← hR]
    have : Lib.encodeRune 35 = [35] := by decide
    rw [this]
    simp
  refine ⟨h1, h2, ?_⟩
  rw [Lib.size_eq, h2, encA_cons, encA_rep, List.length_append, Lib.repeatL_length]
  have : Lib.encodeRune 35 = [35] := by decide
  rw [this]
  simp; omega

set_option maxHeartbeats 1000000 in
set_option maxRecDepth 100000 in
theorem long_walk (a b : Int) (c : Int) (n m : Nat) (more : Nat) (W : World) (hL : LaidW W) (ha : 0 ≤ a ∧ a ≤ 65535) (hb : 0 ≤ b ∧ b ≤ 65535) (hc : 0 ≤ c ∧ c ≤ 255) (hn : Hid (a.tmod 4100 = (n : Int))) (hm : Hid (b.tmod 4100 = (m : Int))) (hmo : Hid (c.tmod 2 = (more : Int))) (hmo2 : Hid (c % 2 = (more : Int))) (hn1 : n ≤ 4100) (hm1 : m ≤ 4100) (hmore : more ≤ 1) :
    Calls Tryd.prog 12 #[.int .u16 a, .int .u16 b, .int .u8 c] W fun e w' => e = .returned (.bool true) ∧ Below W.heap.size W w' := by
  have en := hn.out
  have em := hm.out
  have eo := hmo.out
  go_enter Tryd.func12, Tryd.ntmps12
  go_wp2_with fail
  obtain ⟨W1, hW1⟩ : ∃ W1, W1 = W.alloc (.cells #[.pointer none, .slice none 0 0] 60) := ⟨_, rfl⟩
  have h1 : Holds W1 W.heap.size [] := by rw [hW1]; exact Holds.below0 W
  have hb1 : Below W.heap.size W W1 := by rw [hW1]; exact (Below.refl _ _).alloc (Nat.le_refl _) _
  refine (Holds.str (w := W.alloc (.cells #[.pointer none, .slice none 0 0] 60)) (by rw [← hW1]; exact h1) str1 (hdR ++ [10]) (by decide +kernel) (by decide) (by decide)).mono ?_
  rw [← hW1]
  rintro e w2 ⟨⟨r, rfl⟩, h2, hb2⟩
  have hl2 : L1 W n 0 w2 := ⟨by simpa [line1] using h2.out, hb1.trans (hb2.mono (Nat.le_refl _)), by omega⟩
  have hl2 := Lib.hid hl2
  clear h2 hb2 hb1 h1 hW1
  go_wp2_with fail
  go_loopw [24] (fun i wr => ∃ k : Nat, i = .int .i64 k ∧ k ≤ n ∧ Hid (L1 W n k wr)) (fun i _ => n - (intOf i).toNat)
  case atStart => exact ⟨0, rfl, by omega, hl2⟩
  case round =>
    obtain ⟨k, rfl, hk, hh⟩ := hrel
    clear hl2
    obtain ⟨wo, hwo⟩ : ∃ wo : World, wo = wr := ⟨_, rfl⟩
    clear en em eo
    by_cases hlt : k < n
    · have hlen : (hdR ++ 10 :: line1 k).length ≤ 30000 := hd_len k (by omega)
      by_cases h0 : k = 0
      · subst h0
        go_wp2_with fail
        refine (hh.out.hold.rune 19968 (by omega) (by omega) (by omega)).mono ?_
        rintro e w3 ⟨⟨r, rfl⟩, h3, hb3⟩
        go_wp2
        go_roundw
        case rel =>
          refine ⟨1, by go_num, by omega, ⟨?_, hh.out.below.trans (hb3.mono (Nat.le_refl _)), by omega⟩⟩
          have := h3.out
          simpa [line1, tail1] using this
        case measure => simp [intOf]; omega
      · have hgt : (k : Int) > 0 := by omega
        go_wp2_with fail
        refine (hh.out.hold.str ⟨#[32, 60, 32]⟩ [32, 60, 32] (by decide +kernel) (by decide) (by omega)).mono ?_
        rintro e w3 ⟨⟨r3, rfl⟩, h3, hb3⟩
        go_wp2_with fail
        refine (h3.out.rune (19968 + (k : Int)) (by omega) (by omega) (by simp only [List.length_append, List.length_cons, List.length_nil] at hlen ⊢; omega)).mono ?_
        rintro e w4 ⟨⟨r4, rfl⟩, h4, hb4⟩
        go_wp2
        go_roundw
        case rel =>
          refine ⟨k + 1, by go_num, by omega, ⟨?_, (hh.out.below.trans hb3).trans hb4, by omega⟩⟩
          have := h4.out
          rw [line1_succ, if_neg h0]
          simpa using this
        case measure => simp [intOf]; omega
    · obtain rfl : k = n := by omega
      go_wp2_with fail
      have hlen := hd_len k hn1
      refine (hh.out.hold.str ⟨#[10]⟩ [10] (by decide +kernel) (by decide) (by omega)).mono ?_
      rintro e w3 ⟨⟨r3, rfl⟩, h3, hb3⟩
      have hl3 : L2 W k m 0 w3 := ⟨by simpa [line2, descR] using h3.out, hh.out.below.trans hb3, by omega⟩
      have hl3 := Lib.hid hl3
      clear h3 hb3 hh hwo hlen
      go_wp2_with fail
      go_loopw [37] (fun i wr => ∃ j : Nat, i = .int .i64 j ∧ j ≤ m ∧ Hid (L2 W k m j wr)) (fun i _ => m - (intOf i).toNat)
      case atStart => exact ⟨0, rfl, by omega, hl3⟩
      case round =>
        obtain ⟨j, rfl, hj, hh⟩ := hrel
        clear hl3
        obtain ⟨wo, hwo⟩ : ∃ wo : World, wo = wr := ⟨_, rfl⟩
        by_cases hlt : j < m
        · have hlen : (descR k j).length ≤ 30000 := descR_len k j hn1 (by omega)
          by_cases h0 : j = 0
          · subst h0
            go_wp2_with fail
            refine (hh.out.hold.str ⟨#[105, 103, 110, 111, 114, 101]⟩ igW (by decide +kernel) (by decide) (by omega)).mono ?_
            rintro e w3 ⟨⟨r3, rfl⟩, h3, hb3⟩
            go_wp2_with fail
            refine (h3.out.str ⟨#[32]⟩ [32] (by decide +kernel) (by decide) (by simp only [List.length_append, igW, List.length_cons, List.length_nil]; omega)).mono ?_
            rintro e w4 ⟨⟨r4, rfl⟩, h4, hb4⟩
            go_wp2_with fail
            refine (h4.out.rune 28160 (by omega) (by omega) (by simp only [List.length_append, igW, List.length_cons, List.length_nil]; omega)).mono ?_
            rintro e w5 ⟨⟨r5, rfl⟩, h5, hb5⟩
            go_wp2
            go_roundw
            case rel =>
              refine ⟨1, by go_num, by omega, ⟨?_, ((hh.out.below.trans hb3).trans hb4).trans hb5, by omega⟩⟩
              have := h5.out
              simpa [descR, line2, tail2] using this
            case measure => simp [intOf]; omega
          · have hne : ((j : Int) == 0) = false := by rw [beq_eq_false_iff_ne]; omega
            go_wp2_with fail
            refine (hh.out.hold.str ⟨#[32]⟩ [32] (by decide +kernel) (by decide) (by omega)).mono ?_
            rintro e w3 ⟨⟨r3, rfl⟩, h3, hb3⟩
            go_wp2_with fail
            refine (h3.out.rune (28160 + (j : Int)) (by omega) (by omega) (by simp only [List.length_append, List.length_cons, List.length_nil]; omega)).mono ?_
            rintro e w4 ⟨⟨r4, rfl⟩, h4, hb4⟩
            go_wp2
            go_roundw
            case rel =>
              refine ⟨j + 1, by go_num, by omega, ⟨?_, (hh.out.below.trans hb3).trans hb4, by omega⟩⟩
              have := h4.out
              have e : descR k (j + 1) = descR k j ++ [32] ++ [28160 + (j : Int)] := by
                unfold descR
                rw [line2_succ, if_neg h0]
                simp
              rw [e]
              exact this
            case measure => simp [intOf]; omega
        · obtain rfl : j = m := by omega
          go_wp2_with fail
          refine (Tryd.Builder_String_any_f W.heap.size W.heap.size _ _ hh.out.hold.is_ hh.out.hold.le).mono ?_
          rintro e w3 ⟨rfl, _, hb3⟩
          obtain ⟨s, hs⟩ : ∃ s : ByteArray, s = ⟨(encA (descR k j)).toArray⟩ := ⟨_, rfl⟩
          rw [← hs]
          replace hs : s.data.toList = encA (descR k j) := by rw [hs]
          have hp := desc_parse k j hn1 hm1 hs
          have hz : s.size ≤ 120000 := by
            have := enc_len_le (descR k j)
            have := descR_len k j hn1 hm1
            rw [Lib.size_eq, hs]; omega
          have hb03 := hh.out.below.trans hb3
          have hL3 := hL.below hb03 hL.size
          have hb03 := Lib.hid hb03
          have hL3 := Lib.hid hL3
          clear hs hb3 hh hwo
          go_wp2_with fail
          refine (Parse_gives s w3 hL3.out (by omega)).mono ?_
          rintro e w4 ⟨p, rfl, hpp, hb4, -⟩
          have hb04 := Lib.hid (hb03.out.trans (hb4.mono hb03.out.size))
          have hL4 := Lib.hid (hL3.out.below hb4 hL3.out.size)
          clear hb4 hb03 hL3
          rw [hp.1, hp.2]
          rw [hp.2] at hpp
          clear hp
          by_cases h1 : 4096 < k
          · have h2 : 4096 < k + j := by omega
            have hgt : (k : Int) > 4096 := by omega
            rw [if_pos h1, if_pos h2]
            rw [if_pos h2] at hpp
            obtain rfl := hpp.2 (by decide)
            clear hpp h1 h2 hlt
            go_wp2_with fail
            refine (works_calls _ hL4.out).mono ?_
            rintro e w5 ⟨rfl, hb5⟩
            go_wp2_with fail
            go_ret
            exact ⟨rfl, hb04.out.trans (hb5.mono hb04.out.size)⟩
          · have hgt : ¬ ((k : Int) > 4096) := by omega
            rw [if_neg h1]
            by_cases h2 : 4096 < k + j
            · have hgt2 : (k : Int) + (j : Int) > 4096 := by omega
              rw [if_pos h2, if_pos h2]
              rw [if_pos h2] at hpp
              obtain rfl := hpp.2 (by decide)
              clear hpp h1 h2 hlt
              go_wp2_with fail
              refine (works_calls _ hL4.out).mono ?_
              rintro e w5 ⟨rfl, hb5⟩
              go_wp2_with fail
              go_ret
              exact ⟨rfl, hb04.out.trans (hb5.mono hb04.out.size)⟩
            · have hgt2 : ¬ ((k : Int) + (j : Int) > 4096) := by omega
              rw [if_neg h2, if_neg h2]
              rw [if_neg h2] at hpp
              obtain ⟨pa, rfl⟩ : ∃ a, p = some a := by
                cases p with
                | none => exact absurd rfl (hpp.1 rfl)
                | some a => exact ⟨a, rfl⟩
              clear hpp h1 h2 hlt
              have eo := hmo.out
              have eo2 := hmo2.out
              go_wp2_with fail
              have hrep := Tryd.strings_Repeat ⟨#[120]⟩ (1048575 + more) w4 (by omega) (by have : (⟨#[120]⟩ : ByteArray).size = 1 := rfl; rw [this]; omega)
              rw [show ((1048575 + more : Nat) : Int) = 1048575 + (more : Int) by omega] at hrep
              refine hrep.mono ?_
              rintro e w5 ⟨rfl, hb5⟩
              obtain ⟨R, hR⟩ : ∃ R : ByteArray, R = ⟨(Lib.repeatL (⟨#[120]⟩ : ByteArray).data.toList (1048575 + more)).toArray⟩ := ⟨_, rfl⟩
              rw [← hR]
              replace hR : R.data.toList = Lib.repeatL [120] (1048575 + more) := by rw [hR]
              obtain ⟨r1, r2, r3⟩ := rep_facts _ hR
              have r2 := Lib.hid r2
              have hb05 := Lib.hid (hb04.out.trans (hb5.mono hb04.out.size))
              have hL5 := Lib.hid (hL4.out.below hb5 hL4.out.size)
              clear hb5 hb04 hL4 hrep hR
              have hcat : (9223372036854775807 < (⟨#[35]⟩ : ByteArray).size + R.size) = False := eq_false (by rw [r1]; have : (⟨#[35]⟩ : ByteArray).size = 1 := rfl; rw [this]; omega)
              have hRz : R.size ≤ 1048576 := by omega
              go_wp2_with fail
              obtain ⟨S, hS⟩ : ∃ S, S = (⟨#[35]⟩ : ByteArray) ++ R := ⟨_, rfl⟩
              rw [← hS]
              rw [← hS] at r2 r3
              clear hS hcat hRz r1
              refine (Parse_gives S w5 hL5.out (by omega)).mono ?_
              rintro e w6 ⟨p, rfl, hpp, hb6, -⟩
              have hb06 := Lib.hid (hb05.out.trans (hb6.mono hb05.out.size))
              have hL6 := Lib.hid (hL5.out.below hb6 hL5.out.size)
              clear hb6 hb05 hL5
              by_cases h1 : more = 1
              · subst h1
                have hp := remark_long (s := S) (by omega)
                rw [hp.1, hp.2]
                rw [hp.2] at hpp
                obtain rfl := hpp.2 (by decide)
                clear hpp hp r2 r3
                go_wp2_with fail
                refine (works_calls _ hL6.out).mono ?_
                rintro e w7 ⟨rfl, hb7⟩
                go_wp2_with fail
                go_ret
                exact ⟨rfl, hb06.out.trans (hb7.mono hb06.out.size)⟩
              · obtain rfl : more = 0 := by omega
                have hp := remark_parse _ r2.out (by omega)
                rw [hp.1, hp.2]
                rw [hp.2] at hpp
                obtain ⟨pb, rfl⟩ : ∃ a, p = some a := by
                  cases p with
                  | none => exact absurd rfl (hpp.1 rfl)
                  | some a => exact ⟨a, rfl⟩
                clear hpp hp r2 r3
                go_wp2_with fail
                refine (works_calls _ hL6.out).mono ?_
                rintro e w7 ⟨rfl, hb7⟩
                go_wp2_with fail
                go_ret
                exact ⟨rfl, hb06.out.trans (hb7.mono hb06.out.size)⟩
theorem wf_bounds {k : IntKind} {n : Int} (h : (Lit.int k n).wf = true) : k.min ≤ n ∧ n ≤ k.max := by
  simpa [Lit.wf] using h
theorem long_all (a b c : Int) (W : World) (hL : LaidW W) (h0 : IntKind.u16.min ≤ a ∧ a ≤ IntKind.u16.max) (h1 : IntKind.u16.min ≤ b ∧ b ≤ IntKind.u16.max) (h2 : IntKind.u8.min ≤ c ∧ c ≤ IntKind.u8.max) :
    Calls Tryd.prog 12 #[.int .u16 a, .int .u16 b, .int .u8 c] W fun e w' => e = .returned (.bool true) ∧ Below W.heap.size W w' := by
  have k0 : 0 ≤ a ∧ a ≤ 65535 := h0
  have k1 : 0 ≤ b ∧ b ≤ 65535 := h1
  have k2 : 0 ≤ c ∧ c ≤ 255 := h2
  have e0 := Int.tmod_eq_emod_of_nonneg (b := 4100) k0.1
  have e1 := Int.tmod_eq_emod_of_nonneg (b := 4100) k1.1
  have e2 := Int.tmod_eq_emod_of_nonneg (b := 2) k2.1
  exact long_walk a b c (a % 4100).toNat (b % 4100).toNat (c % 2).toNat W hL k0 k1 k2 (Lib.hid (by rw [e0]; omega)) (Lib.hid (by rw [e1]; omega)) (Lib.hid (by rw [e2]; omega)) (Lib.hid (by omega)) (by omega) (by omega) (by omega)
end Go.Proofs.YtibhifjehbajnaaDoor
