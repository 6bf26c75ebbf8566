/- strconv.ParseUint at base 16 and 32 bits, for one to six bytes: the number that hexadecimal digits stand for, or an error. -/
import Derived.Test.YtibhifjehbajnaaDoorCollPure
import Derived.Lib.ConvBytes
import Derived.Laws.BitsLemmas
namespace Go.Proofs.YtibhifjehbajnaaDoor
open Go.RowKit Go.Maps
set_option linter.unusedVariables false

def low (n : Nat) : Int := bits .or .u8 (n : Int) 32
theorem low_hex : ∀ n, n < 256 → ((65 ≤ n ∧ n ≤ 70) → low n = n + 32) ∧ ((97 ≤ n ∧ n ≤ 102) → low n = n) ∧ ((¬ (48 ≤ n ∧ n ≤ 57) ∧ ¬ (65 ≤ n ∧ n ≤ 70) ∧ ¬ (97 ≤ n ∧ n ≤ 102)) → ¬ (97 ≤ low n ∧ low n ≤ 102)) := by decide +kernel
theorem hexDigit_lt {c : UInt8} {d : Nat} (h : hexDigit c = some d) : d ≤ 15 := by
  unfold hexDigit at h
  split at h
  · injection h; omega
  · split at h
    · injection h; omega
    · split at h
      · injection h; omega
      · cases h

/-- What internal/strconv.ParseUint hands back. -/
def hexV : Option Nat → Value
  | some n => .tuple #[.int .u64 n, .nilIface]
  | none => .tuple #[.int .u64 0, .iface 141 (.int .i64 2)]

set_option maxHeartbeats 8000000 in
set_option maxRecDepth 100000 in
theorem hex_calls (t : ByteArray) (hne : t.size ≠ 0) (h6 : t.size ≤ 6) (w : World) :
    Calls Tryd.prog 105 #[.string t, .int .i64 16, .int .i64 32] w fun e w' => e = .returned (hexV (hexFrom 0 t.data.toList)) ∧ w' = Lib.bytesWorld w 5 t := by
  have hemp : t.toList.isEmpty = false := by
    rw [← decide_eq_emptyBytes]
    exact decide_eq_false (fun h => hne (by rw [h]; rfl))
  have hcv := Lib.run_convert_string_bytes (P := Tryd.prog) w 9 35 5 t (u := .string) Tryd.underlying9 Tryd.underlying35 Tryd.underlying5
  have hB : ∀ j, j < t.size → (Lib.bytesWorld w 5 t).cell? ⟨w.heap.size, j, none⟩ = some (.int .u8 (t.data.toList.getD j 0).toNat) := fun j hj => Lib.bytesWorld_cell w 5 t j hj
  obtain ⟨W1, hW1⟩ : ∃ W1, W1 = Lib.bytesWorld w 5 t := ⟨_, rfl⟩
  rw [← hW1] at hcv hB ⊢
  clear hW1
  obtain ⟨bs, hL⟩ : ∃ bs, bs = t.data.toList := ⟨_, rfl⟩
  have hLn : bs.length = t.size := by rw [hL, Lib.size_eq]
  rw [← hL] at hB ⊢
  clear hL
  have hmv : IntKind.u64.wrap (IntKind.u64.wrap 4294967296 - 1) = 4294967295 := by
    rw [IntKind.wrap_u64, IntKind.wrap_u64]
    decide
  go_enter Tryd.func105, Tryd.ntmps105
  go_wp2
  go_loop [12, 13, 101] (fun vu vn vi => ∃ (k acc : Nat) (a : Int), vu = .bool false ∧ vn = .int .u64 a ∧ vi = .int .i64 k ∧ k ≤ t.size ∧ Hid (a = (acc : Int) ∧ acc < 16 ^ k ∧ hexFrom 0 bs = hexFrom acc (bs.drop k)))
    (fun _ _ vi => t.size - (intOf vi).toNat)
  case atStart => exact ⟨0, 0, 0, rfl, rfl, rfl, by omega, rfl, by omega, rfl⟩
  case round =>
    obtain ⟨k, acc, a, rfl, rfl, rfl, hk, hh⟩ := hrel
    obtain ⟨ha, hacc, hdec⟩ := hh.out
    clear hh
    by_cases hkn : k < t.size
    · have hpw : 16 ^ k ≤ 16 ^ 5 := Nat.pow_le_pow_right (by omega) (by omega)
      have hac2 : acc < 1048576 := by omega
      have hps : 16 ^ (k + 1) = 16 * 16 ^ k := by rw [Nat.pow_succ]; omega
      have a0 : 0 ≤ a := by omega
      have a1 : a < 1048576 := by omega
      have hc := hB k hkn
      have hdrop : bs.drop k = bs[k]'(by omega) :: bs.drop (k + 1) := List.drop_eq_getElem_cons (by omega)
      have hget : bs.getD k 0 = bs[k]'(by omega) := by simp [List.getD, List.getElem?_eq_getElem (show k < bs.length by omega)]
      rw [hdrop] at hdec
      rw [hget] at hc
      generalize bs[k]'(by omega) = c at hc hdec
      have hc256 : c.toNat < 256 := c.toNat_lt
      obtain ⟨lw1, lw2, lw3⟩ := low_hex c.toNat hc256
      clear hB hdrop hget
      by_cases hdig : 48 ≤ c.toNat ∧ c.toNat ≤ 57
      · obtain ⟨hd0, hd1⟩ := hdig
        have hx : hexDigit c = some (c.toNat - 48) := by simp [hexDigit, hd0, hd1]
        have hF : hexFrom acc (c :: bs.drop (k + 1)) = hexFrom (16 * acc + (c.toNat - 48)) (bs.drop (k + 1)) := by simp [hexFrom, hx]
        have HN : Hid (a * 16 + ((c.toNat : Int) - 48) = ((16 * acc + (c.toNat - 48) : Nat) : Int) ∧ 16 * acc + (c.toNat - 48) < 16 ^ (k + 1) ∧ hexFrom 0 bs = hexFrom (16 * acc + (c.toNat - 48)) (bs.drop (k + 1))) := Lib.hid ⟨by omega, by omega, hdec.trans hF⟩
        clear hF hdec ha hx hps hpw hacc hac2 lw1 lw2 lw3
        go_wp2
        refine ⟨⟨k + 1, 16 * acc + (c.toNat - 48), a * 16 + ((c.toNat : Int) - 48), rfl, (by first | rfl | (congr 1; omega)), (by first | rfl | (congr 1; omega)), by omega, HN⟩, by simp [intOf]; omega⟩
      · by_cases hl1 : 65 ≤ c.toNat ∧ c.toNat ≤ 70
        · have hb : bits .or .u8 (c.toNat : Int) 32 = (c.toNat : Int) + 32 := by have := lw1 hl1; exact this
          obtain ⟨hd0, hd1⟩ := hl1
          have hx : hexDigit c = some (c.toNat - 55) := by
            unfold hexDigit
            rw [if_neg hdig, if_pos ⟨hd0, hd1⟩]
          have hF : hexFrom acc (c :: bs.drop (k + 1)) = hexFrom (16 * acc + (c.toNat - 55)) (bs.drop (k + 1)) := by simp [hexFrom, hx]
          have HN : Hid (16 * acc + (c.toNat - 55) < 16 ^ (k + 1) ∧ hexFrom 0 bs = hexFrom (16 * acc + (c.toNat - 55)) (bs.drop (k + 1))) := Lib.hid ⟨by omega, hdec.trans hF⟩
          have HA := Lib.hid ha
          clear hF hdec ha hx hps hpw hacc hac2 lw1 lw2 lw3 hdig
          go_wp2_with (go_at_call 110; refine (Tryd.internal_strconv_lower _ _).mono ?_; rintro e w' ⟨rfl, rfl⟩)
          have HA := HA.out
          refine ⟨⟨k + 1, 16 * acc + (c.toNat - 55), _, rfl, rfl, (by first | rfl | (congr 1; omega)), by omega, by omega, HN.out⟩, by simp [intOf]; omega⟩
        · by_cases hl2 : 97 ≤ c.toNat ∧ c.toNat ≤ 102
          · have hb : bits .or .u8 (c.toNat : Int) 32 = (c.toNat : Int) := by have := lw2 hl2; exact this
            obtain ⟨hd0, hd1⟩ := hl2
            have hx : hexDigit c = some (c.toNat - 87) := by
              unfold hexDigit
              rw [if_neg hdig, if_neg hl1, if_pos ⟨hd0, hd1⟩]
            have hF : hexFrom acc (c :: bs.drop (k + 1)) = hexFrom (16 * acc + (c.toNat - 87)) (bs.drop (k + 1)) := by simp [hexFrom, hx]
            have HN : Hid (16 * acc + (c.toNat - 87) < 16 ^ (k + 1) ∧ hexFrom 0 bs = hexFrom (16 * acc + (c.toNat - 87)) (bs.drop (k + 1))) := Lib.hid ⟨by omega, hdec.trans hF⟩
            have HA := Lib.hid ha
            clear hF hdec ha hx hps hpw hacc hac2 lw1 lw2 lw3 hdig
            go_wp2_with (go_at_call 110; refine (Tryd.internal_strconv_lower _ _).mono ?_; rintro e w' ⟨rfl, rfl⟩)
            have HA := HA.out
            refine ⟨⟨k + 1, 16 * acc + (c.toNat - 87), _, rfl, rfl, (by first | rfl | (congr 1; omega)), by omega, by omega, HN.out⟩, by simp [intOf]; omega⟩
          · have hx : hexDigit c = none := by
              unfold hexDigit
              rw [if_neg hdig, if_neg hl1, if_neg hl2]
            have hF : hexFrom acc (c :: bs.drop (k + 1)) = none := by simp [hexFrom, hx]
            rw [hF] at hdec
            have hq := lw3 ⟨hdig, hl1, hl2⟩
            obtain ⟨v, hv⟩ : ∃ v, v = bits .or .u8 (c.toNat : Int) 32 := ⟨_, rfl⟩
            have hv0 := bits_lo_u8 .or (c.toNat : Int) 32
            have hv1 := bits_hi_u8 .or (c.toNat : Int) 32
            unfold low at hq
            rw [← hv] at hq hv0 hv1
            have hb := hv.symm
            clear hv hF hx hps hpw hacc hac2 lw1 lw2 lw3 ha
            have hdec' := Lib.hid hdec
            clear hdec hl1 hl2
            go_wp2_with (go_at_call 110; refine (Tryd.internal_strconv_lower _ _).mono ?_; rintro e w' ⟨rfl, rfl⟩)
            all_goals first | (exfalso; omega) | (go_ret2; exact ⟨by rw [hdec'.out]; rfl, rfl⟩)
    · have hkk : k = t.size := by omega
      subst hkk
      have hF : hexFrom acc (bs.drop t.size) = some acc := by rw [List.drop_eq_nil_of_le (by omega)]; rfl
      rw [hF] at hdec
      subst ha
      have hdec' := Lib.hid hdec
      clear hacc hF hdec
      go_wp2
      go_ret2
      exact ⟨by rw [hdec'.out]; rfl, rfl⟩
end Go.Proofs.YtibhifjehbajnaaDoor
