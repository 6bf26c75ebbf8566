/- chisellaw06.digits: a number in at least so many digits. -/
import Derived.Test.YtjndcehkgfbagaaGreatDoorNi
import Derived.Laws.BytesString
import Derived.Laws.Cells
namespace Go.Proofs.YtjndcehkgfbagaaGreatDoor
open Go.RowKit NumP DurP Go.Proofs.YtjndcehkgfbagaaGreatDoorW.PrintWords
set_option linter.unusedVariables false

def dgP (n least : Nat) : List UInt8 := fixD (max least (lenD n)) n
theorem fixD_cons : ∀ k n, fixD (k + 1) n = UInt8.ofNat (48 + n / 10 ^ k % 10) :: fixD k n
  | 0, n => by simp [fixD]
  | k + 1, n => by
    have ih := fixD_cons k (n / 10)
    show fixD (k + 1) (n / 10) ++ [UInt8.ofNat (48 + n % 10)] = _
    rw [ih, List.cons_append, Nat.div_div_eq_div_mul, Nat.mul_comm 10, ← Nat.pow_succ]; rfl
/-- A string of one byte, made of a slice of bytes. -/
theorem one_byte (w : World) (n : Nat) (h : n < 256) : (convert 60 9 (.slice (some ⟨w.heap.size, 0, none⟩) 1 1)).run Tryz.prog (w.alloc (.cells #[.int .u8 (n : Int)] 5)) = .ok (.string ⟨#[UInt8.ofNat n]⟩) (w.alloc (.cells #[.int .u8 (n : Int)] 5)) := by
  rw [run_convert_bytes_string (P := Tryz.prog) _ 60 9 5 _ 1 1 Tryz.underlying60 Tryz.underlying5 Tryz.underlying9]
  have h1 : (loadCells ⟨w.heap.size, 0, none⟩ 1).run Tryz.prog (w.alloc (.cells #[.int .u8 (n : Int)] 5)) = .ok (([(n : Int)]).map (Value.int .u8)).toArray (w.alloc (.cells #[.int .u8 (n : Int)] 5)) :=
    run_loadCells_list _ ⟨w.heap.size, 0, none⟩ [.int .u8 (n : Int)] fun j v hj => by
      match j, hj with
      | 0, hj =>
        rw [show (Addr.add ⟨w.heap.size, 0, none⟩ 0) = ⟨w.heap.size, 0, none⟩ from rfl, World.cell?_alloc_at _ _ _ _ rfl]
        simpa using hj
  rw [run_bytesToString _ _ 1 1 [(n : Int)] h1]
  rfl
set_option maxRecDepth 100000 in
set_option maxHeartbeats 2000000 in
theorem digs_d (n least : Nat) (W : World) (hn : n < 1000000000000000) (hl : least ≤ 6) : Calls Tryz.prog 24 #[.int .i64 (n : Int), .int .i64 (least : Int)] W fun e w' => e = .returned (.string ⟨(dgP n least).toArray⟩) ∧ Below W.heap.size W w' := by
  obtain ⟨K, hK⟩ : ∃ K, K = max least (lenD n) := ⟨_, rfl⟩
  have hK15 : K ≤ 15 := by have := (lenD_le n 15).2 hn; omega
  have hKl : Hid (least ≤ K ∧ ∀ k, n < 10 ^ k → least ≤ k → K ≤ k) := Lib.hid ⟨by omega, fun k h1 h2 => by have := (lenD_le n k).2 h1; omega⟩
  have hR : Hid (dgP n least = fixD K n) := Lib.hid (by rw [hK]; rfl)
  have hlK : least ≤ K := by omega
  have hKn : Hid (n < 10 ^ K) := Lib.hid ((lenD_le n K).1 (by omega))
  clear hK
  go_enter Tryz.func24, Tryz.ntmps24
  go_wp2_with fail
  go_loopw [0, 5] (fun nv sv wr => ∃ (k m : Nat) (S : ByteArray), nv = .int .i64 (m : Int) ∧ sv = .string S ∧ k ≤ K ∧ S.size = k ∧ m ≤ n ∧ Hid (m = n / 10 ^ k) ∧ Hid (S.data.toList = fixD k n) ∧ Hid (Below W.heap.size W wr)) (fun _ sv _ => K - strSize sv)
  case atStart => exact ⟨0, n, ⟨#[]⟩, rfl, rfl, Nat.zero_le _, rfl, Nat.le_refl _, Lib.hid (by simp), Lib.hid rfl, Lib.hid (Below.refl _ _)⟩
  case round =>
    obtain ⟨k, m, S, rfl, rfl, hk, hS, hmn, hm, hSd, hb⟩ := hrel
    by_cases hlt : k < K
    · rcases Nat.eq_zero_or_pos m with h0 | h0
      · have hkl : k < least := by
          rcases Nat.lt_or_ge k least with h | h
          · exact h
          · have h1 : n < 10 ^ k := by
              rcases Nat.lt_or_ge n (10 ^ k) with h2 | h2
              · exact h2
              · have := Nat.div_pos h2 (Nat.pow_pos (by decide)); have := hm.out; omega
            have := hKl.out.2 k h1 h; omega
        subst h0
        have hcv : (convert 60 9 (.slice (some ⟨wr.heap.size, 0, none⟩) 1 1)).run Tryz.prog (wr.alloc (.cells #[.int .u8 48] 5)) = .ok (.string ⟨#[48]⟩) (wr.alloc (.cells #[.int .u8 48] 5)) := one_byte wr 48 (by decide)
        have hcd : Hid (((⟨#[48]⟩ : ByteArray) ++ S).data.toList = fixD (k + 1) n) := Lib.hid (by rw [ByteArray.data_append, fixD_cons, ← hm.out, ← hSd.out]; simp)
        have hm10 : Hid (0 = n / 10 ^ (k + 1)) := Lib.hid (by rw [Nat.pow_succ, ← Nat.div_div_eq_div_mul, ← hm.out])
        have hj : (9223372036854775807 < (⟨#[48]⟩ : ByteArray).size + S.size) = False := eq_false (by show ¬ (_ < 1 + S.size); omega)
        have hj2 : (9223372036854775807 < 1 + S.size) = False := eq_false (by omega)
        have g2 : ((S.size : Int) < (least : Int)) := by omega
        have g3 : ((k : Int) < (least : Int)) := by omega
        have hS1 : (⟨#[48]⟩ ++ S : ByteArray).size = k + 1 := by rw [size_app, hS]; show 1 + k = k + 1; omega
        replace hS1 := Lib.hid hS1
        go_wp2_with fail
        exact ⟨⟨k + 1, 0, _, rfl, rfl, by omega, hS1.out, Nat.zero_le _, hm10, hcd, Lib.hid (hb.out.alloc hb.out.size _)⟩, by show K - (⟨#[48]⟩ ++ S : ByteArray).size < K - S.size; rw [hS1.out]; omega⟩
      · have hcv := one_byte wr (48 + m % 10) (by omega)
        obtain ⟨c, hc⟩ : ∃ c : ByteArray, c = ⟨#[UInt8.ofNat (48 + m % 10)]⟩ := ⟨_, rfl⟩
        rw [← hc] at hcv
        have hcs : c.size = 1 := by rw [hc]; rfl
        have hcd : Hid ((c ++ S).data.toList = fixD (k + 1) n) := Lib.hid (by rw [ByteArray.data_append, fixD_cons, ← hm.out, ← hSd.out, hc]; simp)
        have hm10 : Hid (m / 10 = n / 10 ^ (k + 1)) := Lib.hid (by rw [hm.out, Nat.div_div_eq_div_mul, ← Nat.pow_succ])
        have hj : (9223372036854775807 < c.size + S.size) = False := eq_false (by omega)
        have hS1 : Hid ((c ++ S).size = k + 1) := Lib.hid (by rw [size_app, hS, hcs]; omega)
        have g1 : (m : Int) > 0 := by omega
        replace hc := Lib.hid hc
        rw [show ((48 + m % 10 : Nat) : Int) = 48 + (m : Int) % 10 by push_cast; rfl] at hcv
        go_wp2_with fail
        exact ⟨⟨k + 1, m / 10, _, by first | rfl | simp, rfl, by omega, hS1.out, by omega, hm10, hcd, Lib.hid (hb.out.alloc hb.out.size _)⟩, by show K - (c ++ S : ByteArray).size < K - S.size; rw [hS1.out]; omega⟩
    · have hkK : k = K := by omega
      have h0 : m = 0 := by rw [hm.out, hkK]; exact Nat.div_eq_of_lt hKn.out
      subst h0
      have hSe : Hid (S = ⟨(dgP n least).toArray⟩) := Lib.hid (data_inj (by rw [hSd.out, hR.out, hkK]))
      have g2 : ¬ ((S.size : Int) < (least : Int)) := by omega
      have g3 : ¬ ((k : Int) < (least : Int)) := by omega
      replace hkK := Lib.hid hkK
      go_wp2_with fail
      go_ret
      exact ⟨by rw [← hSe.out]; rfl, hb.out⟩
end Go.Proofs.YtjndcehkgfbagaaGreatDoor
