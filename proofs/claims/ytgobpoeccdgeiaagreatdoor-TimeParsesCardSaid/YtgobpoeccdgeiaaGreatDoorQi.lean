/- Package dur: ParseSeconds, the plain part. Package dur: ParseSeconds. Package dur: the walk of ParseSeconds (printed by gensec.py). The examples that every statement on durations checks besides (the function works of package chisellaw06): they hold. Package dur: plain laws of the forms: parts, months, signs. Package dur: plain laws of the forms: seconds. -/
import Derived.Test.YtgobpoeccdgeiaaGreatDoorQh
import Derived.Laws.AppendOwnNone
import Derived.Test.YtgobpoeccdgeiaaGreatDoorQg

namespace Go.Proofs.YtgobpoeccdgeiaaGreatDoor
open Go.RowKit NumP DurP Go.Proofs.YtgobpoeccdgeiaaGreatDoorW.PrintWords
set_option linter.unusedVariables false

end Go.Proofs.YtgobpoeccdgeiaaGreatDoor

namespace Go.Proofs.YtgobpoeccdgeiaaGreatDoor
open Go.RowKit NumP DurP Go.Proofs.YtgobpoeccdgeiaaGreatDoorW.PrintWords
set_option linter.unusedVariables false

end Go.Proofs.YtgobpoeccdgeiaaGreatDoor

namespace Go.Proofs.YtgobpoeccdgeiaaGreatDoor
open Go.RowKit NumP DurP Go.Proofs.YtgobpoeccdgeiaaGreatDoorW.PrintWords
set_option linter.unusedVariables false

end Go.Proofs.YtgobpoeccdgeiaaGreatDoor

namespace Go.Proofs.YtgobpoeccdgeiaaGreatDoor
open Go.RowKit NumP DurP Go.Proofs.YtgobpoeccdgeiaaGreatDoorW.PrintWords
set_option linter.unusedVariables false

end Go.Proofs.YtgobpoeccdgeiaaGreatDoor

namespace Go.Proofs.YtgobpoeccdgeiaaGreatDoor.DurP
open NumP Go.Proofs.YtgobpoeccdgeiaaGreatDoor
set_option linter.unusedVariables false

def Dig (q : List UInt8) : Prop := ∀ c ∈ q, isDig c = true
theorem digN_app {q r : List UInt8} (hq : Dig q) (hr : ∀ c, r.head? = some c → isDig c = false) : digN (q ++ r) = q.length := by
  unfold digN
  rw [List.takeWhile_append_of_pos hq]
  cases r with
  | nil => simp
  | cons c r => rw [List.takeWhile_cons, if_neg (by rw [hr c rfl]; decide)]; simp
theorem dig_nil : Dig [] := fun _ h => by cases h
theorem decF_dig : ∀ f n, n < 10 ^ (f + 1) → Dig (decF f n) ∧ decF f n ≠ [] ∧ valD (decF f n) = n
  | 0, n, h => by
    refine ⟨fun c hc => ?_, by simp [decF], ?_⟩
    · rw [decF] at hc; rw [List.mem_singleton.1 hc]; exact isDig_nat n (by simpa using h)
    · rw [decF, valD_one, dig_nat n (by simpa using h)]; omega
  | f + 1, n, h => by
    rw [decF]
    split
    · rename_i h10
      refine ⟨fun c hc => ?_, by simp, ?_⟩
      · rw [List.mem_singleton.1 hc]; exact isDig_nat n h10
      · rw [valD_one, dig_nat n h10]; omega
    · have ih := decF_dig f (n / 10) (by rw [Nat.pow_succ] at h; omega)
      have hm : n % 10 < 10 := Nat.mod_lt _ (by decide)
      refine ⟨fun c hc => ?_, by simp, ?_⟩
      · rcases List.mem_append.1 hc with h | h
        · exact ih.1 c h
        · rw [List.mem_singleton.1 h]; exact isDig_nat _ hm
      · rw [valD_app, ih.2.2, valD_one, dig_nat _ hm]
        show n / 10 * 10 ^ 1 + _ = _
        omega
theorem decF_short : ∀ f n k, n < 10 ^ (k + 1) → (decF f n).length ≤ k + 1
  | 0, n, k, _ => by simp [decF]
  | f + 1, n, k, h => by
    rw [decF]
    split
    · simp
    · rename_i h10
      cases k with
      | zero => exact absurd h (by simpa using h10)
      | succ k =>
        have := decF_short f (n / 10) k (by rw [Nat.pow_succ] at h; omega)
        rw [List.length_append]
        show _ + 1 ≤ _
        omega
theorem decP_dig {n : Nat} (h : n < 10 ^ 21) : Dig (decP n) ∧ decP n ≠ [] ∧ valD (decP n) = n := decF_dig 20 n h
end Go.Proofs.YtgobpoeccdgeiaaGreatDoor.DurP

namespace Go.Proofs.YtgobpoeccdgeiaaGreatDoor.DurP
open NumP Go.Proofs.YtgobpoeccdgeiaaGreatDoor
set_option linter.unusedVariables false

/-- The text of a number that is not negative. -/
def tx (d : Nat) : List UInt8 := textN ⟨false, d⟩
theorem good_pos {d : Nat} (h : d < P50) : NumP.Good ⟨false, d⟩ := ⟨h, fun h => by cases h⟩
theorem tx_zero : [48] = tx 0 := by decide +kernel
theorem tx_parts (d : Nat) : ∃ w f : List UInt8, w ≠ [] ∧ tx d = w ++ dot f ∧ Dig w ∧ Dig f ∧ f.length ≤ 20 ∧ w.length = max 21 (lenD d) - 20 ∧ (d % P20 = 0 → f = []) := by
  obtain ⟨w, f, h1, h2, h3, h4, h5, h6, h7, h8, h9⟩ := text_parts ⟨false, d⟩
  exact ⟨w, f, h1, h2, h3, h4, h5, h7, h8⟩
theorem tx_head (d : Nat) : (tx d).head? ≠ some 45 := by
  obtain ⟨w, f, h1, h2, h3, h4, h5, h6, h7⟩ := tx_parts d
  rw [h2]
  cases w with
  | nil => exact absurd rfl h1
  | cons c w =>
    have := dig_ne (h3 c (List.mem_cons_self ..)) (k := 45) (by decide)
    simp [this]
theorem tx_neg (d : Nat) : textN ⟨true, d⟩ = 45 :: tx d := by unfold tx textN; simp
/-- The digits of a part. -/
def pt (d : Nat) : List UInt8 := if d = 0 then [] else tx d
end Go.Proofs.YtgobpoeccdgeiaaGreatDoor.DurP
