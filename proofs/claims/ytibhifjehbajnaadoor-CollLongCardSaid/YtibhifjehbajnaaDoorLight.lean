/- The function light of package chisellaw03, walked. -/
import Derived.Test.YtibhifjehbajnaaDoorLawCom
namespace Go.Proofs.YtibhifjehbajnaaDoor
open Go.RowKit Go.Maps
set_option linter.unusedVariables false

set_option maxHeartbeats 1000000 in
set_option maxRecDepth 100000 in
theorem light_calls (text : ByteArray) (ws : List ByteArray) (A : Nat) (W : World) (hw : StrsAt W A 0 ws) (hn : ws.length ≤ 1000) :
    Calls Tryd.prog 14 #[.string text, .slice (some ⟨A, 0, none⟩) ws.length ws.length] W fun e w' => e = .returned (.bool (lightB text ws)) ∧ W = w' := by
  go_enter Tryd.func14, Tryd.ntmps14
  go_wp2
  go_loop [9] (fun i => ∃ k : Nat, i = .int .i64 k ∧ k ≤ ws.length ∧ Hid (∀ j (h : j < ws.length), j < k → (ws[j]'h).size ≤ 200)) (fun i => ws.length - (intOf i).toNat)
  case atStart => exact ⟨0, rfl, Nat.zero_le _, fun j h hj => by omega⟩
  case round =>
    obtain ⟨k, rfl, hk, hh⟩ := hrel
    by_cases hlt : k < ws.length
    · have hc := hw.at_ k hlt
      rw [Nat.zero_add] at hc
      obtain ⟨x, hx⟩ : ∃ x, x = ws[k] := ⟨_, rfl⟩
      rw [← hx] at hc
      by_cases hz : x.size ≤ 200
      · have hh2 : Hid (∀ j (h : j < ws.length), j < k + 1 → (ws[j]'h).size ≤ 200) := fun j h hj => by
          rcases Nat.lt_or_ge j k with h1 | h1
          · exact hh.out j h h1
          · obtain rfl : j = k := by omega
            rw [← hx]; exact hz
        clear hx
        go_wp2
        refine ⟨⟨k + 1, by go_num, by omega, hh2⟩, by simp [intOf]; omega⟩
      · have hf : Hid (lightB text ws = false) := by
          show _ = _
          unfold lightB
          rw [Bool.and_eq_false_iff]
          left
          rw [List.all_eq_false]
          exact ⟨x, by rw [hx]; exact List.getElem_mem _, by simpa using hz⟩
        clear hx
        go_wp2
        go_ret
        exact ⟨ret_bool hf.out.symm, rfl⟩
    · have hf : Hid (lightB text ws = decide (text.size ≤ 2000)) := by
        show _ = _
        unfold lightB
        rw [List.all_eq_true.2 (fun x hx => ?_), Bool.true_and]
        obtain ⟨j, hj, rfl⟩ := List.getElem_of_mem hx
        simpa using hh.out j hj (by omega)
      go_wp2
      go_ret
      exact ⟨ret_bool (by rw [hf.out]; exact decide_eq_decide.2 (by omega)), rfl⟩
end Go.Proofs.YtibhifjehbajnaaDoor
