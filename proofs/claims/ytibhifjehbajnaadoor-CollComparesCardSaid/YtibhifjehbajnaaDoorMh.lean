/- CollParses returns true: the program's Parse beside the reference's. -/
import Derived.Test.YtibhifjehbajnaaDoorMg
import Derived.Test.YtibhifjehbajnaaDoorMc

namespace Go.Proofs.YtibhifjehbajnaaDoor
open Go.RowKit Go.Maps
set_option linter.unusedVariables false

set_option maxHeartbeats 1000000 in
set_option maxRecDepth 100000 in
theorem light_none (text : ByteArray) (W : World) :
    Calls Tryd.prog 14 #[.string text, .slice none 0 0] W fun e w' => e = .returned (.bool (decide (text.size ≤ 2000))) ∧ W = w' := by
  go_enter Tryd.func14, Tryd.ntmps14
  go_wp2
  go_loop [9] (fun i => i = .int .i64 0) (fun i => 0)
  case atStart => rfl
  case round =>
    subst hrel
    go_wp2
    go_ret
    exact ⟨ret_bool (decide_eq_decide.2 (by omega)), rfl⟩

set_option maxHeartbeats 4000000 in
set_option maxRecDepth 100000 in
theorem parses_calls (text : ByteArray) (W : World) (hL : LaidW W) (hz : text.size ≤ maxLen) :
    Calls Tryd.prog 3 #[.string text] W fun e w' => e = .returned (.bool true) ∧ Below W.heap.size W w' := by
  unfold maxLen at hz
  by_cases hs : text.size ≤ 2000
  · have hlc := light_none text W
    rw [decide_eq_true hs] at hlc
    replace hL := Lib.hid hL
    go_enter Tryd.func3, Tryd.ntmps3
    go_wp2_with fail
    refine hlc.mono ?_
    rintro e w1 ⟨rfl, rfl⟩
    clear hlc
    go_wp2_with fail
    refine (Parse_calls text W hL.out (by omega)).mono ?_
    rintro e w1 ⟨hb1, hres⟩
    have hL1 : Hid (LaidW w1) := Lib.hid (hL.out.below hb1 hL.out.size)
    have hR := RParse_calls text w1 hs
    obtain ⟨R, hRR⟩ : ∃ R, R = parseP text := ⟨_, rfl⟩
    have hline : R.2.1 = 0 → R.1 = 0 := fun h => by rw [hRR] at h ⊢; exact parseP_line text h
    rw [← hRR] at hres hR
    clear hRR
    obtain ⟨l, er, T⟩ := R
    simp only at hres hline
    have hR' : Calls Tryd.prog 17 #[.string text] w1 fun e w' => ∃ (L : Option Addr) (n c : Nat) (x0 x1 x2 x3 : Int), e = .returned (.tuple #[.agg #[.slice L n c, .int .i64 x0, .int .i64 x1, .int .i64 x2, .int .i64 x3], .int .i64 l, .int .i64 er]) ∧ Below w1.heap.size w1 w' := hR.mono fun e w' ⟨v, t, he, ho, hb, _⟩ => by
      rcases ho.2 with ⟨hv, _⟩ | ⟨g, cap, cur', hv, _⟩
      · exact ⟨none, 0, 0, _, _, _, _, by rw [← hv]; exact he, hb⟩
      · exact ⟨_, _, _, _, _, _, _, by rw [← hv]; exact he, hb⟩
    clear hR
    rcases hres with ⟨h0, b, m, rfl, -⟩ | ⟨h0, rfl⟩
    · obtain rfl := h0
      obtain rfl := hline rfl
      clear hline
      go_wp2_with fail
      refine hR'.mono ?_
      rintro e w2 ⟨L, n, c, x0, x1, x2, x3, rfl, hb2⟩
      clear hR'
      obtain ⟨W3, hW3⟩ : ∃ W3, W3 = w2.alloc (.cells #[.slice L n c, .int .i64 x0, .int .i64 x1, .int .i64 x2, .int .i64 x3] 31) := ⟨_, rfl⟩
      have hb3 : Below w2.heap.size w2 W3 := by rw [hW3]; exact (Below.refl _ _).alloc (Nat.le_refl _) _
      have hbb : Hid (Below w1.heap.size w1 W3) := Lib.hid (hb2.trans (hb3.mono hb2.size))
      have hL3 : Hid (LaidW W3) := Lib.hid (hL1.out.below hbb.out hL1.out.size)
      clear hb2 hb3
      go_wp2_with fail
      rw [← hW3]
      refine (works_calls _ hL3.out).mono ?_
      rintro e w4 ⟨rfl, hb4⟩
      go_wp2_with fail
      go_ret
      exact ⟨rfl, hb1.trans ((hbb.out.trans (hb4.mono hbb.out.size)).mono hb1.size)⟩
    · have hee : (er == 0) = false := by simpa using h0
      clear hline h0
      go_wp2_with fail
      refine hR'.mono ?_
      rintro e w2 ⟨L, n, c, x0, x1, x2, x3, rfl, hb2⟩
      clear hR'
      obtain ⟨W3, hW3⟩ : ∃ W3, W3 = w2.alloc (.cells #[.slice L n c, .int .i64 x0, .int .i64 x1, .int .i64 x2, .int .i64 x3] 31) := ⟨_, rfl⟩
      have hb3 : Below w2.heap.size w2 W3 := by rw [hW3]; exact (Below.refl _ _).alloc (Nat.le_refl _) _
      have hbb : Hid (Below w1.heap.size w1 W3) := Lib.hid (hb2.trans (hb3.mono hb2.size))
      have hL3 : Hid (LaidW W3) := Lib.hid (hL1.out.below hbb.out hL1.out.size)
      clear hb2 hb3
      go_wp2_with fail
      rw [← hW3]
      refine (works_calls _ hL3.out).mono ?_
      rintro e w4 ⟨rfl, hb4⟩
      go_wp2_with fail
      go_ret
      exact ⟨rfl, hb1.trans ((hbb.out.trans (hb4.mono hbb.out.size)).mono hb1.size)⟩
  · have hlc := light_none text W
    rw [decide_eq_false hs] at hlc
    replace hL := Lib.hid hL
    go_enter Tryd.func3, Tryd.ntmps3
    go_wp2_with fail
    refine hlc.mono ?_
    rintro e w1 ⟨rfl, rfl⟩
    go_wp2_with fail
    refine (works_calls _ hL.out).mono ?_
    rintro e w2 ⟨rfl, hb2⟩
    go_wp2_with fail
    go_ret
    exact ⟨rfl, hb2⟩
end Go.Proofs.YtibhifjehbajnaaDoor
