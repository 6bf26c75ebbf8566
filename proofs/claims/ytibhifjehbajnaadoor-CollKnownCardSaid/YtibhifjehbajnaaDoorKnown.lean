/- CollKnown: the examples; the walk of the statement. -/
import Derived.Test.YtibhifjehbajnaaDoorOrder
namespace Go.Proofs.YtibhifjehbajnaaDoor
open Go.RowKit Go.Maps
set_option linter.unusedVariables false

def tests : List (ByteArray × Int × Int) := [
  (⟨#[115, 116, 114, 101, 110, 103, 116, 104, 32, 52]⟩, 1, 5), (⟨#[97, 32, 60, 32, 98, 10, 99, 32, 59, 32, 97]⟩, 2, 4), (⟨#[97, 32, 60]⟩, 1, 5), (⟨#[85, 43, 68, 56, 48, 48]⟩, 1, 5),
  (⟨#[115, 116, 114, 101, 110, 103, 116, 104, 32, 49, 10, 10, 115, 116, 114, 101, 110, 103, 116, 104, 32, 49]⟩, 3, 4), (⟨#[97, 32, 97]⟩, 1, 5), (⟨#[105, 103, 110, 111, 114, 101]⟩, 1, 5), (⟨#[105, 103, 110, 111, 114, 101, 32, 60]⟩, 1, 5),
  (⟨#[97, 32, 60, 32, 97, 32, 60, 32, 98, 99]⟩, 1, 5), (⟨#[85, 43, 49, 49, 48, 48, 48, 48]⟩, 1, 5), (⟨#[0]⟩, 0, 10), (⟨#[255]⟩, 0, 10), (⟨#[105, 103, 110, 111, 114, 101, 32, 85, 43, 54, 49, 10, 97]⟩, 2, 4)]
theorem tests_ok : ∀ x ∈ tests, (parseP x.1).1 = x.2.1 ∧ (parseP x.1).2.1 = x.2.2 ∧ x.2.2 ≠ 0 ∧ x.1.size ≤ 1000 := by decide +kernel
def cellsOf (l : List (ByteArray × Int × Int)) : List Value := (l.map fun x => [Value.string x.1, .int .i64 x.2.1, .int .i64 x.2.2]).flatten
theorem chap_k1 : cmpP chapT ⟨#[67]⟩ ⟨#[99, 99]⟩ = -1 := by decide +kernel
theorem chap_k2 : cmpP chapT ⟨#[98]⟩ ⟨#[120]⟩ = -1 := by decide +kernel
theorem chap_k3 : cmpP chapT ⟨#[85]⟩ ⟨#[120]⟩ = -1 := by decide +kernel
def wantN : List Int := [0, 0, 98, 0, 0, 99]
theorem nil_key : keyP t0 ⟨#[97, 98]⟩ = wantN := by decide +kernel

structure TestAt (W : World) (A : Nat) : Prop where
  lt : A < W.heap.size
  at_ : ∀ k, k < 13 → ∃ x ∈ tests, W.cell? ⟨A, k * 3, none⟩ = some (.string x.1) ∧ W.cell? ⟨A, k * 3 + 1, none⟩ = some (.int .i64 x.2.1) ∧ W.cell? ⟨A, k * 3 + 2, none⟩ = some (.int .i64 x.2.2)
theorem tests_at (W : World) : TestAt (W.alloc (.cells (cellsOf tests).toArray 48)) W.heap.size := by
  refine ⟨by simp, fun k hk => ?_⟩
  have hc : ∀ j v, (cellsOf tests)[j]? = some v → (W.alloc (.cells (cellsOf tests).toArray 48)).cell? ⟨W.heap.size, j, none⟩ = some v := fun j v h => by
    rw [World.cell?_alloc_at _ _ _ _ rfl]
    simpa using h
  have hm : ∃ x ∈ tests, (cellsOf tests)[k * 3]? = some (.string x.1) ∧ (cellsOf tests)[k * 3 + 1]? = some (.int .i64 x.2.1) ∧ (cellsOf tests)[k * 3 + 2]? = some (.int .i64 x.2.2) := by
    have hl : k < tests.length := hk
    refine ⟨tests[k], List.getElem_mem _, ?_⟩
    rcases (show k = 0 ∨ k = 1 ∨ k = 2 ∨ k = 3 ∨ k = 4 ∨ k = 5 ∨ k = 6 ∨ k = 7 ∨ k = 8 ∨ k = 9 ∨ k = 10 ∨ k = 11 ∨ k = 12 by omega) with rfl | rfl | rfl | rfl | rfl | rfl | rfl | rfl | rfl | rfl | rfl | rfl | rfl
    all_goals exact ⟨rfl, rfl, rfl⟩
  obtain ⟨x, hx, h0, h1, h2⟩ := hm
  exact ⟨x, hx, hc _ _ h0, hc _ _ h1, hc _ _ h2⟩
theorem TestAt.later {W W' : World} {A : Nat} (h : TestAt W A) (hb : Below W.heap.size W W') : TestAt W' A := by
  refine ⟨Nat.lt_of_lt_of_le h.lt hb.size, fun k hk => ?_⟩
  obtain ⟨x, hx, h0, h1, h2⟩ := h.at_ k hk
  exact ⟨x, hx, (hb.cell (p := ⟨A, k * 3, none⟩) h.lt).trans h0, (hb.cell (p := ⟨A, k * 3 + 1, none⟩) h.lt).trans h1, (hb.cell (p := ⟨A, k * 3 + 2, none⟩) h.lt).trans h2⟩

set_option maxHeartbeats 8000000 in
set_option maxRecDepth 100000 in
theorem known_walk (W : World) (hL : LaidW W) :
    Calls Tryd.prog 9 #[] W fun e w' => e = .returned (.bool true) ∧ Below W.heap.size W w' := by
  go_enter Tryd.func9, Tryd.ntmps9
  go_wp2_with fail
  refine (Parse_calls chapterB W hL (by decide)).mono ?_
  rintro e w1 ⟨hb1, h | h⟩
  rotate_left
  · exact absurd chap_err h.1
  obtain ⟨-, b, m, rfl, hb, hm, hT⟩ := h
  have hRd : TabRd w1 b chapT w1.heap.size := TabAt.rd (t := chapT) hT hT.mapLt.2.1 hT.mapLt.1 (Nat.le_refl _)
  have hG := Lib.hid (gives_some hRd chap_l0 chap_l1 chap_st)
  clear hRd hT hb hm
  go_wp2_with fail
  refine (Compare_calls w1 _ _ hG.out ⟨#[67]⟩ ⟨#[99, 99]⟩ (by decide) (by decide)).mono ?_
  rintro e w2 ⟨rfl, hb2⟩
  rw [chap_k1]
  go_wp2_with fail
  refine (Compare_calls w2 _ _ (hG.out.later hb2) ⟨#[98]⟩ ⟨#[120]⟩ (by decide) (by decide)).mono ?_
  rintro e w3 ⟨rfl, hb3⟩
  rw [chap_k2]
  have hb13 := hb2.trans (hb3.mono hb2.size)
  clear hb2 hb3
  go_wp2_with fail
  refine (Compare_calls w3 _ _ (hG.out.later hb13) ⟨#[85]⟩ ⟨#[120]⟩ (by decide) (by decide)).mono ?_
  rintro e w4 ⟨rfl, hb4⟩
  rw [chap_k3]
  have hbW4 : Below W.heap.size W w4 := hb1.trans ((hb13.trans (hb4.mono hb13.size)).mono hb1.size)
  clear hG hb1 hb13 hb4
  go_wp2
  generalize hW5 : w4.alloc _ = W5
  have hb5 : Below w4.heap.size w4 W5 := by rw [← hW5]; exact (Below.refl _ _).alloc (Nat.le_refl _) _
  have hT5 : TestAt W5 w4.heap.size := by
    have hA : W5 = w4.alloc (.cells (cellsOf tests).toArray 48) := hW5.symm
    rw [hA]
    exact tests_at w4
  clear hW5
  have hbW5 := Lib.hid (hbW4.trans (hb5.mono hbW4.size))
  have hT5 := Lib.hid hT5
  have hq8 : W.heap.size ≤ w4.heap.size := hbW4.size
  obtain ⟨q, hq⟩ : ∃ q, q = w4.heap.size := ⟨_, rfl⟩
  rw [← hq] at hT5 hq8 ⊢
  clear hq hb5 hbW4
  go_loopw [47] (fun i wr => ∃ k : Nat, i = .int .i64 k ∧ k ≤ 13 ∧ Hid (TestAt wr q) ∧ Hid (Below W.heap.size W wr)) (fun i _ => 13 - (intOf i).toNat)
  case atStart => exact ⟨0, rfl, by omega, hT5, hbW5⟩
  case round =>
    obtain ⟨k, rfl, hk, hn, hbw⟩ := hrel
    clear hT5 hbW5
    obtain ⟨wo, hwo⟩ : ∃ wo : World, wo = wr := ⟨_, rfl⟩
    have hL8 := hL.size
    by_cases hlt : k < 13
    · obtain ⟨x, hx, c0, c1, c2⟩ := hn.out.at_ k hlt
      obtain ⟨e1, e2, e3, e4⟩ := tests_ok x hx
      go_wp2_with fail
      obtain ⟨W6, hW6⟩ : ∃ W6, W6 = wr.alloc (.cells #[.string x.1, .int .i64 x.2.1, .int .i64 x.2.2] 48) := ⟨_, rfl⟩
      have hb6 : Below wr.heap.size wr W6 := by rw [hW6]; exact (Below.refl _ _).alloc (Nat.le_refl _) _
      have hlt6 : wr.heap.size < W6.heap.size := by rw [hW6]; exact alloc_lt _ _
      have d1 : W6.cell? ⟨wr.heap.size, 1, none⟩ = some (.int .i64 x.2.1) := by rw [hW6, World.cell?_alloc_at _ _ _ _ rfl]; rfl
      have d2 : W6.cell? ⟨wr.heap.size, 2, none⟩ = some (.int .i64 x.2.2) := by rw [hW6, World.cell?_alloc_at _ _ _ _ rfl]; rfl
      rw [← hW6]
      clear hW6 c0 c1 c2
      have hb06 := hbw.out.trans (hb6.mono hbw.out.size)
      refine (Parse_gives x.1 W6 (hL.below hb06 hL.size) (by omega)).mono ?_
      rintro e w7 ⟨p, rfl, hp, hb7, -⟩
      obtain rfl := hp.2 (by rw [e2]; exact e3)
      rw [e1, e2]
      have f1 : w7.cell? ⟨wr.heap.size, 1, none⟩ = some (.int .i64 x.2.1) := (hb7.cell (p := ⟨wr.heap.size, 1, none⟩) hlt6).trans d1
      have f2 : w7.cell? ⟨wr.heap.size, 2, none⟩ = some (.int .i64 x.2.2) := (hb7.cell (p := ⟨wr.heap.size, 2, none⟩) hlt6).trans d2
      have hb67 := hb6.trans (hb7.mono hb6.size)
      clear hp hb7 d1 d2
      go_wp2
      go_roundw
      case rel => exact ⟨k + 1, by go_num, by omega, hn.out.later hb67, hbw.out.trans (hb67.mono hbw.out.size)⟩
      case measure => simp [intOf]; omega
    · obtain rfl : k = 13 := by omega
      go_wp2_with fail
      refine (gives_nil wr wr (Below.refl _ _) ⟨#[97, 98]⟩ (by decide)).mono ?_
      rintro e w6 ⟨v1, rfl, ho1, hb6⟩
      rw [nil_key] at ho1
      have hr1 := Lib.hid (bytesRd_of ho1)
      have hb06 := hbw.out.trans (hb6.mono hbw.out.size)
      clear ho1 hb6
      go_wp2_with fail
      generalize hW7 : w6.alloc _ = W7
      have hb7 : Below w6.heap.size w6 W7 := by rw [← hW7]; exact (Below.refl _ _).alloc (Nat.le_refl _) _
      have hwant : Hid (BytesRd W7 (.slice (some ⟨w6.heap.size, 0, none⟩) 6 6) wantN) := by
        refine ⟨_, _, _, rfl, rfl, Lib.BytesIn.of_cells (fun i hi => ?_)⟩
        have e : ((⟨w6.heap.size, 0, none⟩ : Addr).add i) = ⟨w6.heap.size, 0 + i, none⟩ := by unfold Addr.add; split <;> simp_all
        have hA : W7 = w6.alloc (.cells (wantN.map (Value.int .u8)).toArray 5) := hW7.symm
        rw [e, hA, World.cell?_alloc_at _ _ _ _ rfl, Nat.zero_add]
        have hi' : i < wantN.length := hi
        simp [List.getD, hi']
      clear hW7
      have hr7 := Lib.hid (hr1.out.below hb7)
      have hb07 := hb06.trans (hb7.mono hb06.size)
      refine (Equal_bytes W7 _ _ _ _ hr7.out hwant.out).mono ?_
      rintro e w8 ⟨rfl, rfl⟩
      rw [beq_self_eq_true]
      go_wp2_with fail
      refine (works_calls _ (hL.below hb07 hL.size)).mono ?_
      rintro e w8 ⟨rfl, hb8⟩
      go_wp2_with fail
      go_ret
      exact ⟨rfl, hb07.trans (hb8.mono hb07.size)⟩

theorem known_all (W : World) (hL : LaidW W) : Calls Tryd.prog 9 #[] W fun e w' => e = .returned (.bool true) ∧ Below W.heap.size W w' := known_walk W hL
end Go.Proofs.YtibhifjehbajnaaDoor
