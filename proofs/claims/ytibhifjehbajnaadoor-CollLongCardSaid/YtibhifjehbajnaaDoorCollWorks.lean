/- The examples that every statement on collations checks besides (the function works of package chisellaw03): they hold. -/
import Derived.Test.YtibhifjehbajnaaDoorCollCmp
namespace Go.Proofs.YtibhifjehbajnaaDoor
open Go.RowKit Go.Maps
set_option linter.unusedVariables false

def chapterB : ByteArray := ⟨#[105, 103, 110, 111, 114, 101, 32, 45, 10, 97, 32, 44, 32, 65, 32, 60, 32, 98, 32, 60, 32, 99, 32, 59, 32, 85, 43, 69, 55, 32, 44, 32, 67]⟩
def chapT : CT := (parseP chapterB).2.2
theorem chap_line : (parseP chapterB).1 = 0 := by decide +kernel
theorem chap_err : (parseP chapterB).2.1 = 0 := by decide +kernel
def wantK : List Int := [0, 0, 2, 0, 0, 1, 0, 0, 0, 0, 0, 1, 0, 0, 2, 0, 0, 0, 0, 0, 1, 0, 0, 1]
theorem chap_key : keyP chapT ⟨#[45, 98, 65]⟩ = wantK := by decide +kernel
theorem chap_c1 : cmpP chapT ⟨#[97, 98]⟩ ⟨#[65, 97]⟩ = 1 := by decide +kernel
theorem chap_c2 : cmpP chapT ⟨#[97]⟩ ⟨#[65]⟩ = -1 := by decide +kernel
theorem chap_c3 : cmpP chapT ⟨#[97, 45, 98]⟩ ⟨#[97, 98]⟩ = 0 := by decide +kernel
theorem chap_l0 : 0 ≤ chapT.last.1 := by decide +kernel
theorem chap_l1 : chapT.last.1 ≤ 1000000 := by decide +kernel
theorem chap_st : chapT.st ≤ 3 := by decide +kernel

set_option maxRecDepth 100000 in
set_option maxHeartbeats 2000000 in
theorem works_calls (W : World) (hL : LaidW W) : Calls Tryd.prog 15 #[] W fun e w' => e = .returned (.bool true) ∧ Below W.heap.size W w' := by
  go_enter Tryd.func15, Tryd.ntmps15
  go_wp2_with fail
  refine (Parse_calls chapterB W hL (by decide)).mono ?_
  rintro e w1 ⟨hb1, h | h⟩
  rotate_left
  · exact absurd chap_err h.1
  obtain ⟨-, b, m, rfl, hb, hm, hT⟩ := h
  have hRd : TabRd w1 b chapT w1.heap.size := TabAt.rd (t := chapT) hT hT.mapLt.2.1 hT.mapLt.1 (Nat.le_refl _)
  have hG := Lib.hid (gives_some hRd chap_l0 chap_l1 chap_st)
  clear hRd hT hb hm
  go_wp2_with fail
  generalize hW2 : w1.alloc _ = W2
  have hb2 : Below w1.heap.size w1 W2 := by rw [← hW2]; exact (Below.refl _ _).alloc (Nat.le_refl _) _
  have hwant : Hid (BytesRd W2 (.slice (some ⟨w1.heap.size, 0, none⟩) 24 24) wantK) := by
    refine ⟨_, _, _, rfl, rfl, Lib.BytesIn.of_cells (fun i hi => ?_)⟩
    have e : ((⟨w1.heap.size, 0, none⟩ : Addr).add i) = ⟨w1.heap.size, 0 + i, none⟩ := by unfold Addr.add; split <;> simp_all
    have hA : W2 = w1.alloc (.cells (wantK.map (Value.int .u8)).toArray 5) := hW2.symm
    rw [e, hA, World.cell?_alloc_at _ _ _ _ rfl, Nat.zero_add]
    have hi' : i < wantK.length := hi
    simp [List.getD, hi']
  clear hW2
  have hlt2 := hb2.size
  refine (hG.out _ hb2 ⟨#[45, 98, 65]⟩ (by decide)).mono ?_
  rintro e w3 ⟨v3, rfl, ho3, hb3⟩
  rw [chap_key] at ho3
  have hr3 := Lib.hid (bytesRd_of ho3)
  have hw3 := Lib.hid (hwant.out.below hb3)
  have hb13 : Below w1.heap.size w1 w3 := hb2.trans (hb3.mono hb2.size)
  clear ho3 hwant hb2 hb3
  go_wp2_with fail
  refine (Equal_bytes w3 _ _ _ _ hr3.out hw3.out).mono ?_
  rintro e w4 ⟨rfl, rfl⟩
  have he : (Lib.bytesOf wantK == Lib.bytesOf wantK) = true := by simp
  rw [he]
  go_wp2_with fail
  refine (Compare_calls w3 _ _ (hG.out.later hb13) ⟨#[97, 98]⟩ ⟨#[65, 97]⟩ (by decide) (by decide)).mono ?_
  rintro e w4 ⟨rfl, hb4⟩
  rw [chap_c1]
  go_wp2_with fail
  refine (Compare_calls w4 _ _ ((hG.out.later hb13).later hb4) ⟨#[97]⟩ ⟨#[65]⟩ (by decide) (by decide)).mono ?_
  rintro e w5 ⟨rfl, hb5⟩
  rw [chap_c2]
  go_wp2_with fail
  refine (Compare_calls w5 _ _ (((hG.out.later hb13).later hb4).later hb5) ⟨#[97, 45, 98]⟩ ⟨#[97, 98]⟩ (by decide) (by decide)).mono ?_
  rintro e w6 ⟨rfl, hb6⟩
  rw [chap_c3]
  go_wp2_with fail
  go_ret
  exact ⟨rfl, ((((hb1.trans (hb13.mono hb1.size)).trans (hb4.mono (by have := hb1.size; have := hb13.size; omega))).trans (hb5.mono (by have := hb1.size; have := hb13.size; have := hb4.size; omega))).trans (hb6.mono (by have := hb1.size; have := hb13.size; have := hb4.size; have := hb5.size; omega)))⟩
end Go.Proofs.YtibhifjehbajnaaDoor
