/- DurKnown: the examples of the chapter; the walk of the statement. -/
import Derived.Test.YtjndcehkgfbagaaGreatDoorNi
namespace Go.Proofs.YtjndcehkgfbagaaGreatDoor
open Go.RowKit NumP DurP Go.Proofs.YtjndcehkgfbagaaGreatDoorW.PrintWords
set_option linter.unusedVariables false

def testsM : List (ByteArray × Int × Int) := [(⟨#[45, 80, 49, 77]⟩, (-1), 0), (⟨#[80, 48, 89]⟩, 0, 0), (⟨#[80, 48, 50, 52, 77]⟩, 24, 0), (⟨#[80]⟩, 0, 5), (⟨#[80, 49, 77, 50, 89]⟩, 0, 5), (⟨#[80, 49, 68]⟩, 0, 5), (⟨#[]⟩, 0, 5), (⟨#[45, 80]⟩, 0, 5), (⟨#[80, 49]⟩, 0, 5), (⟨#[80, 45, 49, 77]⟩, 0, 5), (⟨#[49, 77]⟩, 0, 5), (⟨#[80, 49, 46, 53, 77]⟩, 0, 5), (⟨#[32, 80, 49, 77]⟩, 0, 5), (⟨#[80, 57, 57, 57, 57, 57, 57, 57, 57, 57, 57, 77]⟩, 9999999999, 0), (⟨#[80, 49, 48, 48, 48, 48, 48, 48, 48, 48, 48, 48, 77]⟩, 0, 6), (⟨#[80, 56, 51, 51, 51, 51, 51, 51, 51, 51, 89, 51, 77]⟩, 9999999999, 0), (⟨#[80, 56, 51, 51, 51, 51, 51, 51, 51, 51, 89, 52, 77]⟩, 0, 6), (⟨#[112, 49, 109]⟩, 0, 5), (⟨#[80, 49, 89, 50]⟩, 0, 5), (⟨#[45, 45, 80, 49, 77]⟩, 0, 5)]
def testsS : List (ByteArray × ByteArray × Int) := [(⟨#[45, 80, 84, 48, 46, 48, 83]⟩, ⟨#[48]⟩, 0), (⟨#[80, 84, 57, 48, 77]⟩, ⟨#[53, 52, 48, 48]⟩, 0), (⟨#[80, 84]⟩, ⟨#[]⟩, 5), (⟨#[80, 49, 68, 84]⟩, ⟨#[]⟩, 5), (⟨#[80, 84, 46, 53, 83]⟩, ⟨#[]⟩, 5), (⟨#[80, 84, 49, 46, 83]⟩, ⟨#[]⟩, 5), (⟨#[80, 49, 68]⟩, ⟨#[56, 54, 52, 48, 48]⟩, 0), (⟨#[45, 80, 84, 49, 46, 53, 83]⟩, ⟨#[45, 49, 46, 53]⟩, 0), (⟨#[80, 49, 77]⟩, ⟨#[]⟩, 5), (⟨#[80, 84, 49, 83, 49, 77]⟩, ⟨#[]⟩, 5), (⟨#[80, 84, 49, 46, 53, 77]⟩, ⟨#[]⟩, 5), (⟨#[80, 49, 68, 84, 48, 46, 48, 48, 48, 48, 48, 48, 48, 48, 48, 48, 48, 48, 48, 48, 48, 48, 48, 48, 48, 48, 53, 83]⟩, ⟨#[56, 54, 52, 48, 48]⟩, 0), (⟨#[80, 49, 68, 84, 48, 46, 48, 48, 48, 48, 48, 48, 48, 48, 48, 48, 48, 48, 48, 48, 48, 48, 48, 48, 48, 49, 53, 83]⟩, ⟨#[56, 54, 52, 48, 48, 46, 48, 48, 48, 48, 48, 48, 48, 48, 48, 48, 48, 48, 48, 48, 48, 48, 48, 48, 48, 50]⟩, 0), (⟨#[80, 49, 50, 48, 48, 48, 48, 48, 48, 48, 48, 48, 48, 48, 48, 48, 48, 48, 48, 48, 48, 48, 48, 48, 48, 48, 48, 68]⟩, ⟨#[]⟩, 40), (⟨#[80, 84, 57, 57, 57, 57, 57, 57, 57, 57, 57, 57, 57, 57, 57, 57, 57, 57, 57, 57, 57, 57, 57, 57, 57, 57, 57, 57, 57, 57, 57, 57, 83]⟩, ⟨#[57, 57, 57, 57, 57, 57, 57, 57, 57, 57, 57, 57, 57, 57, 57, 57, 57, 57, 57, 57, 57, 57, 57, 57, 57, 57, 57, 57, 57, 57]⟩, 0), (⟨#[80, 84, 57, 57, 57, 57, 57, 57, 57, 57, 57, 57, 57, 57, 57, 57, 57, 57, 57, 57, 57, 57, 57, 57, 57, 57, 57, 57, 57, 57, 57, 57, 46, 57, 57, 57, 57, 57, 57, 57, 57, 57, 57, 57, 57, 57, 57, 57, 57, 57, 57, 57, 57, 57, 83]⟩, ⟨#[]⟩, 40)]
theorem testsM_ok : ∀ x ∈ testsM, monthsP x.1.data.toList = (x.2.1, x.2.2) ∧ x.1.size ≤ 1000 := by decide +kernel
theorem testsS_ok : ∀ x ∈ testsS, secondsP x.1.data.toList = (x.2.1.data.toList, x.2.2) ∧ x.1.size ≤ 1000 := by decide +kernel
def cM1 : Array Value := #[.string ⟨#[45, 80, 49, 77]⟩, .string ⟨#[80, 48, 89]⟩, .string ⟨#[80, 48, 50, 52, 77]⟩, .string ⟨#[80]⟩, .string ⟨#[80, 49, 77, 50, 89]⟩, .string ⟨#[80, 49, 68]⟩, .string ⟨#[]⟩, .string ⟨#[45, 80]⟩, .string ⟨#[80, 49]⟩, .string ⟨#[80, 45, 49, 77]⟩, .string ⟨#[49, 77]⟩, .string ⟨#[80, 49, 46, 53, 77]⟩, .string ⟨#[32, 80, 49, 77]⟩, .string ⟨#[80, 57, 57, 57, 57, 57, 57, 57, 57, 57, 57, 77]⟩, .string ⟨#[80, 49, 48, 48, 48, 48, 48, 48, 48, 48, 48, 48, 77]⟩, .string ⟨#[80, 56, 51, 51, 51, 51, 51, 51, 51, 51, 89, 51, 77]⟩, .string ⟨#[80, 56, 51, 51, 51, 51, 51, 51, 51, 51, 89, 52, 77]⟩, .string ⟨#[112, 49, 109]⟩, .string ⟨#[80, 49, 89, 50]⟩, .string ⟨#[45, 45, 80, 49, 77]⟩]
def cM2 : Array Value := #[.int .i64 (-1), .int .i64 0, .int .i64 24, .int .i64 0, .int .i64 0, .int .i64 0, .int .i64 0, .int .i64 0, .int .i64 0, .int .i64 0, .int .i64 0, .int .i64 0, .int .i64 0, .int .i64 9999999999, .int .i64 0, .int .i64 9999999999, .int .i64 0, .int .i64 0, .int .i64 0, .int .i64 0]
def cM3 : Array Value := #[.int .i64 0, .int .i64 0, .int .i64 0, .int .i64 5, .int .i64 5, .int .i64 5, .int .i64 5, .int .i64 5, .int .i64 5, .int .i64 5, .int .i64 5, .int .i64 5, .int .i64 5, .int .i64 0, .int .i64 6, .int .i64 0, .int .i64 6, .int .i64 5, .int .i64 5, .int .i64 5]
def cS1 : Array Value := #[.string ⟨#[45, 80, 84, 48, 46, 48, 83]⟩, .string ⟨#[80, 84, 57, 48, 77]⟩, .string ⟨#[80, 84]⟩, .string ⟨#[80, 49, 68, 84]⟩, .string ⟨#[80, 84, 46, 53, 83]⟩, .string ⟨#[80, 84, 49, 46, 83]⟩, .string ⟨#[80, 49, 68]⟩, .string ⟨#[45, 80, 84, 49, 46, 53, 83]⟩, .string ⟨#[80, 49, 77]⟩, .string ⟨#[80, 84, 49, 83, 49, 77]⟩, .string ⟨#[80, 84, 49, 46, 53, 77]⟩, .string ⟨#[80, 49, 68, 84, 48, 46, 48, 48, 48, 48, 48, 48, 48, 48, 48, 48, 48, 48, 48, 48, 48, 48, 48, 48, 48, 48, 53, 83]⟩, .string ⟨#[80, 49, 68, 84, 48, 46, 48, 48, 48, 48, 48, 48, 48, 48, 48, 48, 48, 48, 48, 48, 48, 48, 48, 48, 48, 49, 53, 83]⟩, .string ⟨#[80, 49, 50, 48, 48, 48, 48, 48, 48, 48, 48, 48, 48, 48, 48, 48, 48, 48, 48, 48, 48, 48, 48, 48, 48, 48, 48, 68]⟩, .string ⟨#[80, 84, 57, 57, 57, 57, 57, 57, 57, 57, 57, 57, 57, 57, 57, 57, 57, 57, 57, 57, 57, 57, 57, 57, 57, 57, 57, 57, 57, 57, 57, 57, 83]⟩, .string ⟨#[80, 84, 57, 57, 57, 57, 57, 57, 57, 57, 57, 57, 57, 57, 57, 57, 57, 57, 57, 57, 57, 57, 57, 57, 57, 57, 57, 57, 57, 57, 57, 57, 46, 57, 57, 57, 57, 57, 57, 57, 57, 57, 57, 57, 57, 57, 57, 57, 57, 57, 57, 57, 57, 57, 83]⟩]
def cS2 : Array Value := #[.string ⟨#[48]⟩, .string ⟨#[53, 52, 48, 48]⟩, .string ⟨#[]⟩, .string ⟨#[]⟩, .string ⟨#[]⟩, .string ⟨#[]⟩, .string ⟨#[56, 54, 52, 48, 48]⟩, .string ⟨#[45, 49, 46, 53]⟩, .string ⟨#[]⟩, .string ⟨#[]⟩, .string ⟨#[]⟩, .string ⟨#[56, 54, 52, 48, 48]⟩, .string ⟨#[56, 54, 52, 48, 48, 46, 48, 48, 48, 48, 48, 48, 48, 48, 48, 48, 48, 48, 48, 48, 48, 48, 48, 48, 48, 50]⟩, .string ⟨#[]⟩, .string ⟨#[57, 57, 57, 57, 57, 57, 57, 57, 57, 57, 57, 57, 57, 57, 57, 57, 57, 57, 57, 57, 57, 57, 57, 57, 57, 57, 57, 57, 57, 57]⟩, .string ⟨#[]⟩]
def cS3 : Array Value := #[.int .i64 0, .int .i64 0, .int .i64 5, .int .i64 5, .int .i64 5, .int .i64 5, .int .i64 0, .int .i64 0, .int .i64 5, .int .i64 5, .int .i64 5, .int .i64 0, .int .i64 0, .int .i64 40, .int .i64 0, .int .i64 40]
theorem cM_at : ∀ k, k < 20 → ∃ x ∈ testsM, cM1[k]? = some (.string x.1) ∧ cM2[k]? = some (.int .i64 x.2.1) ∧ cM3[k]? = some (.int .i64 x.2.2) := fun k hk => by
  have hl : k < testsM.length := hk
  refine ⟨testsM[k], List.getElem_mem _, ?_⟩
  rcases (show k = 0 ∨ k = 1 ∨ k = 2 ∨ k = 3 ∨ k = 4 ∨ k = 5 ∨ k = 6 ∨ k = 7 ∨ k = 8 ∨ k = 9 ∨ k = 10 ∨ k = 11 ∨ k = 12 ∨ k = 13 ∨ k = 14 ∨ k = 15 ∨ k = 16 ∨ k = 17 ∨ k = 18 ∨ k = 19 by omega) with rfl | rfl | rfl | rfl | rfl | rfl | rfl | rfl | rfl | rfl | rfl | rfl | rfl | rfl | rfl | rfl | rfl | rfl | rfl | rfl
  all_goals exact ⟨rfl, rfl, rfl⟩
theorem cS_at : ∀ k, k < 16 → ∃ x ∈ testsS, cS1[k]? = some (.string x.1) ∧ cS2[k]? = some (.string x.2.1) ∧ cS3[k]? = some (.int .i64 x.2.2) := fun k hk => by
  have hl : k < testsS.length := hk
  refine ⟨testsS[k], List.getElem_mem _, ?_⟩
  rcases (show k = 0 ∨ k = 1 ∨ k = 2 ∨ k = 3 ∨ k = 4 ∨ k = 5 ∨ k = 6 ∨ k = 7 ∨ k = 8 ∨ k = 9 ∨ k = 10 ∨ k = 11 ∨ k = 12 ∨ k = 13 ∨ k = 14 ∨ k = 15 by omega) with rfl | rfl | rfl | rfl | rfl | rfl | rfl | rfl | rfl | rfl | rfl | rfl | rfl | rfl | rfl | rfl
  all_goals exact ⟨rfl, rfl, rfl⟩
/-- Three tables, laid one behind another. -/
theorem three_tables (W : World) (a b c : Array Value) (s t u : TypeId) : ∃ W3, W3 = ((W.alloc (.cells a s)).alloc (.cells b t)).alloc (.cells c u) ∧ Below W.heap.size W W3 ∧ W3.heap.size = W.heap.size + 3 ∧
    (∀ k v, a[k]? = some v → W3.cell? ⟨W.heap.size, k, none⟩ = some v) ∧ (∀ k v, b[k]? = some v → W3.cell? ⟨W.heap.size + 1, k, none⟩ = some v) ∧ (∀ k v, c[k]? = some v → W3.cell? ⟨W.heap.size + 2, k, none⟩ = some v) := by
  refine ⟨_, rfl, ?_, by simp, fun k v h => ?_, fun k v h => ?_, fun k v h => ?_⟩
  · exact (((Below.refl _ _).alloc (Nat.le_refl _) _).alloc (by simp) _).alloc (by simp; omega) _
  · have e1 : (W.alloc (.cells a s)).cell? ⟨W.heap.size, k, none⟩ = some v := by rw [World.cell?_alloc_at _ _ _ _ rfl]; simpa using h
    have b1 : Below (W.alloc (.cells a s)).heap.size (W.alloc (.cells a s)) (((W.alloc (.cells a s)).alloc (.cells b t)).alloc (.cells c u)) := ((Below.refl _ _).alloc (Nat.le_refl _) _).alloc (by simp) _
    exact (b1.cell (p := ⟨W.heap.size, k, none⟩) (by simp)).trans e1
  · have e1 : ((W.alloc (.cells a s)).alloc (.cells b t)).cell? ⟨W.heap.size + 1, k, none⟩ = some v := by rw [World.cell?_alloc_at _ _ _ _ (by simp)]; simpa using h
    have b1 : Below ((W.alloc (.cells a s)).alloc (.cells b t)).heap.size ((W.alloc (.cells a s)).alloc (.cells b t)) (((W.alloc (.cells a s)).alloc (.cells b t)).alloc (.cells c u)) := (Below.refl _ _).alloc (Nat.le_refl _) _
    exact (b1.cell (p := ⟨W.heap.size + 1, k, none⟩) (by simp)).trans e1
  · rw [World.cell?_alloc_at _ _ _ _ (by simp)]; simpa using h
theorem k_0 : textMP (-12) = ([45, 80, 49, 89], 0) := by decide +kernel
theorem k_1 : textMP 0 = ([80, 48, 77], 0) := by decide +kernel
theorem k_2 : textMP 10000000000 = ([], 6) := by decide +kernel
theorem k_3 : textSP [45, 56, 54, 52, 48, 48] = ([45, 80, 49, 68], 0) := by decide +kernel
theorem k_4 : textSP [48, 46, 48, 48, 49] = ([80, 84, 48, 46, 48, 48, 49, 83], 0) := by decide +kernel
theorem k_5 : textSP [48] = ([80, 84, 48, 83], 0) := by decide +kernel
theorem k_6 : textSP [45, 48] = ([], 1) := by decide +kernel
theorem k_7 : textSP [51, 54, 54, 49] = ([80, 84, 49, 72, 49, 77, 49, 83], 0) := by decide +kernel
set_option maxRecDepth 100000 in
set_option maxHeartbeats 8000000 in
theorem known_walk (W : World) (hL : LaidD W) : Calls Tryz.prog 11 #[] W fun e w' => e = .returned (.bool true) ∧ Below W.heap.size W w' := by
  obtain ⟨W3, hW3, hb3, hs3, t1, t2, t3⟩ := three_tables W cM1 cM2 cM3 9 3 22
  have hM : Hid (∀ k, k < 20 → ∃ x ∈ testsM, W3.cell? ⟨W.heap.size, k, none⟩ = some (.string x.1) ∧ W3.cell? ⟨W.heap.size + 1, k, none⟩ = some (.int .i64 x.2.1) ∧ W3.cell? ⟨W.heap.size + 2, k, none⟩ = some (.int .i64 x.2.2)) := Lib.hid fun k hk => by
    obtain ⟨x, hx, h1, h2, h3⟩ := cM_at k hk
    exact ⟨x, hx, t1 _ _ h1, t2 _ _ h2, t3 _ _ h3⟩
  clear t1 t2 t3
  unfold cM1 cM2 cM3 at hW3
  replace hb3 := Lib.hid hb3
  replace hs3 := Lib.hid hs3
  replace hL := Lib.hid hL
  go_enter Tryz.func11, Tryz.ntmps11
  go_wp2_with fail
  rw [← hW3]
  clear hW3
  go_loopw [4] (fun i wr => ∃ k : Nat, i = .int .i64 k ∧ k ≤ 20 ∧ Hid (Below W3.heap.size W3 wr)) (fun i _ => 20 - (intOf i).toNat)
  case atStart => exact ⟨0, rfl, by decide, Lib.hid (Below.refl _ _)⟩
  case round =>
    obtain ⟨k, rfl, hk, hbr⟩ := hrel
    by_cases hlt : k < 20
    · obtain ⟨⟨s, n, e⟩, hx, q1, q2, q3⟩ := hM.out k hlt
      obtain ⟨h1, h2⟩ := testsM_ok _ hx
      have c1 := ParseMonths_at (s := s) rfl h1 wr (by show _ ≤ 2 ^ 63 - 1; exact Nat.le_trans h2 (by decide))
      have hr1 : wr.cell? ⟨W.heap.size, k, none⟩ = some (.string s) := (hbr.out.cell (p := ⟨W.heap.size, k, none⟩) (by rw [hs3.out]; show W.heap.size < _; omega)).trans q1
      have hr2 := Lib.hid ((show W3.cell? ⟨W.heap.size + 1, k, none⟩ = some (.int .i64 n) from q2))
      have hr3 := Lib.hid ((show W3.cell? ⟨W.heap.size + 2, k, none⟩ = some (.int .i64 e) from q3))
      clear hx q1 q2 q3 h1 h2
      go_wp2_with fail
      refine c1.mono ?_
      rintro e' w5 ⟨rfl, hb5⟩
      have hb35 := hbr.out.trans (hb5.mono hbr.out.size)
      have r2 : w5.cell? ⟨W.heap.size + 1, k, none⟩ = some (.int .i64 n) := (hb35.cell (p := ⟨W.heap.size + 1, k, none⟩) (by rw [hs3.out]; show W.heap.size + 1 < _; omega)).trans hr2.out
      have r3 : w5.cell? ⟨W.heap.size + 2, k, none⟩ = some (.int .i64 e) := (hb35.cell (p := ⟨W.heap.size + 2, k, none⟩) (by rw [hs3.out]; show W.heap.size + 2 < _; omega)).trans hr3.out
      replace hb35 := Lib.hid hb35
      clear hb5 hr1 c1
      go_wp2_with fail
      exact ⟨⟨k + 1, by simp, by omega, hb35⟩, by simp [intOf]; omega⟩
    · have hk20 : ¬ ((k : Int) < 20) := by omega
      have hbW := Lib.hid (hb3.out.trans (hbr.out.mono hb3.out.size))
      have hL1 := Lib.hid (hL.out.below hbW.out hL.out.num.size)
      obtain ⟨V, hV, hc3, hu3, t1, t2, t3⟩ := three_tables wr cS1 cS2 cS3 9 9 22
      have hS : Hid (∀ k, k < 16 → ∃ x ∈ testsS, V.cell? ⟨wr.heap.size, k, none⟩ = some (.string x.1) ∧ V.cell? ⟨wr.heap.size + 1, k, none⟩ = some (.string x.2.1) ∧ V.cell? ⟨wr.heap.size + 2, k, none⟩ = some (.int .i64 x.2.2)) := Lib.hid fun k hk => by
        obtain ⟨x, hx, h1, h2, h3⟩ := cS_at k hk
        exact ⟨x, hx, t1 _ _ h1, t2 _ _ h2, t3 _ _ h3⟩
      clear t1 t2 t3 hM hlt
      unfold cS1 cS2 cS3 at hV
      obtain ⟨g, hg⟩ : ∃ g, g = wr.heap.size := ⟨_, rfl⟩
      rw [← hg] at hS hu3
      have hbV := Lib.hid (hbW.out.trans (hc3.mono hbW.out.size))
      have hLV := Lib.hid (hL.out.below hbV.out hL.out.num.size)
      replace hc3 := Lib.hid hc3
      replace hu3 := Lib.hid hu3
      go_wp2_with fail
      rw [← hV, ← hg]
      clear hV
      replace hg := Lib.hid hg
      go_loopw [10] (fun i wq => ∃ k : Nat, i = .int .i64 k ∧ k ≤ 16 ∧ Hid (Below V.heap.size V wq)) (fun i _ => 16 - (intOf i).toNat)
      case atStart => exact ⟨0, rfl, by decide, Lib.hid (Below.refl _ _)⟩
      case round =>
        obtain ⟨j, rfl, hj, hbq⟩ := hrel
        by_cases hlt : j < 16
        · obtain ⟨⟨s, t, e⟩, hx, q1, q2, q3⟩ := hS.out j hlt
          obtain ⟨h1, h2⟩ := testsS_ok _ hx
          have hLr := hLV.out.below hbq.out hLV.out.num.size
          have c1 := ParseSeconds_at (s := s) (t := t) rfl rfl h1 wr hLr (by show _ ≤ 2 ^ 63 - 1; exact Nat.le_trans h2 (by decide))
          have hr1 : wr.cell? ⟨g, j, none⟩ = some (.string s) := (hbq.out.cell (p := ⟨g, j, none⟩) (by rw [hu3.out]; show g < _; omega)).trans q1
          have hr2 := Lib.hid ((show V.cell? ⟨g + 1, j, none⟩ = some (.string t) from q2))
          have hr3 := Lib.hid ((show V.cell? ⟨g + 2, j, none⟩ = some (.int .i64 e) from q3))
          clear hx q1 q2 q3 h1 h2 hLr
          go_wp2_with fail
          refine c1.mono ?_
          rintro e' w5 ⟨rfl, hb5⟩
          have hb35 := hbq.out.trans (hb5.mono hbq.out.size)
          have r2 : w5.cell? ⟨g + 1, j, none⟩ = some (.string t) := (hb35.cell (p := ⟨g + 1, j, none⟩) (by rw [hu3.out]; show g + 1 < _; omega)).trans hr2.out
          have r3 : w5.cell? ⟨g + 2, j, none⟩ = some (.int .i64 e) := (hb35.cell (p := ⟨g + 2, j, none⟩) (by rw [hu3.out]; show g + 2 < _; omega)).trans hr3.out
          replace hb35 := Lib.hid hb35
          clear hb5 hr1 c1
          go_wp2_with fail
          exact ⟨⟨j + 1, by simp, by omega, hb35⟩, by simp [intOf]; omega⟩
        · have hj16 : ¬ ((j : Int) < 16) := by omega
          have hb0 := Lib.hid (hbV.out.trans (hbq.out.mono hbV.out.size))
          have hL0 := Lib.hid (hL.out.below hb0.out hL.out.num.size)
          clear hS hlt
          go_wp2_with fail
          refine (TextMonths_at (t := ⟨#[45, 80, 49, 89]⟩) rfl k_0 wr hL0.out).mono ?_
          rintro e w1 ⟨rfl, hc⟩
          have hb1 := Lib.hid (hb0.out.trans (hc.mono hb0.out.size))
          have hL1 := Lib.hid (hL.out.below hb1.out hL.out.num.size)
          clear hc
          go_wp2_with fail
          refine (TextMonths_at (t := ⟨#[80, 48, 77]⟩) rfl k_1 w1 hL1.out).mono ?_
          rintro e w2 ⟨rfl, hc⟩
          have hb2 := Lib.hid (hb1.out.trans (hc.mono hb1.out.size))
          have hL2 := Lib.hid (hL.out.below hb2.out hL.out.num.size)
          clear hc
          go_wp2_with fail
          refine (TextMonths_at (t := ⟨#[]⟩) rfl k_2 w2 hL2.out).mono ?_
          rintro e w3 ⟨rfl, hc⟩
          have hb3 := Lib.hid (hb2.out.trans (hc.mono hb2.out.size))
          have hL3 := Lib.hid (hL.out.below hb3.out hL.out.num.size)
          clear hc
          go_wp2_with fail
          refine (TextSeconds_at (s := ⟨#[45, 56, 54, 52, 48, 48]⟩) (t := ⟨#[45, 80, 49, 68]⟩) rfl rfl k_3 w3 hL3.out (by decide)).mono ?_
          rintro e w4 ⟨rfl, hc⟩
          have hb4 := Lib.hid (hb3.out.trans (hc.mono hb3.out.size))
          have hL4 := Lib.hid (hL.out.below hb4.out hL.out.num.size)
          clear hc
          go_wp2_with fail
          refine (TextSeconds_at (s := ⟨#[48, 46, 48, 48, 49]⟩) (t := ⟨#[80, 84, 48, 46, 48, 48, 49, 83]⟩) rfl rfl k_4 w4 hL4.out (by decide)).mono ?_
          rintro e w5 ⟨rfl, hc⟩
          have hb5 := Lib.hid (hb4.out.trans (hc.mono hb4.out.size))
          have hL5 := Lib.hid (hL.out.below hb5.out hL.out.num.size)
          clear hc
          go_wp2_with fail
          refine (TextSeconds_at (s := ⟨#[48]⟩) (t := ⟨#[80, 84, 48, 83]⟩) rfl rfl k_5 w5 hL5.out (by decide)).mono ?_
          rintro e w6 ⟨rfl, hc⟩
          have hb6 := Lib.hid (hb5.out.trans (hc.mono hb5.out.size))
          have hL6 := Lib.hid (hL.out.below hb6.out hL.out.num.size)
          clear hc
          go_wp2_with fail
          refine (TextSeconds_at (s := ⟨#[45, 48]⟩) (t := ⟨#[]⟩) rfl rfl k_6 w6 hL6.out (by decide)).mono ?_
          rintro e w7 ⟨rfl, hc⟩
          have hb7 := Lib.hid (hb6.out.trans (hc.mono hb6.out.size))
          have hL7 := Lib.hid (hL.out.below hb7.out hL.out.num.size)
          clear hc
          go_wp2_with fail
          refine (TextSeconds_at (s := ⟨#[51, 54, 54, 49]⟩) (t := ⟨#[80, 84, 49, 72, 49, 77, 49, 83]⟩) rfl rfl k_7 w7 hL7.out (by decide)).mono ?_
          rintro e w8 ⟨rfl, hc⟩
          have hb8 := Lib.hid (hb7.out.trans (hc.mono hb7.out.size))
          have hL8 := Lib.hid (hL.out.below hb8.out hL.out.num.size)
          clear hc
          go_wp2_with fail
          refine (works_calls w8 hL8.out).mono ?_
          rintro e w9 ⟨rfl, hc⟩
          go_wp2_with fail
          go_ret
          exact ⟨rfl, hb8.out.trans (hc.mono hb8.out.size)⟩
end Go.Proofs.YtjndcehkgfbagaaGreatDoor
