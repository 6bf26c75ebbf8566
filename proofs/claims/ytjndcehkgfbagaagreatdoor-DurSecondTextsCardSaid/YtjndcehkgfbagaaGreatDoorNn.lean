/- DurSecondsBack: a number of seconds is read from its canonical text; chiselref06.Canonical; the walk of the statement. Package chiselref06: TextSeconds. DurSecondTexts: numbers of seconds are written as the document says: the walk. -/
import Derived.Test.YtjndcehkgfbagaaGreatDoorNl
import Derived.Test.YtjndcehkgfbagaaGreatDoorNi
import Derived.Test.YtjndcehkgfbagaaGreatDoorNm
import Derived.Deep.Cut

namespace Go.Proofs.YtjndcehkgfbagaaGreatDoor
open Go.RowKit NumP DurP Go.Proofs.YtjndcehkgfbagaaGreatDoorW.PrintWords
set_option linter.unusedVariables false

/-- Whether a text is the canonical one of a number. -/
def canB (l : List UInt8) : Bool := decide ((parseT l).2 = 0) && decide ((parseT l).1 = l)
set_option maxRecDepth 100000 in
set_option maxHeartbeats 2000000 in
theorem Canon_r (s : ByteArray) (W : World) (hs : s.size ≤ maxLen) : Calls Tryz.prog 22 #[.string s] W fun e w' => e = .returned (.bool (canB s.data.toList)) ∧ Below W.heap.size W w' := by
  have hpa := Parse_r s W hs
  unfold OutE at hpa
  obtain ⟨b, hb⟩ : ∃ b, b = canB s.data.toList := ⟨_, rfl⟩
  rw [← hb]
  unfold canB at hb
  obtain ⟨k, hk⟩ : ∃ k, k = (parseT s.data.toList).2 := ⟨_, rfl⟩
  obtain ⟨t, ht⟩ : ∃ t, t = (parseT s.data.toList).1 := ⟨_, rfl⟩
  rw [← hk, ← ht] at hpa hb
  replace hk := Lib.hid hk
  replace ht := Lib.hid ht
  by_cases hk0 : k = 0
  · have g1 : (k == 0) = true := by simpa using hk0
    by_cases h1 : t = s.data.toList
    · have g2 : (t == s.toList) = true := by rw [ByteArray.toList_eq]; simpa using h1
      have hbt : b = true := by rw [hb]; simp [hk0, h1]
      clear hb
      subst hbt
      replace h1 := Lib.hid h1
      replace hk0 := Lib.hid hk0
      go_enter Tryz.func22, Tryz.ntmps22
      go_wp2_with fail
      refine hpa.mono ?_
      rintro e w2 ⟨rfl, hb2⟩
      go_wp2_with fail
      go_ret
      exact ⟨rfl, hb2⟩
    · have g2 : (t == s.toList) = false := by rw [ByteArray.toList_eq]; simpa using h1
      have hbt : b = false := by rw [hb]; simp [h1]
      clear hb
      subst hbt
      replace h1 := Lib.hid h1
      replace hk0 := Lib.hid hk0
      go_enter Tryz.func22, Tryz.ntmps22
      go_wp2_with fail
      refine hpa.mono ?_
      rintro e w2 ⟨rfl, hb2⟩
      go_wp2_with fail
      go_ret
      exact ⟨rfl, hb2⟩
  · have g1 : (k == 0) = false := by simpa using hk0
    have hbt : b = false := by rw [hb]; simp [hk0]
    clear hb
    subst hbt
    replace hk0 := Lib.hid hk0
    go_enter Tryz.func22, Tryz.ntmps22
    go_wp2_with fail
    refine hpa.mono ?_
    rintro e w2 ⟨rfl, hb2⟩
    go_wp2_with fail
    go_ret
    exact ⟨rfl, hb2⟩
theorem canB_no {l : List UInt8} (h : canB l = false) : textSP l = ([], 1) := by
  refine textSP_no ?_
  unfold canB at h
  rw [Bool.and_eq_false_iff] at h
  rcases h with h | h
  · exact .inl (by simpa using h)
  · exact .inr (by simpa using h)
end Go.Proofs.YtjndcehkgfbagaaGreatDoor

namespace Go.Proofs.YtjndcehkgfbagaaGreatDoor
open Go.RowKit NumP DigP DurP Go.Proofs.YtjndcehkgfbagaaGreatDoorW.PrintWords
set_option linter.unusedVariables false

/-- A text with a number and a letter behind it, if the number is not 0. -/
def optB (O D : ByteArray) (c : UInt8) : ByteArray := if D.data.toList = [48] then O else O ++ D ++ ⟨#[c]⟩
theorem optB_list (O D : ByteArray) (c : UInt8) : (optB O D c).data.toList = O.data.toList ++ (if D.data.toList = [48] then [] else D.data.toList ++ [c]) := by
  unfold optB
  split
  · simp
  · simp [ByteArray.data_append]
theorem optB_size (O D : ByteArray) (c : UInt8) (n : Nat) (hD : D.size ≤ 60) (h : O.size ≤ n) : (optB O D c).size ≤ n + 61 := by
  unfold optB
  split
  · omega
  · rw [ByteArray.size_append, ByteArray.size_append]
    show O.size + D.size + 1 ≤ _
    omega
theorem out_box {r : List UInt8 × Int} {W : World} {e : Ending} {w' : World} {D : ByteArray} {k : Int} (hD : D = ⟨r.1.toArray⟩) (hk : k = r.2) (h : OutE W r e w') : e = .returned (.tuple #[.string D, .int .i64 k]) ∧ Below W.heap.size W w' := by
  subst hD hk; exact h
set_option maxHeartbeats 4000000 in
set_option maxRecDepth 100000 in
theorem textS_rest (mi : Bool) (s : ByteArray) (W : World) (L : List UInt8) (hmi : mi = (s.data.toList.head? == some 45)) (hL : L = (if mi = true then s.data.toList.drop 1 else s.data.toList)) (hs0 : 0 < s.size) (hs : s.size ≤ 60)
    (h48 : s.data.toList ≠ [48]) (hc : Calls Tryz.prog 22 #[.string s] W fun e w' => e = .returned (.bool true) ∧ Below W.heap.size W w') :
    Calls Tryz.prog 21 #[.string s] W (OutE W (secT mi L, 0)) := by
  obtain ⟨LB, hLB⟩ : ∃ LB : ByteArray, LB = ⟨L.toArray⟩ := ⟨_, rfl⟩
  have hLl : LB.data.toList = L := by rw [hLB]
  have hLs : LB.size ≤ 60 := by
    rw [← list_len, hLl, hL]
    have := list_len s
    split
    · rw [List.length_drop]; omega
    · omega
  obtain ⟨M1, hM1⟩ : ∃ M : ByteArray, M = ⟨(modT L [56, 54, 52, 48, 48]).1.toArray⟩ := ⟨_, rfl⟩
  obtain ⟨m1, hm1⟩ : ∃ k, k = (modT L [56, 54, 52, 48, 48]).2 := ⟨_, rfl⟩
  obtain ⟨D1, hD1⟩ : ∃ M : ByteArray, M = ⟨(idivT L [56, 54, 52, 48, 48]).1.toArray⟩ := ⟨_, rfl⟩
  obtain ⟨d1, hd1⟩ : ∃ k, k = (idivT L [56, 54, 52, 48, 48]).2 := ⟨_, rfl⟩
  have hM1l : M1.data.toList = (modT L [56, 54, 52, 48, 48]).1 := by rw [hM1]
  obtain ⟨M2, hM2⟩ : ∃ M : ByteArray, M = ⟨(modT M1.data.toList [51, 54, 48, 48]).1.toArray⟩ := ⟨_, rfl⟩
  obtain ⟨m2, hm2⟩ : ∃ k, k = (modT M1.data.toList [51, 54, 48, 48]).2 := ⟨_, rfl⟩
  obtain ⟨D2, hD2⟩ : ∃ M : ByteArray, M = ⟨(idivT M1.data.toList [51, 54, 48, 48]).1.toArray⟩ := ⟨_, rfl⟩
  obtain ⟨d2, hd2⟩ : ∃ k, k = (idivT M1.data.toList [51, 54, 48, 48]).2 := ⟨_, rfl⟩
  have hM2l : M2.data.toList = (modT M1.data.toList [51, 54, 48, 48]).1 := by rw [hM2]
  obtain ⟨M3, hM3⟩ : ∃ M : ByteArray, M = ⟨(modT M2.data.toList [54, 48]).1.toArray⟩ := ⟨_, rfl⟩
  obtain ⟨m3, hm3⟩ : ∃ k, k = (modT M2.data.toList [54, 48]).2 := ⟨_, rfl⟩
  obtain ⟨D3, hD3⟩ : ∃ M : ByteArray, M = ⟨(idivT M2.data.toList [54, 48]).1.toArray⟩ := ⟨_, rfl⟩
  obtain ⟨d3, hd3⟩ : ∃ k, k = (idivT M2.data.toList [54, 48]).2 := ⟨_, rfl⟩
  have sD1 : D1.size ≤ 60 := by rw [← list_len, hD1]; exact idivT_len _ _
  have sD2 : D2.size ≤ 60 := by rw [← list_len, hD2]; exact idivT_len _ _
  have sD3 : D3.size ≤ 60 := by rw [← list_len, hD3]; exact idivT_len _ _
  have sM1 : M1.size ≤ 60 := by rw [← list_len, hM1]; exact modT_len _ _
  have sM2 : M2.size ≤ 60 := by rw [← list_len, hM2]; exact modT_len _ _
  have sM3 : M3.size ≤ 60 := by rw [← list_len, hM3]; exact modT_len _ _
  have c1 : ∀ w, Calls Tryz.prog 45 #[.string LB, .string ⟨#[56, 54, 52, 48, 48]⟩] w fun e w' => e = .returned (.tuple #[.string D1, .int .i64 d1]) ∧ Below w.heap.size w w' := fun w => (IDiv_r LB ⟨#[56, 54, 52, 48, 48]⟩ w (by unfold maxLen; omega) (by decide)).mono fun _ _ h => out_box (by rw [hD1, hLl]) (by rw [hd1, hLl]) h
  have c2 : ∀ w, Calls Tryz.prog 46 #[.string LB, .string ⟨#[56, 54, 52, 48, 48]⟩] w fun e w' => e = .returned (.tuple #[.string M1, .int .i64 m1]) ∧ Below w.heap.size w w' := fun w => (Mod_r LB ⟨#[56, 54, 52, 48, 48]⟩ w (by unfold maxLen; omega) (by decide)).mono fun _ _ h => out_box (by rw [hM1, hLl]) (by rw [hm1, hLl]) h
  have c3 : ∀ w, Calls Tryz.prog 45 #[.string M1, .string ⟨#[51, 54, 48, 48]⟩] w fun e w' => e = .returned (.tuple #[.string D2, .int .i64 d2]) ∧ Below w.heap.size w w' := fun w => (IDiv_r M1 ⟨#[51, 54, 48, 48]⟩ w (by unfold maxLen; omega) (by decide)).mono fun _ _ h => out_box (by rw [hD2]) (by rw [hd2]) h
  have c4 : ∀ w, Calls Tryz.prog 46 #[.string M1, .string ⟨#[51, 54, 48, 48]⟩] w fun e w' => e = .returned (.tuple #[.string M2, .int .i64 m2]) ∧ Below w.heap.size w w' := fun w => (Mod_r M1 ⟨#[51, 54, 48, 48]⟩ w (by unfold maxLen; omega) (by decide)).mono fun _ _ h => out_box (by rw [hM2]) (by rw [hm2]) h
  have c5 : ∀ w, Calls Tryz.prog 45 #[.string M2, .string ⟨#[54, 48]⟩] w fun e w' => e = .returned (.tuple #[.string D3, .int .i64 d3]) ∧ Below w.heap.size w w' := fun w => (IDiv_r M2 ⟨#[54, 48]⟩ w (by unfold maxLen; omega) (by decide)).mono fun _ _ h => out_box (by rw [hD3]) (by rw [hd3]) h
  have c6 : ∀ w, Calls Tryz.prog 46 #[.string M2, .string ⟨#[54, 48]⟩] w fun e w' => e = .returned (.tuple #[.string M3, .int .i64 m3]) ∧ Below w.heap.size w w' := fun w => (Mod_r M2 ⟨#[54, 48]⟩ w (by unfold maxLen; omega) (by decide)).mono fun _ _ h => out_box (by rw [hM3]) (by rw [hm3]) h
  obtain ⟨P, hP⟩ : ∃ P : ByteArray, P = (if mi = true then ⟨#[45, 80]⟩ else ⟨#[80]⟩) := ⟨_, rfl⟩
  obtain ⟨O1, hO1⟩ : ∃ O, O = optB P D1 68 := ⟨_, rfl⟩
  obtain ⟨R1, hR1⟩ : ∃ O, O = optB ⟨#[]⟩ D2 72 := ⟨_, rfl⟩
  obtain ⟨R2, hR2⟩ : ∃ O, O = optB R1 D3 77 := ⟨_, rfl⟩
  obtain ⟨R3, hR3⟩ : ∃ O, O = optB R2 M3 83 := ⟨_, rfl⟩
  have sP : P.size ≤ 2 := by rw [hP]; split <;> decide
  have sO1 : O1.size ≤ 63 := by rw [hO1]; exact optB_size _ _ _ 2 sD1 sP
  have sR1 : R1.size ≤ 61 := by rw [hR1]; exact optB_size _ _ _ 0 sD2 (by decide)
  have sR2 : R2.size ≤ 122 := by rw [hR2]; exact optB_size _ _ _ 61 sD3 sR1
  have sR3 : R3.size ≤ 183 := by rw [hR3]; exact optB_size _ _ _ 122 sM3 sR2
  have hfin : (secT mi L) = O1.data.toList ++ (if R3.data.toList = [] then [] else 84 :: R3.data.toList) := by
    have hPl : P.data.toList = (if mi then [45, 80] else [80]) := by rw [hP]; cases mi <;> rfl
    have p1 : pieceP [56, 54, 52, 48, 48] 68 L = (if D1.data.toList = [48] then [] else D1.data.toList ++ [68], M1.data.toList) := by rw [piece_at (q := D1.data.toList) (by rw [if_neg (by decide), hD1]), hM1l]
    have p2 : pieceP [51, 54, 48, 48] 72 M1.data.toList = (if D2.data.toList = [48] then [] else D2.data.toList ++ [72], M2.data.toList) := by rw [piece_at (q := D2.data.toList) (by rw [if_neg (by decide), hD2]), hM2l]
    have p3 : pieceP [54, 48] 77 M2.data.toList = (if D3.data.toList = [48] then [] else D3.data.toList ++ [77], M3.data.toList) := by rw [piece_at (q := D3.data.toList) (by rw [if_neg (by decide), hD3]), hM3]
    have p4 := piece_at (Z := [54, 48]) (L := M3.data.toList) (c := 83) (q := M3.data.toList) (by rw [if_pos rfl])
    have r3 : R3.data.toList = (if D2.data.toList = [48] then [] else D2.data.toList ++ [72]) ++ (if D3.data.toList = [48] then [] else D3.data.toList ++ [77]) ++ (if M3.data.toList = [48] then [] else M3.data.toList ++ [83]) := by
      rw [hR3, optB_list, hR2, optB_list, hR1, optB_list]; simp
    unfold secT
    simp only [p1, p2, p3, p4]
    rw [r3, hO1, optB_list, hPl]
  have hfin2 : (⟨(secT mi L).toArray⟩ : ByteArray) = if R3.data.toList = [] then O1 else O1 ++ ⟨#[84]⟩ ++ R3 := data_inj (by
    rw [hfin]
    split
    · simp
    · simp [ByteArray.data_append])
  clear hfin hM1l hM2l hM1 hm1 hD1 hd1 hM2 hm2 hD2 hd2 hM3 hm3 hD3 hd3
  replace hfin2 := Lib.hid hfin2
  replace c1 := Lib.hid c1
  replace c2 := Lib.hid c2
  replace c3 := Lib.hid c3
  replace c4 := Lib.hid c4
  replace c5 := Lib.hid c5
  replace c6 := Lib.hid c6
  have hat := data_at s 0 hs0
  rw [← List.head?_eq_getElem?] at hat
  have hsub : Hid (s.extract 1 s.size = if mi = true then LB else s.extract 1 s.size) := Lib.hid (by
    split
    · rename_i h
      rw [hLB, hL, if_pos h, drop_mk]
    · rfl)
  have hsame : Hid (mi = false → LB = s) := Lib.hid (fun h => data_inj (by rw [hLl, hL, h]; rfl))
  have g0 : (s.toList == [48]) = false := by rw [ByteArray.toList_eq]; simpa using h48
  have gI : (0 : Int) < (s.size : Int) := by omega
  have g45 : ((s[0].toNat : Int) == 45) = mi := by
    rw [hmi, hat]
    cases h : (some s[0] == some (45 : UInt8))
    · simp at h ⊢
      intro h2
      exact h (UInt8.toNat_inj.1 (by rw [show (45 : UInt8).toNat = 45 from rfl]; omega))
    · simp at h ⊢
      rw [h]; rfl
  have e1 : (9223372036854775807 < P.size + D1.size) = False := eq_false (by omega)
  have e2 : (9223372036854775807 < P.size + D1.size + 1) = False := eq_false (by omega)
  have e3 : (9223372036854775807 < D2.size + 1) = False := eq_false (by omega)
  have e4 : (9223372036854775807 < D2.size) = False := eq_false (by omega)
  have e5 : (9223372036854775807 < R1.size + D3.size) = False := eq_false (by omega)
  have e6 : (9223372036854775807 < R1.size + D3.size + 1) = False := eq_false (by omega)
  have e7 : (9223372036854775807 < R2.size + M3.size) = False := eq_false (by omega)
  have e8 : (9223372036854775807 < R2.size + M3.size + 1) = False := eq_false (by omega)
  have e9 : (9223372036854775807 < O1.size + 1 + R3.size) = False := eq_false (by omega)
  have e10 : (9223372036854775807 < O1.size + 1) = False := eq_false (by omega)
  have gs : (1 : Int) ≤ (s.size : Int) := by omega
  have gs2 : 1 ≤ s.size := by omega
  clear hmi hL hLB hLl hLs hat h48 hs sD1 sD2 sD3 sM1 sM2 sM3 sP sO1 sR1 sR2 sR3
  replace hP := Lib.hid hP
  replace hO1 := Lib.hid hO1
  replace hR1 := Lib.hid hR1
  replace hR2 := Lib.hid hR2
  replace hR3 := Lib.hid hR3
  go_enter Tryz.func21, Tryz.ntmps21
  go_wp2_with fail
  refine hc.mono ?_
  rintro e w1 ⟨rfl, hb1⟩
  clear hc
  replace hb1 := Lib.hid hb1
  go_upto_if 19 with fail
  go_cut [0, 4] from 20 to 21 (fun nv ov wx => nv = .string LB ∧ ov = .string P ∧ wx = w1)
  case first =>
    cases mi with
    | true =>
      have hP' : P = ⟨#[45, 80]⟩ := by rw [hP.out]; rfl
      have hsub' : s.extract 1 s.size = LB := by rw [hsub.out]; rfl
      replace hP' := Lib.hid hP'
      replace hsub' := Lib.hid hsub'
      go_wp2_with fail
      go_meet
      exact ⟨by rw [← hsub'.out], by rw [hP'.out], rfl⟩
    | false =>
      have hP' : P = ⟨#[80]⟩ := by rw [hP.out]; rfl
      have hs' := hsame.out rfl
      replace hP' := Lib.hid hP'
      replace hs' := Lib.hid hs'
      go_wp2_with fail
      go_meet
      exact ⟨by rw [hs'.out], by rw [hP'.out], rfl⟩
  case rest =>
  obtain ⟨rfl, rfl, hw⟩ := hcut
  obtain ⟨w0, rfl⟩ : ∃ w, w = wc := ⟨_, rfl⟩
  rw [← hw] at hb1
  clear hw
  go_wp2_with fail
  refine (c1.out _).mono ?_
  rintro e w2 ⟨rfl, k1⟩
  have hb2 := Lib.hid (hb1.out.trans (k1.mono hb1.out.size))
  clear c1 k1 hb1
  go_wp2_with fail
  refine (c2.out _).mono ?_
  rintro e w3 ⟨rfl, k2⟩
  have hb3 := Lib.hid (hb2.out.trans (k2.mono hb2.out.size))
  clear c2 k2 hb2
  go_wp2_with fail
  refine (c3.out _).mono ?_
  rintro e w4 ⟨rfl, k3⟩
  have hb4 := Lib.hid (hb3.out.trans (k3.mono hb3.out.size))
  clear c3 k3 hb3
  go_wp2_with fail
  refine (c4.out _).mono ?_
  rintro e w5 ⟨rfl, k4⟩
  have hb5 := Lib.hid (hb4.out.trans (k4.mono hb4.out.size))
  clear c4 k4 hb4
  go_wp2_with fail
  refine (c5.out _).mono ?_
  rintro e w6 ⟨rfl, k5⟩
  have hb6 := Lib.hid (hb5.out.trans (k5.mono hb5.out.size))
  clear c5 k5 hb5
  go_wp2_with fail
  refine (c6.out _).mono ?_
  rintro e w7 ⟨rfl, k6⟩
  have hb7 := Lib.hid (hb6.out.trans (k6.mono hb6.out.size))
  clear c6 k6 hb6
  go_upto_if 53 with fail
  obtain ⟨b53, hb53⟩ : ∃ b, b = (D1.toList == [48]) := ⟨_, rfl⟩
  rw [← hb53]
  go_cut [4] from 54 to 57 (fun ov wx => ov = .string O1 ∧ wx = w7)
  case first =>
    cases b53 with
    | true =>
      have h : D1.data.toList = [48] := by have h := hb53.symm; rw [ByteArray.toList_eq] at h; simpa using h
      clear hb53
      have hv : O1 = P := by rw [hO1.out]; unfold optB; rw [if_pos h]
      replace h := Lib.hid h
      replace hv := Lib.hid hv
      go_wp2_with fail
      go_meet
      exact ⟨by rw [hv.out], rfl⟩
    | false =>
      have h : D1.data.toList ≠ [48] := by have h := hb53.symm; rw [ByteArray.toList_eq] at h; simpa using h
      clear hb53
      have hv : O1 = P ++ D1 ++ ⟨#[68]⟩ := by rw [hO1.out]; unfold optB; rw [if_neg h]
      replace h := Lib.hid h
      replace hv := Lib.hid hv
      go_wp2_with fail
      go_meet
      exact ⟨by rw [hv.out], rfl⟩
  case rest =>
  obtain ⟨rfl, hw⟩ := hcut
  have hw := hw.symm
  subst hw
  clear hb53
  go_upto_if 59 with fail
  obtain ⟨b59, hb59⟩ : ∃ b, b = (D2.toList == [48]) := ⟨_, rfl⟩
  rw [← hb59]
  go_cut [11] from 60 to 63 (fun ov wx => ov = .string R1 ∧ wx = w7)
  case first =>
    cases b59 with
    | true =>
      have h : D2.data.toList = [48] := by have h := hb59.symm; rw [ByteArray.toList_eq] at h; simpa using h
      clear hb59
      have hv : R1 = ⟨#[]⟩ := by rw [hR1.out]; unfold optB; rw [if_pos h]
      replace h := Lib.hid h
      replace hv := Lib.hid hv
      go_wp2_with fail
      go_meet
      exact ⟨by rw [hv.out], rfl⟩
    | false =>
      have h : D2.data.toList ≠ [48] := by have h := hb59.symm; rw [ByteArray.toList_eq] at h; simpa using h
      clear hb59
      have hv : R1 = ⟨#[]⟩ ++ D2 ++ ⟨#[72]⟩ := by rw [hR1.out]; unfold optB; rw [if_neg h]
      replace h := Lib.hid h
      replace hv := Lib.hid hv
      go_wp2_with fail
      go_meet
      exact ⟨by rw [hv.out], rfl⟩
  case rest =>
  obtain ⟨rfl, hw⟩ := hcut
  have hw := hw.symm
  subst hw
  clear hb59
  go_upto_if 65 with fail
  obtain ⟨b65, hb65⟩ : ∃ b, b = (D3.toList == [48]) := ⟨_, rfl⟩
  rw [← hb65]
  go_cut [11] from 66 to 69 (fun ov wx => ov = .string R2 ∧ wx = w7)
  case first =>
    cases b65 with
    | true =>
      have h : D3.data.toList = [48] := by have h := hb65.symm; rw [ByteArray.toList_eq] at h; simpa using h
      clear hb65
      have hv : R2 = R1 := by rw [hR2.out]; unfold optB; rw [if_pos h]
      replace h := Lib.hid h
      replace hv := Lib.hid hv
      go_wp2_with fail
      go_meet
      exact ⟨by rw [hv.out], rfl⟩
    | false =>
      have h : D3.data.toList ≠ [48] := by have h := hb65.symm; rw [ByteArray.toList_eq] at h; simpa using h
      clear hb65
      have hv : R2 = R1 ++ D3 ++ ⟨#[77]⟩ := by rw [hR2.out]; unfold optB; rw [if_neg h]
      replace h := Lib.hid h
      replace hv := Lib.hid hv
      go_wp2_with fail
      go_meet
      exact ⟨by rw [hv.out], rfl⟩
  case rest =>
  obtain ⟨rfl, hw⟩ := hcut
  have hw := hw.symm
  subst hw
  clear hb65
  go_upto_if 71 with fail
  obtain ⟨b71, hb71⟩ : ∃ b, b = (M3.toList == [48]) := ⟨_, rfl⟩
  rw [← hb71]
  go_cut [11] from 72 to 75 (fun ov wx => ov = .string R3 ∧ wx = w7)
  case first =>
    cases b71 with
    | true =>
      have h : M3.data.toList = [48] := by have h := hb71.symm; rw [ByteArray.toList_eq] at h; simpa using h
      clear hb71
      have hv : R3 = R2 := by rw [hR3.out]; unfold optB; rw [if_pos h]
      replace h := Lib.hid h
      replace hv := Lib.hid hv
      go_wp2_with fail
      go_meet
      exact ⟨by rw [hv.out], rfl⟩
    | false =>
      have h : M3.data.toList ≠ [48] := by have h := hb71.symm; rw [ByteArray.toList_eq] at h; simpa using h
      clear hb71
      have hv : R3 = R2 ++ M3 ++ ⟨#[83]⟩ := by rw [hR3.out]; unfold optB; rw [if_neg h]
      replace h := Lib.hid h
      replace hv := Lib.hid hv
      go_wp2_with fail
      go_meet
      exact ⟨by rw [hv.out], rfl⟩
  case rest =>
  obtain ⟨rfl, hw⟩ := hcut
  have hw := hw.symm
  subst hw
  clear hb71
  by_cases h : R3.data.toList = []
  · have g : (R3.toList == []) = true := by rw [ByteArray.toList_eq]; simpa using h
    have hv := hfin2.out
    rw [if_pos h] at hv
    replace h := Lib.hid h
    replace hv := Lib.hid hv
    go_wp2_with fail
    go_ret2
    exact ⟨by show _ = Ending.returned (.tuple #[.string ⟨(secT mi L).toArray⟩, _]); rw [hv.out]; rfl, hb7.out⟩
  · have g : (R3.toList == []) = false := by rw [ByteArray.toList_eq]; simpa using h
    have hv := hfin2.out
    rw [if_neg h] at hv
    replace h := Lib.hid h
    replace hv := Lib.hid hv
    go_wp2_with fail
    go_ret2
    exact ⟨by show _ = Ending.returned (.tuple #[.string ⟨(secT mi L).toArray⟩, _]); rw [hv.out]; rfl, hb7.out⟩
set_option maxHeartbeats 2000000 in
set_option maxRecDepth 100000 in
theorem TextSec_r (s : ByteArray) (W : World) (hs : s.size ≤ maxLen) : Calls Tryz.prog 21 #[.string s] W (OutE W (textSP s.data.toList)) := by
  have hc := Canon_r s W hs
  obtain ⟨b, hb⟩ : ∃ b, b = canB s.data.toList := ⟨_, rfl⟩
  rw [← hb] at hc
  cases b with
  | false =>
    have hv : Hid (textSP s.data.toList = ([], 1)) := Lib.hid (canB_no hb.symm)
    clear hb
    go_enter Tryz.func21, Tryz.ntmps21
    go_wp2_with fail
    refine hc.mono ?_
    rintro e w1 ⟨rfl, hb1⟩
    go_wp2_with fail
    go_ret2
    exact ⟨by rw [hv.out]; rfl, hb1⟩
  | true =>
    have hyes : ¬ ((parseT s.data.toList).2 ≠ 0 ∨ (parseT s.data.toList).1 ≠ s.data.toList) := by
      have h := hb.symm
      unfold canB at h
      rw [Bool.and_eq_true, decide_eq_true_eq, decide_eq_true_eq] at h
      exact fun h2 => h2.elim (fun h3 => h3 h.1) (fun h3 => h3 h.2)
    have hv := textSP_yes hyes
    have hsl : s.size ≤ 60 := by
      have h : (parseT s.data.toList).1 = s.data.toList := Classical.byContradiction fun h => hyes (.inr h)
      rw [← list_len, ← h]; exact parseT_len _
    have hs0 : 0 < s.size := by
      rcases Nat.eq_zero_or_pos s.size with h | h
      · have h2 : s.data.toList = [] := List.eq_nil_of_length_eq_zero (by rw [list_len]; exact h)
        rw [h2] at hb
        exact absurd hb (by decide)
      · exact h
    by_cases h48 : s.data.toList = [48]
    · have g1 : (s.toList == [48]) = true := by rw [ByteArray.toList_eq]; simpa using h48
      rw [if_pos h48] at hv
      replace hv := Lib.hid hv
      replace h48 := Lib.hid h48
      clear hyes hb
      go_enter Tryz.func21, Tryz.ntmps21
      go_wp2_with fail
      refine hc.mono ?_
      rintro e w1 ⟨rfl, hb1⟩
      go_wp2_with fail
      go_ret2
      exact ⟨by rw [hv.out]; rfl, hb1⟩
    · rw [if_neg h48] at hv
      rw [hv]
      exact textS_rest _ s W _ rfl rfl hs0 hsl h48 hc
end Go.Proofs.YtjndcehkgfbagaaGreatDoor

namespace Go.Proofs.YtjndcehkgfbagaaGreatDoor
open Go.RowKit NumP DurP Go.Proofs.YtjndcehkgfbagaaGreatDoorW.PrintWords
set_option linter.unusedVariables false

set_option maxHeartbeats 2000000 in
set_option maxRecDepth 100000 in
theorem secondTexts_walk (s : ByteArray) (W : World) (hL : LaidD W) (hs : s.size ≤ maxLen) : Calls Tryz.prog 6 #[.string s] W fun e w' => e = .returned (.bool true) ∧ Below W.heap.size W w' := by
  obtain ⟨t, k, hak⟩ : ∃ (t : ByteArray) (k : Int), textSP s.data.toList = (t.data.toList, k) := ⟨⟨(textSP s.data.toList).1.toArray⟩, _, rfl⟩
  have c1 := Lib.hid (fun W hL => TextSeconds_at (s := s) (t := t) rfl rfl hak W hL hs)
  have c2 : Hid (∀ W, Calls Tryz.prog 21 #[.string s] W (StrAt W t k)) := Lib.hid (fun W => by
    have := TextSec_r s W hs
    rw [hak] at this
    rw [show t = ⟨t.data.toList.toArray⟩ by simp]
    exact this)
  clear hak
  replace hL := Lib.hid hL
  go_enter Tryz.func6, Tryz.ntmps6
  go_wp2_with fail
  refine (c1.out W hL.out).mono ?_
  rintro e w1 ⟨rfl, hb1⟩
  go_wp2_with fail
  refine (c2.out w1).mono ?_
  rintro e w2 ⟨rfl, hb2⟩
  have hB := Lib.hid (hb1.trans (hb2.mono hb1.size))
  have hL2 := Lib.hid (hL.out.below hB.out hL.out.num.size)
  clear hb1 hb2
  go_wp2_with fail
  refine (works_calls w2 hL2.out).mono ?_
  rintro e w3 ⟨rfl, hb3⟩
  go_wp2_with fail
  go_ret
  exact ⟨rfl, hB.out.trans (hb3.mono hB.out.size)⟩
end Go.Proofs.YtjndcehkgfbagaaGreatDoor
