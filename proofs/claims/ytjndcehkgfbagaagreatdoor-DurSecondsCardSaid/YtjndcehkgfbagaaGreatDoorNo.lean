/- The reader of package chiselref06: a part with a fraction. Package chiselref06: plus. Package chiselref06: ParseSeconds (printed by genrefsec.py). DurSeconds: forms of seconds are read as the document says: the walk. -/
import Derived.Test.YtjndcehkgfbagaaGreatDoorNj
import Derived.Deep.Cut
import Derived.Test.YtjndcehkgfbagaaGreatDoorNm
import Derived.Test.YtjndcehkgfbagaaGreatDoorNi

namespace Go.Proofs.YtjndcehkgfbagaaGreatDoor
open Go.RowKit NumP DurP Go.Proofs.YtjndcehkgfbagaaGreatDoorW.PrintWords
set_option linter.unusedVariables false

theorem digAt_drop (l : List UInt8) (a j : Nat) : digAt (l.drop a) j = digAt l (a + j) := by unfold digAt; rw [List.getElem?_drop]
/-- Where a part of seconds ends, as the reader finds it. -/
theorem frac_end {l : List UInt8} {n m : Nat} (hn : n = digN l) (hm : m = partEnd 83 l) (h0 : 0 < n) :
    n ≤ m ∧ m ≤ l.length ∧ (n < m → l[n]? = some 46 ∧ digAt l (n + 1) = true ∧ n + 1 < m ∧ ∀ i, n + 1 ≤ i → i ≤ m → digAt l i = decide (i < m)) ∧ (n = m → l[n]? = some 46 → digAt l (n + 1) = false) := by
  obtain ⟨k, hk⟩ : ∃ k, k = digN (l.drop (n + 1)) := ⟨_, rfl⟩
  have hnl : n ≤ l.length := by rw [hn]; exact digN_le l
  have hend : digAt l (n + 1 + k) = false := by rw [← digAt_drop, hk]; exact digAt_end _
  by_cases h : l[n]? = some 46 ∧ 0 < k
  · have e := partEnd_yes hn hk rfl h0 h.1 h.2
    rw [← hm] at e
    have hkl : k ≤ l.length - (n + 1) := by rw [← List.length_drop, hk]; exact digN_le _
    have hlt : ∀ j, j < k → digAt l (n + 1 + j) = true := fun j hj => by rw [← digAt_drop]; exact digAt_lt (by rw [← hk]; exact hj)
    refine ⟨by omega, by omega, fun _ => ⟨h.1, hlt 0 h.2, by omega, fun i h1 h2 => ?_⟩, fun h3 => by omega⟩
    obtain ⟨j, rfl⟩ : ∃ j, i = n + 1 + j := ⟨i - (n + 1), by omega⟩
    by_cases hj : j < k
    · rw [hlt j hj]; simp; omega
    · have : j = k := by omega
      rw [this, hend]; simp; omega
  · have e : partEnd 83 l = n := partEnd_no hn (fun h2 => h ⟨h2.2.2.1, by rw [hk]; exact h2.2.2.2⟩)
    rw [← hm] at e
    refine ⟨by omega, by omega, fun h3 => by omega, fun _ h46 => ?_⟩
    have hk0 : k = 0 := by
      rcases Nat.eq_zero_or_pos k with h3 | h3
      · exact h3
      · exact absurd ⟨h46, h3⟩ h
    rw [hk0] at hend
    exact hend
set_option maxRecDepth 100000 in
set_option maxHeartbeats 4000000 in
theorem part_f (s : ByteArray) (ok : Bool) (W : World) (hs : s.size ≤ 1000) : Calls Tryz.prog 34 #[.agg #[.string s, .bool ok], .int .u8 83, .bool true] W (PartPost W (partP 83 s.data.toList) ok) := by
  obtain ⟨W2, hW2, hB⟩ := box_all W s ok
  obtain ⟨q, hq⟩ : ∃ q, q = W.heap.size := ⟨_, rfl⟩
  rw [← hq] at hB
  obtain ⟨n, hn⟩ : ∃ n, n = digN s.data.toList := ⟨_, rfl⟩
  have hns : n ≤ s.size := by rw [hn, ← list_len]; exact digN_le _
  obtain ⟨m, hm⟩ : ∃ m, m = partEnd 83 s.data.toList := ⟨_, rfl⟩
  obtain ⟨p, hp⟩ : ∃ p : ByteArray, p = ⟨(partP 83 s.data.toList).1.toArray⟩ := ⟨_, rfl⟩
  obtain ⟨r, hr⟩ : ∃ r : ByteArray, r = ⟨(partP 83 s.data.toList).2.toArray⟩ := ⟨_, rfl⟩
  have hres : Hid (.tuple #[rdV (partP 83 s.data.toList).2 ok, .string ⟨(partP 83 s.data.toList).1.toArray⟩] = Value.tuple #[.agg #[.string r, .bool ok], .string p]) := Lib.hid (by unfold rdV; rw [← hp, ← hr])
  have hmiss : ¬ (0 < m ∧ s.data.toList[m]? = some 83) → p = ⟨#[]⟩ ∧ r = s := fun h => by
    rw [hp, hr, partP_no hm.symm h]
    exact ⟨rfl, data_inj (by simp)⟩
  have hhit : 0 < m → s.data.toList[m]? = some 83 → p = s.extract 0 m ∧ r = s.extract (m + 1) s.size := fun h1 h2 => by
    rw [hp, hr, partP_yes hm.symm h1 h2]
    exact ⟨take_mk s m, drop_mk s (m + 1)⟩
  have hz0 : n = 0 → m = 0 := fun h => by rw [hm, partEnd_no hn (fun h2 => by omega), h]
  have hfr := fun h => frac_end hn hm h
  rw [list_len] at hfr
  have hcall : Hid (∀ i w, Calls Tryz.prog 68 #[.string s, .int .i64 (i : Nat)] w fun e w' => e = .returned (.bool (digAt s.data.toList i)) ∧ w = w') := Lib.hid (fun i w => digit_r s i w hs)
  have hdig : Hid (∀ i, i ≤ n → ∀ w, Calls Tryz.prog 68 #[.string s, .int .i64 (i : Int)] w fun e w' => e = .returned (.bool (decide (i < n))) ∧ w = w') := Lib.hid (fun i hi w => by
    have := digit_r s i w hs
    have e : digAt s.data.toList i = decide (i < n) := by
      by_cases h : i < n
      · rw [digAt_lt (by rw [← hn]; exact h)]; simp [h]
      · have : i = n := by omega
        rw [this, hn, digAt_end]; simp
    rw [e] at this
    exact this)
  obtain ⟨hb2, x0, x1, y0, y1, f0, f1, hy, hge⟩ := hB
  replace hy := Lib.hid hy
  replace hn := Lib.hid hn
  replace hm := Lib.hid hm
  replace hb2 := Lib.hid hb2
  replace hmiss := Lib.hid hmiss
  replace hhit := Lib.hid hhit
  replace hfr := Lib.hid hfr
  replace hz0 := Lib.hid hz0
  clear hp hr
  go_enter Tryz.func34, Tryz.ntmps34
  go_wp2_with fail
  rw [← hW2, ← hq]
  clear hW2
  replace hq := Lib.hid hq
  go_loopw [8] (fun iv wr => ∃ i : Nat, iv = .int .i64 i ∧ i ≤ n ∧ wr = W2) (fun iv _ => n - (intOf iv).toNat)
  case atStart => exact ⟨0, rfl, Nat.zero_le _, rfl⟩
  case round =>
    obtain ⟨i, rfl, hi, rfl⟩ := hrel
    by_cases hlt : i < n
    · go_wp2_with fail
      refine (hdig.out i hi _).mono ?_
      rintro e w ⟨rfl, rfl⟩
      rw [decide_eq_true hlt]
      go_wp2_with fail
      exact ⟨⟨i + 1, by simp, by omega, by simp⟩, by simp [intOf]; omega⟩
    · have hin : i = n := by omega
      subst hin
      go_wp2_with fail
      refine (hdig.out i hi _).mono ?_
      rintro e w ⟨rfl, rfl⟩
      rw [decide_eq_false hlt]
      clear hlt hi hdig
      by_cases h0 : i = 0
      · obtain ⟨hp0, hr0⟩ := hmiss.out (fun h => by have := hz0.out h0; omega)
        have g1 : ((i : Int) == 0) = true := by simpa using h0
        subst hp0 hr0
        replace h0 := Lib.hid h0
        go_wp2_with fail
        obtain ⟨W5, hW5, h5, hb5, -⟩ := put2 hy.out (.string r) (.bool ok) (B := W.heap.size) (by omega)
        rw [← hW5]
        clear hW5 x0 x1 y0 y1 f0 f1
        obtain ⟨⟨z0, z1⟩, -⟩ := cells2 h5
        refine bodyPost_ret (v := .tuple #[.agg #[.string r, .bool ok], .string ⟨#[]⟩]) ?ret rfl ?post
        case ret => rw [res_two rfl]; go_simp
        case post => exact ⟨by rw [hres.out], hb2.out.trans hb5⟩
      · have g1 : ((i : Int) == 0) = false := by simpa using h0
        have hi0 : 0 < i := by omega
        obtain ⟨f1', f2', f3', f4'⟩ := hfr.out hi0
        replace f3' := Lib.hid f3'
        replace f4' := Lib.hid f4'
        replace h0 := Lib.hid h0
        have hcut6 : Hid (∃ b : Bool, b = decide (i < m)) := Lib.hid ⟨_, rfl⟩
        obtain ⟨bf, hbf⟩ := hcut6.out
        clear hcut6
        go_upto_region 6 with fail
        go_cut [39] from 18 to 38 (fun v wx => v = .bool bf ∧ wx = wr)
        case first =>
          by_cases hsz : i = s.size
          · have hb0 : bf = false := by rw [hbf]; simp; omega
            have g2 : ¬ ((i : Int) < (s.size : Int)) := by omega
            subst hb0
            replace hsz := Lib.hid hsz
            clear hbf
            go_wp2_with fail
            go_meet
            exact ⟨rfl, rfl⟩
          · have hlt : i < s.size := by omega
            have hat := data_at s i hlt
            have g2 : ((i : Int) < (s.size : Int)) := by omega
            by_cases h46 : s[i] = 46
            · have g3 : ((s[i].toNat : Int) == 46) = true := by rw [h46]; rfl
              have hd1 : Calls Tryz.prog 68 #[.string s, .int .i64 ((i : Int) + 1)] wr fun e w' => e = .returned (.bool bf) ∧ wr = w' := by
                have h := hcall.out (i + 1) wr
                have e : digAt s.data.toList (i + 1) = bf := by
                  rw [hbf]
                  by_cases h : i < m
                  · rw [(f3'.out h).2.1]; simp [h]
                  · rw [f4'.out (by omega) (by rw [hat, h46])]; simp [h]
                rw [e] at h
                exact h
              replace h46 := Lib.hid h46
              replace hat := Lib.hid hat
              replace hbf := Lib.hid hbf
              replace hsz := Lib.hid hsz
              go_wp2_with fail
              refine hd1.mono ?_
              rintro e w ⟨rfl, rfl⟩
              clear hd1
              go_wp2_with fail
              go_meet
              exact ⟨rfl, rfl⟩
            · have g3 : ((s[i].toNat : Int) == 46) = false := by rw [show (46 : Int) = ((46 : UInt8).toNat : Int) from rfl, byte_eq]; simpa using h46
              have hb0 : bf = false := by
                rw [hbf]
                simp
                rcases Nat.lt_or_ge i m with h | h
                · have h2 := (f3'.out h).1
                  rw [hat] at h2
                  exact absurd (Option.some.inj h2) h46
                · exact h
              subst hb0
              replace h46 := Lib.hid h46
              replace hat := Lib.hid hat
              replace hbf := Lib.hid hbf
              replace hsz := Lib.hid hsz
              go_wp2_with fail
              go_meet
              exact ⟨rfl, rfl⟩
        case rest =>
        obtain ⟨rfl, hw⟩ := hcut
        have hw := hw.symm
        subst hw
        go_upto_if 39 with fail
        go_cut [8] from 40 to 47 (fun v wx => v = .int .i64 m ∧ wx = wr)
        case first =>
          cases bf with
          | false =>
            have him : m = i := by have h := hbf.symm; simp at h; omega
            subst him
            clear hbf
            go_wp2_with fail
            go_meet
            exact ⟨rfl, rfl⟩
          | true =>
            have him : i < m := by have h := hbf.symm; simpa using h
            obtain ⟨-, -, h3, h4⟩ := f3'.out him
            have hdig2 : Hid (∀ a, i + 1 ≤ a → a ≤ m → ∀ w, Calls Tryz.prog 68 #[.string s, .int .i64 (a : Int)] w fun e w' => e = .returned (.bool (decide (a < m))) ∧ w = w') := Lib.hid (fun a h1 h2 w => by
              have h := hcall.out a w
              rw [h4 a h1 h2] at h
              exact h)
            replace h4 := Lib.hid h4
            clear hbf
            go_wp2_with fail
            go_loopw [8] (fun iv w => ∃ a : Nat, iv = .int .i64 a ∧ i + 1 ≤ a ∧ a ≤ m ∧ w = wr) (fun iv _ => m - (intOf iv).toNat)
            case atStart => exact ⟨i + 1, by simp, Nat.le_refl _, by omega, rfl⟩
            case round =>
              obtain ⟨a, rfl, ha1, ha2, hw⟩ := hrel
              have hw := hw.symm
              subst hw
              by_cases ham : a < m
              · go_wp2_with fail
                refine (hdig2.out a ha1 ha2 _).mono ?_
                rintro e w ⟨rfl, rfl⟩
                rw [decide_eq_true ham]
                go_wp2_with fail
                exact ⟨⟨a + 1, by simp, by omega, by omega, by simp⟩, by simp [intOf]; omega⟩
              · have ham2 : m = a := by omega
                subst ham2
                go_wp2_with fail
                refine (hdig2.out m ha1 ha2 _).mono ?_
                rintro e w ⟨rfl, rfl⟩
                rw [decide_eq_false ham]
                go_wp2_with fail
                go_meet
                exact ⟨rfl, rfl⟩
        case rest =>
        obtain ⟨rfl, hw⟩ := hcut
        have hw := hw.symm
        subst hw
        have hm0 : 0 < m := by omega
        have hms : m ≤ s.size := f2'
        clear hbf g1
        by_cases hsz : m = s.size
        · obtain ⟨hp0, hr0⟩ := hmiss.out (fun h => by rw [data_end s m (by omega)] at h; cases h.2)
          have g2 : ¬ ((m : Int) < (s.size : Int)) := by omega
          subst hp0 hr0
          replace hsz := Lib.hid hsz
          go_wp2_with fail
          obtain ⟨W5, hW5, h5, hb5, -⟩ := put2 hy.out (.string r) (.bool ok) (B := W.heap.size) (by omega)
          rw [← hW5]
          clear hW5 x0 x1 y0 y1 f0 f1
          obtain ⟨⟨z0, z1⟩, -⟩ := cells2 h5
          refine bodyPost_ret (v := .tuple #[.agg #[.string r, .bool ok], .string ⟨#[]⟩]) ?ret rfl ?post
          case ret => rw [res_two rfl]; go_simp
          case post => exact ⟨by rw [hres.out], hb2.out.trans hb5⟩
        · have hlt : m < s.size := by omega
          have hat := data_at s m hlt
          have g2 : ((m : Int) < (s.size : Int)) := by omega
          by_cases h45 : s[m] = 83
          · obtain ⟨hp0, hr0⟩ := hhit.out hm0 (by rw [hat, h45])
            have g3 : ((s[m].toNat : Int) == 83) = true := by rw [h45]; rfl
            have g4 : ((m : Int) + 1 ≤ (s.size : Int)) := by omega
            have g5 : m + 1 ≤ s.size := by omega
            have g6 : ((m : Int) ≤ (s.size : Int)) := by omega
            subst hp0 hr0
            replace hat := Lib.hid hat
            replace h45 := Lib.hid h45
            replace hsz := Lib.hid hsz
            go_wp2_with fail
            go_region
            obtain ⟨W5, hW5, h5, hb5, -⟩ := put2 hy.out (.string (s.extract (m + 1) s.size)) (.bool ok) (B := W.heap.size) (by omega)
            rw [← hW5]
            clear hW5 x0 x1 y0 y1 f0 f1
            obtain ⟨⟨z0, z1⟩, -⟩ := cells2 (w := W5.drew) h5
            go_wp2_with fail
            refine bodyPost_ret (v := .tuple #[.agg #[.string (s.extract (m + 1) s.size), .bool ok], .string (s.extract 0 m)]) ?ret rfl ?post
            case ret => rw [res_two rfl]; go_simp
            case post => exact ⟨by rw [hres.out], (hb2.out.trans hb5).drew⟩
          · obtain ⟨hp0, hr0⟩ := hmiss.out (fun h => by rw [hat] at h; exact h45 (Option.some.inj h.2))
            have g3 : ((s[m].toNat : Int) == 83) = false := by rw [show (83 : Int) = ((83 : UInt8).toNat : Int) from rfl, byte_eq]; simpa using h45
            subst hp0 hr0
            replace hat := Lib.hid hat
            replace h45 := Lib.hid h45
            replace hsz := Lib.hid hsz
            go_wp2_with fail
            obtain ⟨W5, hW5, h5, hb5, -⟩ := put2 hy.out (.string r) (.bool ok) (B := W.heap.size) (by omega)
            rw [← hW5]
            clear hW5 x0 x1 y0 y1 f0 f1
            obtain ⟨⟨z0, z1⟩, -⟩ := cells2 h5
            refine bodyPost_ret (v := .tuple #[.agg #[.string r, .bool ok], .string ⟨#[]⟩]) ?ret rfl ?post
            case ret => rw [res_two rfl]; go_simp
            case post => exact ⟨by rw [hres.out], hb2.out.trans hb5⟩
end Go.Proofs.YtjndcehkgfbagaaGreatDoor

namespace Go.Proofs.YtjndcehkgfbagaaGreatDoor
open Go.RowKit NumP DigP DurP Go.Proofs.YtjndcehkgfbagaaGreatDoorW.PrintWords
set_option linter.unusedVariables false

/-- A sum with a part, times its size. -/
def plusP (sum p t : List UInt8) : List UInt8 × Int :=
  if p = [] then (sum, 0) else if (parseT p).2 ≠ 0 then ([], (parseT p).2) else if (mulT (parseT p).1 t).2 ≠ 0 then ([], (mulT (parseT p).1 t).2) else addT sum (mulT (parseT p).1 t).1
theorem addUp_plus (p : List UInt8) (ps ts : List (List UInt8)) (t sum : List UInt8) : addUp (p :: ps) (t :: ts) sum = if (plusP sum p t).2 ≠ 0 then ([], 40) else addUp ps ts (plusP sum p t).1 := by
  by_cases h0 : p = []
  · have e : plusP sum p t = (sum, 0) := by unfold plusP; rw [if_pos h0]
    rw [e, h0, addUp_skip]; simp
  · by_cases h1 : (parseT p).2 = 0
    · by_cases h2 : (mulT (parseT p).1 t).2 = 0
      · have e : plusP sum p t = addT sum (mulT (parseT p).1 t).1 := by unfold plusP; rw [if_neg h0, if_neg (fun h => h h1), if_neg (fun h => h h2)]
        rw [e]
        by_cases h3 : (addT sum (mulT (parseT p).1 t).1).2 = 0
        · rw [if_neg (fun h => h h3), addUp_next _ _ _ _ h0 h1 h2 h3]
        · rw [if_pos h3, addUp_err3 _ _ _ _ h0 h1 h2 h3]
      · have e : plusP sum p t = ([], (mulT (parseT p).1 t).2) := by unfold plusP; rw [if_neg h0, if_neg (fun h => h h1), if_pos h2]
        rw [e, if_pos h2, addUp_err2 _ _ _ _ h0 h1 h2]
    · have e : plusP sum p t = ([], (parseT p).2) := by unfold plusP; rw [if_neg h0, if_pos h1]
      rw [e, if_pos h1, addUp_err1 _ _ _ _ h0 h1]
theorem plusP_len (sum p t : List UInt8) (h : sum.length ≤ 60) : (plusP sum p t).1.length ≤ 60 := by
  unfold plusP
  split
  · exact h
  · split
    · exact Nat.zero_le _
    · split
      · exact Nat.zero_le _
      · exact addT_len _ _
set_option maxHeartbeats 2000000 in
set_option maxRecDepth 100000 in
theorem plus_s (sum p t : ByteArray) (W : World) (hs : sum.size ≤ 1000) (hp : p.size ≤ 1000) (ht : t.size ≤ 1000) : Calls Tryz.prog 40 #[.string sum, .string p, .string t] W (OutE W (plusP sum.data.toList p.data.toList t.data.toList)) := by
  by_cases h0 : p.data.toList = []
  · have g1 : (p.toList == []) = true := by rw [ByteArray.toList_eq, h0]; rfl
    have hv : Hid (plusP sum.data.toList p.data.toList t.data.toList = (sum.data.toList, 0)) := Lib.hid (by unfold plusP; rw [if_pos h0])
    replace h0 := Lib.hid h0
    go_enter Tryz.func40, Tryz.ntmps40
    go_wp2_with fail
    go_ret2
    exact ⟨by rw [hv.out]; show _ = Ending.returned (.tuple #[.string ⟨sum.data.toList.toArray⟩, _]); rw [show (⟨sum.data.toList.toArray⟩ : ByteArray) = sum from data_inj (by simp)]; rfl, Below.refl _ _⟩
  · have g1 : (p.toList == []) = false := by rw [ByteArray.toList_eq]; simpa using h0
    obtain ⟨X, hX⟩ : ∃ X : ByteArray, X = ⟨(parseT p.data.toList).1.toArray⟩ := ⟨_, rfl⟩
    obtain ⟨ex, hex⟩ : ∃ k, k = (parseT p.data.toList).2 := ⟨_, rfl⟩
    have hXd : X.data.toList = (parseT p.data.toList).1 := by rw [hX]
    have hXl : X.size ≤ 60 := by rw [← list_len, hXd]; exact parseT_len _
    obtain ⟨Y, hY⟩ : ∃ X' : ByteArray, X' = ⟨(mulT X.data.toList t.data.toList).1.toArray⟩ := ⟨_, rfl⟩
    obtain ⟨ey, hey⟩ : ∃ k, k = (mulT X.data.toList t.data.toList).2 := ⟨_, rfl⟩
    have hYd : Y.data.toList = (mulT X.data.toList t.data.toList).1 := by rw [hY]
    have hYl : Y.size ≤ 60 := by rw [← list_len, hYd]; exact mulT_len _ _
    have c1 : Calls Tryz.prog 47 #[.string p] W fun e w' => e = .returned (.tuple #[.string X, .int .i64 ex]) ∧ Below W.heap.size W w' := (Parse_r p W (by unfold maxLen; omega)).mono fun e w' h => ⟨by rw [hX, hex]; exact h.1, h.2⟩
    have c2 : ∀ w, Calls Tryz.prog 73 #[.string X, .string t] w fun e w' => e = .returned (.tuple #[.string Y, .int .i64 ey]) ∧ Below w.heap.size w w' := fun w => (Mul_r X t w (by unfold maxLen; omega) (by unfold maxLen; omega)).mono fun e w' h => ⟨by rw [hY, hey]; exact h.1, h.2⟩
    have c3 := fun w => Add_r sum Y w (by unfold maxLen; omega) (by unfold maxLen; omega)
    obtain ⟨R, hR⟩ : ∃ R, R = plusP sum.data.toList p.data.toList t.data.toList := ⟨_, rfl⟩
    rw [← hR]
    unfold plusP at hR
    rw [if_neg h0, ← hex, ← hXd, ← hey, ← hYd] at hR
    replace h0 := Lib.hid h0
    replace hR := Lib.hid hR
    replace c2 := Lib.hid c2
    replace c3 := Lib.hid c3
    clear hX hex hXd hXl hY hey hYd hYl hs hp ht
    go_enter Tryz.func40, Tryz.ntmps40
    go_wp2_with fail
    refine c1.mono ?_
    rintro e w1 ⟨rfl, hb1⟩
    clear c1
    by_cases h1 : ex = 0
    · have k1 : (ex == 0) = true := by simpa using h1
      have k1' : Hid (¬ ex ≠ 0) := Lib.hid (fun h => h h1)
      replace h1 := Lib.hid h1
      go_wp2_with fail
      refine (c2.out _).mono ?_
      rintro e w2 ⟨rfl, hb2⟩
      by_cases h2 : ey = 0
      · have k2 : (ey == 0) = true := by simpa using h2
        have k2' : Hid (¬ ey ≠ 0) := Lib.hid (fun h => h h2)
        replace h2 := Lib.hid h2
        go_wp2_with fail
        refine (c3.out _).mono ?_
        rintro e w3 ⟨rfl, hb3⟩
        go_wp2_with fail
        go_ret2
        have hb02 := hb1.trans (hb2.mono hb1.size)
        exact ⟨by rw [hR.out, if_neg k1'.out, if_neg k2'.out]; rfl, hb02.trans (hb3.mono hb02.size)⟩
      · have k2 : (ey == 0) = false := by simpa using h2
        replace h2 := Lib.hid h2
        go_wp2_with fail
        go_ret2
        exact ⟨by rw [hR.out, if_neg k1'.out, if_pos h2.out]; rfl, hb1.trans (hb2.mono hb1.size)⟩
    · have k1 : (ex == 0) = false := by simpa using h1
      replace h1 := Lib.hid h1
      go_wp2_with fail
      go_ret2
      exact ⟨by rw [hR.out, if_pos h1.out]; rfl, hb1⟩
end Go.Proofs.YtjndcehkgfbagaaGreatDoor

namespace Go.Proofs.YtjndcehkgfbagaaGreatDoor
open Go.RowKit NumP DigP DurP Go.Proofs.YtjndcehkgfbagaaGreatDoorW.PrintWords
set_option linter.unusedVariables false

theorem some_four (a b c d : List UInt8) : someP [a, b, c, d] = !(a.isEmpty && b.isEmpty && c.isEmpty && d.isEmpty) := by cases a <;> cases b <;> cases c <;> cases d <;> rfl
theorem addUp_pad (Y : List UInt8) : addUp [Y] sizes [48] = addUp [Y, [], [], []] sizes [48] := by
  unfold sizes
  rw [addUp_plus, addUp_plus]
  split
  · rfl
  · rw [addUp_nil, addUp_skip, addUp_skip, addUp_skip, addUp_nil]
theorem tail_pad (mi ok : Bool) (Y R : List UInt8) : tailR mi ok [Y] R = tailR mi ok [Y, [], [], []] R := by
  unfold tailR
  rw [addUp_pad, show someP [Y] = someP [Y, [], [], []] by rw [some_four]; cases Y <;> rfl]
theorem wrong_T {mi ok : Bool} {ps : List (List UInt8)} {c : List UInt8} (h : c ≠ []) : secondsR mi ok false ps [] c = ([], 5) := by
  rw [tailR_not]
  unfold tailR
  rw [if_pos (.inr (.inl h))]
theorem tail_bad (mi : Bool) (ps : List (List UInt8)) (R : List UInt8) : tailR mi false ps R = ([], 5) := by
  unfold tailR
  rw [if_pos (.inl rfl)]
/-- What is done with four parts. -/
theorem tail_good {mi : Bool} {ps : List (List UInt8)} (h : someP ps = true) : tailR mi true ps [] = if (addUp ps sizes [48]).2 ≠ 0 then addUp ps sizes [48] else if mi then negT (addUp ps sizes [48]).1 else addUp ps sizes [48] := by
  unfold tailR
  rw [if_neg]
  rintro (h1 | h1 | h1)
  · cases h1
  · exact h1 rfl
  · rw [h] at h1; cases h1
set_option maxRecDepth 100000 in
set_option maxHeartbeats 2000000 in
theorem refSeconds_long (s : ByteArray) (W : World) (hs : s.size ≤ maxLen) (h : 200 < s.size) : Calls Tryz.prog 19 #[.string s] W (OutE W (secondsP s.data.toList)) := by
  unfold maxLen at hs
  have hR : Hid (secondsP s.data.toList = ([], 2)) := Lib.hid (by unfold secondsP; rw [if_pos (by rw [list_len]; exact h)])
  have h1 : (s.size : Int) > 200 := by omega
  go_enter Tryz.func19, Tryz.ntmps19
  go_wp2_with fail
  go_ret2
  exact ⟨by rw [hR.out]; rfl, Below.refl _ _⟩
theorem rdV_mkR (l : List UInt8) (k : Bool) : rdV l k = .agg #[.string ⟨l.toArray⟩, .bool k] := rfl
theorem two_laterR {W4 : World} {q p : Addr} {a b : Value} {w w' : World} (hq : Hid (q.block < W4.heap.size ∧ p.block < W4.heap.size)) (h : w.cell? q = some a ∧ w.cell? p = some b ∧ Hid (Below W4.heap.size W4 w)) (hb : Below w.heap.size w w') :
    w'.cell? q = some a ∧ w'.cell? p = some b ∧ Hid (Below W4.heap.size W4 w') := by
  obtain ⟨c0, c1, h⟩ := h
  have hz := h.out.size
  obtain ⟨hq1, hq2⟩ := hq.out
  exact ⟨(hb.cell (by omega)).trans c0, (hb.cell (by omega)).trans c1, Lib.hid (h.out.trans (hb.mono h.out.size))⟩
set_option maxRecDepth 100000 in
set_option maxHeartbeats 8000000 in
theorem refSeconds_r (s : ByteArray) (W : World) (hs : ¬ 200 < s.size) : Calls Tryz.prog 19 #[.string s] W (OutE W (secondsP s.data.toList)) := by
  obtain ⟨mi, hmi⟩ : ∃ mi, mi = (s.data.toList.head? == some 45) := ⟨_, rfl⟩
  obtain ⟨b1, hb1⟩ : ∃ b1, b1 = (if mi = true then s.data.toList.drop 1 else s.data.toList) := ⟨_, rfl⟩
  have b1l : b1.length ≤ 200 := by
    have : s.data.toList.length ≤ 200 := by rw [list_len]; omega
    rw [hb1]; split
    · rw [List.length_drop]; omega
    · exact this
  obtain ⟨B1, hB1⟩ : ∃ B1 : ByteArray, B1 = ⟨b1.toArray⟩ := ⟨_, rfl⟩
  have B1d : B1.data.toList = b1 := by rw [hB1]
  obtain ⟨ok, hok⟩ : ∃ ok, ok = (b1.head? == some 80) := ⟨_, rfl⟩
  obtain ⟨b2, hb2⟩ : ∃ b2, b2 = (if ok = true then b1.drop 1 else b1) := ⟨_, rfl⟩
  have b2l : b2.length ≤ 200 := by
    rw [hb2]; split
    · rw [List.length_drop]; omega
    · exact b1l
  obtain ⟨B2, hB2⟩ : ∃ B2 : ByteArray, B2 = ⟨b2.toArray⟩ := ⟨_, rfl⟩
  have B2d : B2.data.toList = b2 := by rw [hB2]
  obtain ⟨Y, hY⟩ : ∃ Y, Y = (partP 68 b2).1 := ⟨_, rfl⟩
  obtain ⟨c2, hc2⟩ : ∃ Y, Y = (partP 68 b2).2 := ⟨_, rfl⟩
  obtain ⟨YB, hYB⟩ : ∃ B : ByteArray, B = ⟨Y.toArray⟩ := ⟨_, rfl⟩
  obtain ⟨C2, hC2⟩ : ∃ B : ByteArray, B = ⟨c2.toArray⟩ := ⟨_, rfl⟩
  have C2d : C2.data.toList = c2 := by rw [hC2]
  have Yl : Y.length ≤ 200 := by rw [hY]; exact Nat.le_trans (partP_len _ _) b2l
  have c2l : c2.length ≤ 200 := by rw [hc2]; exact Nat.le_trans (partP_rest _ _) b2l
  have hlr : ¬ 200 < s.data.toList.length := by rw [list_len]; exact hs
  have h5 : cutP [68] b2 = ([Y], c2) := by rw [hY, hc2]; rfl
  have hIs : Hid ((c2.head? == some 84) = true → ∀ more R, cutP [72, 77, 83] (c2.drop 1) = (more, R) → secondsP s.data.toList = secondsR mi ok true ([Y] ++ more) more R) := Lib.hid (fun h6 more R h7 => secondsP_is hlr hmi hb1 hok hb2 h5 h6 h7)
  have hNot : Hid ((c2.head? == some 84) = false → secondsP s.data.toList = secondsR mi ok false [Y] [] c2) := Lib.hid (fun h6 => secondsP_not hlr hmi hb1 hok hb2 h5 h6)
  have k1 : Hid (∀ W, Calls Tryz.prog 32 #[.agg #[.string s, .bool true]] W fun e w' => e = .returned (.tuple #[.agg #[.string B1, .bool true], .bool mi]) ∧ Below W.heap.size W w') := Lib.hid (fun W => by
    have := sign_r s true W (by omega)
    unfold SignPost at this
    rw [← hmi, ← hb1, rdV_mkR, ← hB1] at this
    exact this)
  have k2 : Hid (∀ W, Calls Tryz.prog 33 #[.agg #[.string B1, .bool true], .int .u8 80] W fun e w' => e = .returned (.agg #[.string B2, .bool ok]) ∧ Below W.heap.size W w') := Lib.hid (fun W => by
    have := has_r B1 true 80 W (by rw [← list_len, B1d]; omega)
    unfold HasPost at this
    rw [B1d, ← hok, ← hb2] at this
    rw [show (if ok = true then true else false) = ok by cases ok <;> rfl, rdV_mkR, ← hB2] at this
    exact this)
  have k3 : Hid (∀ W, Calls Tryz.prog 34 #[.agg #[.string B2, .bool ok], .int .u8 68, .bool false] W fun e w' => e = .returned (.tuple #[.agg #[.string C2, .bool ok], .string YB]) ∧ Below W.heap.size W w') := Lib.hid (fun W => by
    have := part_r B2 ok 68 (by decide) W (by rw [← list_len, B2d]; omega)
    rw [B2d] at this
    unfold PartPost at this
    rw [← hc2, ← hY, rdV_mkR, ← hC2, ← hYB] at this
    exact this)
  have hC2t : C2.toList = c2 := by rw [ByteArray.toList_eq, C2d]
  have h0 : ¬ ((s.size : Int) > 200) := by omega
  clear hB1 B1d hok hb2 hB2 B2d hY hc2 hb1 hmi b1l b2l h5 hlr
  clear hs
  replace hYB := Lib.hid hYB
  replace hC2 := Lib.hid hC2
  replace C2d := Lib.hid C2d
  go_enter Tryz.func19, Tryz.ntmps19
  go_wp2_with fail
  refine (k1.out W).mono ?_
  rintro e w1 ⟨rfl, hbe1⟩
  clear k1
  go_wp2_with fail
  obtain ⟨W1, hW1⟩ : ∃ W1, W1 = w1.alloc (.cells #[.string B1, .bool true] 51) := ⟨_, rfl⟩
  obtain ⟨g, hg⟩ : ∃ g, g = w1.heap.size := ⟨_, rfl⟩
  have hx1 : W1.heap[g]? = some (.cells #[.string B1, .bool true] 51 (0, 0)) := by rw [hW1, hg]; exact (MapKept.heap_alloc _ _).1
  have hD1 : Hid (Below W.heap.size W W1) := Lib.hid (by rw [hW1]; exact hbe1.alloc hbe1.size _)
  have hgW : Hid (W.heap.size ≤ g) := Lib.hid (by rw [hg]; exact hbe1.size)
  rw [← hW1, ← hg]
  replace hx1 := Lib.hid hx1
  replace hg := Lib.hid hg
  clear hW1 hbe1
  refine (k2.out _).mono ?_
  rintro e v1 ⟨rfl, hcb⟩
  have hy1 := (hcb.block g (heap_lt hx1.out)).trans hx1.out
  have hE1 := Lib.hid (hD1.out.trans (hcb.mono hD1.out.size))
  obtain ⟨⟨u0, u1⟩, fu⟩ := cells2 hy1
  have fu0 := fu 0
  have fu1 := fu 1
  obtain ⟨W2, hW2, hx2, hcc, -⟩ := put2 hy1 (.string B2) (.bool ok) (B := W.heap.size) hgW.out
  have hD2 := Lib.hid (hE1.out.trans hcc)
  replace hx2 := Lib.hid hx2
  clear fu hcb hcc
  replace hy1 := Lib.hid hy1
  replace hW2 := Lib.hid hW2
  go_wp2_with fail
  rw [← hW2.out]
  clear u0 u1 fu0 fu1
  refine (k3.out _).mono ?_
  rintro e v2 ⟨rfl, hcb⟩
  have hy2 := (hcb.block g (heap_lt hx2.out)).trans hx2.out
  have hE2 := Lib.hid (hD2.out.trans (hcb.mono hD2.out.size))
  obtain ⟨⟨u0, u1⟩, fu⟩ := cells2 hy2
  have fu0 := fu 0
  have fu1 := fu 1
  obtain ⟨W3, hW3, hx3, hcc, -⟩ := put2 hy2 (.string C2) (.bool ok) (B := W.heap.size) hgW.out
  have hD3 := Lib.hid (hE2.out.trans hcc)
  replace hx3 := Lib.hid hx3
  clear fu hcb hcc
  replace hy2 := Lib.hid hy2
  replace hW3 := Lib.hid hW3
  by_cases hc0 : c2 = []
  · have g7 : (C2.toList == []) = true := by rw [hC2t, hc0]; rfl
    have hres : Hid (secondsP s.data.toList = tailR mi ok [Y, [], [], []] c2) := Lib.hid (by rw [hNot.out (by rw [hc0]; rfl), tailR_not, tail_pad])
    have hYBt : YB.toList = Y := by rw [ByteArray.toList_eq, hYB.out]
    have hRt := Lib.hid hC2t
    clear hIs hNot hC2t
    replace hc0 := Lib.hid hc0
    go_upto_region 14 with fail
    rw [← hW3.out]
    clear u0 u1 fu0 fu1
    replace hRt := hRt.out
    obtain ⟨ps, hps⟩ : ∃ ps, ps = [Y, [], [], []] := ⟨_, rfl⟩
    have hn : Hid (ps.length = 4) := Lib.hid (by rw [hps]; rfl)
    have hpl : Hid (∀ p ∈ ps, p.length ≤ 200) := Lib.hid (fun p hp => by
      rw [hps] at hp
      simp only [List.mem_cons, List.not_mem_nil, or_false] at hp
      rcases hp with rfl | rfl | rfl | rfl <;> first | assumption | exact Nat.zero_le _)
    have hsm4 : Hid (someP ps = !(Y.isEmpty && [].isEmpty && [].isEmpty && [].isEmpty)) := Lib.hid (by rw [hps, some_four])
    obtain ⟨bb, hbb⟩ : ∃ b : Bool, b = decide (ok = false ∨ c2 ≠ [] ∨ someP ps = false) := ⟨_, rfl⟩
    rw [← hps] at hres
    obtain ⟨⟨t0, t1⟩, -⟩ := cells2 hx3.out
    go_cut [84] from 61 to 83 (fun v wx => v = .bool bb ∧ wx = W3)
    case first =>
      cases ok with
      | false =>
        have hb0 : bb = true := by rw [hbb]; simp
        subst hb0
        replace hbb := Lib.hid hbb
        go_wp2_with fail
        go_meet
        exact ⟨rfl, rfl⟩
      | true =>
        by_cases hR0 : c2 = []
        · have gR : (C2.toList == []) = true := by rw [hRt, hR0]; rfl
          have hb2 : bb = !(someP ps) := by rw [hbb, hR0]; cases someP ps <;> simp
          rw [hsm4.out] at hb2
          replace hbb := Lib.hid hbb
          replace hR0 := Lib.hid hR0
          clear hRt
          by_cases e0 : Y = []
          · have f0 : (YB.toList == []) = true := by rw [hYBt, e0]; rfl
            have hb0 : bb = true := by rw [hb2]; simp [e0]
            subst hb0
            clear hb2 hYBt
            go_wp2_with fail
            go_meet
            exact ⟨rfl, rfl⟩
          · have f0 : (YB.toList == []) = false := by rw [hYBt]; simpa using e0
            have hb0 : bb = false := by rw [hb2]; simp [e0]
            subst hb0
            clear hb2 hYBt
            go_wp2_with fail
            go_meet
            exact ⟨rfl, rfl⟩
        · exact absurd hc0.out hR0
    case rest =>
    obtain ⟨rfl, hw⟩ := hcut
    have hw := hw.symm
    subst hw
    clear t0 t1
    cases bb with
    | true =>
      have hv : Hid (secondsP s.data.toList = ([], 5)) := Lib.hid (by
        rw [hres.out]
        unfold tailR
        rw [if_pos (by simpa using hbb.symm)])
      clear hbb
      go_wp2_with fail
      go_ret2
      exact ⟨by rw [hv.out]; rfl, hD3.out⟩
    | false =>
    have hgood : ok = true ∧ c2 = [] ∧ someP ps = true := by
      have h := hbb.symm
      simp only [decide_eq_false_iff_not, not_or] at h
      obtain ⟨a1, a2, a3⟩ := h
      exact ⟨by simpa using a1, by simpa using a2, by simpa using a3⟩
    have hv : Hid (secondsP s.data.toList = if (addUp ps sizes [48]).2 ≠ 0 then addUp ps sizes [48] else if mi then negT (addUp ps sizes [48]).1 else addUp ps sizes [48]) := Lib.hid (by rw [hres.out, hgood.1, hgood.2.1, tail_good hgood.2.2])
    clear hbb hgood hres hsm4
    obtain ⟨W9, hW9⟩ : ∃ w, w = (W3.alloc (.cells #[.string YB, .string ⟨#[]⟩, .string ⟨#[]⟩, .string ⟨#[]⟩] 9)).alloc (.cells #[.string ⟨#[56, 54, 52, 48, 48]⟩, .string ⟨#[51, 54, 48, 48]⟩, .string ⟨#[54, 48]⟩, .string ⟨#[49]⟩] 9) := ⟨_, rfl⟩
    obtain ⟨g1, hg1⟩ : ∃ g, g = W3.heap.size := ⟨_, rfl⟩
    have hB9 : Hid (Below W3.heap.size W3 W9) := Lib.hid (by rw [hW9]; exact two_allocs _ _ _)
    have hD9 := Lib.hid (hD3.out.trans (hB9.out.mono hD3.out.size))
    have hl9 : Hid (g1 < W9.heap.size ∧ g1 + 1 < W9.heap.size) := Lib.hid (by rw [hW9, hg1]; simp; omega)
    have hc1 : Hid (∀ k p, ps[k]? = some p → W9.cell? ⟨g1, k, none⟩ = some (.string ⟨p.toArray⟩)) := Lib.hid (fun k p hp => by
      have hk : k < 4 := by rw [← hn.out]; exact (List.getElem?_eq_some_iff.1 hp).1
      have h1 : W9.heap[g1]? = some (.cells #[.string YB, .string ⟨#[]⟩, .string ⟨#[]⟩, .string ⟨#[]⟩] 9 (0, 0)) := by
        rw [hW9, hg1, Below.heap_alloc _ _ _ (by simp)]
        exact (MapKept.heap_alloc _ _).1
      rw [Lib.cell_of_heap h1]
      rw [hps] at hp
      have : k = 0 ∨ k = 1 ∨ k = 2 ∨ k = 3 := by omega
      rcases this with rfl | rfl | rfl | rfl <;> (injection hp with hp; rw [← hp]; first | rfl | rw [hYB.out]; rfl))
    have hc2' : Hid (∀ k p, sizes[k]? = some p → W9.cell? ⟨g1 + 1, k, none⟩ = some (.string ⟨p.toArray⟩)) := Lib.hid (fun k p hp => by
      have hk : k < 4 := (List.getElem?_eq_some_iff.1 hp).1
      have h1 : W9.heap[g1 + 1]? = some (.cells #[.string ⟨#[56, 54, 52, 48, 48]⟩, .string ⟨#[51, 54, 48, 48]⟩, .string ⟨#[54, 48]⟩, .string ⟨#[49]⟩] 9 (0, 0)) := by
        have := (MapKept.heap_alloc (W3.alloc (.cells #[.string YB, .string ⟨#[]⟩, .string ⟨#[]⟩, .string ⟨#[]⟩] 9)) (.cells #[.string ⟨#[56, 54, 52, 48, 48]⟩, .string ⟨#[51, 54, 48, 48]⟩, .string ⟨#[54, 48]⟩, .string ⟨#[49]⟩] 9)).1
        rw [hW9, hg1]
        simpa using this
      rw [Lib.cell_of_heap h1]
      have : k = 0 ∨ k = 1 ∨ k = 2 ∨ k = 3 := by omega
      rcases this with rfl | rfl | rfl | rfl <;> (injection hp with hp; rw [← hp]; rfl))
    replace hps := Lib.hid hps
    go_wp2_with fail
    rw [← hW9, ← hg1]
    replace hW9 := Lib.hid hW9
    replace hg1 := Lib.hid hg1
    go_loopw [12, 13] (fun sv i wr => ∃ (k : Nat) (sum : List UInt8), sv = .string ⟨sum.toArray⟩ ∧ i = .int .i64 k ∧ k ≤ 4 ∧ Hid (sum.length ≤ 60 ∧ addUp ps sizes [48] = addUp (ps.drop k) (sizes.drop k) sum) ∧ Hid (Below W9.heap.size W9 wr)) (fun _ i _ => 4 - (intOf i).toNat)
    case atStart => exact ⟨0, [48], rfl, rfl, by decide, Lib.hid ⟨by decide, rfl⟩, Lib.hid (Below.refl _ _)⟩
    case round =>
      obtain ⟨k, sum, rfl, rfl, hk, hka, hbr⟩ := hrel
      have hb0r := Lib.hid (hD9.out.trans (hbr.out.mono hD9.out.size))
      by_cases hlt : k < 4
      · obtain ⟨p, hp⟩ : ∃ p, ps[k]? = some p := ⟨ps[k]'(by rw [hn.out]; exact hlt), List.getElem?_eq_getElem _⟩
        have hdr : Hid (ps.drop k = p :: ps.drop (k + 1)) := Lib.hid (by
          obtain ⟨h1, h2⟩ := List.getElem?_eq_some_iff.1 hp
          rw [← h2]; exact List.drop_eq_getElem_cons h1)
        obtain ⟨t, ht1, ht2, ht3⟩ := sizes_at k hlt
        replace ht3 := Lib.hid ht3
        have q0 : wr.cell? ⟨g1, k, none⟩ = some (.string ⟨p.toArray⟩) := (hbr.out.cell (p := ⟨g1, k, none⟩) hl9.out.1).trans (hc1.out k p hp)
        have q1 : wr.cell? ⟨g1 + 1, k, none⟩ = some (.string ⟨t.toArray⟩) := (hbr.out.cell (p := ⟨g1 + 1, k, none⟩) hl9.out.2).trans (hc2'.out k t ht1)
        have hpl' : p.length ≤ 200 := hpl.out p (List.mem_of_getElem? hp)
        have hpu := plus_s ⟨sum.toArray⟩ ⟨p.toArray⟩ ⟨t.toArray⟩
        have hadd := addUp_plus p (ps.drop (k + 1)) (sizes.drop (k + 1)) t sum
        rw [← hdr.out, ← ht3.out, ← hka.out.2] at hadd
        rw [show (⟨sum.toArray⟩ : ByteArray).data.toList = sum by simp, show (⟨p.toArray⟩ : ByteArray).data.toList = p by simp, show (⟨t.toArray⟩ : ByteArray).data.toList = t by simp] at hpu
        have hrl := plusP_len sum p t hka.out.1
        obtain ⟨r, hr⟩ : ∃ r, r = (plusP sum p t).1 := ⟨_, rfl⟩
        obtain ⟨er, her⟩ : ∃ r, r = (plusP sum p t).2 := ⟨_, rfl⟩
        have hcal : Hid (∀ w, Calls Tryz.prog 40 #[.string ⟨sum.toArray⟩, .string ⟨p.toArray⟩, .string ⟨t.toArray⟩] w fun e w' => e = .returned (.tuple #[.string ⟨r.toArray⟩, .int .i64 er]) ∧ Below w.heap.size w w') := Lib.hid (fun w => by
          have hs1 := hka.out.1
          have h := hpu w (by rw [← list_len]; show sum.length ≤ 1000; omega) (by rw [← list_len]; show p.length ≤ 1000; omega) (by rw [← list_len]; show t.length ≤ 1000; omega)
          unfold OutE at h
          rw [← hr, ← her] at h
          exact h)
        rw [← hr] at hrl hadd
        rw [← her] at hadd
        have kI : (k : Int) < 4 := by omega
        have hS : Hid (wr.drew.cell? ⟨g1, k, none⟩ = some (.string ⟨p.toArray⟩) ∧ wr.drew.cell? ⟨g1 + 1, k, none⟩ = some (.string ⟨t.toArray⟩) ∧ Hid (Below wr.heap.size wr wr.drew)) := Lib.hid ⟨q0, q1, Lib.hid (Below.refl _ _).drew⟩
        replace hp := Lib.hid hp
        replace hr := Lib.hid hr
        replace her := Lib.hid her
        replace hadd := Lib.hid hadd
        replace ht1 := Lib.hid ht1
        clear hpu hpl' ht2
        have hlr : Hid (g1 < wr.heap.size ∧ g1 + 1 < wr.heap.size) := Lib.hid ⟨Nat.lt_of_lt_of_le hl9.out.1 hbr.out.size, Nat.lt_of_lt_of_le hl9.out.2 hbr.out.size⟩
        go_wp2_with fail
        go_region_held3 (fun w' => w'.cell? ⟨g1, k, none⟩ = some (.string ⟨p.toArray⟩) ∧ w'.cell? ⟨g1 + 1, k, none⟩ = some (.string ⟨t.toArray⟩) ∧ Hid (Below wr.heap.size wr w'))
          (first | exact hS.out | assumption | exact two_laterR hlr (by assumption) (by assumption))
          (first
            | (go_at_call 40; refine (hcal.out _).mono ?_; rintro e w' ⟨rfl, hbb⟩))
        rename_i hH
        have hbb := Lib.hid (hbr.out.trans (hH.2.2.out.mono hbr.out.size))
        clear hH
        by_cases he : er = 0
        · have g2 : (er == 0) = true := by simpa using he
          have hnx : Hid (addUp ps sizes [48] = addUp (ps.drop (k + 1)) (sizes.drop (k + 1)) r) := Lib.hid (by rw [hadd.out, if_neg (fun h => h he)])
          replace he := Lib.hid he
          go_wp2_with fail
          exact ⟨⟨k + 1, r, rfl, by simp, by omega, Lib.hid ⟨hrl, hnx.out⟩, hbb⟩, by simp [intOf]; omega⟩
        · have g2 : (er == 0) = false := by simpa using he
          have hnx : Hid (addUp ps sizes [48] = ([], 40)) := Lib.hid (by rw [hadd.out, if_pos he])
          have hfin : Hid (secondsP s.data.toList = ([], 40)) := Lib.hid (by rw [hv.out, hnx.out, if_pos (by decide)])
          replace he := Lib.hid he
          go_wp2_with fail
          go_ret2
          exact ⟨by rw [hfin.out]; rfl, hD9.out.trans (hbb.out.mono hD9.out.size)⟩
      · have hk4 : k = 4 := by omega
        subst hk4
        have hend : Hid (addUp ps sizes [48] = (sum, 0)) := Lib.hid (by rw [hka.out.2, List.drop_eq_nil_of_le (by rw [hn.out]; exact Nat.le_refl _), addUp_nil])
        cases mi with
        | false =>
          have hfin : Hid (secondsP s.data.toList = (sum, 0)) := Lib.hid (by rw [hv.out, hend.out, if_neg (fun h => h rfl), if_neg (by decide)])
          go_wp2_with fail
          go_ret2
          exact ⟨by rw [hfin.out]; rfl, hb0r.out⟩
        | true =>
          have hfin : Hid (secondsP s.data.toList = negT sum) := Lib.hid (by rw [hv.out, hend.out, if_neg (fun h => h rfl), if_pos rfl])
          have hne := Neg_r ⟨sum.toArray⟩ wr (by rw [← list_len]; show sum.length ≤ 2 ^ 63 - 1; have := hka.out.1; omega)
          rw [show (⟨sum.toArray⟩ : ByteArray).data.toList = sum by simp, ← hfin.out] at hne
          go_wp2_with fail
          refine hne.mono ?_
          rintro e w5 ⟨rfl, hb5⟩
          go_wp2_with fail
          go_ret2
          exact ⟨rfl, hb0r.out.trans (hb5.mono hb0r.out.size)⟩
  · have g7 : (C2.toList == []) = false := by rw [hC2t]; simpa using hc0
    obtain ⟨is, his⟩ : ∃ b, b = (c2.head? == some 84) := ⟨_, rfl⟩
    obtain ⟨tt, htt⟩ : ∃ l, l = (if is = true then c2.drop 1 else c2) := ⟨_, rfl⟩
    obtain ⟨ok2, hok2⟩ : ∃ b, b = (if is = true then ok else false) := ⟨_, rfl⟩
    have ttl : tt.length ≤ 200 := by
      rw [htt]; split
      · rw [List.length_drop]; omega
      · exact c2l
    obtain ⟨TT, hTT⟩ : ∃ B : ByteArray, B = ⟨tt.toArray⟩ := ⟨_, rfl⟩
    have TTd : TT.data.toList = tt := by rw [hTT]
    have k4 : Hid (∀ W, Calls Tryz.prog 33 #[.agg #[.string C2, .bool ok], .int .u8 84] W fun e w' => e = .returned (.agg #[.string TT, .bool ok2]) ∧ Below W.heap.size W w') := Lib.hid (fun W => by
      have := has_r C2 ok 84 W (by rw [← list_len, C2d.out]; omega)
      unfold HasPost at this
      rw [C2d.out, ← his, ← htt, ← hok2, rdV_mkR, ← hTT] at this
      exact this)
    obtain ⟨H, hH⟩ : ∃ Y, Y = (partP 72 tt).1 := ⟨_, rfl⟩
    obtain ⟨c3, hc3⟩ : ∃ Y, Y = (partP 72 tt).2 := ⟨_, rfl⟩
    obtain ⟨HB, hHB⟩ : ∃ B : ByteArray, B = ⟨H.toArray⟩ := ⟨_, rfl⟩
    obtain ⟨C3, hC3⟩ : ∃ B : ByteArray, B = ⟨c3.toArray⟩ := ⟨_, rfl⟩
    have C3d : C3.data.toList = c3 := by rw [hC3]
    have Hl : H.length ≤ 200 := by rw [hH]; exact Nat.le_trans (partP_len _ _) ttl
    have c3l : c3.length ≤ 200 := by rw [hc3]; exact Nat.le_trans (partP_rest _ _) ttl
    have k5 : Hid (∀ W, Calls Tryz.prog 34 #[.agg #[.string TT, .bool ok2], .int .u8 72, .bool false] W fun e w' => e = .returned (.tuple #[.agg #[.string C3, .bool ok2], .string HB]) ∧ Below W.heap.size W w') := Lib.hid (fun W => by
      have := part_r TT ok2 72 (by decide) W (by rw [← list_len, TTd]; omega)
      rw [TTd] at this
      unfold PartPost at this
      rw [← hc3, ← hH, rdV_mkR, ← hC3, ← hHB] at this
      exact this)
    obtain ⟨M, hM⟩ : ∃ Y, Y = (partP 77 c3).1 := ⟨_, rfl⟩
    obtain ⟨c4, hc4⟩ : ∃ Y, Y = (partP 77 c3).2 := ⟨_, rfl⟩
    obtain ⟨MB, hMB⟩ : ∃ B : ByteArray, B = ⟨M.toArray⟩ := ⟨_, rfl⟩
    obtain ⟨C4, hC4⟩ : ∃ B : ByteArray, B = ⟨c4.toArray⟩ := ⟨_, rfl⟩
    have C4d : C4.data.toList = c4 := by rw [hC4]
    have Ml : M.length ≤ 200 := by rw [hM]; exact Nat.le_trans (partP_len _ _) c3l
    have c4l : c4.length ≤ 200 := by rw [hc4]; exact Nat.le_trans (partP_rest _ _) c3l
    have k6 : Hid (∀ W, Calls Tryz.prog 34 #[.agg #[.string C3, .bool ok2], .int .u8 77, .bool false] W fun e w' => e = .returned (.tuple #[.agg #[.string C4, .bool ok2], .string MB]) ∧ Below W.heap.size W w') := Lib.hid (fun W => by
      have := part_r C3 ok2 77 (by decide) W (by rw [← list_len, C3d]; omega)
      rw [C3d] at this
      unfold PartPost at this
      rw [← hc4, ← hM, rdV_mkR, ← hC4, ← hMB] at this
      exact this)
    obtain ⟨S, hS⟩ : ∃ Y, Y = (partP 83 c4).1 := ⟨_, rfl⟩
    obtain ⟨c5, hc5⟩ : ∃ Y, Y = (partP 83 c4).2 := ⟨_, rfl⟩
    obtain ⟨SB, hSB⟩ : ∃ B : ByteArray, B = ⟨S.toArray⟩ := ⟨_, rfl⟩
    obtain ⟨C5, hC5⟩ : ∃ B : ByteArray, B = ⟨c5.toArray⟩ := ⟨_, rfl⟩
    have C5d : C5.data.toList = c5 := by rw [hC5]
    have Sl : S.length ≤ 200 := by rw [hS]; exact Nat.le_trans (partP_len _ _) c4l
    have c5l : c5.length ≤ 200 := by rw [hc5]; exact Nat.le_trans (partP_rest _ _) c4l
    have k7 : Hid (∀ W, Calls Tryz.prog 34 #[.agg #[.string C4, .bool ok2], .int .u8 83, .bool true] W fun e w' => e = .returned (.tuple #[.agg #[.string C5, .bool ok2], .string SB]) ∧ Below W.heap.size W w') := Lib.hid (fun W => by
      have := part_f C4 ok2 W (by rw [← list_len, C4d]; omega)
      rw [C4d] at this
      unfold PartPost at this
      rw [← hc5, ← hS, rdV_mkR, ← hC5, ← hSB] at this
      exact this)
    have hcut3 : is = true → cutP [72, 77, 83] (c2.drop 1) = ([H, M, S], c5) := fun h => by
      rw [show c2.drop 1 = tt by rw [htt, if_pos h]]
      rw [hH, hM, hS, hc5, hc4, hc3]; rfl
    have hnone : Hid (H = [] ∧ M = [] ∧ S = [] → secondsP s.data.toList = ([], 5)) := Lib.hid (fun ⟨a1, a2, a3⟩ => by
      cases hi : is with
      | true =>
        rw [hIs.out (by rw [← his, hi]) _ _ (hcut3 hi)]
        unfold secondsR
        rw [if_pos ⟨rfl, by rw [a1, a2, a3]; rfl⟩]
      | false => rw [hNot.out (by rw [← his, hi]), wrong_T hc0])
    have hres : Hid (¬ (H = [] ∧ M = [] ∧ S = []) → secondsP s.data.toList = tailR mi ok2 [Y, H, M, S] c5) := Lib.hid (fun hsome => by
      cases hi : is with
      | true =>
        rw [hIs.out (by rw [← his, hi]) _ _ (hcut3 hi), tailR_is, hok2, if_pos hi]
        · rfl
        · cases hh : someP [H, M, S] with
          | true => rfl
          | false =>
            refine absurd ?_ hsome
            have e : someP [H, M, S] = !(H.isEmpty && M.isEmpty && S.isEmpty) := by cases H <;> cases M <;> cases S <;> rfl
            rw [e] at hh
            simp at hh
            exact ⟨hh.1.1, hh.1.2, hh.2⟩
      | false => rw [hNot.out (by rw [← his, hi]), wrong_T hc0, hok2, hi, if_neg (by decide), tail_bad])
    have hYBt : YB.toList = Y := by rw [ByteArray.toList_eq, hYB.out]
    have hHBt : HB.toList = H := by rw [ByteArray.toList_eq, hHB]
    have hMBt : MB.toList = M := by rw [ByteArray.toList_eq, hMB]
    have hSBt : SB.toList = S := by rw [ByteArray.toList_eq, hSB]
    have hRt : C5.toList = c5 := by rw [ByteArray.toList_eq, C5d]
    clear hcut3 his htt hok2 hTT TTd hIs hNot hH hc3 hM hc4 hS hc5 hC3 C3d hC4 C4d hC5 C5d hC2t
    replace hc0 := Lib.hid hc0
    replace hHB := Lib.hid hHB
    replace hMB := Lib.hid hMB
    replace hSB := Lib.hid hSB
    go_wp2_with fail
    rw [← hW3.out]
    clear u0 u1 fu0 fu1
    refine (k4.out _).mono ?_
    rintro e v3 ⟨rfl, hcb⟩
    have hy3 := (hcb.block g (heap_lt hx3.out)).trans hx3.out
    have hE3 := Lib.hid (hD3.out.trans (hcb.mono hD3.out.size))
    obtain ⟨⟨u0, u1⟩, fu⟩ := cells2 hy3
    have fu0 := fu 0
    have fu1 := fu 1
    obtain ⟨W4, hW4, hx4, hcc, -⟩ := put2 hy3 (.string TT) (.bool ok2) (B := W.heap.size) hgW.out
    have hD4 := Lib.hid (hE3.out.trans hcc)
    replace hx4 := Lib.hid hx4
    clear fu hcb hcc
    replace hy3 := Lib.hid hy3
    replace hW4 := Lib.hid hW4
    go_wp2_with fail
    rw [← hW4.out]
    clear u0 u1 fu0 fu1
    refine (k5.out _).mono ?_
    rintro e v4 ⟨rfl, hcb⟩
    have hy4 := (hcb.block g (heap_lt hx4.out)).trans hx4.out
    have hE4 := Lib.hid (hD4.out.trans (hcb.mono hD4.out.size))
    obtain ⟨⟨u0, u1⟩, fu⟩ := cells2 hy4
    have fu0 := fu 0
    have fu1 := fu 1
    obtain ⟨W5, hW5, hx5, hcc, -⟩ := put2 hy4 (.string C3) (.bool ok2) (B := W.heap.size) hgW.out
    have hD5 := Lib.hid (hE4.out.trans hcc)
    replace hx5 := Lib.hid hx5
    clear fu hcb hcc
    replace hy4 := Lib.hid hy4
    replace hW5 := Lib.hid hW5
    go_wp2_with fail
    rw [← hW5.out]
    clear u0 u1 fu0 fu1
    refine (k6.out _).mono ?_
    rintro e v5 ⟨rfl, hcb⟩
    have hy5 := (hcb.block g (heap_lt hx5.out)).trans hx5.out
    have hE5 := Lib.hid (hD5.out.trans (hcb.mono hD5.out.size))
    obtain ⟨⟨u0, u1⟩, fu⟩ := cells2 hy5
    have fu0 := fu 0
    have fu1 := fu 1
    obtain ⟨W6, hW6, hx6, hcc, -⟩ := put2 hy5 (.string C4) (.bool ok2) (B := W.heap.size) hgW.out
    have hD6 := Lib.hid (hE5.out.trans hcc)
    replace hx6 := Lib.hid hx6
    clear fu hcb hcc
    replace hy5 := Lib.hid hy5
    replace hW6 := Lib.hid hW6
    go_wp2_with fail
    rw [← hW6.out]
    clear u0 u1 fu0 fu1
    refine (k7.out _).mono ?_
    rintro e v6 ⟨rfl, hcb⟩
    have hy6 := (hcb.block g (heap_lt hx6.out)).trans hx6.out
    have hE6 := Lib.hid (hD6.out.trans (hcb.mono hD6.out.size))
    obtain ⟨⟨u0, u1⟩, fu⟩ := cells2 hy6
    have fu0 := fu 0
    have fu1 := fu 1
    obtain ⟨W7, hW7, hx7, hcc, -⟩ := put2 hy6 (.string C5) (.bool ok2) (B := W.heap.size) hgW.out
    have hD7 := Lib.hid (hE6.out.trans hcc)
    replace hx7 := Lib.hid hx7
    clear fu hcb hcc
    replace hy6 := Lib.hid hy6
    replace hW7 := Lib.hid hW7
    clear k2 k3 k4 k5 k6 k7
    go_upto_region 12 with fail
    rw [← hW7.out]
    clear u0 u1 fu0 fu1
    obtain ⟨b12, hb12⟩ : ∃ b : Bool, b = decide (H = [] ∧ M = [] ∧ S = []) := ⟨_, rfl⟩
    go_cut [60] from 51 to 59 (fun v wx => v = .bool b12 ∧ wx = W7)
    case first =>
      by_cases e0 : H = []
      · have f0 : (HB.toList == []) = true := by rw [hHBt, e0]; rfl
        by_cases e1 : M = []
        · have f1 : (MB.toList == []) = true := by rw [hMBt, e1]; rfl
          by_cases e2 : S = []
          · have f2 : (SB.toList == []) = true := by rw [hSBt, e2]; rfl
            have hb0 : b12 = true := by rw [hb12]; simp [e0, e1, e2]
            subst hb0
            clear hb12 hHBt hMBt hSBt
            go_wp2_with fail
            go_meet
            exact ⟨rfl, rfl⟩
          · have f2 : (SB.toList == []) = false := by rw [hSBt]; simpa using e2
            have hb0 : b12 = false := by rw [hb12]; simp [e0, e1, e2]
            subst hb0
            clear hb12 hHBt hMBt hSBt
            go_wp2_with fail
            go_meet
            exact ⟨rfl, rfl⟩
        · have f1 : (MB.toList == []) = false := by rw [hMBt]; simpa using e1
          have hb0 : b12 = false := by rw [hb12]; simp [e0, e1]
          subst hb0
          clear hb12 hHBt hMBt hSBt
          go_wp2_with fail
          go_meet
          exact ⟨rfl, rfl⟩
      · have f0 : (HB.toList == []) = false := by rw [hHBt]; simpa using e0
        have hb0 : b12 = false := by rw [hb12]; simp [e0]
        subst hb0
        clear hb12 hHBt hMBt hSBt
        go_wp2_with fail
        go_meet
        exact ⟨rfl, rfl⟩
    case rest =>
    obtain ⟨rfl, hw⟩ := hcut
    have hw := hw.symm
    subst hw
    cases b12 with
    | true =>
      have hv := hnone.out (by simpa using hb12.symm)
      replace hv := Lib.hid hv
      clear hb12
      go_wp2_with fail
      go_ret2
      exact ⟨by rw [hv.out]; rfl, hD7.out⟩
    | false =>
    replace hres := Lib.hid (hres.out (by simpa using hb12.symm))
    clear hb12 hnone
    go_upto_region 14 with fail
    obtain ⟨ps, hps⟩ : ∃ ps, ps = [Y, H, M, S] := ⟨_, rfl⟩
    have hn : Hid (ps.length = 4) := Lib.hid (by rw [hps]; rfl)
    have hpl : Hid (∀ p ∈ ps, p.length ≤ 200) := Lib.hid (fun p hp => by
      rw [hps] at hp
      simp only [List.mem_cons, List.not_mem_nil, or_false] at hp
      rcases hp with rfl | rfl | rfl | rfl <;> first | assumption | exact Nat.zero_le _)
    have hsm4 : Hid (someP ps = !(Y.isEmpty && H.isEmpty && M.isEmpty && S.isEmpty)) := Lib.hid (by rw [hps, some_four])
    obtain ⟨bb, hbb⟩ : ∃ b : Bool, b = decide (ok2 = false ∨ c5 ≠ [] ∨ someP ps = false) := ⟨_, rfl⟩
    rw [← hps] at hres
    obtain ⟨⟨t0, t1⟩, -⟩ := cells2 hx7.out
    go_cut [84] from 61 to 83 (fun v wx => v = .bool bb ∧ wx = W7)
    case first =>
      cases ok2 with
      | false =>
        have hb0 : bb = true := by rw [hbb]; simp
        subst hb0
        replace hbb := Lib.hid hbb
        go_wp2_with fail
        go_meet
        exact ⟨rfl, rfl⟩
      | true =>
        by_cases hR0 : c5 = []
        · have gR : (C5.toList == []) = true := by rw [hRt, hR0]; rfl
          have hb2 : bb = !(someP ps) := by rw [hbb, hR0]; cases someP ps <;> simp
          rw [hsm4.out] at hb2
          replace hbb := Lib.hid hbb
          replace hR0 := Lib.hid hR0
          clear hRt
          by_cases e0 : Y = []
          · have f0 : (YB.toList == []) = true := by rw [hYBt, e0]; rfl
            by_cases e1 : H = []
            · have f1 : (HB.toList == []) = true := by rw [hHBt, e1]; rfl
              by_cases e2 : M = []
              · have f2 : (MB.toList == []) = true := by rw [hMBt, e2]; rfl
                by_cases e3 : S = []
                · have f3 : (SB.toList == []) = true := by rw [hSBt, e3]; rfl
                  have hb0 : bb = true := by rw [hb2]; simp [e0, e1, e2, e3]
                  subst hb0
                  clear hb2 hYBt hHBt hMBt hSBt
                  go_wp2_with fail
                  go_meet
                  exact ⟨rfl, rfl⟩
                · have f3 : (SB.toList == []) = false := by rw [hSBt]; simpa using e3
                  have hb0 : bb = false := by rw [hb2]; simp [e0, e1, e2, e3]
                  subst hb0
                  clear hb2 hYBt hHBt hMBt hSBt
                  go_wp2_with fail
                  go_meet
                  exact ⟨rfl, rfl⟩
              · have f2 : (MB.toList == []) = false := by rw [hMBt]; simpa using e2
                have hb0 : bb = false := by rw [hb2]; simp [e0, e1, e2]
                subst hb0
                clear hb2 hYBt hHBt hMBt hSBt
                go_wp2_with fail
                go_meet
                exact ⟨rfl, rfl⟩
            · have f1 : (HB.toList == []) = false := by rw [hHBt]; simpa using e1
              have hb0 : bb = false := by rw [hb2]; simp [e0, e1]
              subst hb0
              clear hb2 hYBt hHBt hMBt hSBt
              go_wp2_with fail
              go_meet
              exact ⟨rfl, rfl⟩
          · have f0 : (YB.toList == []) = false := by rw [hYBt]; simpa using e0
            have hb0 : bb = false := by rw [hb2]; simp [e0]
            subst hb0
            clear hb2 hYBt hHBt hMBt hSBt
            go_wp2_with fail
            go_meet
            exact ⟨rfl, rfl⟩
        · have gR : (C5.toList == []) = false := by rw [hRt]; simpa using hR0
          have hb0 : bb = true := by rw [hbb]; simp [hR0]
          subst hb0
          replace hbb := Lib.hid hbb
          replace hR0 := Lib.hid hR0
          clear hRt
          go_wp2_with fail
          go_meet
          exact ⟨rfl, rfl⟩
    case rest =>
    obtain ⟨rfl, hw⟩ := hcut
    have hw := hw.symm
    subst hw
    clear t0 t1
    cases bb with
    | true =>
      have hv : Hid (secondsP s.data.toList = ([], 5)) := Lib.hid (by
        rw [hres.out]
        unfold tailR
        rw [if_pos (by simpa using hbb.symm)])
      clear hbb
      go_wp2_with fail
      go_ret2
      exact ⟨by rw [hv.out]; rfl, hD7.out⟩
    | false =>
    have hgood : ok2 = true ∧ c5 = [] ∧ someP ps = true := by
      have h := hbb.symm
      simp only [decide_eq_false_iff_not, not_or] at h
      obtain ⟨a1, a2, a3⟩ := h
      exact ⟨by simpa using a1, by simpa using a2, by simpa using a3⟩
    have hv : Hid (secondsP s.data.toList = if (addUp ps sizes [48]).2 ≠ 0 then addUp ps sizes [48] else if mi then negT (addUp ps sizes [48]).1 else addUp ps sizes [48]) := Lib.hid (by rw [hres.out, hgood.1, hgood.2.1, tail_good hgood.2.2])
    clear hbb hgood hres hsm4
    obtain ⟨W9, hW9⟩ : ∃ w, w = (W7.alloc (.cells #[.string YB, .string HB, .string MB, .string SB] 9)).alloc (.cells #[.string ⟨#[56, 54, 52, 48, 48]⟩, .string ⟨#[51, 54, 48, 48]⟩, .string ⟨#[54, 48]⟩, .string ⟨#[49]⟩] 9) := ⟨_, rfl⟩
    obtain ⟨g1, hg1⟩ : ∃ g, g = W7.heap.size := ⟨_, rfl⟩
    have hB9 : Hid (Below W7.heap.size W7 W9) := Lib.hid (by rw [hW9]; exact two_allocs _ _ _)
    have hD9 := Lib.hid (hD7.out.trans (hB9.out.mono hD7.out.size))
    have hl9 : Hid (g1 < W9.heap.size ∧ g1 + 1 < W9.heap.size) := Lib.hid (by rw [hW9, hg1]; simp; omega)
    have hc1 : Hid (∀ k p, ps[k]? = some p → W9.cell? ⟨g1, k, none⟩ = some (.string ⟨p.toArray⟩)) := Lib.hid (fun k p hp => by
      have hk : k < 4 := by rw [← hn.out]; exact (List.getElem?_eq_some_iff.1 hp).1
      have h1 : W9.heap[g1]? = some (.cells #[.string YB, .string HB, .string MB, .string SB] 9 (0, 0)) := by
        rw [hW9, hg1, Below.heap_alloc _ _ _ (by simp)]
        exact (MapKept.heap_alloc _ _).1
      rw [Lib.cell_of_heap h1]
      rw [hps] at hp
      have : k = 0 ∨ k = 1 ∨ k = 2 ∨ k = 3 := by omega
      rcases this with rfl | rfl | rfl | rfl <;> (injection hp with hp; rw [← hp]; first | rw [hYB.out]; rfl | rw [hHB.out]; rfl | rw [hMB.out]; rfl | rw [hSB.out]; rfl))
    have hc2' : Hid (∀ k p, sizes[k]? = some p → W9.cell? ⟨g1 + 1, k, none⟩ = some (.string ⟨p.toArray⟩)) := Lib.hid (fun k p hp => by
      have hk : k < 4 := (List.getElem?_eq_some_iff.1 hp).1
      have h1 : W9.heap[g1 + 1]? = some (.cells #[.string ⟨#[56, 54, 52, 48, 48]⟩, .string ⟨#[51, 54, 48, 48]⟩, .string ⟨#[54, 48]⟩, .string ⟨#[49]⟩] 9 (0, 0)) := by
        have := (MapKept.heap_alloc (W7.alloc (.cells #[.string YB, .string HB, .string MB, .string SB] 9)) (.cells #[.string ⟨#[56, 54, 52, 48, 48]⟩, .string ⟨#[51, 54, 48, 48]⟩, .string ⟨#[54, 48]⟩, .string ⟨#[49]⟩] 9)).1
        rw [hW9, hg1]
        simpa using this
      rw [Lib.cell_of_heap h1]
      have : k = 0 ∨ k = 1 ∨ k = 2 ∨ k = 3 := by omega
      rcases this with rfl | rfl | rfl | rfl <;> (injection hp with hp; rw [← hp]; rfl))
    replace hps := Lib.hid hps
    go_wp2_with fail
    rw [← hW9, ← hg1]
    replace hW9 := Lib.hid hW9
    replace hg1 := Lib.hid hg1
    go_loopw [12, 13] (fun sv i wr => ∃ (k : Nat) (sum : List UInt8), sv = .string ⟨sum.toArray⟩ ∧ i = .int .i64 k ∧ k ≤ 4 ∧ Hid (sum.length ≤ 60 ∧ addUp ps sizes [48] = addUp (ps.drop k) (sizes.drop k) sum) ∧ Hid (Below W9.heap.size W9 wr)) (fun _ i _ => 4 - (intOf i).toNat)
    case atStart => exact ⟨0, [48], rfl, rfl, by decide, Lib.hid ⟨by decide, rfl⟩, Lib.hid (Below.refl _ _)⟩
    case round =>
      obtain ⟨k, sum, rfl, rfl, hk, hka, hbr⟩ := hrel
      have hb0r := Lib.hid (hD9.out.trans (hbr.out.mono hD9.out.size))
      by_cases hlt : k < 4
      · obtain ⟨p, hp⟩ : ∃ p, ps[k]? = some p := ⟨ps[k]'(by rw [hn.out]; exact hlt), List.getElem?_eq_getElem _⟩
        have hdr : Hid (ps.drop k = p :: ps.drop (k + 1)) := Lib.hid (by
          obtain ⟨h1, h2⟩ := List.getElem?_eq_some_iff.1 hp
          rw [← h2]; exact List.drop_eq_getElem_cons h1)
        obtain ⟨t, ht1, ht2, ht3⟩ := sizes_at k hlt
        replace ht3 := Lib.hid ht3
        have q0 : wr.cell? ⟨g1, k, none⟩ = some (.string ⟨p.toArray⟩) := (hbr.out.cell (p := ⟨g1, k, none⟩) hl9.out.1).trans (hc1.out k p hp)
        have q1 : wr.cell? ⟨g1 + 1, k, none⟩ = some (.string ⟨t.toArray⟩) := (hbr.out.cell (p := ⟨g1 + 1, k, none⟩) hl9.out.2).trans (hc2'.out k t ht1)
        have hpl' : p.length ≤ 200 := hpl.out p (List.mem_of_getElem? hp)
        have hpu := plus_s ⟨sum.toArray⟩ ⟨p.toArray⟩ ⟨t.toArray⟩
        have hadd := addUp_plus p (ps.drop (k + 1)) (sizes.drop (k + 1)) t sum
        rw [← hdr.out, ← ht3.out, ← hka.out.2] at hadd
        rw [show (⟨sum.toArray⟩ : ByteArray).data.toList = sum by simp, show (⟨p.toArray⟩ : ByteArray).data.toList = p by simp, show (⟨t.toArray⟩ : ByteArray).data.toList = t by simp] at hpu
        have hrl := plusP_len sum p t hka.out.1
        obtain ⟨r, hr⟩ : ∃ r, r = (plusP sum p t).1 := ⟨_, rfl⟩
        obtain ⟨er, her⟩ : ∃ r, r = (plusP sum p t).2 := ⟨_, rfl⟩
        have hcal : Hid (∀ w, Calls Tryz.prog 40 #[.string ⟨sum.toArray⟩, .string ⟨p.toArray⟩, .string ⟨t.toArray⟩] w fun e w' => e = .returned (.tuple #[.string ⟨r.toArray⟩, .int .i64 er]) ∧ Below w.heap.size w w') := Lib.hid (fun w => by
          have hs1 := hka.out.1
          have h := hpu w (by rw [← list_len]; show sum.length ≤ 1000; omega) (by rw [← list_len]; show p.length ≤ 1000; omega) (by rw [← list_len]; show t.length ≤ 1000; omega)
          unfold OutE at h
          rw [← hr, ← her] at h
          exact h)
        rw [← hr] at hrl hadd
        rw [← her] at hadd
        have kI : (k : Int) < 4 := by omega
        have hS : Hid (wr.drew.cell? ⟨g1, k, none⟩ = some (.string ⟨p.toArray⟩) ∧ wr.drew.cell? ⟨g1 + 1, k, none⟩ = some (.string ⟨t.toArray⟩) ∧ Hid (Below wr.heap.size wr wr.drew)) := Lib.hid ⟨q0, q1, Lib.hid (Below.refl _ _).drew⟩
        replace hp := Lib.hid hp
        replace hr := Lib.hid hr
        replace her := Lib.hid her
        replace hadd := Lib.hid hadd
        replace ht1 := Lib.hid ht1
        clear hpu hpl' ht2
        have hlr : Hid (g1 < wr.heap.size ∧ g1 + 1 < wr.heap.size) := Lib.hid ⟨Nat.lt_of_lt_of_le hl9.out.1 hbr.out.size, Nat.lt_of_lt_of_le hl9.out.2 hbr.out.size⟩
        go_wp2_with fail
        go_region_held3 (fun w' => w'.cell? ⟨g1, k, none⟩ = some (.string ⟨p.toArray⟩) ∧ w'.cell? ⟨g1 + 1, k, none⟩ = some (.string ⟨t.toArray⟩) ∧ Hid (Below wr.heap.size wr w'))
          (first | exact hS.out | assumption | exact two_laterR hlr (by assumption) (by assumption))
          (first
            | (go_at_call 40; refine (hcal.out _).mono ?_; rintro e w' ⟨rfl, hbb⟩))
        rename_i hH
        have hbb := Lib.hid (hbr.out.trans (hH.2.2.out.mono hbr.out.size))
        clear hH
        by_cases he : er = 0
        · have g2 : (er == 0) = true := by simpa using he
          have hnx : Hid (addUp ps sizes [48] = addUp (ps.drop (k + 1)) (sizes.drop (k + 1)) r) := Lib.hid (by rw [hadd.out, if_neg (fun h => h he)])
          replace he := Lib.hid he
          go_wp2_with fail
          exact ⟨⟨k + 1, r, rfl, by simp, by omega, Lib.hid ⟨hrl, hnx.out⟩, hbb⟩, by simp [intOf]; omega⟩
        · have g2 : (er == 0) = false := by simpa using he
          have hnx : Hid (addUp ps sizes [48] = ([], 40)) := Lib.hid (by rw [hadd.out, if_pos he])
          have hfin : Hid (secondsP s.data.toList = ([], 40)) := Lib.hid (by rw [hv.out, hnx.out, if_pos (by decide)])
          replace he := Lib.hid he
          go_wp2_with fail
          go_ret2
          exact ⟨by rw [hfin.out]; rfl, hD9.out.trans (hbb.out.mono hD9.out.size)⟩
      · have hk4 : k = 4 := by omega
        subst hk4
        have hend : Hid (addUp ps sizes [48] = (sum, 0)) := Lib.hid (by rw [hka.out.2, List.drop_eq_nil_of_le (by rw [hn.out]; exact Nat.le_refl _), addUp_nil])
        cases mi with
        | false =>
          have hfin : Hid (secondsP s.data.toList = (sum, 0)) := Lib.hid (by rw [hv.out, hend.out, if_neg (fun h => h rfl), if_neg (by decide)])
          go_wp2_with fail
          go_ret2
          exact ⟨by rw [hfin.out]; rfl, hb0r.out⟩
        | true =>
          have hfin : Hid (secondsP s.data.toList = negT sum) := Lib.hid (by rw [hv.out, hend.out, if_neg (fun h => h rfl), if_pos rfl])
          have hne := Neg_r ⟨sum.toArray⟩ wr (by rw [← list_len]; show sum.length ≤ 2 ^ 63 - 1; have := hka.out.1; omega)
          rw [show (⟨sum.toArray⟩ : ByteArray).data.toList = sum by simp, ← hfin.out] at hne
          go_wp2_with fail
          refine hne.mono ?_
          rintro e w5 ⟨rfl, hb5⟩
          go_wp2_with fail
          go_ret2
          exact ⟨rfl, hb0r.out.trans (hb5.mono hb0r.out.size)⟩
theorem ParseSec_r (s : ByteArray) (W : World) (hs : s.size ≤ maxLen) : Calls Tryz.prog 19 #[.string s] W (OutE W (secondsP s.data.toList)) := by
  by_cases h : 200 < s.size
  · exact refSeconds_long s W hs h
  · exact refSeconds_r s W h
end Go.Proofs.YtjndcehkgfbagaaGreatDoor

namespace Go.Proofs.YtjndcehkgfbagaaGreatDoor
open Go.RowKit NumP DurP Go.Proofs.YtjndcehkgfbagaaGreatDoorW.PrintWords
set_option linter.unusedVariables false

set_option maxHeartbeats 2000000 in
set_option maxRecDepth 100000 in
theorem durSeconds_walk (s : ByteArray) (W : World) (hL : LaidD W) (hs : s.size ≤ maxLen) : Calls Tryz.prog 5 #[.string s] W fun e w' => e = .returned (.bool true) ∧ Below W.heap.size W w' := by
  obtain ⟨t, k, hak⟩ : ∃ (t : ByteArray) (k : Int), secondsP s.data.toList = (t.data.toList, k) := ⟨⟨(secondsP s.data.toList).1.toArray⟩, _, rfl⟩
  have c1 := Lib.hid (fun W hL => ParseSeconds_at (s := s) (t := t) rfl rfl hak W hL hs)
  have c2 : Hid (∀ W, Calls Tryz.prog 19 #[.string s] W (StrAt W t k)) := Lib.hid (fun W => by
    have := ParseSec_r s W hs
    rw [hak] at this
    rw [show t = ⟨t.data.toList.toArray⟩ by simp]
    exact this)
  clear hak
  replace hL := Lib.hid hL
  go_enter Tryz.func5, Tryz.ntmps5
  go_wp2_with fail
  refine (c1.out W hL.out).mono ?_
  rintro e w1 ⟨rfl, hb1⟩
  go_wp2_with fail
  refine (c2.out w1).mono ?_
  rintro e w2 ⟨rfl, hb2⟩
  have hB := Lib.hid (hb1.trans (hb2.mono hb1.size))
  have hL2 := Lib.hid (hL.out.below hB.out hL.out.num.size)
  clear hb1 hb2
  go_wp2_with fail
  refine (works_calls w2 hL2.out).mono ?_
  rintro e w3 ⟨rfl, hb3⟩
  go_wp2_with fail
  go_ret
  exact ⟨rfl, hB.out.trans (hb3.mono hB.out.size)⟩
end Go.Proofs.YtjndcehkgfbagaaGreatDoor
