/- The reader of package chiselref06: sign, has, digit. The reader of package chiselref06: a part without a fraction. Package chiselref06: small, and ParseMonths. Package chiselref06: ParseMonths. Package chiselref06: decimal, and TextMonths. Package chiselref06: TextMonths; the walks of DurMonths and DurMonthTexts. -/
import Derived.Test.YtjndcehkgfbagaaGreatDoorNi
import Derived.RegionTactic
import Derived.BigRegion
import Derived.BigQuiet

namespace Go.Proofs.YtjndcehkgfbagaaGreatDoor
open Go.RowKit NumP DurP Go.Proofs.YtjndcehkgfbagaaGreatDoorW.PrintWords
set_option linter.unusedVariables false

theorem res_one {fn : Func} {p : Tmp} {ty : TypeId} (h : fn.results = #[.cell p ty]) (tmps : Array Value) (P : Program) (w : World) :
    (results fn tmps).run P w = ((asAddr (tmps.getD p undef)).run P w).andThen fun a w₁ => ((loadVar ty a).run P w₁).andThen fun v w₂ => .ok v w₂ := by
  simp only [results, h]
  simp [Sem.run_bind, Result.andThen]
  cases Sem.run P (asAddr (tmps[p]?.getD undef)) w with
  | ok a w1 => cases hh : Sem.run P (loadVar ty a) w1 <;> simp [hh]
  | halt h w1 => rfl
/-- A reader as a value. -/
def rdV (l : List UInt8) (ok : Bool) : Value := .agg #[.string ⟨l.toArray⟩, .bool ok]
def SignPost (W : World) (l : List UInt8) (ok b : Bool) (e : Ending) (w' : World) : Prop := e = .returned (.tuple #[rdV l ok, .bool b]) ∧ Below W.heap.size W w'
def HasPost (W : World) (l : List UInt8) (ok : Bool) (e : Ending) (w' : World) : Prop := e = .returned (rdV l ok) ∧ Below W.heap.size W w'
theorem rd_self (s : ByteArray) (ok : Bool) : rdV s.data.toList ok = .agg #[.string s, .bool ok] := by unfold rdV; rw [show (⟨s.data.toList.toArray⟩ : ByteArray) = s from data_inj (by simp)]
theorem rdV_drop (s : ByteArray) (ok : Bool) (k : Nat) : rdV (s.data.toList.drop k) ok = .agg #[.string (s.extract k s.size), .bool ok] := by unfold rdV; rw [drop_mk]
theorem two_allocs (W : World) (o o2 : Obj) : Below W.heap.size W ((W.alloc o).alloc o2) := ((Below.refl _ _).alloc (Nat.le_refl _) _).alloc (by simp) _
set_option maxRecDepth 100000 in
set_option maxHeartbeats 2000000 in
theorem sign_r (s : ByteArray) (ok : Bool) (W : World) (hs : s.size ≤ 1000) : Calls Tryz.prog 32 #[.agg #[.string s, .bool ok]] W
    (SignPost W (if (s.data.toList.head? == some 45) = true then s.data.toList.drop 1 else s.data.toList) ok (s.data.toList.head? == some 45)) := by
  obtain ⟨b, hb⟩ : ∃ b, b = (s.data.toList.head? == some 45) := ⟨_, rfl⟩
  obtain ⟨R, hR⟩ : ∃ R, R = (if b = true then s.data.toList.drop 1 else s.data.toList) := ⟨_, rfl⟩
  rw [← hb, ← hR]
  by_cases h0 : s.size = 0
  · have hl : s.data.toList = [] := List.eq_nil_of_length_eq_zero (by rw [list_len]; exact h0)
    have hbf : b = false := by rw [hb, hl]; rfl
    have hRs : Hid (rdV R ok = .agg #[.string s, .bool ok]) := Lib.hid (by rw [hR, hbf, ← rd_self]; rfl)
    subst hbf
    clear hb hR hl
    have g1 : ¬ ((s.size : Int) > 0) := by omega
    clear h0
    go_enter Tryz.func32, Tryz.ntmps32
    go_wp2_with fail
    refine bodyPost_ret (v := .tuple #[.agg #[.string s, .bool ok], .bool false]) ?ret rfl ?post
    case ret => rw [res_two rfl]; go_simp
    case post => exact ⟨by rw [hRs.out], two_allocs _ _ _⟩
  · have hp : 0 < s.size := by omega
    have hat := data_at s 0 hp
    rw [← List.head?_eq_getElem?] at hat
    have g1 : (s.size : Int) > 0 := by omega
    by_cases h45 : s[0] = 45
    · have hbt : b = true := by rw [hb, hat, h45]; rfl
      have hRs : Hid (rdV R ok = .agg #[.string (s.extract 1 s.size), .bool ok]) := Lib.hid (by rw [hR, hbt, ← rdV_drop]; rfl)
      have g2 : ((s[0].toNat : Int) == 45) = true := by rw [h45]; rfl
      subst hbt
      clear hb hR hat h0
      replace h45 := Lib.hid h45
      have g3 : (1 : Int) ≤ (s.size : Int) := by omega
      have g4 : 1 ≤ s.size := by omega
      go_enter Tryz.func32, Tryz.ntmps32
      go_wp2_with fail
      go_region
      go_wp2_with fail
      refine bodyPost_ret (v := .tuple #[.agg #[.string (s.extract 1 s.size), .bool ok], .bool true]) ?ret rfl ?post
      case ret => rw [res_two rfl]; go_simp
      case post => exact ⟨by rw [hRs.out], (two_allocs _ _ _).drew⟩
    · have hbf : b = false := by rw [hb, hat]; simpa using h45
      have hRs : Hid (rdV R ok = .agg #[.string s, .bool ok]) := Lib.hid (by rw [hR, hbf, ← rd_self]; rfl)
      have g2 : ((s[0].toNat : Int) == 45) = false := by rw [show (45 : Int) = ((45 : UInt8).toNat : Int) from rfl, byte_eq]; simpa using h45
      subst hbf
      clear hb hR hat h0
      replace h45 := Lib.hid h45
      go_enter Tryz.func32, Tryz.ntmps32
      go_wp2_with fail
      refine bodyPost_ret (v := .tuple #[.agg #[.string s, .bool ok], .bool false]) ?ret rfl ?post
      case ret => rw [res_two rfl]; go_simp
      case post => exact ⟨by rw [hRs.out], two_allocs _ _ _⟩

set_option maxRecDepth 100000 in
set_option maxHeartbeats 2000000 in
theorem has_r (s : ByteArray) (ok : Bool) (c : UInt8) (W : World) (hs : s.size ≤ 1000) : Calls Tryz.prog 33 #[.agg #[.string s, .bool ok], .int .u8 c.toNat] W
    (HasPost W (if (s.data.toList.head? == some c) = true then s.data.toList.drop 1 else s.data.toList) (if (s.data.toList.head? == some c) = true then ok else false)) := by
  obtain ⟨b, hb⟩ : ∃ b, b = (s.data.toList.head? == some c) := ⟨_, rfl⟩
  obtain ⟨R, hR⟩ : ∃ R, R = (if b = true then s.data.toList.drop 1 else s.data.toList) := ⟨_, rfl⟩
  obtain ⟨k, hk⟩ : ∃ k, k = (if b = true then ok else false) := ⟨_, rfl⟩
  rw [← hb, ← hR, ← hk]
  by_cases h0 : s.size = 0
  · have hl : s.data.toList = [] := List.eq_nil_of_length_eq_zero (by rw [list_len]; exact h0)
    have hbf : b = false := by rw [hb, hl]; rfl
    have hRs : Hid (rdV R k = .agg #[.string s, .bool false]) := Lib.hid (by rw [hR, hk, hbf, ← rd_self]; rfl)
    subst hbf
    clear hb hR hl hk
    have g1 : ¬ ((s.size : Int) > 0) := by omega
    clear h0
    go_enter Tryz.func33, Tryz.ntmps33
    go_wp2_with fail
    refine bodyPost_ret (v := .agg #[.string s, .bool false]) ?ret rfl ?post
    case ret => rw [res_one rfl]; go_simp
    case post => exact ⟨by rw [hRs.out], two_allocs _ _ _⟩
  · have hp : 0 < s.size := by omega
    have hat := data_at s 0 hp
    rw [← List.head?_eq_getElem?] at hat
    have g1 : (s.size : Int) > 0 := by omega
    by_cases h45 : s[0] = c
    · have hbt : b = true := by rw [hb, hat, h45]; simp
      have hRs : Hid (rdV R k = .agg #[.string (s.extract 1 s.size), .bool ok]) := Lib.hid (by rw [hR, hk, hbt, ← rdV_drop]; rfl)
      have g2 : ((s[0].toNat : Int) == (c.toNat : Int)) = true := by rw [h45]; simp
      subst hbt
      clear hb hR hat h0 hk
      replace h45 := Lib.hid h45
      have g3 : (1 : Int) ≤ (s.size : Int) := by omega
      have g4 : 1 ≤ s.size := by omega
      go_enter Tryz.func33, Tryz.ntmps33
      go_wp2_with fail
      go_region
      go_wp2_with fail
      refine bodyPost_ret (v := .agg #[.string (s.extract 1 s.size), .bool ok]) ?ret rfl ?post
      case ret => rw [res_one rfl]; go_simp
      case post => exact ⟨by rw [hRs.out], (two_allocs _ _ _).drew⟩
    · have hbf : b = false := by rw [hb, hat]; simpa using h45
      have hRs : Hid (rdV R k = .agg #[.string s, .bool false]) := Lib.hid (by rw [hR, hk, hbf, ← rd_self]; rfl)
      have g2 : ((s[0].toNat : Int) == (c.toNat : Int)) = false := by rw [byte_eq]; simpa using h45
      subst hbf
      clear hb hR hat h0 hk
      replace h45 := Lib.hid h45
      go_enter Tryz.func33, Tryz.ntmps33
      go_wp2_with fail
      refine bodyPost_ret (v := .agg #[.string s, .bool false]) ?ret rfl ?post
      case ret => rw [res_one rfl]; go_simp
      case post => exact ⟨by rw [hRs.out], two_allocs _ _ _⟩
/-- Whether a digit stands at a place. -/
def digAt (l : List UInt8) (i : Nat) : Bool := match l[i]? with
  | some c => isDig c
  | none => false
set_option maxRecDepth 100000 in
set_option maxHeartbeats 2000000 in
theorem digit_r (s : ByteArray) (i : Nat) (W : World) (hs : s.size ≤ 1000) : Calls Tryz.prog 68 #[.string s, .int .i64 (i : Int)] W fun e w' => e = .returned (.bool (digAt s.data.toList i)) ∧ W = w' := by
  obtain ⟨b, hb⟩ : ∃ b, b = digAt s.data.toList i := ⟨_, rfl⟩
  rw [← hb]
  unfold digAt at hb
  by_cases hi : i < s.size
  · rw [data_at s i hi] at hb
    have hb2 : b = isDig s[i] := hb
    unfold isDig at hb2
    have g1 : (i : Int) < (s.size : Int) := by omega
    by_cases h1 : 48 ≤ s[i].toNat
    · by_cases h2 : s[i].toNat ≤ 57
      · have hbt : b = true := by rw [hb2]; simp [h1, h2]
        have k1 : ((s[i].toNat : Int) ≥ 48) := by omega
        have k2 : ((s[i].toNat : Int) ≤ 57) := by omega
        subst hbt
        clear hb hb2
        go_enter Tryz.func68, Tryz.ntmps68
        go_wp2_with fail
        go_ret
        exact ⟨rfl, rfl⟩
      · have hbt : b = false := by rw [hb2]; simp [h2]
        have k1 : ((s[i].toNat : Int) ≥ 48) := by omega
        have k2 : ¬ ((s[i].toNat : Int) ≤ 57) := by omega
        subst hbt
        clear hb hb2
        go_enter Tryz.func68, Tryz.ntmps68
        go_wp2_with fail
        go_ret
        exact ⟨rfl, rfl⟩
    · have hbt : b = false := by rw [hb2]; simp [h1]
      have k1 : ¬ ((s[i].toNat : Int) ≥ 48) := by omega
      subst hbt
      clear hb hb2
      go_enter Tryz.func68, Tryz.ntmps68
      go_wp2_with fail
      go_ret
      exact ⟨rfl, rfl⟩
  · rw [data_end s i (by omega)] at hb
    have g1 : ¬ ((i : Int) < (s.size : Int)) := by omega
    have hbt : b = false := hb
    subst hbt
    clear hb
    go_enter Tryz.func68, Tryz.ntmps68
    go_wp2_with fail
    go_ret
    exact ⟨rfl, rfl⟩
end Go.Proofs.YtjndcehkgfbagaaGreatDoor

namespace Go.Proofs.YtjndcehkgfbagaaGreatDoor
open Go.RowKit NumP DurP Go.Proofs.YtjndcehkgfbagaaGreatDoorW.PrintWords
set_option linter.unusedVariables false

/-- The box of the argument and that of the result. -/
theorem box_rd (W : World) (s : ByteArray) (ok : Bool) : ∃ W2, W2 = (W.alloc (.cells #[.string s, .bool ok] 51)).alloc (.cells #[.string ⟨#[]⟩, .bool false] 51) ∧ Below W.heap.size W W2 ∧ W2.heap.size = W.heap.size + 2 ∧
    W2.heap[W.heap.size]? = some (.cells #[.string s, .bool ok] 51 (0, 0)) ∧ W2.heap[W.heap.size + 1]? = some (.cells #[.string ⟨#[]⟩, .bool false] 51 (0, 0)) := by
  refine ⟨_, rfl, two_allocs _ _ _, by simp, ?_, ?_⟩
  · rw [Below.heap_alloc _ _ _ (by simp)]
    exact (MapKept.heap_alloc _ _).1
  · have := (MapKept.heap_alloc (W.alloc (.cells #[.string s, .bool ok] 51)) (.cells #[.string ⟨#[]⟩, .bool false] 51)).1
    simpa using this
theorem digAt_lt {l : List UInt8} {i : Nat} (h : i < digN l) : digAt l i = true := by
  have hl := digN_le l
  have h1 : (l.takeWhile isDig)[i]? = l[i]? := by
    rw [← take_digN, List.getElem?_take, if_pos h]
  unfold digAt
  have h2 : i < (l.takeWhile isDig).length := h
  rw [← h1, List.getElem?_eq_getElem h2]
  exact takeWhile_mem l _ (List.getElem_mem h2)
theorem digAt_end (l : List UInt8) : digAt l (digN l) = false := by
  induction l with
  | nil => rfl
  | cons c l ih =>
    rw [digN_cons]
    split
    · unfold digAt at ih ⊢
      simpa using ih
    · rename_i h
      unfold digAt
      simpa using h
def PartPost (W : World) (r : List UInt8 × List UInt8) (ok : Bool) (e : Ending) (w' : World) : Prop := e = .returned (.tuple #[rdV r.2 ok, .string ⟨r.1.toArray⟩]) ∧ Below W.heap.size W w'
/-- What the loops of part stand in. -/
structure RdBox (W : World) (s : ByteArray) (ok : Bool) (q : Nat) (W2 : World) : Prop where
  below : Below W.heap.size W W2
  c0 : W2.cell? ⟨q, 0, none⟩ = some (.string s)
  c1 : W2.cell? ⟨q, 1, none⟩ = some (.bool ok)
  r0 : W2.cell? ⟨q + 1, 0, none⟩ = some (.string ⟨#[]⟩)
  r1 : W2.cell? ⟨q + 1, 1, none⟩ = some (.bool false)
  f0 : W2.frozen? ⟨q + 1, 0, none⟩ = false
  f1 : W2.frozen? ⟨q + 1, 1, none⟩ = false
  h1 : W2.heap[q + 1]? = some (.cells #[.string ⟨#[]⟩, .bool false] 51 (0, 0))
  ge : W.heap.size ≤ q
theorem box_all (W : World) (s : ByteArray) (ok : Bool) : ∃ W2, W2 = (W.alloc (.cells #[.string s, .bool ok] 51)).alloc (.cells #[.string ⟨#[]⟩, .bool false] 51) ∧ RdBox W s ok W.heap.size W2 := by
  obtain ⟨W2, e, hb, hz, hx, hy⟩ := box_rd W s ok
  obtain ⟨⟨x0, x1⟩, fx⟩ := cells2 hx
  obtain ⟨⟨y0, y1⟩, fy⟩ := cells2 hy
  exact ⟨W2, e, hb, x0, x1, y0, y1, fy 0, fy 1, hy, Nat.le_refl _⟩
set_option maxRecDepth 100000 in
set_option maxHeartbeats 2000000 in
theorem part_r (s : ByteArray) (ok : Bool) (c : UInt8) (hc : c ≠ 83) (W : World) (hs : s.size ≤ 1000) : Calls Tryz.prog 34 #[.agg #[.string s, .bool ok], .int .u8 c.toNat, .bool false] W (PartPost W (partP c s.data.toList) ok) := by
  obtain ⟨W2, hW2, hB⟩ := box_all W s ok
  obtain ⟨q, hq⟩ : ∃ q, q = W.heap.size := ⟨_, rfl⟩
  rw [← hq] at hB
  obtain ⟨n, hn⟩ : ∃ n, n = digN s.data.toList := ⟨_, rfl⟩
  have hns : n ≤ s.size := by rw [hn, ← list_len]; exact digN_le _
  obtain ⟨p, hp⟩ : ∃ p : ByteArray, p = ⟨(partP c s.data.toList).1.toArray⟩ := ⟨_, rfl⟩
  obtain ⟨r, hr⟩ : ∃ r : ByteArray, r = ⟨(partP c s.data.toList).2.toArray⟩ := ⟨_, rfl⟩
  have hres : Hid (.tuple #[rdV (partP c s.data.toList).2 ok, .string ⟨(partP c s.data.toList).1.toArray⟩] = Value.tuple #[.agg #[.string r, .bool ok], .string p]) := Lib.hid (by unfold rdV; rw [← hp, ← hr])
  have hend : partEnd c s.data.toList = n := partEnd_no hn (fun h => hc h.1)
  have hmiss : ¬ (0 < n ∧ s.data.toList[n]? = some c) → p = ⟨#[]⟩ ∧ r = s := fun h => by
    rw [hp, hr, partP_no hend h]
    exact ⟨rfl, data_inj (by simp)⟩
  have hhit : 0 < n → s.data.toList[n]? = some c → p = s.extract 0 n ∧ r = s.extract (n + 1) s.size := fun h1 h2 => by
    rw [hp, hr, partP_yes hend h1 h2]
    exact ⟨take_mk s n, drop_mk s (n + 1)⟩
  have hdig : Hid (∀ i, i ≤ n → ∀ w, Calls Tryz.prog 68 #[.string s, .int .i64 (i : Int)] w fun e w' => e = .returned (.bool (decide (i < n))) ∧ w = w') := Lib.hid (fun i hi w => by
    have := digit_r s i w hs
    have e : digAt s.data.toList i = decide (i < n) := by
      by_cases h : i < n
      · rw [digAt_lt (by rw [← hn]; exact h)]; simp [h]
      · have : i = n := by omega
        rw [this, hn, digAt_end]; simp
    rw [e] at this
    exact this)
  obtain ⟨hb2, x0, x1, y0, y1, f0, f1, hy, hge⟩ := hB
  replace hy := Lib.hid hy
  replace hn := Lib.hid hn
  replace hb2 := Lib.hid hb2
  replace hmiss := Lib.hid hmiss
  replace hhit := Lib.hid hhit
  clear hp hr hend
  go_enter Tryz.func34, Tryz.ntmps34
  go_wp2_with fail
  rw [← hW2, ← hq]
  clear hW2
  replace hq := Lib.hid hq
  go_loopw [8] (fun iv wr => ∃ i : Nat, iv = .int .i64 i ∧ i ≤ n ∧ wr = W2) (fun iv _ => n - (intOf iv).toNat)
  case atStart => exact ⟨0, rfl, Nat.zero_le _, rfl⟩
  case round =>
    obtain ⟨i, rfl, hi, rfl⟩ := hrel
    by_cases hlt : i < n
    · go_wp2_with fail
      refine (hdig.out i hi _).mono ?_
      rintro e w ⟨rfl, rfl⟩
      rw [decide_eq_true hlt]
      go_wp2_with fail
      exact ⟨⟨i + 1, by simp, by omega, by simp⟩, by simp [intOf]; omega⟩
    · have hin : i = n := by omega
      subst hin
      go_wp2_with fail
      refine (hdig.out i hi _).mono ?_
      rintro e w ⟨rfl, rfl⟩
      rw [decide_eq_false hlt]
      clear hlt hi hdig
      by_cases h0 : i = 0
      · obtain ⟨hp0, hr0⟩ := hmiss.out (fun h => by omega)
        have g1 : ((i : Int) == 0) = true := by simpa using h0
        subst hp0 hr0
        replace h0 := Lib.hid h0
        go_wp2_with fail
        obtain ⟨W5, hW5, h5, hb5, -⟩ := put2 hy.out (.string r) (.bool ok) (B := W.heap.size) (by omega)
        rw [← hW5]
        clear hW5 x0 x1 y0 y1 f0 f1
        obtain ⟨⟨z0, z1⟩, -⟩ := cells2 h5
        refine bodyPost_ret (v := .tuple #[.agg #[.string r, .bool ok], .string ⟨#[]⟩]) ?ret rfl ?post
        case ret => rw [res_two rfl]; go_simp
        case post => exact ⟨by rw [hres.out], hb2.out.trans hb5⟩
      · have g1 : ((i : Int) == 0) = false := by simpa using h0
        have hi0 : 0 < i := by omega
        by_cases hsz : i = s.size
        · obtain ⟨hp0, hr0⟩ := hmiss.out (fun h => by rw [data_end s i (by omega)] at h; cases h.2)
          have g2 : ¬ ((i : Int) < (s.size : Int)) := by omega
          subst hp0 hr0
          replace h0 := Lib.hid h0
          replace hsz := Lib.hid hsz
          go_wp2_with fail
          obtain ⟨W5, hW5, h5, hb5, -⟩ := put2 hy.out (.string r) (.bool ok) (B := W.heap.size) (by omega)
          rw [← hW5]
          clear hW5 x0 x1 y0 y1 f0 f1
          obtain ⟨⟨z0, z1⟩, -⟩ := cells2 h5
          refine bodyPost_ret (v := .tuple #[.agg #[.string r, .bool ok], .string ⟨#[]⟩]) ?ret rfl ?post
          case ret => rw [res_two rfl]; go_simp
          case post => exact ⟨by rw [hres.out], hb2.out.trans hb5⟩
        · have hlt : i < s.size := by omega
          have hat := data_at s i hlt
          have g2 : ((i : Int) < (s.size : Int)) := by omega
          by_cases h45 : s[i] = c
          · obtain ⟨hp0, hr0⟩ := hhit.out hi0 (by rw [hat, h45])
            have g3 : ((s[i].toNat : Int) == (c.toNat : Int)) = true := by rw [h45]; simp
            have g4 : ((i : Int) + 1 ≤ (s.size : Int)) := by omega
            have g5 : i + 1 ≤ s.size := by omega
            have g6 : ((i : Int) ≤ (s.size : Int)) := by omega
            subst hp0 hr0
            replace h0 := Lib.hid h0
            replace hat := Lib.hid hat
            replace h45 := Lib.hid h45
            replace hsz := Lib.hid hsz
            go_wp2_with fail
            go_region
            obtain ⟨W5, hW5, h5, hb5, -⟩ := put2 hy.out (.string (s.extract (i + 1) s.size)) (.bool ok) (B := W.heap.size) (by omega)
            rw [← hW5]
            clear hW5 x0 x1 y0 y1 f0 f1
            obtain ⟨⟨z0, z1⟩, -⟩ := cells2 (w := W5.drew) h5
            go_wp2_with fail
            refine bodyPost_ret (v := .tuple #[.agg #[.string (s.extract (i + 1) s.size), .bool ok], .string (s.extract 0 i)]) ?ret rfl ?post
            case ret => rw [res_two rfl]; go_simp
            case post => exact ⟨by rw [hres.out], (hb2.out.trans hb5).drew⟩
          · obtain ⟨hp0, hr0⟩ := hmiss.out (fun h => by rw [hat] at h; exact h45 (Option.some.inj h.2))
            have g3 : ((s[i].toNat : Int) == (c.toNat : Int)) = false := by rw [byte_eq]; simpa using h45
            subst hp0 hr0
            replace h0 := Lib.hid h0
            replace hat := Lib.hid hat
            replace h45 := Lib.hid h45
            replace hsz := Lib.hid hsz
            go_wp2_with fail
            obtain ⟨W5, hW5, h5, hb5, -⟩ := put2 hy.out (.string r) (.bool ok) (B := W.heap.size) (by omega)
            rw [← hW5]
            clear hW5 x0 x1 y0 y1 f0 f1
            obtain ⟨⟨z0, z1⟩, -⟩ := cells2 h5
            refine bodyPost_ret (v := .tuple #[.agg #[.string r, .bool ok], .string ⟨#[]⟩]) ?ret rfl ?post
            case ret => rw [res_two rfl]; go_simp
            case post => exact ⟨by rw [hres.out], hb2.out.trans hb5⟩
end Go.Proofs.YtjndcehkgfbagaaGreatDoor

namespace Go.Proofs.YtjndcehkgfbagaaGreatDoor
open Go.RowKit NumP DurP Go.Proofs.YtjndcehkgfbagaaGreatDoorW.PrintWords
set_option linter.unusedVariables false

/-- The value of digits, which stays as it is above 10 to the power 12. -/
def smF (n : Nat) (l : List UInt8) : Nat := l.foldl (fun n c => if n ≤ 1000000000000 then 10 * n + (c.toNat - 48) else n) n
theorem smF_snoc (n : Nat) (l : List UInt8) (c : UInt8) : smF n (l ++ [c]) = if smF n l ≤ 1000000000000 then 10 * smF n l + (c.toNat - 48) else smF n l := by unfold smF; rw [List.foldl_append]; rfl
theorem smF_big : ∀ (l : List UInt8) (n : Nat), 1000000000000 < n → smF n l = n
  | [], n, _ => rfl
  | c :: l, n, h => by
    show smF (if n ≤ 1000000000000 then _ else n) l = n
    rw [if_neg (by omega)]
    exact smF_big l n h
theorem valF_ge : ∀ (l : List UInt8) (n : Nat), n ≤ valF n l
  | [], n => Nat.le_refl _
  | c :: l, n => by
    have := valF_ge l (10 * n + (c.toNat - 48))
    show n ≤ valF (10 * n + (c.toNat - 48)) l
    omega
/-- It is the value, or both are above 10 to the power 12. -/
theorem smF_val : ∀ (l : List UInt8) (n : Nat), smF n l = valF n l ∨ (1000000000000 < smF n l ∧ 1000000000000 < valF n l)
  | [], n => .inl rfl
  | c :: l, n => by
    show smF (if n ≤ 1000000000000 then 10 * n + (c.toNat - 48) else n) l = valF (10 * n + (c.toNat - 48)) l ∨ _
    by_cases h : n ≤ 1000000000000
    · rw [if_pos h]
      rcases smF_val l (10 * n + (c.toNat - 48)) with e | e
      · exact .inl e
      · refine .inr ⟨?_, e.2⟩
        show 1000000000000 < smF (if n ≤ 1000000000000 then _ else n) l
        rw [if_pos h]; exact e.1
    · refine .inr ⟨?_, ?_⟩
      · show 1000000000000 < smF (if n ≤ 1000000000000 then _ else n) l
        rw [if_neg h, smF_big l n (by omega)]; omega
      · have := valF_ge l (10 * n + (c.toNat - 48))
        show 1000000000000 < valF (10 * n + (c.toNat - 48)) l
        omega
theorem smF_lt (l : List UInt8) (hd : Dig l) : smF 0 l ≤ 10000000000009 := by
  have : ∀ (l : List UInt8), Dig l → ∀ n, n ≤ 10000000000009 → smF n l ≤ 10000000000009 := by
    intro l
    induction l with
    | nil => intro _ n h; exact h
    | cons c l ih =>
      intro hd n h
      have hc := hd c (List.mem_cons_self ..)
      unfold isDig at hc
      simp only [Bool.and_eq_true, decide_eq_true_eq] at hc
      refine ih (fun x hx => hd x (List.mem_cons_of_mem _ hx)) _ ?_
      show (if n ≤ 1000000000000 then 10 * n + (c.toNat - 48) else n) ≤ _
      split <;> omega
  exact this l hd 0 (by decide)
set_option maxRecDepth 100000 in
set_option maxHeartbeats 2000000 in
theorem small_r (s : ByteArray) (W : World) (hs : s.size ≤ 1000) (hd : Dig s.data.toList) : Calls Tryz.prog 35 #[.string s] W fun e w' => e = .returned (.int .i64 (smF 0 s.data.toList : Nat)) ∧ W = w' := by
  obtain ⟨l, hl⟩ : ∃ l, l = s.data.toList := ⟨_, rfl⟩
  have hll : Hid (l.length = s.size) := Lib.hid (by rw [hl, list_len])
  rw [← hl] at hd ⊢
  have hat : Hid (∀ i (h : i < s.size), l.take (i + 1) = l.take i ++ [s[i]] ∧ 48 ≤ s[i].toNat ∧ s[i].toNat ≤ 57) := Lib.hid (fun i h => by
    have e := data_at s i h
    rw [← hl] at e
    obtain ⟨h1, h2⟩ := List.getElem?_eq_some_iff.1 e
    have hc := hd s[i] (by rw [← h2]; exact List.getElem_mem h1)
    unfold isDig at hc
    simp only [Bool.and_eq_true, decide_eq_true_eq] at hc
    exact ⟨by rw [List.take_add_one, e]; rfl, hc.1, hc.2⟩)
  have hbd : Hid (∀ i, smF 0 (l.take i) ≤ 10000000000009) := Lib.hid (fun i => smF_lt _ (fun c hc => hd c (List.mem_of_mem_take hc)))
  obtain ⟨N, hN⟩ : ∃ N, N = smF 0 l := ⟨_, rfl⟩
  rw [← hN]
  replace hN := Lib.hid hN
  clear hl hd
  go_enter Tryz.func35, Tryz.ntmps35
  go_wp2_with fail
  go_loopw [3, 4] (fun nv iv wr => ∃ n i : Nat, nv = .int .i64 n ∧ iv = .int .i64 i ∧ i ≤ s.size ∧ n ≤ 10000000000009 ∧ Hid (n = smF 0 (l.take i)) ∧ wr = W) (fun _ iv _ => s.size - (intOf iv).toNat)
  case atStart => exact ⟨0, 0, rfl, rfl, Nat.zero_le _, Nat.zero_le _, Lib.hid rfl, rfl⟩
  case round =>
    obtain ⟨n, i, rfl, rfl, hi, hn9, hn, rfl⟩ := hrel
    by_cases hlt : i < s.size
    · obtain ⟨e, d1, d2⟩ := hat.out i hlt
      have g1 : ((i : Int) < (s.size : Int)) := by omega
      have hnx := smF_snoc 0 (l.take i) s[i]
      rw [← e, ← hn.out] at hnx
      have hb := hbd.out (i + 1)
      replace e := Lib.hid e
      by_cases hle : n ≤ 1000000000000
      · rw [if_pos hle] at hnx
        have g2 : ((n : Int) ≤ 1000000000000) := by omega
        have hw : IntKind.u8.wrap ((s[i].toNat : Int) - 48) = ((s[i].toNat - 48 : Nat) : Int) := by rw [IntWalk.u8_in _ (by omega)]; omega
        replace hnx := Lib.hid hnx
        replace hb := Lib.hid hb
        go_wp2_with fail
        exact ⟨⟨10 * n + (s[i].toNat - 48), i + 1, by rw [Int.natCast_add, Int.natCast_mul]; rfl, by simp, by omega, by have := hb.out; rw [hnx.out] at this; exact this, Lib.hid hnx.out.symm, trivial⟩, by simp [intOf]; omega⟩
      · rw [if_neg hle] at hnx
        have g2 : ¬ ((n : Int) ≤ 1000000000000) := by omega
        replace hnx := Lib.hid hnx
        replace hb := Lib.hid hb
        go_wp2_with fail
        exact ⟨⟨n, i + 1, rfl, by simp, by omega, hn9, Lib.hid hnx.out.symm, trivial⟩, by simp [intOf]; omega⟩
    · have hin : i = s.size := by omega
      have hNe : N = n := by rw [hN.out, hn.out, hin, ← hll.out, List.take_length]
      subst hNe
      replace hin := Lib.hid hin
      go_wp2_with fail
      go_ret
      exact ⟨rfl, rfl⟩
end Go.Proofs.YtjndcehkgfbagaaGreatDoor

namespace Go.Proofs.YtjndcehkgfbagaaGreatDoor
open Go.RowKit NumP DurP Go.Proofs.YtjndcehkgfbagaaGreatDoorW.PrintWords
set_option linter.unusedVariables false

theorem valD_first {c : UInt8} {r : List UInt8} (hc : isDig c = true) (h48 : c ≠ 48) : 10 ^ r.length ≤ valD (c :: r) := by
  have e : valD (c :: r) = valD [c] * 10 ^ r.length + valD r := valD_app [c] r
  rw [e, valD_one]
  unfold isDig at hc
  simp only [Bool.and_eq_true, decide_eq_true_eq] at hc
  have h1 : 1 ≤ c.toNat - 48 := by
    have : c.toNat ≠ 48 := fun h => h48 (UInt8.toNat_inj.1 h)
    omega
  have := Nat.mul_le_mul_right (10 ^ r.length) h1
  omega
theorem trim0_first : ∀ (l : List UInt8), trim0 l = [] ∨ ∃ c r, trim0 l = c :: r ∧ c ≠ 48
  | [] => .inl rfl
  | c :: l => by
    unfold trim0
    rw [List.dropWhile_cons]
    split
    · exact trim0_first l
    · rename_i h
      exact .inr ⟨c, l, rfl, fun e => h (by rw [e]; rfl)⟩
theorem trim0_long {l : List UInt8} (hd : Dig l) (h : 11 < (trim0 l).length) : 100000000000 ≤ valD l := by
  rcases trim0_first l with e | ⟨c, r, e, hc⟩
  · rw [e] at h; exact absurd h (by decide)
  · rw [← trim0_val, e]
    rw [e, List.length_cons] at h
    have h1 := valD_first (r := r) (hd c (trim0_mem l c (by rw [e]; exact List.mem_cons_self ..))) hc
    have h2 : (10 : Nat) ^ 11 ≤ 10 ^ r.length := Nat.pow_le_pow_right (by decide) (by omega)
    omega
/-- The months of two parts, by their small values. -/
theorem months_small (mi : Bool) {Y M : List UInt8} (hY : Dig Y) (hM : Dig M) (h : someP [Y, M] = true) :
    monthsR mi true Y M [] = if most < ((smF 0 Y * 12 + smF 0 M : Nat) : Int) then (0, 6) else (if mi then -((smF 0 Y * 12 + smF 0 M : Nat) : Int) else ((smF 0 Y * 12 + smF 0 M : Nat) : Int), 0) := by
  unfold monthsR
  rw [if_neg (by rw [h]; simp), trim0_val, trim0_val]
  have e1 := smF_val Y 0
  have e2 := smF_val M 0
  rw [show valF 0 Y = valD Y from rfl] at e1
  rw [show valF 0 M = valD M from rfl] at e2
  unfold most
  by_cases hl : 11 < (trim0 Y).length ∨ 11 < (trim0 M).length
  · rw [if_pos hl, if_pos]
    rcases hl with hl | hl
    · have := trim0_long hY hl
      rcases e1 with e | e <;> omega
    · have := trim0_long hM hl
      rcases e2 with e | e <;> omega
  · rw [if_neg hl]
    rcases e1 with e1 | e1
    · rcases e2 with e2 | e2
      · rw [e1, e2]
        have : ((valD Y * 12 + valD M : Nat) : Int) = 12 * (valD Y : Int) + (valD M : Int) := by omega
        rw [this]
      · rw [if_pos (by omega), if_pos (by omega)]
    · rw [if_pos (by omega), if_pos (by omega)]
set_option maxRecDepth 100000 in
set_option maxHeartbeats 2000000 in
theorem refMonths_long (s : ByteArray) (W : World) (hs : s.size ≤ maxLen) (h : 200 < s.size) : Calls Tryz.prog 14 #[.string s] W (IntPost W (monthsP s.data.toList)) := by
  unfold maxLen at hs
  have hR : Hid (monthsP s.data.toList = (0, 2)) := Lib.hid (by unfold monthsP; rw [if_pos (by rw [list_len]; exact h)])
  have h1 : (s.size : Int) > 200 := by omega
  go_enter Tryz.func14, Tryz.ntmps14
  go_wp2_with fail
  go_ret2
  exact ⟨by rw [hR.out]; rfl, Below.refl _ _⟩
theorem rdV_mk (l : List UInt8) (k : Bool) : rdV l k = .agg #[.string ⟨l.toArray⟩, .bool k] := rfl
set_option maxRecDepth 100000 in
set_option maxHeartbeats 2000000 in
theorem refMonths_r (s : ByteArray) (W : World) (hs : ¬ 200 < s.size) : Calls Tryz.prog 14 #[.string s] W (IntPost W (monthsP s.data.toList)) := by
  obtain ⟨mi, hmi⟩ : ∃ mi, mi = (s.data.toList.head? == some 45) := ⟨_, rfl⟩
  obtain ⟨b1, hb1⟩ : ∃ b1, b1 = (if mi = true then s.data.toList.drop 1 else s.data.toList) := ⟨_, rfl⟩
  have c1 := sign_r s true W (by omega)
  rw [← hmi, ← hb1] at c1
  have hb1l : b1.length ≤ 200 := by
    have : s.data.toList.length ≤ 200 := by rw [list_len]; omega
    rw [hb1]; split
    · rw [List.length_drop]; omega
    · exact this
  obtain ⟨B1, hB1⟩ : ∃ B1 : ByteArray, B1 = ⟨b1.toArray⟩ := ⟨_, rfl⟩
  have hB1d : B1.data.toList = b1 := by rw [hB1]
  obtain ⟨ok, hok⟩ : ∃ ok, ok = (b1.head? == some 80) := ⟨_, rfl⟩
  obtain ⟨b2, hb2⟩ : ∃ b2, b2 = (if ok = true then b1.drop 1 else b1) := ⟨_, rfl⟩
  have c2 : Hid (∀ W, Calls Tryz.prog 33 #[.agg #[.string B1, .bool true], .int .u8 80] W (HasPost W b2 ok)) := Lib.hid (fun W => by
    have := has_r B1 true 80 W (by rw [← list_len, hB1d]; omega)
    rw [hB1d, ← hok, ← hb2] at this
    rw [show (if ok = true then true else false) = ok by cases ok <;> rfl] at this
    exact this)
  have hb2l : b2.length ≤ 200 := by
    rw [hb2]; split
    · rw [List.length_drop]; omega
    · exact hb1l
  obtain ⟨B2, hB2⟩ : ∃ B2 : ByteArray, B2 = ⟨b2.toArray⟩ := ⟨_, rfl⟩
  have hB2d : B2.data.toList = b2 := by rw [hB2]
  obtain ⟨Y, hY⟩ : ∃ Y, Y = (partP 89 b2).1 := ⟨_, rfl⟩
  obtain ⟨b3, hb3⟩ : ∃ b3, b3 = (partP 89 b2).2 := ⟨_, rfl⟩
  obtain ⟨M, hM⟩ : ∃ M, M = (partP 77 b3).1 := ⟨_, rfl⟩
  obtain ⟨R, hR⟩ : ∃ R, R = (partP 77 b3).2 := ⟨_, rfl⟩
  obtain ⟨B3, hB3⟩ : ∃ B3 : ByteArray, B3 = ⟨b3.toArray⟩ := ⟨_, rfl⟩
  have hB3d : B3.data.toList = b3 := by rw [hB3]
  have hb3l : b3.length ≤ 200 := by rw [hb3]; exact Nat.le_trans (partP_rest _ _) hb2l
  have hres : Hid (monthsP s.data.toList = monthsR mi ok Y M R) := Lib.hid (monthsP_eq (by rw [list_len]; exact hs) hmi hb1 hok hb2 (by rw [cut2, ← hb3, ← hY, ← hM, ← hR]))
  have hYd : Hid (Dig Y) := Lib.hid (by rw [hY]; exact partP_dig (by decide) b2)
  have hMd : Hid (Dig M) := Lib.hid (by rw [hM]; exact partP_dig (by decide) b3)
  have hYl : Y.length ≤ 200 := by rw [hY]; exact Nat.le_trans (partP_len _ _) hb2l
  have hMl : M.length ≤ 200 := by rw [hM]; exact Nat.le_trans (partP_len _ _) hb3l
  obtain ⟨RB, hRB⟩ : ∃ RB : ByteArray, RB = ⟨R.toArray⟩ := ⟨_, rfl⟩
  obtain ⟨YB, hYB⟩ : ∃ YB : ByteArray, YB = ⟨Y.toArray⟩ := ⟨_, rfl⟩
  obtain ⟨MB, hMB⟩ : ∃ MB : ByteArray, MB = ⟨M.toArray⟩ := ⟨_, rfl⟩
  have c3 : Hid (∀ W, Calls Tryz.prog 34 #[.agg #[.string B2, .bool ok], .int .u8 89, .bool false] W fun e w' => e = .returned (.tuple #[.agg #[.string B3, .bool ok], .string YB]) ∧ Below W.heap.size W w') := Lib.hid (fun W => by
    have := part_r B2 ok 89 (by decide) W (by rw [← list_len, hB2d]; omega)
    rw [hB2d] at this
    unfold PartPost at this
    rw [← hb3, ← hY, rdV_mk, ← hB3, ← hYB] at this
    exact this)
  have c4 : Hid (∀ W, Calls Tryz.prog 34 #[.agg #[.string B3, .bool ok], .int .u8 77, .bool false] W fun e w' => e = .returned (.tuple #[.agg #[.string RB, .bool ok], .string MB]) ∧ Below W.heap.size W w') := Lib.hid (fun W => by
    have := part_r B3 ok 77 (by decide) W (by rw [← list_len, hB3d]; omega)
    rw [hB3d] at this
    unfold PartPost at this
    rw [← hR, ← hM, rdV_mk, ← hRB, ← hMB] at this
    exact this)
  have c5 : Hid (∀ w, Calls Tryz.prog 35 #[.string YB] w fun e w' => e = .returned (.int .i64 (smF 0 Y : Nat)) ∧ w = w') := Lib.hid (fun w => by
    have := small_r YB w (by rw [← list_len, hYB]; show Y.length ≤ 1000; omega) (by rw [hYB]; exact hYd.out)
    rw [show YB.data.toList = Y by rw [hYB]] at this
    exact this)
  have c6 : Hid (∀ w, Calls Tryz.prog 35 #[.string MB] w fun e w' => e = .returned (.int .i64 (smF 0 M : Nat)) ∧ w = w') := Lib.hid (fun w => by
    have := small_r MB w (by rw [← list_len, hMB]; show M.length ≤ 1000; omega) (by rw [hMB]; exact hMd.out)
    rw [show MB.data.toList = M by rw [hMB]] at this
    exact this)
  have hc1 : Hid (∀ W, Calls Tryz.prog 32 #[.agg #[.string s, .bool true]] W fun e w' => e = .returned (.tuple #[.agg #[.string B1, .bool true], .bool mi]) ∧ Below W.heap.size W w') := Lib.hid (fun W => by
    have := sign_r s true W (by omega)
    unfold SignPost at this
    rw [← hmi, ← hb1, rdV_mk, ← hB1] at this
    exact this)
  have hc2 : Hid (∀ W, Calls Tryz.prog 33 #[.agg #[.string B1, .bool true], .int .u8 80] W fun e w' => e = .returned (.agg #[.string B2, .bool ok]) ∧ Below W.heap.size W w') := Lib.hid (fun W => by
    have := c2.out W
    unfold HasPost at this
    rw [rdV_mk, ← hB2] at this
    exact this)
  have hRl : RB.toList = R := by rw [hRB, ByteArray.toList_mk]
  have hYT : YB.toList = Y := by rw [hYB, ByteArray.toList_mk]
  have hMT : MB.toList = M := by rw [hMB, ByteArray.toList_mk]
  have vY := smF_lt Y hYd.out
  have vM := smF_lt M hMd.out
  obtain ⟨y, hy⟩ : ∃ y, y = smF 0 Y := ⟨_, rfl⟩
  obtain ⟨m, hm⟩ : ∃ m, m = smF 0 M := ⟨_, rfl⟩
  rw [← hy] at c5 vY
  rw [← hm] at c6 vM
  replace hy := Lib.hid hy
  replace hm := Lib.hid hm
  clear c1 c2 hB1 hB1d hok hb2 hB2 hB2d hY hb3 hM hR hB3 hB3d hb3l hYl hMl hRB hYB hMB hb1 hmi hb1l hb2l
  have h0 : ¬ ((s.size : Int) > 200) := by omega
  clear hs
  go_enter Tryz.func14, Tryz.ntmps14
  go_wp2_with fail
  refine (hc1.out W).mono ?_
  rintro e w1 ⟨rfl, hbe1⟩
  clear hc1
  go_wp2_with fail
  obtain ⟨W1, hW1⟩ : ∃ W1, W1 = w1.alloc (.cells #[.string B1, .bool true] 51) := ⟨_, rfl⟩
  obtain ⟨g, hg⟩ : ∃ g, g = w1.heap.size := ⟨_, rfl⟩
  have hx1 : W1.heap[g]? = some (.cells #[.string B1, .bool true] 51 (0, 0)) := by rw [hW1, hg]; exact (MapKept.heap_alloc _ _).1
  have hD1 : Hid (Below W.heap.size W W1) := Lib.hid (by rw [hW1]; exact hbe1.alloc hbe1.size _)
  have hgW : Hid (W.heap.size ≤ g) := Lib.hid (by rw [hg]; exact hbe1.size)
  rw [← hW1, ← hg]
  replace hx1 := Lib.hid hx1
  replace hg := Lib.hid hg
  clear hW1 hbe1
  refine (hc2.out _).mono ?_
  rintro e v1 ⟨rfl, hcb⟩
  have hy1 := (hcb.block g (heap_lt hx1.out)).trans hx1.out
  have hE1 := Lib.hid (hD1.out.trans (hcb.mono hD1.out.size))
  obtain ⟨⟨u0, u1⟩, fu⟩ := cells2 hy1
  have fu0 := fu 0
  have fu1 := fu 1
  obtain ⟨W2, hW2, hx2, hcc, -⟩ := put2 hy1 (.string B2) (.bool ok) (B := W.heap.size) hgW.out
  have hD2 := Lib.hid (hE1.out.trans hcc)
  replace hx2 := Lib.hid hx2
  clear fu hcb hcc
  replace hy1 := Lib.hid hy1
  replace hW2 := Lib.hid hW2
  go_wp2_with fail
  rw [← hW2.out]
  clear u0 u1 fu0 fu1
  refine (c3.out _).mono ?_
  rintro e v2 ⟨rfl, hcb⟩
  have hy2 := (hcb.block g (heap_lt hx2.out)).trans hx2.out
  have hE2 := Lib.hid (hD2.out.trans (hcb.mono hD2.out.size))
  obtain ⟨⟨u0, u1⟩, fu⟩ := cells2 hy2
  have fu0 := fu 0
  have fu1 := fu 1
  obtain ⟨W3, hW3, hx3, hcc, -⟩ := put2 hy2 (.string B3) (.bool ok) (B := W.heap.size) hgW.out
  have hD3 := Lib.hid (hE2.out.trans hcc)
  replace hx3 := Lib.hid hx3
  clear fu hcb hcc
  replace hy2 := Lib.hid hy2
  replace hW3 := Lib.hid hW3
  go_wp2_with fail
  rw [← hW3.out]
  clear u0 u1 fu0 fu1
  refine (c4.out _).mono ?_
  rintro e v3 ⟨rfl, hcb⟩
  have hy3 := (hcb.block g (heap_lt hx3.out)).trans hx3.out
  have hE3 := Lib.hid (hD3.out.trans (hcb.mono hD3.out.size))
  obtain ⟨⟨u0, u1⟩, fu⟩ := cells2 hy3
  have fu0 := fu 0
  have fu1 := fu 1
  obtain ⟨W4, hW4, hx4, hcc, -⟩ := put2 hy3 (.string RB) (.bool ok) (B := W.heap.size) hgW.out
  have hD4 := Lib.hid (hE3.out.trans hcc)
  replace hx4 := Lib.hid hx4
  clear fu hcb hcc
  replace hy3 := Lib.hid hy3
  replace hW4 := Lib.hid hW4
  obtain ⟨⟨t0, t1⟩, -⟩ := cells2 hx4.out
  clear hc2 c3 c4
  obtain ⟨sm, hsm⟩ : ∃ sm, sm = someP [Y, M] := ⟨_, rfl⟩
  cases ok with
  | false =>
    have hQ : Hid (monthsR mi false Y M R = (0, 5)) := Lib.hid (by unfold monthsR; rw [if_pos (.inl rfl)])
    replace hsm := Lib.hid hsm
    replace hYT := Lib.hid hYT
    replace hMT := Lib.hid hMT
    replace hRl := Lib.hid hRl
    go_wp2_with fail
    rw [← hW4.out]
    clear u0 u1 fu0 fu1
    go_ret2
    exact ⟨by rw [hres.out, hQ.out]; rfl, hD4.out⟩
  | true =>
    by_cases hRe : R = []
    · have g1 : (RB.toList == []) = true := by rw [hRl, hRe]; rfl
      clear hRl
      have hsm2 := hsm
      rw [some_two] at hsm2
      by_cases hYe : Y = []
      · have g2 : (YB.toList == []) = true := by rw [hYT, hYe]; rfl
        by_cases hMe : M = []
        · have g3 : (MB.toList == []) = true := by rw [hMT, hMe]; rfl
          have hQ : Hid (monthsR mi true Y M R = (0, 5)) := Lib.hid (by unfold monthsR; rw [if_pos (.inr (.inr (by rw [hYe, hMe]; rfl)))])
          replace hRe := Lib.hid hRe
          replace hYe := Lib.hid hYe
          replace hMe := Lib.hid hMe
          clear hYT hMT hsm hsm2
          go_wp2_with fail
          rw [← hW4.out]
          clear u0 u1 fu0 fu1
          go_ret2
          exact ⟨by rw [hres.out, hQ.out]; rfl, hD4.out⟩
        · have g3 : (MB.toList == []) = false := by rw [hMT]; simpa using hMe
          have hs1 : someP [Y, M] = true := by rw [some_two, hYe]; cases M; exact absurd rfl hMe; rfl
          have hQ : Hid (monthsR mi true Y M R = if most < ((y * 12 + m : Nat) : Int) then (0, 6) else (if mi then -((y * 12 + m : Nat) : Int) else ((y * 12 + m : Nat) : Int), 0)) := Lib.hid (by rw [hRe, months_small mi hYd.out hMd.out hs1, ← hy.out, ← hm.out])
          replace hRe := Lib.hid hRe
          replace hYe := Lib.hid hYe
          replace hMe := Lib.hid hMe
          clear hYT hMT hsm hsm2 hs1
          go_wp2_with fail
          rw [← hW4.out]
          clear u0 u1 fu0 fu1
          refine (c5.out _).mono ?_
          rintro e w ⟨rfl, rfl⟩
          go_wp2_with fail
          refine (c6.out _).mono ?_
          rintro e w ⟨rfl, rfl⟩
          by_cases hmo : ((y : Int) * 12 + (m : Int)) > 9999999999
          · have hv : Hid (monthsP s.data.toList = (0, 6)) := Lib.hid (by rw [hres.out, hQ.out, if_pos (by unfold most; push_cast; omega)])
            go_wp2_with fail
            go_ret2
            exact ⟨by rw [hv.out]; rfl, hD4.out⟩
          · have hv : Hid (monthsP s.data.toList = (if mi then -((y : Int) * 12 + (m : Int)) else (y : Int) * 12 + (m : Int), 0)) := Lib.hid (by rw [hres.out, hQ.out, if_neg (by unfold most; push_cast; omega)]; push_cast; rfl)
            cases mi with
            | false =>
              go_wp2_with fail
              go_ret2
              exact ⟨by rw [hv.out]; rfl, hD4.out⟩
            | true =>
              have hw : IntKind.i64.wrap (-((y : Int) * 12 + (m : Int))) = -((y : Int) * 12 + (m : Int)) := IntWalk.i64_in _ (by omega)
              go_wp2_with fail
              go_ret2
              exact ⟨by rw [hv.out]; rfl, hD4.out⟩
      · have g2 : (YB.toList == []) = false := by rw [hYT]; simpa using hYe
        have hs1 : someP [Y, M] = true := by rw [some_two]; cases Y; exact absurd rfl hYe; rfl
        have hQ : Hid (monthsR mi true Y M R = if most < ((y * 12 + m : Nat) : Int) then (0, 6) else (if mi then -((y * 12 + m : Nat) : Int) else ((y * 12 + m : Nat) : Int), 0)) := Lib.hid (by rw [hRe, months_small mi hYd.out hMd.out hs1, ← hy.out, ← hm.out])
        replace hRe := Lib.hid hRe
        replace hYe := Lib.hid hYe
        clear hYT hMT hsm hsm2 hs1
        go_wp2_with fail
        rw [← hW4.out]
        clear u0 u1 fu0 fu1
        refine (c5.out _).mono ?_
        rintro e w ⟨rfl, rfl⟩
        go_wp2_with fail
        refine (c6.out _).mono ?_
        rintro e w ⟨rfl, rfl⟩
        by_cases hmo : ((y : Int) * 12 + (m : Int)) > 9999999999
        · have hv : Hid (monthsP s.data.toList = (0, 6)) := Lib.hid (by rw [hres.out, hQ.out, if_pos (by unfold most; push_cast; omega)])
          go_wp2_with fail
          go_ret2
          exact ⟨by rw [hv.out]; rfl, hD4.out⟩
        · have hv : Hid (monthsP s.data.toList = (if mi then -((y : Int) * 12 + (m : Int)) else (y : Int) * 12 + (m : Int), 0)) := Lib.hid (by rw [hres.out, hQ.out, if_neg (by unfold most; push_cast; omega)]; push_cast; rfl)
          cases mi with
          | false =>
            go_wp2_with fail
            go_ret2
            exact ⟨by rw [hv.out]; rfl, hD4.out⟩
          | true =>
            have hw : IntKind.i64.wrap (-((y : Int) * 12 + (m : Int))) = -((y : Int) * 12 + (m : Int)) := IntWalk.i64_in _ (by omega)
            go_wp2_with fail
            go_ret2
            exact ⟨by rw [hv.out]; rfl, hD4.out⟩
    · have g1 : (RB.toList == []) = false := by rw [hRl]; simpa using hRe
      have hQ : Hid (monthsR mi true Y M R = (0, 5)) := Lib.hid (by unfold monthsR; rw [if_pos (.inr (.inl hRe))])
      replace hRe := Lib.hid hRe
      clear hRl hYT hMT hsm
      go_wp2_with fail
      rw [← hW4.out]
      clear u0 u1 fu0 fu1
      go_ret2
      exact ⟨by rw [hres.out, hQ.out]; rfl, hD4.out⟩
theorem RefMonths_r (s : ByteArray) (W : World) (hs : s.size ≤ maxLen) : Calls Tryz.prog 14 #[.string s] W (IntPost W (monthsP s.data.toList)) := by
  by_cases h : 200 < s.size
  · exact refMonths_long s W hs h
  · exact refMonths_r s W h
end Go.Proofs.YtjndcehkgfbagaaGreatDoor

namespace Go.Proofs.YtjndcehkgfbagaaGreatDoor
open Go.RowKit NumP DurP Go.Proofs.YtjndcehkgfbagaaGreatDoorW.PrintWords
set_option linter.unusedVariables false

theorem dec_one : ∀ n : Fin 10, ((⟨#[48, 49, 50, 51, 52, 53, 54, 55, 56, 57]⟩ : ByteArray).extract n.val (n.val + 1)).data.toList = [UInt8.ofNat (48 + n.val)] := by decide
theorem decF_ten (k n : Nat) (h : n < 10) : decF k n = [UInt8.ofNat (48 + n)] := by
  cases k with
  | zero => rfl
  | succ k => rw [decF, if_pos h]
set_option maxRecDepth 100000 in
set_option maxHeartbeats 2000000 in
theorem decimal_r : ∀ (k n : Nat), k ≤ 14 → n < 10 ^ (k + 1) → ∀ W, Calls Tryz.prog 37 #[.int .i64 (n : Int)] W fun e w' => e = .returned (.string ⟨(decF k n).toArray⟩) ∧ W = w'
  | 0, n, hk, hn, W => by
    have hn10 : n < 10 := by simpa using hn
    have e : Hid ((⟨#[48, 49, 50, 51, 52, 53, 54, 55, 56, 57]⟩ : ByteArray).extract n (n + 1) = ⟨(decF 0 n).toArray⟩) := Lib.hid (data_inj (by rw [decF_ten 0 n hn10]; exact dec_one ⟨n, hn10⟩))
    have g1 : ((n : Int) < 10) := by omega
    have g2 : (n : Int) + 1 ≤ 10 := by omega
    have g3 : n + 1 ≤ 10 := by omega
    clear hn
    go_enter Tryz.func37, Tryz.ntmps37
    go_wp2_with fail
    go_ret
    exact ⟨by rw [← e.out]; rfl, rfl⟩
  | k + 1, n, hk, hn, W => by
    by_cases hn10 : n < 10
    · have e : Hid ((⟨#[48, 49, 50, 51, 52, 53, 54, 55, 56, 57]⟩ : ByteArray).extract n (n + 1) = ⟨(decF (k + 1) n).toArray⟩) := Lib.hid (data_inj (by rw [decF_ten (k + 1) n hn10]; exact dec_one ⟨n, hn10⟩))
      have g1 : ((n : Int) < 10) := by omega
      have g2 : (n : Int) + 1 ≤ 10 := by omega
      have g3 : n + 1 ≤ 10 := by omega
      clear hn
      go_enter Tryz.func37, Tryz.ntmps37
      go_wp2_with fail
      go_ret
      exact ⟨by rw [← e.out]; rfl, rfl⟩
    · have h1 := decimal_r k (n / 10) (by omega) (by rw [Nat.pow_succ] at hn; omega)
      have h2 := decimal_r k (n % 10) (by omega) (Nat.lt_of_lt_of_le (Nat.mod_lt _ (by decide)) (by rw [Nat.pow_succ]; have := Nat.pow_pos (n := k) (show 0 < 10 by decide); omega))
      obtain ⟨a, ha⟩ : ∃ a : ByteArray, a = ⟨(decF k (n / 10)).toArray⟩ := ⟨_, rfl⟩
      obtain ⟨b, hb⟩ : ∃ b : ByteArray, b = ⟨(decF k (n % 10)).toArray⟩ := ⟨_, rfl⟩
      have e : Hid (a ++ b = ⟨(decF (k + 1) n).toArray⟩) := Lib.hid (data_inj (by
        rw [ByteArray.data_append, ha, hb, decF, if_neg hn10]
        simp only [Array.toList_append]
        rw [decF_ten k (n % 10) (Nat.mod_lt _ (by decide))]))
      have za : a.size ≤ 20 := by rw [ha, ← list_len]; have := decF_len k (n / 10); show (decF k (n / 10)).length ≤ 20; omega
      have zb : b.size ≤ 20 := by rw [hb, ← list_len]; have := decF_len k (n % 10); show (decF k (n % 10)).length ≤ 20; omega
      rw [← ha] at h1
      rw [← hb] at h2
      have j : (9223372036854775807 < a.size + b.size) = False := eq_false (by omega)
      have hn15 : n < 10 ^ 16 := Nat.lt_of_lt_of_le hn (Nat.pow_le_pow_right (by decide) (by omega))
      have g1 : ¬ ((n : Int) < 10) := by omega
      replace h1 := Lib.hid h1
      replace h2 := Lib.hid h2
      replace ha := Lib.hid ha
      replace hb := Lib.hid hb
      clear hn
      go_enter Tryz.func37, Tryz.ntmps37
      go_wp2_with fail

      refine (h1.out _).mono ?_
      rintro e w ⟨rfl, rfl⟩
      go_wp2_with fail
      refine (h2.out _).mono ?_
      rintro e w ⟨rfl, rfl⟩
      go_wp2_with fail
      go_ret
      exact ⟨by rw [← e.out]; rfl, rfl⟩
end Go.Proofs.YtjndcehkgfbagaaGreatDoor

namespace Go.Proofs.YtjndcehkgfbagaaGreatDoor
open Go.RowKit NumP DurP Go.Proofs.YtjndcehkgfbagaaGreatDoorW.PrintWords
set_option linter.unusedVariables false

theorem decF_decP {n : Nat} (h : n < 100000000000) : decF 10 n = decP n := by rw [decP_eq (by omega), decF_eq 10 n h]
set_option maxHeartbeats 2000000 in
set_option maxRecDepth 100000 in
theorem reft_pos (k : Nat) (W : World) (h0 : 0 < k) (hk : (k : Int) ≤ 9999999999) : Calls Tryz.prog 17 #[.int .i64 (k : Int)] W (StrPost W (textMP (k : Int))) := by
  obtain ⟨A, hA⟩ : ∃ A : ByteArray, A = ⟨(decP (k / 12)).toArray⟩ := ⟨_, rfl⟩
  obtain ⟨B, hB⟩ : ∃ B : ByteArray, B = ⟨(decP (k % 12)).toArray⟩ := ⟨_, rfl⟩
  have hAs : A.size ≤ 21 := by rw [← list_len, hA]; exact decF_len 20 _
  have hBs : B.size ≤ 21 := by rw [← list_len, hB]; exact decF_len 20 _
  have hia : ∀ w, Calls Tryz.prog 37 #[.int .i64 ((k : Int) / 12)] w fun e w' => e = .returned (.string A) ∧ w = w' := fun w => by
    have := decimal_r 10 (k / 12) (by decide) (by omega) w
    rw [decF_decP (by omega), ← hA] at this
    rw [show (k : Int) / 12 = ((k / 12 : Nat) : Int) by omega]; exact this
  have hib : ∀ w, Calls Tryz.prog 37 #[.int .i64 ((k : Int) % 12)] w fun e w' => e = .returned (.string B) ∧ w = w' := fun w => by
    have := decimal_r 10 (k % 12) (by decide) (by omega) w
    rw [decF_decP (by omega), ← hB] at this
    rw [show (k : Int) % 12 = ((k % 12 : Nat) : Int) by omega]; exact this
  have hv : textMP (k : Int) = (monthsT [80] k, 0) := textMP_pos h0 hk
  have t1 : 12 ≤ k → k % 12 = 0 → Hid ((⟨(monthsT [80] k).toArray⟩ : ByteArray) = ⟨#[80]⟩ ++ A ++ ⟨#[89]⟩) := fun h h' => Lib.hid (data_inj (by
    unfold monthsT; rw [if_pos h, if_neg (by omega), hA]; simp [ByteArray.data_append]))
  have t2 : 12 ≤ k → k % 12 ≠ 0 → Hid ((⟨(monthsT [80] k).toArray⟩ : ByteArray) = ⟨#[80]⟩ ++ A ++ ⟨#[89]⟩ ++ B ++ ⟨#[77]⟩) := fun h h' => Lib.hid (data_inj (by
    unfold monthsT; rw [if_pos h, if_pos h', hA, hB]; simp [ByteArray.data_append]))
  have t3 : ¬ 12 ≤ k → k % 12 ≠ 0 → Hid ((⟨(monthsT [80] k).toArray⟩ : ByteArray) = ⟨#[80]⟩ ++ B ++ ⟨#[77]⟩) := fun h h' => Lib.hid (data_inj (by
    unfold monthsT; rw [if_neg h, if_pos h', hB]; simp [ByteArray.data_append]))
  have h1 : ¬ ((k : Int) < -9999999999) := by omega
  have h2 : ¬ ((k : Int) > 9999999999) := by omega
  have h3 : ((k : Int) == 0) = false := by simp; omega
  have h4 : ¬ ((k : Int) < 0) := by omega
  replace hv := Lib.hid hv
  replace hA := Lib.hid hA
  replace hB := Lib.hid hB
  replace hia := Lib.hid hia
  replace hib := Lib.hid hib
  have e1 : (9223372036854775807 < 1 + A.size) = False := eq_false (by omega)
  have e2 : (9223372036854775807 < 1 + A.size + 1) = False := eq_false (by omega)
  have e3 : (9223372036854775807 < 1 + A.size + 1 + B.size) = False := eq_false (by omega)
  have e4 : (9223372036854775807 < 1 + A.size + 1 + B.size + 1) = False := eq_false (by omega)
  have e5 : (9223372036854775807 < 1 + B.size) = False := eq_false (by omega)
  have e6 : (9223372036854775807 < 1 + B.size + 1) = False := eq_false (by omega)
  clear hAs hBs
  by_cases h12 : (k : Int) ≥ 12
  · by_cases hr : (k : Int) % 12 = 0
    · have hr' : ¬ ((k : Int) % 12 > 0) := by omega
      have ht := t1 (by omega) (by omega)
      clear t1 t2 t3
      go_enter Tryz.func17, Tryz.ntmps17
      go_wp2_with fail
      refine (hia.out _).mono ?_
      rintro e w ⟨rfl, rfl⟩
      go_wp2_with fail
      go_ret2
      exact ⟨by rw [hv.out]; show _ = Ending.returned (.tuple #[.string ⟨(monthsT [80] k).toArray⟩, _]); rw [ht.out]; rfl, Below.refl _ _⟩
    · have hr' : ((k : Int) % 12 > 0) := by omega
      have ht := t2 (by omega) (by omega)
      clear t1 t2 t3
      go_enter Tryz.func17, Tryz.ntmps17
      go_wp2_with fail
      refine (hia.out _).mono ?_
      rintro e w ⟨rfl, rfl⟩
      go_wp2_with fail
      refine (hib.out _).mono ?_
      rintro e w ⟨rfl, rfl⟩
      go_wp2_with fail
      go_ret2
      exact ⟨by rw [hv.out]; show _ = Ending.returned (.tuple #[.string ⟨(monthsT [80] k).toArray⟩, _]); rw [ht.out]; rfl, Below.refl _ _⟩
  · have hr' : ((k : Int) % 12 > 0) := by omega
    have ht := t3 (by omega) (by omega)
    clear t1 t2 t3
    go_enter Tryz.func17, Tryz.ntmps17
    go_wp2_with fail
    refine (hib.out _).mono ?_
    rintro e w ⟨rfl, rfl⟩
    go_wp2_with fail
    go_ret2
    exact ⟨by rw [hv.out]; show _ = Ending.returned (.tuple #[.string ⟨(monthsT [80] k).toArray⟩, _]); rw [ht.out]; rfl, Below.refl _ _⟩
set_option maxHeartbeats 2000000 in
set_option maxRecDepth 100000 in
theorem reft_neg (k : Nat) (W : World) (h0 : 0 < k) (hk : (k : Int) ≤ 9999999999) : Calls Tryz.prog 17 #[.int .i64 (-(k : Int))] W (StrPost W (textMP (-(k : Int)))) := by
  obtain ⟨A, hA⟩ : ∃ A : ByteArray, A = ⟨(decP (k / 12)).toArray⟩ := ⟨_, rfl⟩
  obtain ⟨B, hB⟩ : ∃ B : ByteArray, B = ⟨(decP (k % 12)).toArray⟩ := ⟨_, rfl⟩
  have hAs : A.size ≤ 21 := by rw [← list_len, hA]; exact decF_len 20 _
  have hBs : B.size ≤ 21 := by rw [← list_len, hB]; exact decF_len 20 _
  have hia : ∀ w, Calls Tryz.prog 37 #[.int .i64 ((k : Int) / 12)] w fun e w' => e = .returned (.string A) ∧ w = w' := fun w => by
    have := decimal_r 10 (k / 12) (by decide) (by omega) w
    rw [decF_decP (by omega), ← hA] at this
    rw [show (k : Int) / 12 = ((k / 12 : Nat) : Int) by omega]; exact this
  have hib : ∀ w, Calls Tryz.prog 37 #[.int .i64 ((k : Int) % 12)] w fun e w' => e = .returned (.string B) ∧ w = w' := fun w => by
    have := decimal_r 10 (k % 12) (by decide) (by omega) w
    rw [decF_decP (by omega), ← hB] at this
    rw [show (k : Int) % 12 = ((k % 12 : Nat) : Int) by omega]; exact this
  have hv : textMP (-(k : Int)) = (monthsT [45, 80] k, 0) := textMP_neg h0 hk
  have t1 : 12 ≤ k → k % 12 = 0 → Hid ((⟨(monthsT [45, 80] k).toArray⟩ : ByteArray) = ⟨#[45, 80]⟩ ++ A ++ ⟨#[89]⟩) := fun h h' => Lib.hid (data_inj (by
    unfold monthsT; rw [if_pos h, if_neg (by omega), hA]; simp [ByteArray.data_append]))
  have t2 : 12 ≤ k → k % 12 ≠ 0 → Hid ((⟨(monthsT [45, 80] k).toArray⟩ : ByteArray) = ⟨#[45, 80]⟩ ++ A ++ ⟨#[89]⟩ ++ B ++ ⟨#[77]⟩) := fun h h' => Lib.hid (data_inj (by
    unfold monthsT; rw [if_pos h, if_pos h', hA, hB]; simp [ByteArray.data_append]))
  have t3 : ¬ 12 ≤ k → k % 12 ≠ 0 → Hid ((⟨(monthsT [45, 80] k).toArray⟩ : ByteArray) = ⟨#[45, 80]⟩ ++ B ++ ⟨#[77]⟩) := fun h h' => Lib.hid (data_inj (by
    unfold monthsT; rw [if_neg h, if_pos h', hB]; simp [ByteArray.data_append]))
  have h1 : ¬ (-(k : Int) < -9999999999) := by omega
  have h2 : ¬ (-(k : Int) > 9999999999) := by omega
  have h3 : (-(k : Int) == 0) = false := by simp; omega
  have h4 : (-(k : Int) < 0) := by omega
  replace hv := Lib.hid hv
  replace hA := Lib.hid hA
  replace hB := Lib.hid hB
  replace hia := Lib.hid hia
  replace hib := Lib.hid hib
  have e1 : (9223372036854775807 < 2 + A.size) = False := eq_false (by omega)
  have e2 : (9223372036854775807 < 2 + A.size + 1) = False := eq_false (by omega)
  have e3 : (9223372036854775807 < 2 + A.size + 1 + B.size) = False := eq_false (by omega)
  have e4 : (9223372036854775807 < 2 + A.size + 1 + B.size + 1) = False := eq_false (by omega)
  have e5 : (9223372036854775807 < 2 + B.size) = False := eq_false (by omega)
  have e6 : (9223372036854775807 < 2 + B.size + 1) = False := eq_false (by omega)
  clear hAs hBs
  by_cases h12 : (k : Int) ≥ 12
  · by_cases hr : (k : Int) % 12 = 0
    · have hr' : ¬ ((k : Int) % 12 > 0) := by omega
      have ht := t1 (by omega) (by omega)
      clear t1 t2 t3
      go_enter Tryz.func17, Tryz.ntmps17
      go_wp2_with fail
      refine (hia.out _).mono ?_
      rintro e w ⟨rfl, rfl⟩
      go_wp2_with fail
      go_ret2
      exact ⟨by rw [hv.out]; show _ = Ending.returned (.tuple #[.string ⟨(monthsT [45, 80] k).toArray⟩, _]); rw [ht.out]; rfl, Below.refl _ _⟩
    · have hr' : ((k : Int) % 12 > 0) := by omega
      have ht := t2 (by omega) (by omega)
      clear t1 t2 t3
      go_enter Tryz.func17, Tryz.ntmps17
      go_wp2_with fail
      refine (hia.out _).mono ?_
      rintro e w ⟨rfl, rfl⟩
      go_wp2_with fail
      refine (hib.out _).mono ?_
      rintro e w ⟨rfl, rfl⟩
      go_wp2_with fail
      go_ret2
      exact ⟨by rw [hv.out]; show _ = Ending.returned (.tuple #[.string ⟨(monthsT [45, 80] k).toArray⟩, _]); rw [ht.out]; rfl, Below.refl _ _⟩
  · have hr' : ((k : Int) % 12 > 0) := by omega
    have ht := t3 (by omega) (by omega)
    clear t1 t2 t3
    go_enter Tryz.func17, Tryz.ntmps17
    go_wp2_with fail
    refine (hib.out _).mono ?_
    rintro e w ⟨rfl, rfl⟩
    go_wp2_with fail
    go_ret2
    exact ⟨by rw [hv.out]; show _ = Ending.returned (.tuple #[.string ⟨(monthsT [45, 80] k).toArray⟩, _]); rw [ht.out]; rfl, Below.refl _ _⟩
set_option maxHeartbeats 2000000 in
set_option maxRecDepth 100000 in
theorem RefText_r (n : Int) (W : World) : Calls Tryz.prog 17 #[.int .i64 n] W (StrPost W (textMP n)) := by
  by_cases h1 : n < -9999999999
  · have hv : Hid (textMP n = ([], 6)) := Lib.hid (by unfold textMP most; rw [if_pos (.inl h1)])
    go_enter Tryz.func17, Tryz.ntmps17
    go_wp2_with fail
    go_ret2
    exact ⟨by rw [hv.out]; rfl, Below.refl _ _⟩
  · by_cases h2 : n > 9999999999
    · have hv : Hid (textMP n = ([], 6)) := Lib.hid (by unfold textMP most; rw [if_pos (.inr h2)])
      go_enter Tryz.func17, Tryz.ntmps17
      go_wp2_with fail
      go_ret2
      exact ⟨by rw [hv.out]; rfl, Below.refl _ _⟩
    · rcases Int.lt_trichotomy n 0 with h | h | h
      · obtain ⟨k, rfl⟩ : ∃ k : Nat, n = -(k : Int) := ⟨n.natAbs, by omega⟩
        exact reft_neg k W (by omega) (by omega)
      · subst h
        have hv : Hid (textMP 0 = ([80, 48, 77], 0)) := Lib.hid (by decide +kernel)
        clear h1 h2
        go_enter Tryz.func17, Tryz.ntmps17
        go_wp2_with fail
        go_ret2
        exact ⟨by rw [hv.out]; rfl, Below.refl _ _⟩
      · obtain ⟨k, rfl⟩ : ∃ k : Nat, n = (k : Int) := ⟨n.natAbs, by omega⟩
        exact reft_pos k W (by omega) (by omega)
set_option maxHeartbeats 2000000 in
set_option maxRecDepth 100000 in
/-- DurMonths: forms of months are read as the document says. -/
theorem durMonths_walk (s : ByteArray) (W : World) (hL : LaidD W) (hs : s.size ≤ maxLen) : Calls Tryz.prog 3 #[.string s] W fun e w' => e = .returned (.bool true) ∧ Below W.heap.size W w' := by
  obtain ⟨a, k, hak⟩ : ∃ a k, monthsP s.data.toList = (a, k) := ⟨_, _, rfl⟩
  have c1 := Lib.hid (fun W => ParseMonths_at (s := s) rfl hak W hs)
  have c2 : Hid (∀ W, Calls Tryz.prog 14 #[.string s] W (IntAt W a k)) := Lib.hid (fun W => by
    have := RefMonths_r s W hs
    rw [hak] at this
    exact this)
  clear hak
  replace hL := Lib.hid hL
  go_enter Tryz.func3, Tryz.ntmps3
  go_wp2_with fail
  refine (c1.out W).mono ?_
  rintro e w1 ⟨rfl, hb1⟩
  go_wp2_with fail
  refine (c2.out w1).mono ?_
  rintro e w2 ⟨rfl, hb2⟩
  have hB := Lib.hid (hb1.trans (hb2.mono hb1.size))
  have hL2 := Lib.hid (hL.out.below hB.out hL.out.num.size)
  clear hb1 hb2
  go_wp2_with fail
  refine (works_calls w2 hL2.out).mono ?_
  rintro e w3 ⟨rfl, hb3⟩
  go_wp2_with fail
  go_ret
  exact ⟨rfl, hB.out.trans (hb3.mono hB.out.size)⟩
set_option maxHeartbeats 2000000 in
set_option maxRecDepth 100000 in
/-- DurMonthTexts: numbers of months are written as the document says. -/
theorem durMonthTexts_walk (n : Int) (W : World) (hL : LaidD W) : Calls Tryz.prog 4 #[.int .i64 n] W fun e w' => e = .returned (.bool true) ∧ Below W.heap.size W w' := by
  obtain ⟨t, k, hak⟩ : ∃ (t : ByteArray) (k : Int), textMP n = (t.data.toList, k) := ⟨⟨(textMP n).1.toArray⟩, _, rfl⟩
  have c1 := Lib.hid (fun W hL => TextMonths_at (t := t) rfl hak W hL)
  have c2 : Hid (∀ W, Calls Tryz.prog 17 #[.int .i64 n] W (StrAt W t k)) := Lib.hid (fun W => by
    have := RefText_r n W
    rw [hak] at this
    rw [show t = ⟨t.data.toList.toArray⟩ by simp]
    exact this)
  clear hak
  replace hL := Lib.hid hL
  go_enter Tryz.func4, Tryz.ntmps4
  go_wp2_with fail
  refine (c1.out W hL.out).mono ?_
  rintro e w1 ⟨rfl, hb1⟩
  go_wp2_with fail
  refine (c2.out w1).mono ?_
  rintro e w2 ⟨rfl, hb2⟩
  have hB := Lib.hid (hb1.trans (hb2.mono hb1.size))
  have hL2 := Lib.hid (hL.out.below hB.out hL.out.num.size)
  clear hb1 hb2
  go_wp2_with fail
  refine (works_calls w2 hL2.out).mono ?_
  rintro e w3 ⟨rfl, hb3⟩
  go_wp2_with fail
  go_ret
  exact ⟨rfl, hB.out.trans (hb3.mono hB.out.size)⟩
end Go.Proofs.YtjndcehkgfbagaaGreatDoor
