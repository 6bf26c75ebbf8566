/- The reader of package chiselref06: sign, has, digit. The reader of package chiselref06: a part without a fraction. Package chiselref06: small, and ParseMonths. Package chiselref06: ParseMonths. Package chiselref06: decimal, and TextMonths. Package chiselref06: TextMonths; the walks of DurMonths and DurMonthTexts. -/
import Derived.Test.YtjndcehkgfbagaaGreatDoorNi
import Derived.RegionTactic
import Derived.BigRegion
import Derived.BigQuiet

namespace Go.Proofs.YtjndcehkgfbagaaGreatDoor
open Go.RowKit NumP DurP Go.Proofs.YtjndcehkgfbagaaGreatDoorW.PrintWords
set_option linter.unusedVariables false

theorem res_one {fn : Func} {p : Tmp} {ty : TypeId} (h : fn.results = #[.cell p ty]) (tmps : Array Value) (P : Program) (w : World) :
    (results fn tmps).run P w = ((asAddr (tmps.getD p undef)).run P w).andThen fun a w₁ => ((loadVar ty a).run P w₁).andThen fun v w₂ => .ok v w₂ := by
  simp only [results, h]
  simp [Sem.run_bind, Result.andThen]
  cases Sem.run P (asAddr (tmps[p]?.getD undef)) w with
  | ok a w1 => cases hh : Sem.run P (loadVar ty a) w1 <;> simp [hh]
  | halt h w1 => rfl
/-- A reader as a value. -/
def rdV (l : List UInt8) (ok : Bool) : Value := .agg #[.string ⟨l.toArray⟩, .bool ok]
def SignPost (W : World) (l : List UInt8) (ok b : Bool) (e : Ending) (w' : World) : Prop := e = .returned (.tuple #[rdV l ok, .bool b]) ∧ Below W.heap.size W w'
def HasPost (W : World) (l : List UInt8) (ok : Bool) (e : Ending) (w' : World) : Prop := e = .returned (rdV l ok) ∧ Below W.heap.size W w'
theorem rd_self (s : ByteArray) (ok : Bool) : rdV s.data.toList ok = .agg #[.string s, .bool ok] := by unfold rdV; rw [show (⟨s.data.toList.toArray⟩ : ByteArray) = s from data_inj (by simp)]
theorem rdV_drop (s : ByteArray) (ok : Bool) (k : Nat) : rdV (s.data.toList.drop k) ok = .agg #[.string (s.extract k s.size), .bool ok] := by unfold rdV; rw [drop_mk]
theorem two_allocs (W : World) (o o2 : Obj) : Below W.heap.size W ((W.alloc o).alloc o2) := ((Below.refl _ _).alloc (Nat.le_refl _) _).alloc (by simp) _
set_option maxRecDepth 100000 in
set_option maxHeartbeats 2000000 in
theorem sign_r (s : ByteArray) (ok : Bool) (W : World) (hs : s.size ≤ 1000) : Calls Tryz.prog 32 #[.agg #[.string s, .bool ok]] W
    (SignPost W (if (s.data.toList.head? == some 45) = true then s.data.toList.drop 1 else s.data.toList) ok (s.data.toList.head? == some 45)) := by
  obtain ⟨b, hb⟩ : ∃ b, b = (s.data.toList.head? == some 45) := ⟨_, rfl⟩
  obtain ⟨R, hR⟩ : ∃ R, R = (if b = true then s.data.toList.drop 1 else s.data.toList) := ⟨_, rfl⟩
  rw [← hb, ← hR]
  by_cases h0 : s.size = 0
  · have hl : s.data.toList = [] := List.eq_nil_of_length_eq_zero (by rw [list_len]; exact h0)
    have hbf : b = false := by rw [hb, hl]; rfl
    have hRs : Hid (rdV R ok = .agg #[.string s, .bool ok]) := Lib.hid (by rw [hR, hbf, ← rd_self]; rfl)
    subst hbf
    clear hb hR hl
    have g1 : ¬ ((s.size : Int) > 0) := by omega
    clear h0
    go_enter Tryz.func32, Tryz.ntmps32
    go_wp2_with fail
    refine bodyPost_ret (v := .tuple #[.agg #[.string s, .bool ok], .bool false]) ?ret rfl ?post
    case ret => rw [res_two rfl]; go_simp
    case post => exact ⟨by rw [hRs.out], two_allocs _ _ _⟩
  · have hp : 0 < s.size := by omega
    have hat := data_at s 0 hp
    rw [← List.head?_eq_getElem?] at hat
    have g1 : (s.size : Int) > 0 := by omega
    by_cases h45 : s[0] = 45
    · have hbt : b = true := by rw [hb, hat, h45]; rfl
      have hRs : Hid (rdV R ok = .agg #[.string (s.extract 1 s.size), .bool ok]) := Lib.hid (by rw [hR, hbt, ← rdV_drop]; rfl)
      have g2 : ((s[0].toNat : Int) == 45) = true := by rw [h45]; rfl
      subst hbt
      clear hb hR hat h0
      replace h45 := Lib.hid h45
      have g3 : (1 : Int) ≤ (s.size : Int) := by omega
      have g4 : 1 ≤ s.size := by omega
      go_enter Tryz.func32, Tryz.ntmps32
      go_wp2_with fail
      go_region
      go_wp2_with fail
      refine bodyPost_ret (v := .tuple #[.agg #[.string (s.extract 1 s.size), .bool ok], .bool true]) ?ret rfl ?post
      case ret => rw [res_two rfl]; go_simp
      case post => exact ⟨by rw [hRs.out], (two_allocs _ _ _).drew⟩
    · have hbf : b = false := by rw [hb, hat]; simpa using h45
      have hRs : Hid (rdV R ok = .agg #[.string s, .bool ok]) := Lib.hid (by rw [hR, hbf, ← rd_self]; rfl)
      have g2 : ((s[0].toNat : Int) == 45) = false := by rw [show (45 : Int) = ((45 : UInt8).toNat : Int) from rfl, byte_eq]; simpa using h45
      subst hbf
      clear hb hR hat h0
      replace h45 := Lib.hid h45
      go_enter Tryz.func32, Tryz.ntmps32
      go_wp2_with fail
      refine bodyPost_ret (v := .tuple #[.agg #[.string s, .bool ok], .bool false]) ?ret rfl ?post
      case ret => rw [res_two rfl]; go_simp
      case post => exact ⟨by rw [hRs.out], two_allocs _ _ _⟩

set_option maxRecDepth 100000 in
set_option maxHeartbeats 2000000 in
theorem has_r (s : ByteArray) (ok : Bool) (c : UInt8) (W : World) (hs : s.size ≤ 1000) : Calls Tryz.prog 33 #[.agg #[.string s, .bool ok], .int .u8 c.toNat] W
    (HasPost W (if (s.data.toList.head? == some c) = true then s.data.toList.drop 1 else s.data.toList) (if (s.data.toList.head? == some c) = true then ok else false)) := by
  obtain ⟨b, hb⟩ : ∃ b, b = (s.data.toList.head? == some c) := ⟨_, rfl⟩
  obtain ⟨R, hR⟩ : ∃ R, R = (if b = true then s.data.toList.drop 1 else s.data.toList) := ⟨_, rfl⟩
  obtain ⟨k, hk⟩ : ∃ k, k = (if b = true then ok else false) := ⟨_, rfl⟩
  rw [← hb, ← hR, ← hk]
  by_cases h0 : s.size = 0
  · have hl : s.data.toList = [] := List.eq_nil_of_length_eq_zero (by rw [list_len]; exact h0)
    have hbf : b = false := by rw [hb, hl]; rfl
    have hRs : Hid (rdV R k = .agg #[.string s, .bool false]) := Lib.hid (by rw [hR, hk, hbf, ← rd_self]; rfl)
    subst hbf
    clear hb hR hl hk
    have g1 : ¬ ((s.size : Int) > 0) := by omega
    clear h0
    go_enter Tryz.func33, Tryz.ntmps33
    go_wp2_with fail
    refine bodyPost_ret (v := .agg #[.string s, .bool false]) ?ret rfl ?post
    case ret => rw [res_one rfl]; go_simp
    case post => exact ⟨by rw [hRs.out], two_allocs _ _ _⟩
  · have hp : 0 < s.size := by omega
    have hat := data_at s 0 hp
    rw [← List.head?_eq_getElem?] at hat
    have g1 : (s.size : Int) > 0 := by omega
    by_cases h45 : s[0] = c
    · have hbt : b = true := by rw [hb, hat, h45]; simp
      have hRs : Hid (rdV R k = .agg #[.string (s.extract 1 s.size), .bool ok]) := Lib.hid (by rw [hR, hk, hbt, ← rdV_drop]; rfl)
      have g2 : ((s[0].toNat : Int) == (c.toNat : Int)) = true := by rw [h45]; simp
      subst hbt
      clear hb hR hat h0 hk
      replace h45 := Lib.hid h45
      have g3 : (1 : Int) ≤ (s.size : Int) := by omega
      have g4 : 1 ≤ s.size := by omega
      go_enter Tryz.func33, Tryz.ntmps33
      go_wp2_with fail
      go_region
      go_wp2_with fail
      refine bodyPost_ret (v := .agg #[.string (s.extract 1 s.size), .bool ok]) ?ret rfl ?post
      case ret => rw [res_one rfl]; go_simp
      case post => exact ⟨by rw [hRs.out], (two_allocs _ _ _).drew⟩
    · have hbf : b = false := by rw [hb, hat]; simpa using h45
      have hRs : Hid (rdV R k = .agg #[.string s, .bool false]) := Lib.hid (by rw [hR, hk, hbf, ← rd_self]; rfl)
      have g2 : ((s[0].toNat : Int) == (c.toNat : Int)) = false := by rw [byte_eq]; simpa using h45
      subst hbf
      clear hb hR hat h0 hk
      replace h45 := Lib.hid h45
      go_enter Tryz.func33, Tryz.ntmps33
      go_wp2_with fail
      refine bodyPost_ret (v := .agg #[.string s, .bool false]) ?ret rfl ?post
      case ret => rw [res_one rfl]; go_simp
      case post => exact ⟨by rw [hRs.out], two_allocs _ _ _⟩
/-- Whether a digit stands at a place. -/
def digAt (l : List UInt8) (i : Nat) : Bool := match l[i]? with
  | some c => isDig c
  | none => false
set_option maxRecDepth 100000 in
set_option maxHeartbeats 2000000 in
theorem digit_r (s : ByteArray) (i : Nat) (W : World) (hs : s.size ≤ 1000) : Calls Tryz.prog 68 #[.string s, .int .i64 (i : Int)] W fun e w' => e = .returned (.bool (digAt s.data.toList i)) ∧ W = w' := by
  obtain ⟨b, hb⟩ : ∃ b, b = digAt s.data.toList i := ⟨_, rfl⟩
  rw [← hb]
  unfold digAt at hb
  by_cases hi : i < s.size
  · rw [data_at s i hi] at hb
    have hb2 : b = isDig s[i] := hb
    unfold isDig at hb2
    have g1 : (i : Int) < (s.size : Int) := by omega
    by_cases h1 : 48 ≤ s[i].toNat
    · by_cases h2 : s[i].toNat ≤ 57
      · have hbt : b = true := by rw [hb2]; simp [h1, h2]
        have k1 : ((s[i].toNat : Int) ≥ 48) := by omega
        have k2 : ((s[i].toNat : Int) ≤ 57) := by omega
        subst hbt
        clear hb hb2
        go_enter Tryz.func68, Tryz.ntmps68
        go_wp2_with fail
        go_ret
        exact ⟨rfl, rfl⟩
      · have hbt : b = false := by rw [hb2]; simp [h2]
        have k1 : ((s[i].toNat : Int) ≥ 48) := by omega
        have k2 : ¬ ((s[i].toNat : Int) ≤ 57) := by omega
        subst hbt
        clear hb hb2
        go_enter Tryz.func68, Tryz.ntmps68
        go_wp2_with fail
        go_ret
        exact ⟨rfl, rfl⟩
    · have hbt : b = false := by rw [hb2]; simp [h1]
      have k1 : ¬ ((s[i].toNat : Int) ≥ 48) := by omega
      subst hbt
      clear hb hb2
      go_enter Tryz.func68, Tryz.ntmps68
      go_wp2_with fail
      go_ret
      exact ⟨rfl, rfl⟩
  · rw [data_end s i (by omega)] at hb
    have g1 : ¬ ((i : Int) < (s.size : Int)) := by omega
    have hbt : b = false := hb
    subst hbt
    clear hb
    go_enter Tryz.func68, Tryz.ntmps68
    go_wp2_with fail
    go_ret
    exact ⟨rfl, rfl⟩
end Go.Proofs.YtjndcehkgfbagaaGreatDoor

namespace Go.Proofs.YtjndcehkgfbagaaGreatDoor
open Go.RowKit NumP DurP Go.Proofs.YtjndcehkgfbagaaGreatDoorW.PrintWords
set_option linter.unusedVariables false

/-- The box of the argument and that of the result. -/
theorem box_rd (W : World) (s : ByteArray) (ok : Bool) : ∃ W2, W2 = (W.alloc (.cells #[.string s, .bool ok] 51)).alloc (.cells #[.string ⟨#[]⟩, .bool false] 51) ∧ Below W.heap.size W W2 ∧ W2.heap.size = W.heap.size + 2 ∧
    W2.heap[W.heap.size]? = some (.cells #[.string s, .bool ok] 51 (0, 0)) ∧ W2.heap[W.heap.size + 1]? = some (.cells #[.string ⟨#[]⟩, .bool false] 51 (0, 0)) := by
  refine ⟨_, rfl, two_allocs _ _ _, by simp, ?_, ?_⟩
  · rw [Below.heap_alloc _ _ _ (by simp)]
    exact (MapKept.heap_alloc _ _).1
  · have := (MapKept.heap_alloc (W.alloc (.cells #[.string s, .bool ok] 51)) (.cells #[.string ⟨#[]⟩, .bool false] 51)).1
    simpa using this
theorem digAt_lt {l : List UInt8} {i : Nat} (h : i < digN l) : digAt l i = true := by
  have hl := digN_le l
  have h1 : (l.takeWhile isDig)[i]? = l[i]? := by
    rw [← take_digN, List.getElem?_take, if_pos h]
  unfold digAt
  have h2 : i < (l.takeWhile isDig).length := h
  rw [← h1, List.getElem?_eq_getElem h2]
  exact takeWhile_mem l _ (List.getElem_mem h2)
theorem digAt_end (l : List UInt8) : digAt l (digN l) = false := by
  induction l with
  | nil => rfl
  | cons c l ih =>
    rw [digN_cons]
    split
    · unfold digAt at ih ⊢
      simpa using ih
    · rename_i h
      unfold digAt
      simpa using h
def PartPost (W : World) (r : List UInt8 × List UInt8) (ok : Bool) (e : Ending) (w' : World) : Prop := e = .returned (.tuple #[rdV r.2 ok, .string ⟨r.1.toArray⟩]) ∧ Below W.heap.size W w'
/-- What the loops of part stand in. -/
structure RdBox (W : World) (s : ByteArray) (ok : Bool) (q : Nat) (W2 : World) : Prop where
  below : Below W.heap.size W W2
  c0 : W2.cell? ⟨q, 0, none⟩ = some (.string s)
  c1 : W2.cell? ⟨q, 1, none⟩ = some (.bool ok)
  r0 : W2.cell? ⟨q + 1, 0, none⟩ = some (.string ⟨#[]⟩)
  r1 : W2.cell? ⟨q + 1, 1, none⟩ = some (.bool false)
  f0 : W2.frozen? ⟨q + 1, 0, none⟩ = false
  f1 : W2.frozen? ⟨q + 1, 1, none⟩ = false
  h1 : W2.heap[q + 1]? = some (.cells #[.string ⟨#[]⟩, .bool false] 51 (0, 0))
  ge : W.heap.size ≤ q
theorem box_all (W : World) (s : ByteArray) (ok : Bool) : ∃ W2, W2 = (W.alloc (.cells #[.string s, .bool ok] 51)).alloc (.cells #[.string ⟨#[]⟩, .bool false] 51) ∧ RdBox W s ok W.heap.size W2 := by
  obtain ⟨W2, e, hb, hz, hx, hy⟩ := box_rd W s ok
  obtain ⟨⟨x0, x1⟩, fx⟩ := cells2 hx
  obtain ⟨⟨y0, y1⟩, fy⟩ := cells2 hy
  exact ⟨W2, e, hb, x0, x1, y0, y1, fy 0, fy 1, hy, Nat.le_refl _⟩
set_option maxRecDepth 100000 in
set_option maxHeartbeats 2000000 in
theorem part_r (s : ByteArray) (ok : Bool) (c : UInt8) (hc : c ≠ 83) (W : World) (hs : s.size ≤ 1000) : Calls Tryz.prog 34 #[.agg #[.string s, .bool ok], .int .u8 c.toNat, .bool false] W (PartPost W (partP c s.data.toList) ok) := by
  obtain ⟨W2, hW2, hB⟩ := box_all W s ok
  obtain ⟨q, hq⟩ : ∃ q, q = W.heap.size := ⟨_, rfl⟩
  rw [← hq] at hB
  obtain ⟨n, hn⟩ : ∃ n, n = digN s.data.toList := ⟨_, rfl⟩
  have hns : n ≤ s.size := by rw [hn, ← list_len]; exact digN_le _
  obtain ⟨p, hp⟩ : ∃ p : ByteArray, p = ⟨(partP c s.data.toList).1.toArray⟩ := ⟨_, rfl⟩
  obtain ⟨r, hr⟩ : ∃ r : ByteArray, r = ⟨(partP c s.data.toList).2.toArray⟩ := ⟨_, rfl⟩
  have hres : Hid (.tuple #[rdV (partP c s.data.toList).2 ok, .string ⟨(partP c s.data.toList).1.toArray⟩] = Value.tuple #[.agg #[.string r, .bool ok], .string p]) := Lib.hid (by unfold rdV; rw [← hp, ← hr])
  have hend : partEnd c s.data.toList = n := partEnd_no hn (fun h => hc h.1)
  have hmiss : ¬ (0 < n ∧ s.data.toList[n]? = some c) → p = ⟨#[]⟩ ∧ r = s := fun h => by
    rw [hp, hr, partP_no hend h]
    exact ⟨rfl, data_inj (by simp)⟩
  have hhit : 0 < n → s.data.toList[n]? = some c → p = s.extract 0 n ∧ r = s.extract (n + 1) s.size := fun h1 h2 => by
    rw [hp, hr, partP_yes hend h1 h2]
    exact ⟨take_mk s n, drop_mk s (n + 1)⟩
  have hdig : Hid (∀ i, i ≤ n → ∀ w, Calls Tryz.prog 68 #[.string s, .int .i64 (i : Int)] w fun e w' => e = .returned (.bool (decide (i < n))) ∧ w = w') := Lib.hid (fun i hi w => by
    have := digit_r s i w hs
    have e : digAt s.data.toList i = decide (i < n) := by
      by_cases h : i < n
      · rw [digAt_lt (by rw [← hn]; exact h)]; simp [h]
      · have : i = n := by omega
        rw [this, hn, digAt_end]; simp
    rw [e] at this
    exact this)
  obtain ⟨hb2, x0, x1, y0, y1, f0, f1, hy, hge⟩ := hB
  replace hy := Lib.hid hy
  replace hn := Lib.hid hn
  replace hb2 := Lib.hid hb2
  replace hmiss := Lib.hid hmiss
  replace hhit := Lib.hid hhit
  clear hp hr hend
  go_enter Tryz.func34, Tryz.ntmps34
  go_wp2_with fail
  rw [← hW2, ← hq]
  clear hW2
  replace hq := Lib.hid hq
  go_loopw [8] (fun iv wr => ∃ i : Nat, iv = .int .i64 i ∧ i ≤ n ∧ wr = W2) (fun iv _ => n - (intOf iv).toNat)
  case atStart => exact ⟨0, rfl, Nat.zero_le _, rfl⟩
  case round =>
    obtain ⟨i, rfl, hi, rfl⟩ := hrel
    by_cases hlt : i < n
    · go_wp2_with fail
      refine (hdig.out i hi _).mono ?_
      rintro e w ⟨rfl, rfl⟩
      rw [decide_eq_true hlt]
      go_wp2_with fail
      exact ⟨⟨i + 1, by simp, by omega, by simp⟩, by simp [intOf]; omega⟩
    · have hin : i = n := by omega
      subst hin
      go_wp2_with fail
      refine (hdig.out i hi _).mono ?_
      rintro e w ⟨rfl, rfl⟩
      rw [decide_eq_false hlt]
      clear hlt hi hdig
      by_cases h0 : i = 0
      · obtain ⟨hp0, hr0⟩ := hmiss.out (fun h => by omega)
        have g1 : ((i : Int) == 0) = true := by simpa using h0
        subst hp0 hr0
        replace h0 := Lib.hid h0
        go_wp2_with fail
        obtain ⟨W5, hW5, h5, hb5, -⟩ := put2 hy.out (.string r) (.bool ok) (B := W.heap.size) (by omega)
        rw [← hW5]
        clear hW5 x0 x1 y0 y1 f0 f1
        obtain ⟨⟨z0, z1⟩, -⟩ := cells2 h5
        refine bodyPost_ret (v := .tuple #[.agg #[.string r, .bool ok], .string ⟨#[]⟩]) ?ret rfl ?post
        case ret => rw [res_two rfl]; go_simp
        case post => exact ⟨by rw [hres.out], hb2.out.trans hb5⟩
      · have g1 : ((i : Int) == 0) = false := by simpa using h0
        have hi0 : 0 < i := by omega
        by_cases hsz : i = s.size
        · obtain ⟨hp0, hr0⟩ := hmiss.out (fun h => by rw [data_end s i (by omega)] at h; cases h.2)
          have g2 : ¬ ((i : Int) < (s.size : Int)) := by omega
          subst hp0 hr0
          replace h0 := Lib.hid h0
          replace hsz := Lib.hid hsz
          go_wp2_with fail
          obtain ⟨W5, hW5, h5, hb5, -⟩ := put2 hy.out (.string r) (.bool ok) (B := W.heap.size) (by omega)
          rw [← hW5]
          clear hW5 x0 x1 y0 y1 f0 f1
          obtain ⟨⟨z0, z1⟩, -⟩ := cells2 h5
          refine bodyPost_ret (v := .tuple #[.agg #[.string r, .bool ok], .string ⟨#[]⟩]) ?ret rfl ?post
          case ret => rw [res_two rfl]; go_simp
          case post => exact ⟨by rw [hres.out], hb2.out.trans hb5⟩
        · have hlt : i < s.size := by omega
          have hat := data_at s i hlt
          have g2 : ((i : Int) < (s.size : Int)) := by omega
          by_cases h45 : s[i] = c
          · obtain ⟨hp0, hr0⟩ := hhit.out hi0 (by rw [hat, h45])
            have g3 : ((s[i].toNat : Int) == (c.toNat : Int)) = true := by rw [h45]; simp
            have g4 : ((i : Int) + 1 ≤ (s.size : Int)) := by omega
            have g5 : i + 1 ≤ s.size := by omega
            have g6 : ((i : Int) ≤ (s.size : Int)) := by omega
            subst hp0 hr0
            replace h0 := Lib.hid h0
            replace hat := Lib.hid hat
            replace h45 := Lib.hid h45
            replace hsz := Lib.hid hsz
            go_wp2_with fail
            go_region
            obtain ⟨W5, hW5, h5, hb5, -⟩ := put2 hy.out (.string (s.extract (i + 1) s.size)) (.bool ok) (B := W.heap.size) (by omega)
            rw [← hW5]
            clear hW5 x0 x1 y0 y1 f0 f1
            obtain ⟨⟨z0, z1⟩, -⟩ := cells2 (w := W5.drew) h5
            go_wp2_with fail
            refine bodyPost_ret (v := .tuple #[.agg #[.string (s.extract (i + 1) s.size), .bool ok], .string (s.extract 0 i)]) ?ret rfl ?post
            case ret => rw [res_two rfl]; go_simp
            case post => exact ⟨by rw [hres.out], (hb2.out.trans hb5).drew⟩
          · obtain ⟨hp0, hr0⟩ := hmiss.out (fun h => by rw [hat] at h; exact h45 (Option.some.inj h.2))
            have g3 : ((s[i].toNat : Int) == (c.toNat : Int)) = false := by rw [byte_eq]; simpa using h45
            subst hp0 hr0
            replace h0 := Lib.hid h0
            replace hat := Lib.hid hat
            replace h45 := Lib.hid h45
            replace hsz := Lib.hid hsz
            go_wp2_with fail
            obtain ⟨W5, hW5, h5, hb5, -⟩ := put2 hy.out (.string r) (.bool ok) (B := W.heap.size) (by omega)
            rw [← hW5]
            clear hW5 x0 x1 y0 y1 f0 f1
            obtain ⟨⟨z0, z1⟩, -⟩ := cells2 h5
            refine bodyPost_ret (v := .tuple #[.agg #[.string r, .bool ok], .string ⟨#[]⟩]) ?ret rfl ?post
            case ret => rw [res_two rfl]; go_simp
            case post => exact ⟨by rw [hres.out], hb2.out.trans hb5⟩
end Go.Proofs.YtjndcehkgfbagaaGreatDoor

namespace Go.Proofs.YtjndcehkgfbagaaGreatDoor
open Go.RowKit NumP DurP Go.Proofs.YtjndcehkgfbagaaGreatDoorW.PrintWords
set_option linter.unusedVariables false

end Go.Proofs.YtjndcehkgfbagaaGreatDoor

namespace Go.Proofs.YtjndcehkgfbagaaGreatDoor
open Go.RowKit NumP DurP Go.Proofs.YtjndcehkgfbagaaGreatDoorW.PrintWords
set_option linter.unusedVariables false

end Go.Proofs.YtjndcehkgfbagaaGreatDoor

namespace Go.Proofs.YtjndcehkgfbagaaGreatDoor
open Go.RowKit NumP DurP Go.Proofs.YtjndcehkgfbagaaGreatDoorW.PrintWords
set_option linter.unusedVariables false

end Go.Proofs.YtjndcehkgfbagaaGreatDoor

namespace Go.Proofs.YtjndcehkgfbagaaGreatDoor
open Go.RowKit NumP DurP Go.Proofs.YtjndcehkgfbagaaGreatDoorW.PrintWords
set_option linter.unusedVariables false

end Go.Proofs.YtjndcehkgfbagaaGreatDoor
