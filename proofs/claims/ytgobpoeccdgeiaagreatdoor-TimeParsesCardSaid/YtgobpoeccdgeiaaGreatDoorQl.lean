/- Package chiselref04: the plain part of text. Package chiselref04: text. Package chiselref04: Canonical, two, Parse, result. Package chiselref04: Parse, result. -/
import Derived.Test.YtgobpoeccdgeiaaGreatDoorQk
import Derived.Deep.CutBlock

namespace Go.Proofs.YtgobpoeccdgeiaaGreatDoor
open Go.RowKit NumP DigP DurP Go.Proofs.YtgobpoeccdgeiaaGreatDoorW.PrintWords
set_option linter.unusedVariables false

theorem fixD_at : ∀ (k n i : Nat), i < k → (fixD k n)[i]? = some (UInt8.ofNat (48 + dg n (k - 1 - i)))
  | 0, _, i, h => by omega
  | k + 1, n, i, h => by
    show (fixD k (n / 10) ++ [UInt8.ofNat (48 + n % 10)])[i]? = _
    rcases Nat.lt_or_ge i k with h1 | h1
    · rw [List.getElem?_append_left (by rw [fixD_len]; exact h1), fixD_at k (n / 10) i h1]
      congr 2
      unfold dg
      rw [show k + 1 - 1 - i = (k - 1 - i) + 1 by omega, Nat.pow_succ, Nat.mul_comm, Nat.div_div_eq_div_mul]
    · have hi : i = k := by omega
      rw [List.getElem?_append_right (by rw [fixD_len]; exact h1), fixD_len, hi, Nat.sub_self]
      show some (UInt8.ofNat (48 + n % 10)) = _
      congr 2
      unfold dg
      rw [show k + 1 - 1 - k = 0 by omega, Nat.pow_zero, Nat.div_one]
theorem trim_snoc (l : List UInt8) : trimZ (l ++ [48]) = trimZ l := by
  unfold trimZ
  rw [List.reverse_append]
  rfl
theorem trim_last (l : List UInt8) (c : UInt8) (h : c ≠ 48) : trimZ (l ++ [c]) = l ++ [c] := by
  unfold trimZ
  rw [List.reverse_append]
  show (List.dropWhile _ (c :: l.reverse)).reverse = _
  rw [List.dropWhile_cons, if_neg (by simpa using h)]
  simp
/-- The text of digits up to a place, with the point. -/
def outB (S : List UInt8) (m i : Nat) : List UInt8 := S.take (min i m) ++ (if m < i then 46 :: (S.take i).drop m else [])
theorem outB_zero (S : List UInt8) (m : Nat) : outB S m 0 = [] := by simp [outB]
theorem take_one {S : List UInt8} {i : Nat} {c : UInt8} (h : S[i]? = some c) : S.take (i + 1) = S.take i ++ [c] := by
  rw [List.take_add_one, h]; rfl
theorem outB_low {S : List UInt8} {m i : Nat} {c : UInt8} (h : S[i]? = some c) (hm : i < m) : outB S m (i + 1) = outB S m i ++ [c] := by
  unfold outB
  rw [if_neg (by omega), if_neg (by omega), Nat.min_eq_left (by omega), Nat.min_eq_left (by omega), take_one h]
  simp
theorem outB_at {S : List UInt8} {m : Nat} {c : UInt8} (h : S[m]? = some c) : outB S m (m + 1) = (outB S m m ++ [46]) ++ [c] := by
  obtain ⟨h1, _⟩ := List.getElem?_eq_some_iff.1 h
  unfold outB
  rw [if_pos (by omega), if_neg (by omega), Nat.min_eq_right (by omega), Nat.min_self, take_one h, List.drop_left' (by rw [List.length_take]; omega)]
  simp
theorem outB_high {S : List UInt8} {m i : Nat} {c : UInt8} (h : S[i]? = some c) (hm : m < i) : outB S m (i + 1) = outB S m i ++ [c] := by
  obtain ⟨h1, _⟩ := List.getElem?_eq_some_iff.1 h
  unfold outB
  rw [if_pos (by omega), if_pos (by omega), Nat.min_eq_right (by omega), Nat.min_eq_right (by omega), take_one h, List.drop_append_of_le_length (by rw [List.length_take]; omega)]
  simp
/-- What the search for the last digit keeps. -/
def Cut0 (S : List UInt8) (m L : Nat) : Prop := m ≤ L ∧ L ≤ S.length ∧ trimZ (S.drop m) = trimZ ((S.take L).drop m)
theorem Cut0.start (S : List UInt8) {m : Nat} (h : m ≤ S.length) : Cut0 S m S.length := ⟨h, Nat.le_refl _, by rw [List.take_length]⟩
theorem cut_split {S : List UInt8} {m L : Nat} (h : m < L) (hL : L ≤ S.length) {c : UInt8} (hc : S[L - 1]? = some c) : (S.take L).drop m = (S.take (L - 1)).drop m ++ [c] := by
  have := take_one hc
  rw [show L - 1 + 1 = L by omega] at this
  rw [this, List.drop_append_of_le_length (by rw [List.length_take]; omega)]
theorem Cut0.step {S : List UInt8} {m L : Nat} (h : Cut0 S m L) (h1 : m < L) (hc : S[L - 1]? = some 48) : Cut0 S m (L - 1) :=
  ⟨by omega, by have := h.2.1; omega, by rw [h.2.2, cut_split h1 h.2.1 hc, trim_snoc]⟩
theorem Cut0.done {S : List UInt8} {m L : Nat} (h : Cut0 S m L) (hc : m < L → ∃ c, S[L - 1]? = some c ∧ c ≠ 48) : trimZ (S.drop m) = (S.take L).drop m := by
  rw [h.2.2]
  rcases Nat.lt_or_ge m L with h1 | h1
  · obtain ⟨c, h2, h3⟩ := hc h1
    rw [cut_split h1 h.2.1 h2, trim_last _ _ h3]
  · have : L = m := by have := h.1; omega
    rw [this, List.drop_of_length_le (by rw [List.length_take]; omega)]
    rfl
theorem text_done {neg : Bool} {D K L : Nat} (hK : K = max 21 (lenD D)) (h : Cut0 (fixD K D) (K - 20) L) (hc : K - 20 < L → ∃ c, (fixD K D)[L - 1]? = some c ∧ c ≠ 48) :
    textN ⟨neg, D⟩ = (if neg then [45] else []) ++ outB (fixD K D) (K - 20) L := by
  unfold textN
  simp only
  rw [← hK, fixD_len, h.done hc]
  have h1 := h.1
  have h2 := h.2.1
  rw [fixD_len] at h2
  unfold outB
  rw [Nat.min_eq_right h1, List.append_assoc]
  congr 2
  by_cases he : K - 20 < L
  · rw [if_pos he, if_neg]
    intro h3
    have := congrArg List.length h3
    rw [List.length_drop, List.length_take, fixD_len, List.length_nil] at this
    omega
  · rw [if_neg he, if_pos]
    exact List.eq_nil_of_length_eq_zero (by rw [List.length_drop, List.length_take, fixD_len]; omega)
end Go.Proofs.YtgobpoeccdgeiaaGreatDoor

namespace Go.Proofs.YtgobpoeccdgeiaaGreatDoor
open Go.RowKit NumP DigP DurP Go.Proofs.YtgobpoeccdgeiaaGreatDoorW.PrintWords
set_option linter.unusedVariables false

def StrE (W : World) (l : List UInt8) (e : Ending) (w' : World) : Prop := e = .returned (.string ⟨l.toArray⟩) ∧ Below W.heap.size W w'
set_option maxRecDepth 100000 in
set_option maxHeartbeats 4000000 in
theorem text_r (neg : Bool) (v : Value) (D : Nat) (W : World) (h : DAt W v (lenD D) D) (hl : lenD D ≤ 50) : Calls Tryz.prog 108 #[.agg #[.bool neg, v]] W (StrE W (textN ⟨neg, D⟩)) := by
  obtain ⟨n, hn⟩ : ∃ n, n = lenD D := ⟨_, rfl⟩
  rw [← hn] at h hl
  have hDn : D < 10 ^ n := by rw [hn]; exact lenD_self D
  obtain ⟨K, hK⟩ : ∃ K, K = max 21 n := ⟨_, rfl⟩
  obtain ⟨m, hm⟩ : ∃ m, m = K - 20 := ⟨_, rfl⟩
  obtain ⟨S, hS⟩ : ∃ S, S = fixD K D := ⟨_, rfl⟩
  obtain ⟨pre, hpre⟩ : ∃ p : List UInt8, p = if neg then [45] else [] := ⟨_, rfl⟩
  have hdone : Hid (∀ L, Cut0 S m L → (m < L → ∃ c, S[L - 1]? = some c ∧ c ≠ 48) → textN ⟨neg, D⟩ = pre ++ outB S m L) := Lib.hid (fun L h1 h2 => by
    rw [hpre, hS, hm]
    exact text_done (by rw [← hn]; exact hK) (by rw [← hm, ← hS]; exact h1) (by rw [← hm, ← hS]; exact h2))
  obtain ⟨T, hT⟩ : ∃ T, T = textN ⟨neg, D⟩ := ⟨_, rfl⟩
  rw [← hT] at hdone ⊢
  have hat : Hid (∀ i, i < K → S[i]? = some (UInt8.ofNat (48 + dg D (K - 1 - i)))) := Lib.hid (fun i hi => by rw [hS]; exact fixD_at K D i hi)
  have hSl : Hid (S.length = K) := Lib.hid (by rw [hS, fixD_len])
  obtain ⟨A, c, rfl, -⟩ := h.at_
  obtain ⟨W1, hW1⟩ : ∃ W1, W1 = W.alloc (.cells #[.bool neg, .slice A n c] 122) := ⟨_, rfl⟩
  have hb1 : Below W.heap.size W W1 := by rw [hW1]; exact (Below.refl _ _).alloc (Nat.le_refl _) _
  have hbox : W1.heap[W.heap.size]? = some (.cells #[.bool neg, .slice A n c] 122 (0, 0)) := by rw [hW1]; exact (MapKept.heap_alloc _ _).1
  have hd1 := h.below hb1
  obtain ⟨⟨c0, c1⟩, -⟩ := cells2 hbox
  obtain ⟨ii0, hii, hz0, hz1, hz2⟩ := info_parts info_int
  obtain ⟨jj0, hjj, hy0, hy1, hy2⟩ := info_parts info_byte
  have hK50 : K ≤ 50 := by omega
  have hK21 : 21 ≤ K := by omega
  have hnK : n ≤ K := by omega
  have hmK : m + 20 = K := by omega
  replace hK := Lib.hid hK
  replace hm := Lib.hid hm
  replace hn := Lib.hid hn
  replace hS := Lib.hid hS
  replace hT := Lib.hid hT
  replace hpre := Lib.hid hpre
  replace hb1 := Lib.hid hb1
  replace hbox := Lib.hid hbox
  replace hd1 := Lib.hid hd1
  replace hW1 := Lib.hid hW1
  replace hmK := Lib.hid hmK
  replace hDn := Lib.hid hDn
  clear h
  go_enter Tryz.func108, Tryz.ntmps108
  go_wp2_with fail
  rw [← hW1.out]
  go_loopw [3] (fun dv wr => ∃ (k : Nat) (A : Option Addr) (c : Nat), dv = .slice A k c ∧ n ≤ k ∧ k ≤ K ∧ Hid (DAt wr (.slice A k c) k D) ∧ Hid (Below W1.heap.size W1 wr)) (fun dv _ => 21 - lenOf dv)
  case atStart => exact ⟨n, A, c, rfl, Nat.le_refl _, hnK, hd1, Lib.hid (Below.refl _ _)⟩
  case round =>
    obtain ⟨k, A2, c2, rfl, hk1, hk2, hd, hbel⟩ := hrel
    by_cases hk : k < 21
    · have g1 : ((k : Int) < 21) := by omega
      have hzero := own_digit wr (show 0 < 10 by decide)
      have hb2 : Below wr.heap.size wr (wr.alloc (.cells #[.int .i64 0] 3)) := (Below.refl _ _).alloc (Nat.le_refl _) _
      have hd2 := hd.out.below hb2
      have hbs := hb2.size
      have hcells := ints_one (fixN k D)
      have hnl : (ints (fixN k D)).length = k * 1 := by rw [ints_len, fixN_len, Nat.mul_one]
      have hDk : D < 10 ^ k := Nat.lt_of_lt_of_le hDn.out (Nat.pow_le_pow_right (by decide) hk1)
      have hlist : Hid (ints (fixN 1 0) ++ ints (fixN k D) = ints (fixN (k + 1) D)) := Lib.hid (by rw [← ints_app, fixN_ahead hDk, Nat.add_comm])
      have hB2 := Lib.hid (hbel.out.trans (hb2.mono hbel.out.size))
      replace hDk := Lib.hid hDk
      have hend : Hid (∀ (v : Value) (w : World), w.ownsRow wr.heap.size 3 1 v (k + 1) (ints (fixN (k + 1) D)) → ∃ (A' : Option Addr) (c' : Nat), v = .slice A' (k + 1) c') := Lib.hid (fun v w h => by
        obtain ⟨g, cap, e⟩ := own_form1 h (by omega)
        exact ⟨_, _, e⟩)
      cases A2 with
      | none =>
        obtain ⟨A', c', e', ⟨_, h0⟩, h4⟩ := hd.out.at_
        injection e' with a1 a2 a3
        subst a1 a3
        have hc0 := h0 rfl
        have hk0 : k = 0 := by
          rcases Nat.eq_zero_or_pos k with h5 | h5
          · exact h5
          · obtain ⟨_, _, h6, _⟩ := h4 h5; cases h6
        subst hc0
        subst hk0
        have hdn0 : Hid (DAt (wr.alloc (.cells #[.int .i64 0] 3)) (.slice (some ⟨wr.heap.size, 0, none⟩) 1 1) 1 D) := Lib.hid (by
          have := hDk.out
          rw [show D = 0 by simpa using this]
          exact own_DAt hzero)
        clear h0 h4
        go_wp2_with (at_builtin; refine wpList_append_own_none rfl _ _ 120 rfl wr.heap.size 3 ii0 1 Tryz.underlying120 hii _ _ _ rfl hzero rfl ?_)
        exact ⟨⟨1, _, 1, rfl, by omega, by omega, hdn0, hB2⟩, by show 21 - 1 < 21 - 0; decide⟩
      | some ad =>
        have hnews := hd2.news ad rfl
        go_wp2_with (at_builtin; refine wpList_append_own _ rfl _ _ 120 rfl wr.heap.size 3 ii0 (.int .i64 0) 1 8 Tryz.underlying120 hii hz0 hz1 hz2 rfl (by decide) _ _ _ rfl hzero ad k c2 (ints (fixN k D)) rfl hnl hnews hcells (by unfold maxLen; omega) (by omega) hbs ?_; intro v1 w1 hv1 hgrow1 hnil1; rw [hlist.out, Nat.add_comm 1 k] at hv1; obtain ⟨A', c', rfl⟩ := hend.out v1 w1 hv1; have hbw := Lib.hid (Below.grown hB2.out hgrow1 hB2.out.size (fun j hj => Nat.le_trans hbel.out.size (hzero.lt _ hj).1)); have hdn := Lib.hid (own_DAt hv1); clear hgrow1 hnil1 hv1)
        exact ⟨⟨k + 1, A', c', rfl, by omega, by omega, hdn, hbw⟩, by show 21 - (k + 1) < 21 - k; omega⟩
    · have hkK : K = k := by have := hK.out; omega
      subst hkK
      have g1 : ¬ ((K : Int) < 21) := by omega
      obtain ⟨wb, rfl⟩ : ∃ w, w = wr := ⟨_, rfl⟩
      have d0 := (hbel.out.cell (p := ⟨W.heap.size, 0, none⟩) (heap_lt hbox.out)).trans c0
      clear c0 c1
      go_upto_if 16 with fail
      go_cut [4] from 17 to 19 (fun bv wx => ∃ (A : Option Addr) (c : Nat), bv = .slice A pre.length c ∧ Hid (wx.ownsRow wb.heap.size 5 1 (.slice A pre.length c) pre.length (byts pre)) ∧ Hid (Below wb.heap.size wb wx))
      case first =>
        cases neg with
        | false =>
          have hp0 : Hid (pre = []) := Lib.hid hpre.out
          go_wp2_with fail
          go_meet
          exact ⟨none, 0, by rw [hp0.out]; rfl, Lib.hid (by rw [hp0.out]; exact World.ownsRow_nil _ _ _ _), Lib.hid (Below.refl _ _)⟩
        | true =>
          have hp0 : Hid (pre = [45]) := Lib.hid hpre.out
          have hb2 : Below wb.heap.size wb (wb.alloc (.cells #[.int .u8 45] 5)) := (Below.refl _ _).alloc (Nat.le_refl _) _
          have hbs := hb2.size
          have hone := own_byte wb 45 45 rfl
          have hcells := byts_one [45]
          have hnl : (byts [45]).length = 1 * 1 := rfl
          have hnews := hone.cells (g := wb.heap.size) rfl
          have hnil := World.ownsRow_nil (wb.alloc (.cells #[.int .u8 45] 5)) wb.heap.size 5 1
          have hend : Hid (∀ (v : Value) (w : World), w.ownsRow wb.heap.size 5 1 v 1 (byts [45]) → ∃ (A' : Option Addr) (c' : Nat), v = .slice A' 1 c') := Lib.hid (fun v w h => by
            obtain ⟨g, cap, e⟩ := own_form1 h (by omega)
            exact ⟨_, _, e⟩)
          replace hb2 := Lib.hid hb2
          go_wp2_with (at_builtin; refine wpList_append_own _ rfl _ _ 116 rfl wb.heap.size 5 jj0 (.int .u8 0) 1 1 Tryz.underlying116 hjj hy0 hy1 hy2 rfl (by decide) _ _ _ rfl hnil ⟨wb.heap.size, 0, none⟩ 1 1 (byts [45]) rfl hnl hnews hcells (by unfold maxLen; omega) (by omega) hbs ?_; intro v1 w1 hv1 hgrow1 hnil1; rw [List.nil_append, Nat.zero_add] at hv1; obtain ⟨A', c', rfl⟩ := hend.out v1 w1 hv1; have hbw := Lib.hid (Below.grown hb2.out hgrow1 hbs (fun j hj => by cases hj)); replace hv1 := Lib.hid hv1; clear hgrow1 hnil1)
          go_meet
          exact ⟨A', c', by rw [hp0.out]; rfl, Lib.hid (by rw [hp0.out]; exact hv1.out), hbw⟩
      case rest =>
      obtain ⟨A4, c4, rfl, hown4, hbel4⟩ := hcut
      obtain ⟨np, hnp⟩ : ∃ np, np = pre.length := ⟨_, rfl⟩
      rw [← hnp] at hown4 ⊢
      have hnp1 : np ≤ 1 := by
        rw [hnp, hpre.out]
        cases neg
        · exact Nat.zero_le _
        · exact Nat.le_refl _
      replace hnp := Lib.hid hnp
      obtain ⟨wx, hwx⟩ : ∃ w, w = wc := ⟨_, rfl⟩
      rw [← hwx] at hown4 hbel4 ⊢
      clear hwx
      have hdx := Lib.hid (hd.out.below hbel4.out)
      obtain ⟨A5, c5, e5, -, hcell0⟩ := hdx.out.at_
      injection e5 with a1 a2 a3
      subst a1 a3
      obtain ⟨g, off, rfl, hcell⟩ := hcell0 (by omega)
      clear hcell0
      have hcb : Hid (∀ i, i < K → wb.cell? ⟨g, off + i, none⟩ = some (.int .i64 (dg D (K - 1 - i) : Nat))) := Lib.hid (fun i hi => by
        obtain ⟨A', c', e', -, h4⟩ := hd.out.at_
        injection e' with a1 a2 a3
        obtain ⟨g', off', e2, h5⟩ := h4 (by omega)
        rw [← a1] at e2
        cases e2
        exact h5 i hi)
      replace hcell := Lib.hid hcell
      go_upto_block 2 with fail
      go_cut [5] from 22 to 36 (fun lv wx2 => ∃ L : Nat, lv = .int .i64 L ∧ m ≤ L ∧ L ≤ K ∧ Hid (T = pre ++ outB S m L) ∧ wx2 = wx)
      case first =>
        go_wp2_with fail
        go_loopw [5] (fun lv w => ∃ L : Nat, lv = .int .i64 L ∧ m ≤ L ∧ L ≤ K ∧ Hid (Cut0 S m L) ∧ w = wx) (fun lv _ => (intOf lv).toNat)
        case atStart => exact ⟨K, rfl, by have := hmK.out; omega, Nat.le_refl _, Lib.hid (by have := Cut0.start S (m := m) (by rw [hSl.out]; have := hmK.out; omega); rw [hSl.out] at this; exact this), rfl⟩
        case round =>
          obtain ⟨L, rfl, hL1, hL2, hcut0, rfl⟩ := hrel
          have k0 : (K : Int) - 20 = (m : Int) := by have := hmK.out; omega
          by_cases hmL : m < L
          · obtain ⟨l, hl⟩ : ∃ l, L = l + 1 := ⟨L - 1, by omega⟩
            subst hl
            have k1 : (((l + 1 : Nat) : Int) > (K : Int) - 20) := by have := hmK.out; omega
            obtain ⟨x, hx⟩ : ∃ x, x = dg D (K - 1 - l) := ⟨_, rfl⟩
            have x9 : x < 10 := by rw [hx]; exact dg_lt _ _
            have hc := hcell.out l (by omega)
            have hs := hat.out l (by omega)
            rw [← hx] at hc hs
            replace hx := Lib.hid hx
            have hl1 : l + 1 - 1 = l := by omega
            have k3 : (l : Int) < (K : Int) := by omega
            have k4 : l < K := by omega
            by_cases hx0 : x = 0
            · have hnext : Hid (Cut0 S m l) := Lib.hid (by have := hcut0.out.step hmL (by rw [hl1, hs, hx0]; rfl); rw [hl1] at this; exact this)
              have k2 : (((x : Nat) : Int) == 0) = true := by simpa using hx0
              replace hs := Lib.hid hs
              replace hx0 := Lib.hid hx0
              replace hl1 := Lib.hid hl1
              replace k0 := Lib.hid k0
              go_wp2_with fail
              exact ⟨⟨l, rfl, by omega, by omega, hnext, trivial⟩, by simp [intOf]⟩
            · have hfin : Hid (T = pre ++ outB S m (l + 1)) := Lib.hid (hdone.out _ hcut0.out (fun _ => ⟨_, by rw [hl1]; exact hs, fun h => by
                have := congrArg UInt8.toNat h
                rw [dig_nat _ x9] at this
                have e : (48 : UInt8).toNat = 48 := rfl
                omega⟩))
              have k2 : (((x : Nat) : Int) == 0) = false := by simpa using hx0
              replace hs := Lib.hid hs
              replace hx0 := Lib.hid hx0
              replace hl1 := Lib.hid hl1
              replace k0 := Lib.hid k0
              go_wp2_with fail
              go_meet
              exact ⟨l + 1, by simp, hL1, hL2, hfin, rfl⟩
          · have k1 : ¬ ((L : Int) > (K : Int) - 20) := by have := hmK.out; omega
            have hfin : Hid (T = pre ++ outB S m L) := Lib.hid (hdone.out _ hcut0.out (fun h => absurd h hmL))
            replace k0 := Lib.hid k0
            go_wp2_with fail
            go_meet
            exact ⟨L, rfl, hL1, hL2, hfin, rfl⟩
      case rest =>
      obtain ⟨L, rfl, hL1, hL2, hfin, rfl⟩ := hcut
      go_wp2_with fail
      go_loopw [4, 6] (fun bv iv wr => ∃ (i nb : Nat) (A : Option Addr) (c : Nat), bv = .slice A nb c ∧ iv = .int .i64 i ∧ i ≤ L ∧ nb ≤ 2 * i + 1 ∧ Hid (wr.ownsRow wb.heap.size 5 1 (.slice A nb c) nb (byts (pre ++ outB S m i))) ∧ Hid (Below wb.heap.size wb wr)) (fun _ iv _ => L - (intOf iv).toNat)
      case atStart => exact ⟨0, np, A4, c4, rfl, rfl, Nat.zero_le _, by omega, Lib.hid (by rw [outB_zero, List.append_nil]; exact hown4.out), hbel4⟩
      case round =>
        obtain ⟨i, nb, A6, c6, rfl, rfl, hiL, hnb, hown, hbw⟩ := hrel
        by_cases hlt : i < L
        · have k1 : ((i : Int) < (L : Int)) := by omega
          obtain ⟨x, hx⟩ : ∃ x, x = dg D (K - 1 - i) := ⟨_, rfl⟩
          have x9 : x < 10 := by rw [hx]; exact dg_lt _ _
          have hc := (hbw.out.cell (World.block_lt_of_cell? _ _ (hcb.out i (by omega)))).trans (hcb.out i (by omega))
          have hs := hat.out i (by omega)
          rw [← hx] at hc hs
          obtain ⟨ch, hch⟩ : ∃ ch, ch = UInt8.ofNat (48 + x) := ⟨_, rfl⟩
          have hcn : ch.toNat = 48 + x := by rw [hch]; exact dig_nat _ x9
          rw [← hch] at hs
          have hw : IntKind.u8.wrap (48 + (x : Int)) = 48 + (x : Int) := by rw [IntWalk.u8_in _ (by omega)]
          have hw2 : 48 + (x : Int) = (ch.toNat : Int) := by omega
          have hbwb := hbw.out.size
          have k4 : i < K := by omega
          have k3 : (i : Int) < (K : Int) := by omega
          replace hx := Lib.hid hx
          replace hch := Lib.hid hch
          replace hcn := Lib.hid hcn
          replace hw2 := Lib.hid hw2
          by_cases him : i = m
          · have hnx : Hid (pre ++ outB S m (i + 1) = ((pre ++ outB S m i) ++ [46]) ++ [ch]) := Lib.hid (by
              have e := outB_at (S := S) (m := m) (c := ch) (by rw [← him]; exact hs)
              rw [him, e]; simp)
            have k2 : ((i : Int) == (K : Int) - 20) = true := by have := hmK.out; simp; omega
            have hb2 : Below wr.heap.size wr (wr.alloc (.cells #[.int .u8 46] 5)) := (Below.refl _ _).alloc (Nat.le_refl _) _
            have hbs : wb.heap.size ≤ (wr.alloc (.cells #[.int .u8 46] 5)).heap.size := Nat.le_trans hbwb hb2.size
            have hB2 := Lib.hid (hbw.out.trans (hb2.mono hbwb))
            replace hb2 := Lib.hid hb2
            replace hs := Lib.hid hs
            replace him := Lib.hid him
            go_wp2_with (at_builtin; first
              | (refine wpList_append_own _ rfl _ _ 116 rfl wb.heap.size 5 jj0 (.int .u8 0) 1 1 Tryz.underlying116 hjj hy0 hy1 hy2 rfl (by decide) _ _ _ rfl (own_below hown.out hb2.out) ⟨wr.heap.size, 0, none⟩ 1 1 (byts [46]) rfl rfl (byte_news (c := 46) rfl) (byts_one [46]) (by unfold maxLen; omega) (by omega) hbs ?_; intro v1 w1 hv1 hgrow1 hnil1; rw [← byts_app] at hv1; have hbw1 := Lib.hid (Below.grown hB2.out hgrow1 hbs (fun j hj => ((own_below hown.out hb2.out).lt _ hj).1)); obtain ⟨A7, c7, rfl⟩ := own_lit hv1 (by omega); have hvA := Lib.hid hv1; have hc1 := (hbw1.out.cell (World.block_lt_of_cell? _ _ (hcb.out i (by omega)))).trans (hcb.out i (by omega)); rw [← hx.out] at hc1; have hb3 : Hid (Below w1.heap.size w1 (w1.alloc (.cells #[.int .u8 (48 + (x : Int))] 5))) := Lib.hid ((Below.refl _ _).alloc (Nat.le_refl _) _); have hbs3 : wb.heap.size ≤ (w1.alloc (.cells #[.int .u8 (48 + (x : Int))] 5)).heap.size := Nat.le_trans hbw1.out.size hb3.out.size; have hB3 := Lib.hid (hbw1.out.trans (hb3.out.mono hbw1.out.size)); clear hgrow1 hnil1 hv1 hc)
              | (refine wpList_append_own _ rfl _ _ 116 rfl wb.heap.size 5 jj0 (.int .u8 0) 1 1 Tryz.underlying116 hjj hy0 hy1 hy2 rfl (by decide) _ _ _ rfl (own_below hvA.out hb3.out) ⟨w1.heap.size, 0, none⟩ 1 1 (byts [ch]) rfl rfl (byte_news hw2.out) (byts_one [ch]) (by unfold maxLen; omega) (by omega) hbs3 ?_; intro v2 w2 hv2 hgrow2 hnil2; rw [← byts_app, ← hnx.out] at hv2; have hbw2 := Lib.hid (Below.grown hB3.out hgrow2 hbs3 (fun j hj => ((own_below hvA.out hb3.out).lt _ hj).1)); obtain ⟨A8, c8, rfl⟩ := own_lit hv2 (by omega); replace hv2 := Lib.hid hv2; clear hgrow2 hnil2))
            exact ⟨⟨i + 1, nb + 1 + 1, A8, c8, rfl, by simp, by omega, by omega, hv2, hbw2⟩, by simp [intOf]; omega⟩
          · have hnx : Hid (pre ++ outB S m (i + 1) = (pre ++ outB S m i) ++ [ch]) := Lib.hid (by
              rcases Nat.lt_or_ge i m with h5 | h5
              · rw [outB_low hs h5]; simp
              · rw [outB_high hs (by omega)]; simp)
            have k2 : ((i : Int) == (K : Int) - 20) = false := by have := hmK.out; simp; omega
            have hb2 : Below wr.heap.size wr (wr.alloc (.cells #[.int .u8 (48 + (x : Int))] 5)) := (Below.refl _ _).alloc (Nat.le_refl _) _
            have hbs : wb.heap.size ≤ (wr.alloc (.cells #[.int .u8 (48 + (x : Int))] 5)).heap.size := Nat.le_trans hbwb hb2.size
            have hB2 := Lib.hid (hbw.out.trans (hb2.mono hbwb))
            replace hb2 := Lib.hid hb2
            replace hs := Lib.hid hs
            replace him := Lib.hid him
            go_wp2_with (at_builtin; refine wpList_append_own _ rfl _ _ 116 rfl wb.heap.size 5 jj0 (.int .u8 0) 1 1 Tryz.underlying116 hjj hy0 hy1 hy2 rfl (by decide) _ _ _ rfl (own_below hown.out hb2.out) ⟨wr.heap.size, 0, none⟩ 1 1 (byts [ch]) rfl rfl (byte_news hw2.out) (byts_one [ch]) (by unfold maxLen; omega) (by omega) hbs ?_; intro v2 w2 hv2 hgrow2 hnil2; rw [← byts_app, ← hnx.out] at hv2; have hbw2 := Lib.hid (Below.grown hB2.out hgrow2 hbs (fun j hj => ((own_below hown.out hb2.out).lt _ hj).1)); obtain ⟨A8, c8, rfl⟩ := own_lit hv2 (by omega); replace hv2 := Lib.hid hv2; clear hgrow2 hnil2)
            exact ⟨⟨i + 1, nb + 1, A8, c8, rfl, by simp, by omega, by omega, hv2, hbw2⟩, by simp [intOf]; omega⟩
        · have hiL2 : L = i := by omega
          subst hiL2
          have k1 : ¬ ((L : Int) < (L : Int)) := by omega
          have hcv := str_own hown.out
          rw [← hfin.out] at hcv
          go_wp2_with fail
          go_ret
          exact ⟨rfl, hb1.out.trans ((hbel.out.trans (hbw.out.mono hbel.out.size)).mono hb1.out.size)⟩
end Go.Proofs.YtgobpoeccdgeiaaGreatDoor

namespace Go.Proofs.YtgobpoeccdgeiaaGreatDoor
open Go.RowKit NumP DigP DurP Go.Proofs.YtgobpoeccdgeiaaGreatDoorW.PrintWords
set_option linter.unusedVariables false

/-- What a function leaves that returns a number and whether it is one. -/
def CanPost (W : World) (r : NumP.R) (e : Ending) (w' : World) : Prop :=
  Below W.heap.size W w' ∧ match r with
    | .ok x => ∃ v, e = .returned (.tuple #[.agg #[.bool x.neg, v], .bool true]) ∧ DAt w' v (lenD x.d) x.d
    | .error k => e = .returned (.tuple #[.agg #[.bool false, .slice none 0 0], .bool false])
theorem good_50 {x : NumP.Num} {l : List UInt8} (h : parseN l = .ok x) : lenD x.d ≤ 50 := lenD_50 (parseN_lt h)
set_option maxHeartbeats 2000000 in
set_option maxRecDepth 100000 in
theorem can_r (s : ByteArray) (W : World) (hs : s.size ≤ maxLen) : Calls Tryz.prog 109 #[.string s] W (CanPost W (canonN s.data.toList)) := by
  obtain ⟨W1, hW1⟩ : ∃ W1, W1 = W.alloc (.cells #[.bool false, .slice none 0 0] 122) := ⟨_, rfl⟩
  obtain ⟨q, hq⟩ : ∃ q, q = W.heap.size := ⟨_, rfl⟩
  have hb1 : Below W.heap.size W W1 := by rw [hW1]; exact (Below.refl _ _).alloc (Nat.le_refl _) _
  have hblk : W1.heap[q]? = some (.cells #[.bool false, .slice none 0 0] 122 (0, 0)) := by rw [hW1, hq]; exact (MapKept.heap_alloc _ _).1
  have hpa := read_all s W1 hs
  replace hblk := Lib.hid hblk
  go_enter Tryz.func109, Tryz.ntmps109
  go_wp2_with fail
  rw [← hW1, ← hq]
  clear hW1
  replace hq := Lib.hid hq
  refine hpa.mono ?_
  intro e w2 hnp
  clear hpa
  obtain ⟨hb2, hres⟩ := hnp
  have hb02 : Hid (Below W.heap.size W w2) := Lib.hid (hb1.trans (hb2.mono hb1.size))
  have hr2 : Hid (w2.heap[q]? = some (.cells #[.bool false, .slice none 0 0] 122 (0, 0))) := Lib.hid (by rw [hb2.block q (heap_lt hblk.out)]; exact hblk.out)
  clear hb1 hb2 hblk
  obtain ⟨⟨u0, u1⟩, fq⟩ := cells2 hr2.out
  have fq0 := fq 0
  have fq1 := fq 1
  clear fq
  have hlt2 : q < w2.heap.size := heap_lt hr2.out
  have hne2 : q ≠ w2.heap.size := Nat.ne_of_lt hlt2
  cases hpr : parseN s.data.toList with
  | error k =>
    rw [hpr] at hres
    have hres : e = .returned (.tuple #[.agg #[.bool false, .slice none 0 0], .int .i64 k]) := hres
    have hk := parseN_err hpr
    subst hres
    have hk0 : (k == 0) = false := by simp; omega
    replace hpr := Lib.hid hpr
    go_wp2_with fail
    obtain ⟨W5, hW5, h5, hb5, hk5⟩ := put2 hr2.out (.bool false) (.slice none 0 0) (B := W.heap.size) (by rw [hq.out]; exact Nat.le_refl _)
    rw [← hW5]
    clear u0 u1 fq0 fq1
    have hz5 : q < W5.heap.size := heap_lt h5
    obtain ⟨⟨y0, y1⟩, -⟩ := cells2 h5
    replace h5 := Lib.hid h5
    replace hW5 := Lib.hid hW5
    refine bodyPost_ret (v := .tuple #[.agg #[.bool false, .slice none 0 0], .bool false]) ?ret rfl ?post
    case ret => rw [res_two rfl]; go_simp
    case post => exact ⟨(hb02.out.trans hb5).alloc (by have := hb02.out.size; have := hb5.size; omega) _, by rw [canonN_err hpr.out]⟩
  | ok x =>
    rw [hpr] at hres
    obtain ⟨v9, rfl, hB9⟩ := hres
    have hx50 := good_50 hpr
    obtain ⟨xn, xd⟩ := x
    simp only at hx50 hB9
    obtain ⟨A9, c9, rfl, -⟩ := hB9.at_
    obtain ⟨n9, hn9⟩ : ∃ n, n = lenD xd := ⟨_, rfl⟩
    rw [← hn9] at hB9
    obtain ⟨W3, hW3⟩ : ∃ W3, W3 = w2.alloc (.cells #[.bool xn, .slice A9 n9 c9] 122) := ⟨_, rfl⟩
    have hb3 : Below w2.heap.size w2 W3 := by rw [hW3]; exact (Below.refl _ _).alloc (Nat.le_refl _) _
    have htx := text_r xn (.slice A9 n9 c9) xd W3 (by rw [← hn9]; exact hB9.below hb3) hx50
    obtain ⟨p, hp⟩ : ∃ p, p = w2.heap.size := ⟨_, rfl⟩
    have hp3 : W3.heap[p]? = some (.cells #[.bool xn, .slice A9 n9 c9] 122 (0, 0)) := by rw [hW3, hp]; exact (MapKept.heap_alloc _ _).1
    have hq3 : W3.heap[q]? = some (.cells #[.bool false, .slice none 0 0] 122 (0, 0)) := by rw [hb3.block q hlt2]; exact hr2.out
    have hb03 : Below W.heap.size W W3 := hb02.out.trans (hb3.mono hb02.out.size)
    have hh := canonN_ok hpr
    have hpq : p ≠ q := fun e => hne2 (by rw [← e, hp])
    replace hpr := Lib.hid hpr
    rw [← hn9]
    replace hn9 := Lib.hid hn9
    replace hh := Lib.hid hh
    replace hB9 := Lib.hid hB9
    go_wp2_with fail
    rw [← hW3, ← hp]
    clear hW3 u0 u1 fq0 fq1 hlt2 hne2
    replace hp := Lib.hid hp
    refine htx.mono ?_
    rintro e w4 ⟨rfl, hb4⟩
    clear htx
    have hp4 : w4.heap[p]? = some (.cells #[.bool xn, .slice A9 n9 c9] 122 (0, 0)) := by rw [hb4.block p (heap_lt hp3)]; exact hp3
    have hq4 : w4.heap[q]? = some (.cells #[.bool false, .slice none 0 0] 122 (0, 0)) := by rw [hb4.block q (heap_lt hq3)]; exact hq3
    have hb04 : Hid (Below W.heap.size W w4) := Lib.hid (hb03.trans (hb4.mono hb03.size))
    have hb24 : Hid (Below w2.heap.size w2 w4) := Lib.hid (hb3.trans (hb4.mono hb3.size))
    clear hb3 hb4 hb03 hp3 hq3
    obtain ⟨⟨u0, u1⟩, -⟩ := cells2 hp4
    obtain ⟨⟨v0, v1⟩, fq⟩ := cells2 hq4
    have fq0 := fq 0
    have fq1 := fq 1
    clear fq
    replace hp4 := Lib.hid hp4
    by_cases hts : textN ⟨xn, xd⟩ = s.data.toList
    · have hte : (textN ⟨xn, xd⟩ == s.toList) = true := by rw [ByteArray.toList_eq]; simpa using hts
      have hR : Hid (canonN s.data.toList = .ok ⟨xn, xd⟩) := Lib.hid (by rw [hh.out, if_pos hts])
      obtain ⟨W6, hW6, h6, hb6, hk6⟩ := put2 hq4 (.bool xn) (.slice A9 n9 c9) (B := W.heap.size) (by rw [hq.out]; exact Nat.le_refl _)
      have hB6 : Hid (DAt W6 (.slice A9 n9 c9) n9 xd) := Lib.hid (by
        have h0 := cells2 (Lib.heap_setCell_same (i := 0) hq4 (.bool xn))
        rw [hW6]
        exact ((hB9.out.below hb24.out).put v0 (fun d h => by cases h) _).put h0.1.2 (fun d h => by cases h) _)
      replace hts := Lib.hid hts
      replace hW6 := Lib.hid hW6
      go_wp2_with fail
      rw [← hW6.out]
      clear u0 u1 v0 v1 fq0 fq1 hW6
      obtain ⟨⟨y0, y1⟩, -⟩ := cells2 h6
      replace h6 := Lib.hid h6
      refine bodyPost_ret (v := .tuple #[.agg #[.bool xn, .slice A9 n9 c9], .bool true]) ?ret rfl ?post
      case ret => rw [res_two rfl]; go_simp
      case post => exact ⟨hb04.out.trans hb6, by rw [hR.out]; exact ⟨_, rfl, by rw [← hn9.out]; exact hB6.out⟩⟩
    · have hte : (textN ⟨xn, xd⟩ == s.toList) = false := by
        rw [ByteArray.toList_eq]
        simpa using hts
      have hR : Hid (canonN s.data.toList = .error 1) := Lib.hid (by rw [hh.out, if_neg hts])
      obtain ⟨W6, hW6, h6, hb6, hk6⟩ := put2 hq4 (.bool false) (.slice none 0 0) (B := W.heap.size) (by rw [hq.out]; exact Nat.le_refl _)
      replace hts := Lib.hid hts
      replace hW6 := Lib.hid hW6
      go_wp2_with fail
      rw [← hW6.out]
      clear u0 u1 v0 v1 fq0 fq1 hW6
      obtain ⟨⟨y0, y1⟩, -⟩ := cells2 h6
      replace h6 := Lib.hid h6
      refine bodyPost_ret (v := .tuple #[.agg #[.bool false, .slice none 0 0], .bool false]) ?ret rfl ?post
      case ret => rw [res_two rfl]; go_simp
      case post => exact ⟨hb04.out.trans hb6, by rw [hR.out]⟩
end Go.Proofs.YtgobpoeccdgeiaaGreatDoor

namespace Go.Proofs.YtgobpoeccdgeiaaGreatDoor
open Go.RowKit NumP DigP DurP Go.Proofs.YtgobpoeccdgeiaaGreatDoorW.PrintWords
set_option linter.unusedVariables false

/-- What a function leaves that returns a text and an error. -/
def OutE (W : World) (r : List UInt8 × Int) (e : Ending) (w' : World) : Prop := e = .returned (.tuple #[.string ⟨r.1.toArray⟩, .int .i64 r.2]) ∧ Below W.heap.size W w'
set_option maxHeartbeats 2000000 in
set_option maxRecDepth 100000 in
theorem result_r (neg : Bool) (v : Value) (k n : Nat) (W : World) (h : DAt W v k n) (hn : n < 10 ^ k) (hk : k ≤ 1000000) : Calls Tryz.prog 111 #[.bool neg, v] W (OutE W (outN (checkedN ⟨neg, n⟩))) := by
  obtain ⟨R, hR⟩ : ∃ R, R = outN (checkedN ⟨neg, n⟩) := ⟨_, rfl⟩
  rw [← hR]
  have ht := trim_r v k n W h hn hk
  obtain ⟨j, hj⟩ : ∃ j, j = lenD n := ⟨_, rfl⟩
  rw [← hj] at ht
  obtain ⟨A0, c0, rfl, -⟩ := h.at_
  have hpos := lenD_pos n
  rw [← hj] at hpos
  replace hR := Lib.hid hR
  replace hj := Lib.hid hj
  clear h hn
  go_enter Tryz.func111, Tryz.ntmps111
  go_wp2_with fail
  refine ht.mono ?_
  rintro e w ⟨v', rfl, hv', rfl⟩
  clear ht
  obtain ⟨A, c, rfl, -⟩ := hv'.at_
  replace hv' := Lib.hid hv'
  by_cases h50 : j ≤ 50
  · have g1 : ¬ ((j : Int) > 50) := by omega
    have hR2 : Hid (R = (textN ⟨neg && decide (0 < n), n⟩, 0)) := Lib.hid (by rw [hR.out, checked_yes (by rw [← hj.out]; exact h50)]; rfl)
    have htx : ∀ b, Calls Tryz.prog 108 #[.agg #[.bool b, .slice A j c]] W (StrE W (textN ⟨b, n⟩)) := fun b => text_r b _ n W (by rw [← hj.out]; exact hv'.out) (by rw [← hj.out]; exact h50)
    cases neg with
    | false =>
      replace hpos := Lib.hid hpos
      go_wp2_with fail
      refine (htx _).mono ?_
      rintro e w2 ⟨rfl, hb2⟩
      go_wp2_with fail
      go_ret2
      exact ⟨by rw [hR2.out]; rfl, hb2⟩
    | true =>
      by_cases hj0 : 0 < j
      · have g2 : ((j : Int) > 0) := by omega
        have h0 : decide (0 < n) = true := decide_eq_true (hpos.1 hj0)
        rw [h0] at hR2
        replace hpos := Lib.hid hpos
        replace h0 := Lib.hid h0
        go_wp2_with fail
        refine (htx _).mono ?_
        rintro e w2 ⟨rfl, hb2⟩
        go_wp2_with fail
        go_ret2
        exact ⟨by rw [hR2.out]; rfl, hb2⟩
      · have g2 : ¬ ((j : Int) > 0) := by omega
        have h0 : decide (0 < n) = false := decide_eq_false (fun h => hj0 (hpos.2 h))
        rw [h0] at hR2
        replace hpos := Lib.hid hpos
        replace h0 := Lib.hid h0
        go_wp2_with fail
        refine (htx _).mono ?_
        rintro e w2 ⟨rfl, hb2⟩
        go_wp2_with fail
        go_ret2
        exact ⟨by rw [hR2.out]; rfl, hb2⟩
  · have g1 : ((j : Int) > 50) := by omega
    have hR2 : Hid (R = ([], 40)) := Lib.hid (by rw [hR.out, checked_no (by rw [← hj.out]; omega)]; rfl)
    replace hpos := Lib.hid hpos
    go_wp2_with fail
    go_ret2
    exact ⟨by rw [hR2.out]; rfl, Below.refl _ _⟩
set_option maxHeartbeats 2000000 in
set_option maxRecDepth 100000 in
theorem Parse_r (s : ByteArray) (W : World) (hs : s.size ≤ maxLen) : Calls Tryz.prog 63 #[.string s] W (OutE W (parseT s.data.toList)) := by
  have hpa := read_all s W hs
  obtain ⟨R, hR⟩ : ∃ R, R = parseT s.data.toList := ⟨_, rfl⟩
  rw [← hR]
  unfold parseT at hR
  cases hpr : parseN s.data.toList with
  | error k =>
    rw [hpr] at hR hpa
    have hk := parseN_err hpr
    have hk0 : (k == 0) = false := by simp; omega
    replace hR := Lib.hid hR
    replace hpr := Lib.hid hpr
    go_enter Tryz.func63, Tryz.ntmps63
    go_wp2_with fail
    refine hpa.mono ?_
    rintro e w2 ⟨hb2, rfl⟩
    clear hpa
    go_wp2_with fail
    go_ret2
    exact ⟨by rw [hR.out]; rfl, hb2.alloc hb2.size _⟩
  | ok x =>
    rw [hpr] at hR hpa
    have hx50 := good_50 hpr
    obtain ⟨xn, xd⟩ := x
    simp only at hx50
    replace hR := Lib.hid hR
    replace hpr := Lib.hid hpr
    go_enter Tryz.func63, Tryz.ntmps63
    go_wp2_with fail
    refine hpa.mono ?_
    rintro e w2 ⟨hb2, v9, rfl, hd⟩
    clear hpa
    obtain ⟨A9, c9, rfl, -⟩ := hd.at_
    have hb3 : Below w2.heap.size w2 (w2.alloc (.cells #[.bool xn, .slice A9 (lenD xd) c9] 122)) := (Below.refl _ _).alloc (Nat.le_refl _) _
    have htx := text_r xn _ xd _ (hd.below hb3) hx50
    have hB3 := Lib.hid (hb2.trans (hb3.mono hb2.size))
    clear hb2 hb3 hd
    go_wp2_with fail
    refine htx.mono ?_
    rintro e w4 ⟨rfl, hb4⟩
    clear htx
    go_wp2_with fail
    go_ret2
    exact ⟨by rw [hR.out]; rfl, hB3.out.trans (hb4.mono hB3.out.size)⟩
end Go.Proofs.YtgobpoeccdgeiaaGreatDoor
