/- The reference's add on a line with ignored characters. The reference's add on a line with listed characters. The reference's add on any line. The reference's Parse. -/
import Derived.Test.YtibhifjehbajnaaDoorMf
import Derived.BigQuiet
import Derived.Deep.AppendLies

namespace Go.Proofs.YtibhifjehbajnaaDoor
open Go.RowKit Go.Maps
set_option linter.unusedVariables false

def AddPost (W : World) (B b : Nat) (R : CT × Int) (e : Ending) (w' : World) : Prop :=
  e = .returned (.int .i64 R.2) ∧ Below B W w' ∧ KeptT b W w' ∧ (R.2 = 0 → ∃ v', RTabV w' B b v' R.1.M R.1.last R.1.st)
theorem cells_new (w : World) (cs : List Value) (T : TypeId) : ∀ j u, cs[j]? = some u → (w.alloc (.cells cs.toArray T)).cell? (Addr.add ⟨w.heap.size, 0, none⟩ j) = some u := by
  intro j u hj
  have e : (Addr.add ⟨w.heap.size, 0, none⟩ j) = ⟨w.heap.size, j, none⟩ := by
    unfold Addr.add
    split
    · rename_i h; rw [h]
    · simp
  rw [e, World.cell?_alloc_at _ _ _ _ rfl]
  simpa using hj
theorem form_some_pos {w : ByteArray} {r : List ByteArray} (h : (formP w r).2 = true) : 0 < (formP w r).1.length := by
  unfold formP at h ⊢
  split
  · rename_i h1
    rw [if_pos h1] at h
    split at h
    · simpa using h
    · cases h
  · rename_i h1
    rw [if_neg h1] at h
    split at h
    · rename_i cs hc
      rw [Bool.and_eq_true, decide_eq_true_eq] at h
      exact h.1
    · cases h
/-- The facts on the words of a line, in the spellings of the walk. -/
structure LineAt (W : World) (A cp : Nat) (w : ByteArray) (r : List ByteArray) : Prop where
  own : ∃ base, W.ownsRow base 9 1 (.slice (some ⟨A, 0, none⟩) (w :: r).length cp) (w :: r).length (strs (w :: r))
  len : (w :: r).length ≤ 10000
  sz : ∀ x ∈ w :: r, x.size ≤ 100000
  pos : 0 < w.size
theorem LineAt.blk {W : World} {A cp : Nat} {w : ByteArray} {r : List ByteArray} (h : LineAt W A cp w r) : ∃ cur, W.heap[A]? = some (.cells cur 9 (0, 0)) ∧ (w :: r).length ≤ cp := by
  obtain ⟨base, h⟩ := h.own
  rcases h.2 with ⟨h, _⟩ | ⟨g, cap, cur, hv, _, hg, hc, _⟩
  · cases h
  · cases hv
    exact ⟨cur, hg, hc⟩
theorem LineAt.at_ {W : World} {A cp : Nat} {w : ByteArray} {r : List ByteArray} (h : LineAt W A cp w r) : StrsAt W A 0 (w :: r) := by
  obtain ⟨base, ho⟩ := h.own
  exact strs_of_owns ho (heap_lt h.blk.choose_spec.1)
theorem byte0 {w : ByteArray} (h : ¬ w.data.toList.head? = some 35) (hh : 0 < w.size) : ((((w[0]'hh).toNat : Nat) : Int) == 35) = false := by
  rw [beq_eq_false_iff_ne]
  intro e
  apply h
  have e2 : w[0]'hh = 35 := by
    apply UInt8.toNat_inj.1
    have : (35 : UInt8).toNat = 35 := rfl
    omega
  have hd : w.data.toList[0]? = some (w[0]'hh) := by
    rw [Array.getElem?_toList]
    exact Array.getElem?_eq_getElem _
  rw [List.head?_eq_getElem?, hd, e2]
theorem runR_cons {ig : Bool} {ws : List ByteArray} {k : Nat} {all : List Int} {t' : CT} (hk : k < all.length) : runR ig ws k (all.drop k) t' = if inM t'.M (all.getD k 0) then none else runR ig ws (k + 1) (all.drop (k + 1)) (stepR ig ws k (all.getD k 0) t') := by
  rw [List.drop_eq_getElem_cons hk, runR]
  simp [List.getD, hk]
theorem runR_end {ig : Bool} {ws : List ByteArray} {all : List Int} {t' : CT} : runR ig ws all.length (all.drop all.length) t' = some t' := by
  rw [List.drop_length, runR]

set_option maxHeartbeats 2000000 in
set_option maxRecDepth 100000 in
theorem add_bad (W : World) (B b A cp : Nat) (t : CT) (w : ByteArray) (r : List ByteArray) (hA : LineAt W A cp w r) (hBW : B ≤ W.heap.size)
    (h35 : ¬ w.data.toList.head? = some 35) (hst : w.toList ≠ [115, 116, 114, 101, 110, 103, 116, 104]) (hf : (formP w r).2 = false) :
    Calls Tryd.prog 40 #[.pointer (some ⟨b, 0, none⟩), .slice (some ⟨A, 0, none⟩) (w :: r).length cp] W (AddPost W B b (addR t w r)) := by
  have hR : Hid (addR t w r = (t, 5)) := Lib.hid (by unfold addR; rw [if_pos hf])
  have d1 : (w.toList == [115, 116, 114, 101, 110, 103, 116, 104]) = false := beq_eq_false_iff_ne.2 hst
  have hlt := hA.pos
  have hc0 : W.cell? ⟨A, 0, none⟩ = some (.string w) := hA.at_.at_ 0 (by simp)
  have hl := hA.len
  have hf0 := rform_calls W A 0 cp w r hA.at_ hA.blk.choose_spec.2 (by omega) hA.sz
  rw [hf] at hf0
  obtain ⟨n, hnn⟩ : ∃ n, n = (w :: r).length := ⟨_, rfl⟩
  have hn1 : 1 ≤ n := by rw [hnn, List.length_cons]; omega
  have hbyte := byte0 h35
  rw [← hnn] at hf0 hl ⊢
  clear hnn hf hst h35
  go_enter Tryd.func40, Tryd.ntmps40
  go_wp2_with fail
  refine hf0.mono ?_
  rintro e w1 ⟨v1, rfl, ho1, hb1⟩
  clear hf0
  go_wp2_with fail
  go_ret
  exact ⟨by rw [hR.out]; rfl, hb1.mono hBW, KeptT.of_below hb1, fun h => by rw [hR.out] at h; cases h⟩

set_option maxHeartbeats 4000000 in
set_option maxRecDepth 100000 in
theorem add_ig (W : World) (B b A cp : Nat) (v : Value) (t : CT) (w : ByteArray) (r : List ByteArray)
    (h : RTabV W B b v t.M t.last t.st) (hok : t.ok) (hA : LineAt W A cp w r) (hM : t.M.length ≤ 4096) (hBW : B ≤ W.heap.size)
    (h35 : ¬ w.data.toList.head? = some 35) (hig : isIg w = true) (hf : (formP w r).2 = true) :
    Calls Tryd.prog 40 #[.pointer (some ⟨b, 0, none⟩), .slice (some ⟨A, 0, none⟩) (w :: r).length cp] W (AddPost W B b (addR t w r)) := by
  obtain ⟨all, hall⟩ : ∃ all, all = (formP w r).1 := ⟨_, rfl⟩
  have hR : Hid (addR t w r = match runR true (w :: r) 0 all t with | none => (t, 4) | some t' => (t', fullE t'.M.length)) := Lib.hid (by unfold addR; rw [hf, if_neg (by decide), hig, hall]; rfl)
  have hw : w.toList = [105, 103, 110, 111, 114, 101] := by simpa [isIg] using hig
  have d1 : (w.toList == [115, 116, 114, 101, 110, 103, 116, 104]) = false := by rw [hw]; rfl
  have d2 : (w.toList == [105, 103, 110, 111, 114, 101]) = true := by rw [hw]; rfl
  have hlt := hA.pos
  have hc0 : W.cell? ⟨A, 0, none⟩ = some (.string w) := hA.at_.at_ 0 (by simp)
  have hl := hA.len
  have hal := formP_len w r
  have hap := form_some_pos hf
  have hf0 := rform_calls W A 0 cp w r hA.at_ hA.blk.choose_spec.2 (by omega) hA.sz
  rw [hf] at hf0
  rw [← hall] at hf0 hal hap
  obtain ⟨curA, hAb, _⟩ := hA.blk
  have hbyte := byte0 h35
  obtain ⟨n, hnn⟩ : ∃ n, n = (w :: r).length := ⟨_, rfl⟩
  obtain ⟨ws, hws⟩ : ∃ ws, ws = w :: r := ⟨_, rfl⟩
  have hn1 : 1 ≤ n := by rw [hnn, List.length_cons]; omega
  rw [← hws] at hR
  rw [← hnn] at hf0 hl hal ⊢
  clear hnn hf h35 hw hig hws hall
  replace hAb := Lib.hid hAb
  go_enter Tryd.func40, Tryd.ntmps40
  go_wp2_with fail
  refine hf0.mono ?_
  rintro e w1 ⟨v1, rfl, ho1, hb1⟩
  clear hf0
  obtain ⟨m, hm⟩ : ∃ m, m = all.length := ⟨_, rfl⟩
  have hm1 : 1 ≤ m := by omega
  have hmn : m ≤ 10000 := by omega
  simp only [← hm] at ho1
  obtain ⟨g1, cap1, rfl⟩ := own_form (n := m - 1) (by rw [show m - 1 + 1 = m by omega]; exact ho1)
  rw [show m - 1 + 1 = m by omega] at ho1 ⊢
  obtain ⟨curG, hG⟩ : ∃ curG, w1.heap[g1]? = some (.cells curG 3 (0, 0)) := by
    rcases ho1.2 with ⟨h, _⟩ | ⟨g, cap, cur, hv, _, hg, _⟩
    · cases h
    · cases hv; exact ⟨cur, hg⟩
  have hcG : Hid (∀ k, k < m → w1.cell? ⟨g1, k, none⟩ = some (.int .i64 (all.getD k 0))) := Lib.hid (by
    intro k hk
    rw [ho1.cellAt k (by omega)]
    have hk' : k < all.length := by omega
    simp [List.getD, hk'])
  have hA1 : Hid (w1.heap[A]? = some (.cells curA 9 (0, 0))) := Lib.hid (by rw [hb1.block A (heap_lt hAb.out)]; exact hAb.out)
  replace hG := Lib.hid hG
  have hc1 : Hid (w1.cell? ⟨A, 0, none⟩ = some (.string w)) := Lib.hid (by rw [hb1.cell (p := ⟨A, 0, none⟩) (heap_lt hAb.out)]; exact hc0)
  have h1 : RTabV w1 B b v t.M t.last t.st := h.below hb1
  have hgb : Hid (g1 ≠ b) := Lib.hid (tag_ne hG.out h1.blk (by decide))
  have hAb : Hid (A ≠ b) := Lib.hid (tag_ne hA1.out h1.blk (by decide))
  replace hm := Lib.hid hm
  have hBw1 : B ≤ w1.heap.size := Nat.le_trans hBW hb1.size
  have hbw1 : Hid (Below B W w1 ∧ KeptT b W w1) := Lib.hid ⟨hb1.mono hBW, KeptT.of_below hb1⟩
  clear ho1 hb1 hc0 hap hal
  go_wp2_with fail
  obtain ⟨i0, hi, hz0, hz1, hz2⟩ := info_parts info_char
  go_loopw [7] (fun i wr => ∃ (k : Nat) (t' : CT) (v' : Value), i = .int .i64 k ∧ k ≤ m ∧ Hid (AddRel w1 wr B b v' t t' k true ws all)) (fun i _ => m - (intOf i).toNat)
  case atStart => exact ⟨0, t, v, rfl, Nat.zero_le _, h1, rfl, by rw [List.drop_zero], hok, Below.refl _ _, KeptT.refl _ _⟩
  case round =>
    obtain ⟨k, t', v', rfl, hk, hr⟩ := hrel
    clear h1
    have hBw : B ≤ wr.heap.size := Nat.le_trans hBw1 hr.out.below.size
    have hlen : t'.M.length ≤ 20000 := by rw [hr.out.len]; omega
    obtain ⟨c0, -, -, -, -⟩ := hr.out.tab.cells
    have f0 := hr.out.tab.frozen 0
    by_cases hlt : k < m
    · obtain ⟨d, hd⟩ : ∃ d, d = all.getD k 0 := ⟨_, rfl⟩
      have hcd : wr.cell? ⟨g1, k, none⟩ = some (.int .i64 d) := by
        rw [hd, ← hcG.out k hlt]
        exact World.cell?_of_block (hr.out.kept g1 curG 3 (0, 0) hgb.out (by decide) hG.out)
      have hcA : wr.cell? ⟨A, 0, none⟩ = some (.string w) := by
        rw [← hc1.out]
        exact World.cell?_of_block (hr.out.kept A curA 9 (0, 0) hAb.out (by decide) hA1.out)
      have hfind := Find_calls wr B b t'.M t'.last t'.st d hr.out.tab.tab (by omega)
      have hin := findR_in t'.M d 0
      have hstep := Lib.hid (runR_cons (ig := true) (ws := ws) (t' := t') (all := all) (k := k) (by rw [← hm.out]; exact hlt))
      rw [← hd] at hstep
      clear hd
      obtain ⟨f, hf⟩ : ∃ f, f = findR t'.M d 0 := ⟨_, rfl⟩
      rw [← hf] at hfind hin
      clear hf
      replace hin := Lib.hid hin
      go_wp2_with fail
      refine hfind.mono ?_
      rintro e w2 ⟨rfl, rfl⟩
      by_cases hfd : 0 ≤ f
      · have hge : f ≥ 0 := hfd
        go_wp2_with fail
        go_ret
        have hnone : runR true ws 0 all t = none := by rw [← hr.out.run, hstep.out, hin.out.1 hfd]; rfl
        have e4 : addR t w r = (t, 4) := by rw [hR.out, hnone]
        exact ⟨by rw [e4]; rfl, hbw1.out.1.trans hr.out.below, hbw1.out.2.trans hr.out.kept, fun h => by rw [e4] at h; cases h⟩
      · have hge : ¬ (f ≥ 0) := hfd
        have hi0 : inM t'.M d = false := by
          cases hi : inM t'.M d with
          | false => rfl
          | true => exact absurd (hin.out.2 hi) hfd
        replace hi0 := Lib.hid hi0
        go_wp2_with fail
        have hbl : b < wr.heap.size := heap_lt hr.out.tab.blk
        have hgl : g1 < wr.heap.size := World.block_lt_of_cell? wr _ hcd
        go_region_law (refine step_append_own rfl (.tmp 85) (.tmp 91) 28 rfl B 97 i0 (.agg #[.int .i64 0, .int .i64 0, .int .i64 0, .int .i64 0]) 4 32 Tryd.underlying28 hi hz0 hz1 hz2 rfl (by decide) v' t'.M.length (rcells t'.M) (by simp [Act.eval]) (hr.out.tab.own.drew.alloc _) ⟨wr.heap.size, 0, none⟩ 1 1 (rcell (d, (0, 0, 0))) (by simp [Act.eval]) rfl (cells_new wr.drew (rcell (d, (0, 0, 0))) 97) (by intro u hu; simp [rcell] at hu; rcases hu with rfl | rfl <;> rfl) (by unfold maxLen; omega) (by omega) (by simp; omega) ?_; intro v2 w2 hown3 hgrow3; obtain ⟨g2, cap2, hv2⟩ := own_form4 hown3; subst hv2; obtain ⟨-, e0, e1⟩ := tab_mid hr.out.tab (Below.alloc (a := wr) (Below.refl _ _).drew (Nat.le_refl _) _) hgrow3; have hdone := Lib.hid (tab_append hr.out.tab hBw (Below.alloc (a := wr) (Below.refl _ _).drew (Nat.le_refl _) _) hgrow3 hown3))
        all_goals
          obtain ⟨w3, hw3⟩ : ∃ w3, w3 = w2.setCell ⟨b, 0, none⟩ (.slice (some ⟨g2, 0, none⟩) (t'.M.length + 1) cap2) := ⟨_, rfl⟩
          rw [← hw3] at hdone ⊢
          clear hw3 e0 e1 hown3 hgrow3 c0 f0 hcd hcA hbl hgl hfind
          go_wp2_with fail
          go_roundw
          case rel =>
            obtain ⟨q1, q2, q3⟩ := hdone.out
            refine ⟨k + 1, { t' with M := t'.M ++ [(d, (0, 0, 0))] }, _, by go_num, by omega, ⟨q1, ?_, ?_, ?_, hr.out.below.trans q2, hr.out.kept.trans q3⟩⟩
            · simp only [List.length_append, List.length_singleton]
              rw [hr.out.len]; omega
            · rw [← hr.out.run, hstep.out, hi0.out]; rfl
            · have := hr.out.ok
              simp only [CT.ok, List.length_append, List.length_singleton] at this ⊢
              omega
          case measure => simp [intOf]; omega
    · obtain rfl : k = m := by omega
      obtain ⟨L, cap, hv'⟩ := hr.out.tab.len
      subst hv'
      have hend := Lib.hid (runR_end (ig := true) (ws := ws) (all := all) (t' := t'))
      have e0 : Hid (addR t w r = (t', fullE t'.M.length)) := Lib.hid (by
        have h1 := hr.out.run
        rw [hm.out, hend.out] at h1
        rw [hR.out, ← h1])
      go_wp2_with fail
      all_goals go_ret
      all_goals exact ⟨ret_int (by rw [e0.out]; unfold fullE; first | rw [if_pos (by omega)] | rw [if_neg (by omega)]), hbw1.out.1.trans hr.out.below, hbw1.out.2.trans hr.out.kept, fun _ => by rw [e0.out]; exact ⟨_, hr.out.tab⟩⟩
end Go.Proofs.YtibhifjehbajnaaDoor

namespace Go.Proofs.YtibhifjehbajnaaDoor
open Go.RowKit Go.Maps
set_option linter.unusedVariables false

theorem form_odd {w : ByteArray} {r : List ByteArray} (hig : isIg w = false) (j : Nat) (hj : j < (formP w r).1.length) (h0 : 0 < j) : 2 * j - 1 < (w :: r).length := by
  have hw : ¬ w.toList = [105, 103, 110, 111, 114, 101] := fun e => by simp [isIg, e] at hig
  unfold formP at hj
  rw [if_neg hw] at hj
  cases hc : formL false (w :: r) with
  | none => rw [hc] at hj; simp at hj
  | some cs =>
    rw [hc] at hj
    exact (form_signs hc j hj).2 h0

set_option maxHeartbeats 4000000 in
set_option maxRecDepth 100000 in
theorem add_li (W : World) (B b A cp : Nat) (v : Value) (t : CT) (w : ByteArray) (r : List ByteArray)
    (h : RTabV W B b v t.M t.last t.st) (hok : t.ok) (hA : LineAt W A cp w r) (hM : t.M.length ≤ 4096) (hBW : B ≤ W.heap.size)
    (h35 : ¬ w.data.toList.head? = some 35) (hst : w.toList ≠ [115, 116, 114, 101, 110, 103, 116, 104]) (hig : isIg w = false) (hf : (formP w r).2 = true) :
    Calls Tryd.prog 40 #[.pointer (some ⟨b, 0, none⟩), .slice (some ⟨A, 0, none⟩) (w :: r).length cp] W (AddPost W B b (addR t w r)) := by
  obtain ⟨all, hall⟩ : ∃ all, all = (formP w r).1 := ⟨_, rfl⟩
  have hR : Hid (addR t w r = match runR false (w :: r) 0 all t with | none => (t, 4) | some t' => (t', fullE t'.M.length)) := Lib.hid (by unfold addR; rw [hf, if_neg (by decide), hig, hall]; rfl)
  have d1 : (w.toList == [115, 116, 114, 101, 110, 103, 116, 104]) = false := beq_eq_false_iff_ne.2 hst
  have d2 : (w.toList == [105, 103, 110, 111, 114, 101]) = false := hig
  have hodd : Hid (∀ j, j < all.length → 0 < j → 2 * j - 1 < (w :: r).length ∧ W.cell? ⟨A, 2 * j - 1, none⟩ = some (.string (signAt (w :: r) j))) := Lib.hid (fun j hj h0 => by
    rw [hall] at hj
    have h1 := form_odd hig j hj h0
    refine ⟨h1, ?_⟩
    have := hA.at_.at_ (2 * j - 1) h1
    rw [Nat.zero_add] at this
    rw [this]
    unfold signAt
    rw [if_neg (by omega), List.getD_eq_getElem?_getD, List.getElem?_eq_getElem h1]; rfl)
  have hlt := hA.pos
  have hc0 : W.cell? ⟨A, 0, none⟩ = some (.string w) := hA.at_.at_ 0 (by simp)
  have hl := hA.len
  have hal := formP_len w r
  have hap := form_some_pos hf
  have hf0 := rform_calls W A 0 cp w r hA.at_ hA.blk.choose_spec.2 (by omega) hA.sz
  rw [hf] at hf0
  rw [← hall] at hf0 hal hap
  obtain ⟨curA, hAb, _⟩ := hA.blk
  have hbyte := byte0 h35
  obtain ⟨n, hnn⟩ : ∃ n, n = (w :: r).length := ⟨_, rfl⟩
  obtain ⟨ws, hws⟩ : ∃ ws, ws = w :: r := ⟨_, rfl⟩
  have hn1 : 1 ≤ n := by rw [hnn, List.length_cons]; omega
  rw [← hws] at hR hodd
  rw [← hws] at hnn
  rw [← hnn] at hodd
  rw [show (w :: r).length = n by rw [hnn, hws]] at hf0 hl hal ⊢
  clear hnn hf h35 hst hig hws hall
  replace hAb := Lib.hid hAb
  go_enter Tryd.func40, Tryd.ntmps40
  go_wp2_with fail
  refine hf0.mono ?_
  rintro e w1 ⟨v1, rfl, ho1, hb1⟩
  clear hf0
  obtain ⟨m, hm⟩ : ∃ m, m = all.length := ⟨_, rfl⟩
  have hm1 : 1 ≤ m := by omega
  have hmn : m ≤ 10000 := by omega
  simp only [← hm] at ho1
  obtain ⟨g1, cap1, rfl⟩ := own_form (n := m - 1) (by rw [show m - 1 + 1 = m by omega]; exact ho1)
  rw [show m - 1 + 1 = m by omega] at ho1 ⊢
  obtain ⟨curG, hG⟩ : ∃ curG, w1.heap[g1]? = some (.cells curG 3 (0, 0)) := by
    rcases ho1.2 with ⟨h, _⟩ | ⟨g, cap, cur, hv, _, hg, _⟩
    · cases h
    · cases hv; exact ⟨cur, hg⟩
  have hcG : Hid (∀ k, k < m → w1.cell? ⟨g1, k, none⟩ = some (.int .i64 (all.getD k 0))) := Lib.hid (by
    intro k hk
    rw [ho1.cellAt k (by omega)]
    have hk' : k < all.length := by omega
    simp [List.getD, hk'])
  have hA1 : Hid (w1.heap[A]? = some (.cells curA 9 (0, 0))) := Lib.hid (by rw [hb1.block A (heap_lt hAb.out)]; exact hAb.out)
  replace hG := Lib.hid hG
  have hc1 : Hid (w1.cell? ⟨A, 0, none⟩ = some (.string w)) := Lib.hid (by rw [hb1.cell (p := ⟨A, 0, none⟩) (heap_lt hAb.out)]; exact hc0)
  have hodd1 : Hid (∀ j, j < all.length → 0 < j → 2 * j - 1 < n ∧ w1.cell? ⟨A, 2 * j - 1, none⟩ = some (.string (signAt ws j))) := Lib.hid (fun j hj h0 => by
    obtain ⟨q1, q2⟩ := hodd.out j hj h0
    exact ⟨q1, by rw [hb1.cell (p := ⟨A, 2 * j - 1, none⟩) (heap_lt hAb.out)]; exact q2⟩)
  have h1 : RTabV w1 B b v t.M t.last t.st := h.below hb1
  have hgb : Hid (g1 ≠ b) := Lib.hid (tag_ne hG.out h1.blk (by decide))
  have hAb : Hid (A ≠ b) := Lib.hid (tag_ne hA1.out h1.blk (by decide))
  replace hm := Lib.hid hm
  have hBw1 : B ≤ w1.heap.size := Nat.le_trans hBW hb1.size
  have hbw1 : Hid (Below B W w1 ∧ KeptT b W w1) := Lib.hid ⟨hb1.mono hBW, KeptT.of_below hb1⟩
  clear ho1 hb1 hc0 hap hal
  go_wp2_with fail
  obtain ⟨i0, hi, hz0, hz1, hz2⟩ := info_parts info_char
  go_loopw [7] (fun i wr => ∃ (k : Nat) (t' : CT) (v' : Value), i = .int .i64 k ∧ k ≤ m ∧ Hid (AddRel w1 wr B b v' t t' k false ws all)) (fun i _ => m - (intOf i).toNat)
  case atStart => exact ⟨0, t, v, rfl, Nat.zero_le _, h1, rfl, by rw [List.drop_zero], hok, Below.refl _ _, KeptT.refl _ _⟩
  case round =>
    obtain ⟨k, t', v', rfl, hk, hr⟩ := hrel
    clear h1
    have hBw : B ≤ wr.heap.size := Nat.le_trans hBw1 hr.out.below.size
    have hlen : t'.M.length ≤ 20000 := by rw [hr.out.len]; omega
    obtain ⟨c0, -, -, -, -⟩ := hr.out.tab.cells
    have f0 := hr.out.tab.frozen 0
    by_cases hlt : k < m
    · obtain ⟨d, hd⟩ : ∃ d, d = all.getD k 0 := ⟨_, rfl⟩
      have hcd : wr.cell? ⟨g1, k, none⟩ = some (.int .i64 d) := by
        rw [hd, ← hcG.out k hlt]
        exact World.cell?_of_block (hr.out.kept g1 curG 3 (0, 0) hgb.out (by decide) hG.out)
      have hcA : wr.cell? ⟨A, 0, none⟩ = some (.string w) := by
        rw [← hc1.out]
        exact World.cell?_of_block (hr.out.kept A curA 9 (0, 0) hAb.out (by decide) hA1.out)
      have hfind := Find_calls wr B b t'.M t'.last t'.st d hr.out.tab.tab (by omega)
      have hin := findR_in t'.M d 0
      have hstep := Lib.hid (runR_cons (ig := false) (ws := ws) (t' := t') (all := all) (k := k) (by rw [← hm.out]; exact hlt))
      rw [← hd] at hstep
      clear hd
      obtain ⟨f, hf⟩ : ∃ f, f = findR t'.M d 0 := ⟨_, rfl⟩
      rw [← hf] at hfind hin
      clear hf
      replace hin := Lib.hid hin
      go_wp2_with fail
      refine hfind.mono ?_
      rintro e w2 ⟨rfl, rfl⟩
      by_cases hfd : 0 ≤ f
      · have hge : f ≥ 0 := hfd
        go_wp2_with fail
        go_ret
        have hnone : runR false ws 0 all t = none := by rw [← hr.out.run, hstep.out, hin.out.1 hfd]; rfl
        have e4 : addR t w r = (t, 4) := by rw [hR.out, hnone]
        exact ⟨by rw [e4]; rfl, hbw1.out.1.trans hr.out.below, hbw1.out.2.trans hr.out.kept, fun h => by rw [e4] at h; cases h⟩
      · have hge : ¬ (f ≥ 0) := hfd
        have hi0 : inM t'.M d = false := by
          cases hi : inM t'.M d with
          | false => rfl
          | true => exact absurd (hin.out.2 hi) hfd
        replace hi0 := Lib.hid hi0
        have hbl : b < wr.heap.size := heap_lt hr.out.tab.blk
        have hgl : g1 < wr.heap.size := World.block_lt_of_cell? wr _ hcd
        obtain ⟨c0, c1, c2, c3, -⟩ := hr.out.tab.cells
        have f1 := hr.out.tab.frozen 1
        have f2 := hr.out.tab.frozen 2
        have f3 := hr.out.tab.frozen 3
        have hkm : k < all.length := by rw [← hm.out]; exact hlt
        have hok := hr.out.ok
        simp only [CT.ok] at hok
        obtain ⟨s, hs⟩ : ∃ s, s = signAt ws k := ⟨_, rfl⟩
        have hs0 : k = 0 → s = ⟨#[60]⟩ := fun h => by rw [hs, h]; rfl
        have hsk : 0 < k → 2 * k - 1 < n ∧ wr.cell? ⟨A, 2 * k - 1, none⟩ = some (.string s) := fun h => by
          obtain ⟨q1, q2⟩ := hodd1.out k hkm h
          refine ⟨q1, ?_⟩
          rw [hs, ← q2]
          exact World.cell?_of_block (hr.out.kept A curA 9 (0, 0) hAb.out (by decide) hA1.out)
        have haft := after_calls wr t'.last s (by omega) (by omega) (by omega)
        have haft' : Calls Tryd.prog 67 #[.agg #[.int .i64 t'.last.1, .int .i64 t'.last.2.1, .int .i64 t'.last.2.2], .string s] wr fun e w' => e = .returned (.agg #[.int .i64 (afterR t'.last s).1, .int .i64 (afterR t'.last s).2.1, .int .i64 (afterR t'.last s).2.2]) ∧ Below wr.heap.size wr w' := haft
        have hokA := afterR_ok (t := t') hr.out.ok s d
        obtain ⟨x, hx⟩ : ∃ x, x = afterR t'.last s := ⟨_, rfl⟩
        rw [← hx] at haft' hokA
        have hst2 : Hid (stepR false ws k d t' = { t' with last := x, M := t'.M ++ [(d, x)] }) := Lib.hid (by rw [hx, hs]; rfl)
        clear haft hx hok hkm
        replace hokA := Lib.hid hokA
        replace hs := Lib.hid hs
        have hkept : Hid (∀ W', KeptT b wr W' → W'.cell? ⟨g1, k, none⟩ = some (.int .i64 d)) := Lib.hid (fun W' hW' => by
          rw [← hcd]
          refine World.cell?_of_block (hW' g1 curG 3 (0, 0) hgb.out (by decide) ?_)
          rw [hr.out.kept g1 curG 3 (0, 0) hgb.out (by decide) hG.out]
          exact hG.out)
        rcases Nat.eq_zero_or_pos k with hk0 | hk0
        · have e8 := hs0 hk0
          rw [e8] at haft'
          have hk1 : ¬ ((k : Int) > 0) := by omega
          clear hs0 hsk hs e8
          replace hk0 := Lib.hid hk0
          go_wp2_with fail
          refine haft'.mono ?_
          rintro e w2 ⟨rfl, hb2⟩
          clear haft' c0 c1 c2 c3 f0 f1 f2 f3 hcd hcA
          have ht2 := hr.out.tab.below hb2
          have f1 := ht2.frozen 1
          have f2 := ht2.frozen 2
          have f3 := ht2.frozen 3
          obtain ⟨c0, c1, c2, c3, -⟩ := ht2.cells
          obtain ⟨w3, hw3, ht3, hbe3, hkp3, hsz3⟩ := tab_last ht2 x
          replace ht2 := Lib.hid ht2
          replace hsz3 := Lib.hid hsz3
          replace hw3 := Lib.hid hw3
          go_wp2_with fail
          rw [← hw3.out]
          replace hcd : w3.cell? ⟨g1, k, none⟩ = some (.int .i64 d) := hkept.out w3 ((KeptT.of_below hb2).trans hkp3)
          clear c0 c1 c2 c3 f1 f2 f3 hw3
          have hbl3 : b < w3.heap.size := heap_lt ht3.blk
          have hgl3 : g1 < w3.heap.size := World.block_lt_of_cell? w3 _ hcd
          have hB3 : B ≤ w3.heap.size := by rw [hsz3.out]; exact Nat.le_trans hBw hb2.size
          obtain ⟨c0, c1, c2, c3, -⟩ := ht3.cells
          have f0 := ht3.frozen 0
          replace ht3 := Lib.hid ht3
          have hbel3 : Hid (Below B w1 w3) := Lib.hid (hr.out.below.trans ((hb2.mono hBw).trans hbe3))
          have hkep3 : Hid (KeptT b w1 w3) := Lib.hid (hr.out.kept.trans ((KeptT.of_below hb2).trans hkp3))
          clear hbe3 hkp3 hb2
          go_region_law (refine step_append_own rfl (.tmp 116) (.tmp 126) 28 rfl B 97 i0 (.agg #[.int .i64 0, .int .i64 0, .int .i64 0, .int .i64 0]) 4 32 Tryd.underlying28 hi hz0 hz1 hz2 rfl (by decide) v' t'.M.length (rcells t'.M) (by simp [Act.eval]) (ht3.out.own.drew.alloc _) ⟨w3.heap.size, 0, none⟩ 1 1 (rcell (d, x)) (by simp [Act.eval]) rfl (cells_new w3.drew (rcell (d, x)) 97) (by intro u hu; simp [rcell] at hu; rcases hu with rfl | rfl | rfl | rfl <;> rfl) (by unfold maxLen; omega) (by omega) (by simp; omega) ?_; intro v2 w4 hown3 hgrow3; obtain ⟨g2, cap2, hv2⟩ := own_form4 hown3; subst hv2; obtain ⟨-, e0, e1⟩ := tab_mid ht3.out (Below.alloc (a := w3) (Below.refl _ _).drew (Nat.le_refl _) _) hgrow3; have hdone := Lib.hid (tab_append ht3.out hB3 (Below.alloc (a := w3) (Below.refl _ _).drew (Nat.le_refl _) _) hgrow3 hown3))
          all_goals
            obtain ⟨w5, hw5⟩ : ∃ w5, w5 = w4.setCell ⟨b, 0, none⟩ (.slice (some ⟨g2, 0, none⟩) (t'.M.length + 1) cap2) := ⟨_, rfl⟩
            rw [← hw5] at hdone ⊢
            clear hw5 e0 e1 hown3 hgrow3 c0 c1 c2 c3 f0 hcd hbl3 hgl3 hfind
            go_wp2_with fail
            go_roundw
            case rel =>
              obtain ⟨q1, q2, q3⟩ := hdone.out
              refine ⟨k + 1, { t' with last := x, M := t'.M ++ [(d, x)] }, _, by go_num, by omega, ⟨q1, ?_, ?_, hokA.out, hbel3.out.trans q2, hkep3.out.trans q3⟩⟩
              · simp only [List.length_append, List.length_singleton]
                rw [hr.out.len]; omega
              · rw [← hr.out.run, hstep.out, hi0.out, hst2.out]; rfl
            case measure => simp [intOf]; omega
        · obtain ⟨b1, hcs⟩ := hsk hk0
          clear hs0 hsk
          have hk1 : ((k : Int) > 0) := by omega
          go_wp2_with fail
          refine haft'.mono ?_
          rintro e w2 ⟨rfl, hb2⟩
          clear haft' c0 c1 c2 c3 f0 f1 f2 f3 hcd hcA
          have ht2 := hr.out.tab.below hb2
          have f1 := ht2.frozen 1
          have f2 := ht2.frozen 2
          have f3 := ht2.frozen 3
          obtain ⟨c0, c1, c2, c3, -⟩ := ht2.cells
          obtain ⟨w3, hw3, ht3, hbe3, hkp3, hsz3⟩ := tab_last ht2 x
          replace ht2 := Lib.hid ht2
          replace hsz3 := Lib.hid hsz3
          replace hw3 := Lib.hid hw3
          go_wp2_with fail
          rw [← hw3.out]
          replace hcd : w3.cell? ⟨g1, k, none⟩ = some (.int .i64 d) := hkept.out w3 ((KeptT.of_below hb2).trans hkp3)
          clear c0 c1 c2 c3 f1 f2 f3 hw3
          have hbl3 : b < w3.heap.size := heap_lt ht3.blk
          have hgl3 : g1 < w3.heap.size := World.block_lt_of_cell? w3 _ hcd
          have hB3 : B ≤ w3.heap.size := by rw [hsz3.out]; exact Nat.le_trans hBw hb2.size
          obtain ⟨c0, c1, c2, c3, -⟩ := ht3.cells
          have f0 := ht3.frozen 0
          replace ht3 := Lib.hid ht3
          have hbel3 : Hid (Below B w1 w3) := Lib.hid (hr.out.below.trans ((hb2.mono hBw).trans hbe3))
          have hkep3 : Hid (KeptT b w1 w3) := Lib.hid (hr.out.kept.trans ((KeptT.of_below hb2).trans hkp3))
          clear hbe3 hkp3 hb2
          go_region_law (refine step_append_own rfl (.tmp 116) (.tmp 126) 28 rfl B 97 i0 (.agg #[.int .i64 0, .int .i64 0, .int .i64 0, .int .i64 0]) 4 32 Tryd.underlying28 hi hz0 hz1 hz2 rfl (by decide) v' t'.M.length (rcells t'.M) (by simp [Act.eval]) (ht3.out.own.drew.alloc _) ⟨w3.heap.size, 0, none⟩ 1 1 (rcell (d, x)) (by simp [Act.eval]) rfl (cells_new w3.drew (rcell (d, x)) 97) (by intro u hu; simp [rcell] at hu; rcases hu with rfl | rfl | rfl | rfl <;> rfl) (by unfold maxLen; omega) (by omega) (by simp; omega) ?_; intro v2 w4 hown3 hgrow3; obtain ⟨g2, cap2, hv2⟩ := own_form4 hown3; subst hv2; obtain ⟨-, e0, e1⟩ := tab_mid ht3.out (Below.alloc (a := w3) (Below.refl _ _).drew (Nat.le_refl _) _) hgrow3; have hdone := Lib.hid (tab_append ht3.out hB3 (Below.alloc (a := w3) (Below.refl _ _).drew (Nat.le_refl _) _) hgrow3 hown3))
          all_goals
            obtain ⟨w5, hw5⟩ : ∃ w5, w5 = w4.setCell ⟨b, 0, none⟩ (.slice (some ⟨g2, 0, none⟩) (t'.M.length + 1) cap2) := ⟨_, rfl⟩
            rw [← hw5] at hdone ⊢
            clear hw5 e0 e1 hown3 hgrow3 c0 c1 c2 c3 f0 hcd hbl3 hgl3 hfind
            go_wp2_with fail
            go_roundw
            case rel =>
              obtain ⟨q1, q2, q3⟩ := hdone.out
              refine ⟨k + 1, { t' with last := x, M := t'.M ++ [(d, x)] }, _, by go_num, by omega, ⟨q1, ?_, ?_, hokA.out, hbel3.out.trans q2, hkep3.out.trans q3⟩⟩
              · simp only [List.length_append, List.length_singleton]
                rw [hr.out.len]; omega
              · rw [← hr.out.run, hstep.out, hi0.out, hst2.out]; rfl
            case measure => simp [intOf]; omega
    · obtain rfl : k = m := by omega
      obtain ⟨L, cap, hv'⟩ := hr.out.tab.len
      subst hv'
      have hend := Lib.hid (runR_end (ig := false) (ws := ws) (all := all) (t' := t'))
      have e0 : Hid (addR t w r = (t', fullE t'.M.length)) := Lib.hid (by
        have h1 := hr.out.run
        rw [hm.out, hend.out] at h1
        rw [hR.out, ← h1])
      go_wp2_with fail
      all_goals go_ret
      all_goals exact ⟨ret_int (by rw [e0.out]; unfold fullE; first | rw [if_pos (by omega)] | rw [if_neg (by omega)]), hbw1.out.1.trans hr.out.below, hbw1.out.2.trans hr.out.kept, fun _ => by rw [e0.out]; exact ⟨_, hr.out.tab⟩⟩
end Go.Proofs.YtibhifjehbajnaaDoor

namespace Go.Proofs.YtibhifjehbajnaaDoor
open Go.RowKit Go.Maps
set_option linter.unusedVariables false

set_option maxRecDepth 100000 in
theorem digit_49 (W : World) : Calls Tryd.prog 64 #[.int .u8 49] W fun e w' => e = .returned (.int .i64 1) ∧ W = w' := by
  go_enter Tryd.func64, Tryd.ntmps64
  go_wp2
  go_ret
  exact ⟨rfl, rfl⟩
set_option maxRecDepth 100000 in
theorem digit_50 (W : World) : Calls Tryd.prog 64 #[.int .u8 50] W fun e w' => e = .returned (.int .i64 2) ∧ W = w' := by
  go_enter Tryd.func64, Tryd.ntmps64
  go_wp2
  go_ret
  exact ⟨rfl, rfl⟩
set_option maxRecDepth 100000 in
theorem digit_51 (W : World) : Calls Tryd.prog 64 #[.int .u8 51] W fun e w' => e = .returned (.int .i64 3) ∧ W = w' := by
  go_enter Tryd.func64, Tryd.ntmps64
  go_wp2
  go_ret
  exact ⟨rfl, rfl⟩
set_option maxHeartbeats 2000000 in
set_option maxRecDepth 100000 in
theorem add_sother (W : World) (B b A cp : Nat) (v : Value) (t : CT) (w : ByteArray) (r : List ByteArray) (h : RTabV W B b v t.M t.last t.st) (hA : LineAt W A cp w r)
    (h35 : ¬ w.data.toList.head? = some 35) (hst : w.toList = [115, 116, 114, 101, 110, 103, 116, 104]) (hr : r.length ≠ 1) :
    Calls Tryd.prog 40 #[.pointer (some ⟨b, 0, none⟩), .slice (some ⟨A, 0, none⟩) (w :: r).length cp] W (AddPost W B b (t, 5)) := by
  have hlt := hA.pos
  have hc0 : W.cell? ⟨A, 0, none⟩ = some (.string w) := hA.at_.at_ 0 (by simp)
  have hl := hA.len
  have d1 : (w.toList == [115, 116, 114, 101, 110, 103, 116, 104]) = true := beq_iff_eq.2 hst
  have hbyte := byte0 h35
  obtain ⟨n, hnn⟩ : ∃ n, n = (w :: r).length := ⟨_, rfl⟩
  have hn1 : 1 ≤ n := by rw [hnn, List.length_cons]; omega
  have hn2 : ((n : Int) != 2) = true := by
    rw [List.length_cons] at hnn
    simp; omega
  rw [← hnn] at hl ⊢
  clear hnn hst h35 hr
  go_enter Tryd.func40, Tryd.ntmps40
  go_wp2_with fail
  go_ret
  exact ⟨rfl, Below.refl _ _, KeptT.refl _ _, fun h => by cases h⟩
set_option maxHeartbeats 4000000 in
set_option maxRecDepth 100000 in
theorem add_stwo (W : World) (B b A cp : Nat) (v : Value) (t : CT) (w d : ByteArray) (h : RTabV W B b v t.M t.last t.st) (hA : LineAt W A cp w [d]) (h0 : 0 ≤ t.st)
    (h35 : ¬ w.data.toList.head? = some 35) (hst : w.toList = [115, 116, 114, 101, 110, 103, 116, 104]) :
    Calls Tryd.prog 40 #[.pointer (some ⟨b, 0, none⟩), .slice (some ⟨A, 0, none⟩) 2 cp] W (AddPost W B b (levelP t [w, d])) := by
  have hlt := hA.pos
  have hc0 : W.cell? ⟨A, 0, none⟩ = some (.string w) := hA.at_.at_ 0 (by simp)
  have hl := hA.len
  have d1 : (w.toList == [115, 116, 114, 101, 110, 103, 116, 104]) = true := beq_iff_eq.2 hst
  have hbyte := byte0 h35
  have hc1 : W.cell? ⟨A, 1, none⟩ = some (.string d) := hA.at_.at_ 1 (by simp)
  have c4 := h.cells.2.2.2.2
  have f4 := h.frozen 4
  have hi49 : ∀ h, ((⟨#[49]⟩ : ByteArray)[0]'h).toNat = 49 := fun _ => rfl
  have hi50 : ∀ h, ((⟨#[50]⟩ : ByteArray)[0]'h).toNat = 50 := fun _ => rfl
  have hi51 : ∀ h, ((⟨#[51]⟩ : ByteArray)[0]'h).toNat = 51 := fun _ => rfl
  have hS : ∀ x, Hid (RTabV (W.setCell ⟨b, 4, none⟩ (.int .i64 x)) B b v t.M t.last x ∧ Below B W (W.setCell ⟨b, 4, none⟩ (.int .i64 x)) ∧ KeptT b W (W.setCell ⟨b, 4, none⟩ (.int .i64 x))) := fun x => Lib.hid (tab_st h x)
  clear hst h35 h
  by_cases h1 : d.toList = [49]
  · obtain rfl := bytes_eq h1
    have hso : Hid (strengthOf ⟨[49].toArray⟩ = some 1) := Lib.hid (by simp [strengthOf, Lib.toList_data])
    clear h1
    by_cases hz : 0 < t.st
    · have hsn : (t.st != 0) = true := by simp; omega
      have e4 : Hid (levelP t [w, ⟨[49].toArray⟩] = (t, 4)) := Lib.hid (by simp [levelP, hso.out, hz])
      clear hz h0
      go_enter Tryd.func40, Tryd.ntmps40
      go_wp2_with fail
      go_ret
      exact ⟨by rw [e4.out]; rfl, Below.refl _ _, KeptT.refl _ _, fun hh => by rw [e4.out] at hh; cases hh⟩
    · have hz0 : t.st = 0 := by omega
      have e0 : Hid (levelP t [w, ⟨[49].toArray⟩] = ({ t with st := 1 }, 0)) := Lib.hid (by simp [levelP, hso.out, hz])
      clear hz h0
      go_enter Tryd.func40, Tryd.ntmps40
      go_wp2_with (go_at_call 64; refine (digit_49 _).mono ?_; rintro e w3 ⟨rfl, rfl⟩)
      go_ret
      exact ⟨by rw [e0.out]; rfl, (hS 1).out.2.1, (hS 1).out.2.2, fun _ => by rw [e0.out]; exact ⟨_, (hS 1).out.1⟩⟩
  by_cases h2 : d.toList = [50]
  · obtain rfl := bytes_eq h2
    have hso : Hid (strengthOf ⟨[50].toArray⟩ = some 2) := Lib.hid (by simp [strengthOf, Lib.toList_data])
    clear h2
    by_cases hz : 0 < t.st
    · have hsn : (t.st != 0) = true := by simp; omega
      have e4 : Hid (levelP t [w, ⟨[50].toArray⟩] = (t, 4)) := Lib.hid (by simp [levelP, hso.out, hz])
      clear hz h0
      go_enter Tryd.func40, Tryd.ntmps40
      go_wp2_with fail
      go_ret
      exact ⟨by rw [e4.out]; rfl, Below.refl _ _, KeptT.refl _ _, fun hh => by rw [e4.out] at hh; cases hh⟩
    · have hz0 : t.st = 0 := by omega
      have e0 : Hid (levelP t [w, ⟨[50].toArray⟩] = ({ t with st := 2 }, 0)) := Lib.hid (by simp [levelP, hso.out, hz])
      clear hz h0
      go_enter Tryd.func40, Tryd.ntmps40
      go_wp2_with (go_at_call 64; refine (digit_50 _).mono ?_; rintro e w3 ⟨rfl, rfl⟩)
      go_ret
      exact ⟨by rw [e0.out]; rfl, (hS 2).out.2.1, (hS 2).out.2.2, fun _ => by rw [e0.out]; exact ⟨_, (hS 2).out.1⟩⟩
  by_cases h3 : d.toList = [51]
  · obtain rfl := bytes_eq h3
    have hso : Hid (strengthOf ⟨[51].toArray⟩ = some 3) := Lib.hid (by simp [strengthOf, Lib.toList_data])
    clear h3
    by_cases hz : 0 < t.st
    · have hsn : (t.st != 0) = true := by simp; omega
      have e4 : Hid (levelP t [w, ⟨[51].toArray⟩] = (t, 4)) := Lib.hid (by simp [levelP, hso.out, hz])
      clear hz h0
      go_enter Tryd.func40, Tryd.ntmps40
      go_wp2_with fail
      go_ret
      exact ⟨by rw [e4.out]; rfl, Below.refl _ _, KeptT.refl _ _, fun hh => by rw [e4.out] at hh; cases hh⟩
    · have hz0 : t.st = 0 := by omega
      have e0 : Hid (levelP t [w, ⟨[51].toArray⟩] = ({ t with st := 3 }, 0)) := Lib.hid (by simp [levelP, hso.out, hz])
      clear hz h0
      go_enter Tryd.func40, Tryd.ntmps40
      go_wp2_with (go_at_call 64; refine (digit_51 _).mono ?_; rintro e w3 ⟨rfl, rfl⟩)
      go_ret
      exact ⟨by rw [e0.out]; rfl, (hS 3).out.2.1, (hS 3).out.2.2, fun _ => by rw [e0.out]; exact ⟨_, (hS 3).out.1⟩⟩
  have e5 : Hid (levelP t [w, d] = (t, 5)) := Lib.hid (by simp [levelP, strengthOf, h1, h2, h3])
  have g1 : (d.toList != [49]) = true := by simp [h1]
  have g2 : (d.toList != [50]) = true := by simp [h2]
  have g3 : (d.toList != [51]) = true := by simp [h3]
  have g4 : (d.toList == [49]) = false := by simp [h1]
  have g5 : (d.toList == [50]) = false := by simp [h2]
  have g6 : (d.toList == [51]) = false := by simp [h3]
  clear h1 h2 h3
  go_enter Tryd.func40, Tryd.ntmps40
  go_wp2_with fail
  go_ret
  exact ⟨by rw [e5.out]; rfl, Below.refl _ _, KeptT.refl _ _, fun hh => by rw [e5.out] at hh; cases hh⟩
set_option maxRecDepth 100000 in
theorem add_hash (W : World) (B b A cp : Nat) (v : Value) (t : CT) (w : ByteArray) (r : List ByteArray) (h : RTabV W B b v t.M t.last t.st) (hA : LineAt W A cp w r)
    (h35 : w.data.toList.head? = some 35) :
    Calls Tryd.prog 40 #[.pointer (some ⟨b, 0, none⟩), .slice (some ⟨A, 0, none⟩) (w :: r).length cp] W (AddPost W B b (t, 0)) := by
  have hlt := hA.pos
  have hc0 : W.cell? ⟨A, 0, none⟩ = some (.string w) := hA.at_.at_ 0 (by simp)
  have hl := hA.len
  have hbyte : ∀ hh : 0 < w.size, ((((w[0]'hh).toNat : Nat) : Int) == 35) = true := fun hh => by
    have hd : w.data.toList[0]? = some (w[0]'hh) := by
      rw [Array.getElem?_toList]
      exact Array.getElem?_eq_getElem _
    rw [List.head?_eq_getElem?, hd] at h35
    injection h35 with h35
    rw [h35]; rfl
  obtain ⟨n, hnn⟩ : ∃ n, n = (w :: r).length := ⟨_, rfl⟩
  have hn1 : 1 ≤ n := by rw [hnn, List.length_cons]; omega
  rw [← hnn] at hl ⊢
  replace h := Lib.hid h
  clear hnn h35
  go_enter Tryd.func40, Tryd.ntmps40
  go_wp2_with fail
  go_ret
  exact ⟨rfl, Below.refl _ _, KeptT.refl _ _, fun _ => ⟨_, h.out⟩⟩
set_option maxRecDepth 100000 in
theorem add_none (W : World) (B b : Nat) (v : Value) (t : CT) (h : RTabV W B b v t.M t.last t.st) :
    Calls Tryd.prog 40 #[.pointer (some ⟨b, 0, none⟩), .slice none 0 0] W (AddPost W B b (t, 0)) := by
  replace h := Lib.hid h
  go_enter Tryd.func40, Tryd.ntmps40
  go_wp2_with fail
  go_ret
  exact ⟨rfl, Below.refl _ _, KeptT.refl _ _, fun _ => ⟨_, h.out⟩⟩
set_option maxRecDepth 100000 in
theorem add_cap (W : World) (B b : Nat) (v : Value) (t : CT) (g cap : Nat) (h : RTabV W B b v t.M t.last t.st) :
    Calls Tryd.prog 40 #[.pointer (some ⟨b, 0, none⟩), .slice (some ⟨g, 0, none⟩) 0 cap] W (AddPost W B b (t, 0)) := by
  replace h := Lib.hid h
  go_enter Tryd.func40, Tryd.ntmps40
  go_wp2_with fail
  go_ret
  exact ⟨rfl, Below.refl _ _, KeptT.refl _ _, fun _ => ⟨_, h.out⟩⟩
/-- add, on any line. -/
theorem radd_calls (W : World) (B b base : Nat) (v u : Value) (t : CT) (ws : List ByteArray) (h : RTabV W B b v t.M t.last t.st) (hok : t.ok) (hst : stOk t) (hM : t.M.length ≤ 4096) (hBW : B ≤ W.heap.size)
    (hws : W.ownsRow base 9 1 u ws.length (strs ws)) (hl : ws.length ≤ 10000) (hs : ∀ x ∈ ws, 0 < x.size ∧ x.size ≤ 100000) :
    Calls Tryd.prog 40 #[.pointer (some ⟨b, 0, none⟩), u] W (AddPost W B b (addP t ws)) := by
  cases ws with
  | nil =>
    rcases hws.2 with ⟨rfl, _⟩ | ⟨g, cap, cur, hv, _⟩
    · exact add_none W B b v t h
    · subst hv
      exact add_cap W B b v t g cap h
  | cons w r =>
    obtain ⟨A, cp, rfl⟩ := own_form hws
    have hA : LineAt W A cp w r := ⟨⟨base, hws⟩, hl, fun x hx => (hs x hx).2, (hs w (List.mem_cons_self ..)).1⟩
    by_cases h35 : w.data.toList.head? = some 35
    · have e : addP t (w :: r) = (t, 0) := by unfold addP; simp only [if_pos h35]
      rw [e]
      exact add_hash W B b A cp v t w r h hA h35
    · by_cases hstr : w.toList = [115, 116, 114, 101, 110, 103, 116, 104]
      · have e : addP t (w :: r) = levelP t (w :: r) := by unfold addP; simp only [if_neg h35, if_pos hstr]
        rw [e]
        match r, hA with
        | [], hA => exact add_sother W B b A cp v t w [] h hA h35 hstr (by simp)
        | [d], hA => exact add_stwo W B b A cp v t w d h hA hst.1 h35 hstr
        | d :: d' :: r, hA => exact add_sother W B b A cp v t w (d :: d' :: r) h hA h35 hstr (by simp)
      · rw [addR_eq t w r h35 hstr]
        cases hf : (formP w r).2 with
        | false => exact add_bad W B b A cp t w r hA hBW h35 hstr hf
        | true =>
          cases hig : isIg w with
          | true => exact add_ig W B b A cp v t w r h hok hA hM hBW h35 hig hf
          | false => exact add_li W B b A cp v t w r h hok hA hM hBW h35 hstr hig hf
end Go.Proofs.YtibhifjehbajnaaDoor

namespace Go.Proofs.YtibhifjehbajnaaDoor
open Go.RowKit Go.Maps
set_option linter.unusedVariables false

/-- What the reference's Parse leaves. -/
def RPost (W : World) (R : Int × Int × CT) (e : Ending) (w' : World) : Prop :=
  ∃ (v : Value) (t : CT), e = .returned (.tuple #[.agg #[v, .int .i64 t.last.1, .int .i64 t.last.2.1, .int .i64 t.last.2.2, .int .i64 t.st], .int .i64 R.1, .int .i64 R.2.1]) ∧
    w'.ownsRow W.heap.size 97 4 v t.M.length (rcells t.M) ∧ Below W.heap.size W w' ∧ (R.2.1 = 0 → t = R.2.2)
theorem put5 {w : World} {q : Nat} {T : TypeId} {x y z p s : Value} (h : w.heap[q]? = some (.cells #[x, y, z, p, s] T (0, 0))) (a b c d e : Value) {B : Nat} (hB : B ≤ q) :
    ∃ W5, W5 = ((((w.setCell ⟨q, 0, none⟩ a).setCell ⟨q, 1, none⟩ b).setCell ⟨q, 2, none⟩ c).setCell ⟨q, 3, none⟩ d).setCell ⟨q, 4, none⟩ e ∧ W5.heap[q]? = some (.cells #[a, b, c, d, e] T (0, 0)) ∧ Below B w W5 ∧ (∀ k, k ≠ q → W5.heap[k]? = w.heap[k]?) := by
  refine ⟨_, rfl, ?_, ?_, fun k hk => ?_⟩
  · exact Lib.heap_setCell_same (i := 4) (Lib.heap_setCell_same (i := 3) (Lib.heap_setCell_same (i := 2) (Lib.heap_setCell_same (i := 1) (Lib.heap_setCell_same (i := 0) h a) b) c) d) e
  · exact (((((Below.refl B w).setCell (p := ⟨q, 0, none⟩) hB a).setCell (p := ⟨q, 1, none⟩) hB b).setCell (p := ⟨q, 2, none⟩) hB c).setCell (p := ⟨q, 3, none⟩) hB d).setCell (p := ⟨q, 4, none⟩) hB e
  · rw [Below.heap_setCell _ _ _ _ hk, Below.heap_setCell _ _ _ _ hk, Below.heap_setCell _ _ _ _ hk, Below.heap_setCell _ _ _ _ hk, Below.heap_setCell _ _ _ _ hk]
theorem cells5 {w : World} {q : Nat} {T : TypeId} {x y z p s : Value} (h : w.heap[q]? = some (.cells #[x, y, z, p, s] T (0, 0))) :
    (w.cell? ⟨q, 0, none⟩ = some x ∧ w.cell? ⟨q, 1, none⟩ = some y ∧ w.cell? ⟨q, 2, none⟩ = some z ∧ w.cell? ⟨q, 3, none⟩ = some p ∧ w.cell? ⟨q, 4, none⟩ = some s) ∧ (∀ i, w.frozen? ⟨q, i, none⟩ = false) := by
  refine ⟨⟨?_, ?_, ?_, ?_, ?_⟩, fun i => Lib.frozen_of_heap h i⟩ <;> (rw [Lib.cell_of_heap h]; rfl)

theorem own_put {w W5 : World} {q B e size n : Nat} {v : Value} {xs : List Value} {cs : Array Value} {T : TypeId} {z : Nat × Nat} (h : w.ownsRow B e size v n xs) (hq : w.heap[q]? = some (.cells cs T z)) (hT : T ≠ e) (hb : Below B w W5) (h4 : ∀ k, k ≠ q → W5.heap[k]? = w.heap[k]?) : W5.ownsRow B e size v n xs :=
  h.kept (row := some q) ⟨hb.os, hb.tape, hb.output, hb.size, fun k hk hne => h4 k (fun e => hne (by rw [e]))⟩ (.inr (own_tag h hq hT))
/-- Where the loop over the lines stands. -/
structure ParRel (w4 wr : World) (B b : Nat) (v' : Value) (t' : CT) (k : Nat) (ls : List ByteArray) : Prop where
  tab : RTabV wr B b v' t'.M t'.last t'.st
  ok : t'.ok
  st : stOk t'
  few : t'.M.length ≤ 4096
  run : parseL k t' (ls.drop k) = parseL 0 t0 ls
  below : Below B w4 wr
  kept : KeptT b w4 wr
theorem parseL_cons {k : Nat} {ls : List ByteArray} {t' : CT} (hk : k < ls.length) {l : ByteArray} (hl : l = ls[k]) : parseL k t' (ls.drop k) = if (addP t' (wordsOf l)).2 = 0 then parseL (k + 1) (addP t' (wordsOf l)).1 (ls.drop (k + 1)) else ((k : Int) + 1, (addP t' (wordsOf l)).2, t') := by
  rw [List.drop_eq_getElem_cons hk, ← hl, parseL]

set_option maxHeartbeats 2000000 in
set_option maxRecDepth 100000 in
theorem RParse_text (s : ByteArray) (W : World) (hs : s.size ≤ 2000) (ht : isText s = false) : Calls Tryd.prog 17 #[.string s] W (RPost W (parseP s)) := by
  have e0 : Hid (parseP s = (0, 10, t0)) := Lib.hid (by unfold parseP; rw [if_neg (by omega), if_pos ht])
  obtain ⟨W1, hW1⟩ : ∃ W1, W1 = W.alloc (.cells #[.slice none 0 0, .int .i64 0, .int .i64 0, .int .i64 0, .int .i64 0] 31) := ⟨_, rfl⟩
  have hb1 : Below W.heap.size W W1 := by rw [hW1]; exact (Below.refl _ _).alloc (Nat.le_refl _) _
  have hres : W1.heap[W.heap.size]? = some (.cells #[.slice none 0 0, .int .i64 0, .int .i64 0, .int .i64 0, .int .i64 0] 31 (0, 0)) := by rw [hW1]; exact (MapKept.heap_alloc _ _).1
  have htx := risText_calls s W1 (by omega)
  rw [ht] at htx
  go_enter Tryd.func17, Tryd.ntmps17
  go_wp2_with fail
  rw [← hW1]
  refine htx.mono ?_
  rintro e w2 ⟨rfl, hb2⟩
  clear htx hW1
  have hres2 : w2.heap[W.heap.size]? = some (.cells #[.slice none 0 0, .int .i64 0, .int .i64 0, .int .i64 0, .int .i64 0] 31 (0, 0)) := by rw [hb2.block _ (heap_lt hres)]; exact hres
  obtain ⟨⟨c0, c1, c2, c3, c4⟩, f⟩ := cells5 hres2
  have f0 := f 0
  have f1 := f 1
  have f2 := f 2
  have f3 := f 3
  have f4 := f 4
  clear f
  replace hres2 := Lib.hid hres2
  replace hres := Lib.hid hres
  go_wp2_with fail
  obtain ⟨W5, hW5, h5, hb5, hk5⟩ := put5 hres2.out (.slice none 0 0) (.int .i64 0) (.int .i64 0) (.int .i64 0) (.int .i64 0) (Nat.le_refl W.heap.size)
  rw [← hW5]
  clear hW5 f0 f1 f2 f3 f4 c0 c1 c2 c3 c4
  obtain ⟨⟨c0, c1, c2, c3, c4⟩, f⟩ := cells5 h5
  clear f
  replace h5 := Lib.hid h5
  refine bodyPost_ret (v := .tuple #[.agg #[.slice none 0 0, .int .i64 0, .int .i64 0, .int .i64 0, .int .i64 0], .int .i64 0, .int .i64 10]) ?ret rfl ?post
  case ret => rw [res_three rfl]; go_simp
  case post => exact ⟨.slice none 0 0, t0, by rw [e0.out]; rfl, World.ownsRow_nil _ _ _ _, hb1.trans ((hb2.mono hb1.size).trans hb5), fun h => by rw [e0.out] at h; cases h⟩

set_option maxHeartbeats 4000000 in
set_option maxRecDepth 100000 in
theorem RParse_calls (s : ByteArray) (W : World) (hs : s.size ≤ 2000) : Calls Tryd.prog 17 #[.string s] W (RPost W (parseP s)) := by
  cases ht : isText s with
  | false => exact RParse_text s W hs ht
  | true =>
  obtain ⟨ls, hls⟩ : ∃ ls, ls = linesOf s := ⟨_, rfl⟩
  have e0 : Hid (parseP s = ((parseL 0 t0 ls).1, (parseL 0 t0 ls).2.1, { (parseL 0 t0 ls).2.2 with st := if (parseL 0 t0 ls).2.2.st = 0 then 3 else (parseL 0 t0 ls).2.2.st })) := Lib.hid (by unfold parseP; rw [if_neg (by omega), if_neg (by rw [ht]; decide), hls])
  have hlw : Hid (∀ l ∈ ls, wordsR l = wordsOf l ∧ l.size ≤ 2000) := Lib.hid (fun l hl => by
    rw [hls] at hl
    exact ⟨line_words ht l hl, Nat.le_trans (linesOf_size s l hl) hs⟩)
  have hll : ls.length ≤ 2001 := by rw [hls]; exact Nat.le_trans (linesOf_le s) (by omega)
  have hl1 : 1 ≤ ls.length := by rw [hls, linesOf_len]; omega
  obtain ⟨W1, hW1⟩ : ∃ W1, W1 = W.alloc (.cells #[.slice none 0 0, .int .i64 0, .int .i64 0, .int .i64 0, .int .i64 0] 31) := ⟨_, rfl⟩
  have hb1 : Below W.heap.size W W1 := by rw [hW1]; exact (Below.refl _ _).alloc (Nat.le_refl _) _
  have hres : W1.heap[W.heap.size]? = some (.cells #[.slice none 0 0, .int .i64 0, .int .i64 0, .int .i64 0, .int .i64 0] 31 (0, 0)) := by rw [hW1]; exact (MapKept.heap_alloc _ _).1
  have htx := risText_calls s W1 (by omega)
  rw [ht] at htx
  go_enter Tryd.func17, Tryd.ntmps17
  go_wp2_with fail
  rw [← hW1]
  refine htx.mono ?_
  rintro e w2 ⟨rfl, hb2⟩
  clear htx hW1
  have hres2 : w2.heap[W.heap.size]? = some (.cells #[.slice none 0 0, .int .i64 0, .int .i64 0, .int .i64 0, .int .i64 0] 31 (0, 0)) := by rw [hb2.block _ (heap_lt hres)]; exact hres
  replace hres := Lib.hid hres
  obtain ⟨W3, hW3⟩ : ∃ W3, W3 = w2.alloc (.cells #[.slice none 0 0, .int .i64 0, .int .i64 0, .int .i64 0, .int .i64 0] 31) := ⟨_, rfl⟩
  have hb3 : Below w2.heap.size w2 W3 := by rw [hW3]; exact (Below.refl _ _).alloc (Nat.le_refl _) _
  have hblk : W3.heap[w2.heap.size]? = some (.cells #[.slice none 0 0, .int .i64 0, .int .i64 0, .int .i64 0, .int .i64 0] 31 (0, 0)) := by rw [hW3]; exact (MapKept.heap_alloc _ _).1
  have hcut0 := cut_calls s 10 W3 (by omega)
  rw [cutS_lines, ← hls] at hcut0
  have hcut : Calls Tryd.prog 39 #[.string s, .int .u8 10] W3 fun e w' => ∃ v, e = .returned v ∧ w'.ownsRow W3.heap.size 9 1 v ls.length (strs ls) ∧ Below W3.heap.size W3 w' := hcut0
  clear hcut0 hls ht
  have hbW2 : Below W.heap.size W w2 := hb1.trans (hb2.mono hb1.size)
  replace hblk := Lib.hid hblk
  replace hres2 := Lib.hid hres2
  go_wp2_with fail
  rw [← hW3]
  refine hcut.mono ?_
  rintro e w4 ⟨v4, rfl, ho4, hb4⟩
  clear hcut hW3
  obtain ⟨b0, hb0⟩ : ∃ b0, b0 = w2.heap.size := ⟨_, rfl⟩
  obtain ⟨q0, hq0⟩ : ∃ q0, q0 = W.heap.size := ⟨_, rfl⟩
  rw [← hb0] at hblk ⊢
  rw [← hq0] at hres2 ⊢
  obtain ⟨n, hn⟩ : ∃ n, n = ls.length := ⟨_, rfl⟩
  rw [← hn] at ho4
  obtain ⟨g, cap, rfl⟩ := own_form (n := n - 1) (by rw [show n - 1 + 1 = n by omega]; exact ho4)
  rw [show n - 1 + 1 = n by omega] at ho4 ⊢
  have hblk4 : w4.heap[b0]? = some (.cells #[.slice none 0 0, .int .i64 0, .int .i64 0, .int .i64 0, .int .i64 0] 31 (0, 0)) := by rw [hb4.block _ (heap_lt hblk.out)]; exact hblk.out
  have hresL : w4.heap[q0]? = some (.cells #[.slice none 0 0, .int .i64 0, .int .i64 0, .int .i64 0, .int .i64 0] 31 (0, 0)) := by
    rw [hb4.block _ (Nat.lt_of_lt_of_le (heap_lt hres2.out) hb3.size), hb3.block _ (heap_lt hres2.out)]; exact hres2.out
  have hqb : Hid (q0 ≠ b0) := Lib.hid (by rw [hb0]; exact Nat.ne_of_lt (heap_lt hres2.out))
  have hB4 : Hid (Below W.heap.size W w4) := Lib.hid (hbW2.trans ((hb3.mono hbW2.size).trans (hb4.mono (Nat.le_trans hbW2.size hb3.size))))
  have hBb : W.heap.size ≤ b0 := by rw [hb0]; exact hbW2.size
  obtain ⟨curL, hL⟩ : ∃ curL, w4.heap[g]? = some (.cells curL 9 (0, 0)) := by
    rcases ho4.2 with ⟨h, _⟩ | ⟨g', cap', cur', hv, _, hg, _⟩
    · cases h
    · cases hv; exact ⟨cur', hg⟩
  have hgb : Hid (g ≠ b0) := Lib.hid (tag_ne hL hblk4 (by decide))
  have hcL : Hid (∀ k (hk : k < ls.length), w4.cell? ⟨g, k, none⟩ = some (.string (ls[k]'hk))) := Lib.hid (by
    intro k hk
    rw [ho4.cellAt k (by omega)]
    simp [strs, hk])
  have h0 : RTabV w4 q0 b0 (.slice none 0 0) t0.M t0.last t0.st := ⟨by rw [hq0]; exact hBb, hblk4, World.ownsRow_nil _ _ _ _⟩
  have hq4 : Hid (q0 ≤ w4.heap.size) := Lib.hid (by rw [hq0]; exact hB4.out.size)
  replace h0 := Lib.hid h0
  replace hL := Lib.hid hL
  replace hresL := Lib.hid hresL
  replace hn := Lib.hid hn
  replace hq0 := Lib.hid hq0
  have hnle : n ≤ 2001 := by rw [hn.out]; exact hll
  clear hblk4 hblk hres2 hb4 hb3 hb0 hbW2 hb1 hb2 ho4 hll hl1 hBb hres
  go_wp2_with fail
  go_loopw [7] (fun i wr => ∃ (k : Nat) (t' : CT) (v' : Value), i = .int .i64 k ∧ k ≤ n ∧ Hid (ParRel w4 wr q0 b0 v' t' k ls)) (fun i _ => n - (intOf i).toNat)
  case atStart => exact ⟨0, t0, _, rfl, Nat.zero_le _, h0.out, by simp [CT.ok, t0], by simp [stOk, t0], by simp [t0], by rw [List.drop_zero], Below.refl _ _, KeptT.refl _ _⟩
  case round =>
    obtain ⟨k, t', v', rfl, hk, hr⟩ := hrel
    clear h0
    obtain ⟨wo, hwo⟩ : ∃ wo : World, wo = wr := ⟨_, rfl⟩
    have hqw : q0 ≤ wr.heap.size := Nat.le_trans hq4.out hr.out.below.size
    have hresw : Hid (wr.heap[q0]? = some (.cells #[.slice none 0 0, .int .i64 0, .int .i64 0, .int .i64 0, .int .i64 0] 31 (0, 0))) := Lib.hid (by
      rw [hr.out.kept q0 _ 31 (0, 0) hqb.out (by decide) hresL.out]; exact hresL.out)
    by_cases hlt : k < n
    · have hkl : k < ls.length := by rw [← hn.out]; exact hlt
      obtain ⟨l, hl⟩ : ∃ l, l = ls[k]'hkl := ⟨_, rfl⟩
      have hcl : wr.cell? ⟨g, k, none⟩ = some (.string l) := by
        rw [hl, ← hcL.out k hkl]
        exact World.cell?_of_block (hr.out.kept g curL 9 (0, 0) hgb.out (by decide) hL.out)
      obtain ⟨hlR, hlz⟩ := hlw.out l (by rw [hl]; exact List.getElem_mem _)
      have hrun := Lib.hid ((parseL_cons (t' := t') hkl hl).symm.trans hr.out.run)
      have hwd := rwords_calls l wr (by omega)
      rw [hlR] at hwd
      obtain ⟨hwo1, hwo2⟩ := wordsOf_ok l
      clear hl hkl hlR hwo
      go_wp2_with fail
      refine hwd.mono ?_
      rintro e w5 ⟨u, rfl, ho5, hb5⟩
      clear hwd hcl
      have hadd := radd_calls w5 q0 b0 wr.heap.size v' u t' (wordsOf l) (hr.out.tab.below hb5) hr.out.ok hr.out.st hr.out.few (Nat.le_trans hqw hb5.size) ho5 (by omega) (fun x hx => ⟨(hwo1 x hx).1, by have := (hwo1 x hx).2; omega⟩)
      clear ho5 hwo1 hwo2
      go_wp2_with fail
      refine hadd.mono ?_
      rintro e w6 ⟨rfl, hb6, hk6, htab6⟩
      obtain ⟨e6, he6⟩ : ∃ e6, e6 = (addP t' (wordsOf l)).2 := ⟨_, rfl⟩
      have hres6 : Hid (w6.heap[q0]? = some (.cells #[.slice none 0 0, .int .i64 0, .int .i64 0, .int .i64 0, .int .i64 0] 31 (0, 0))) := Lib.hid (by
        rw [((KeptT.of_below hb5).trans hk6) q0 _ 31 (0, 0) hqb.out (by decide) hresw.out]; exact hresw.out)
      rw [← he6]
      rw [← he6] at htab6 hrun
      replace he6 := Lib.hid he6
      have hbk6 : Hid (Below q0 w4 w6 ∧ KeptT b0 w4 w6) := Lib.hid ⟨hr.out.below.trans ((hb5.mono hqw).trans hb6), hr.out.kept.trans ((KeptT.of_below hb5).trans hk6)⟩
      clear hadd hb6 hk6 hb5
      by_cases hz : e6 = 0
      · have hze : (e6 != 0) = false := by simp [hz]
        have htab6' := Lib.hid (htab6 hz)
        have hrun' : Hid (parseL (k + 1) (addP t' (wordsOf l)).1 (ls.drop (k + 1)) = parseL 0 t0 ls) := Lib.hid (by have := hrun.out; rw [if_pos hz] at this; exact this)
        have hinv : Hid ((addP t' (wordsOf l)).1.ok ∧ (addP t' (wordsOf l)).1.M.length ≤ 4096 ∧ stOk (addP t' (wordsOf l)).1) := Lib.hid (by
          obtain ⟨q1, q2⟩ := addP_ok (he6.out.symm.trans hz) hr.out.ok hr.out.few
          exact ⟨q1, q2, addP_st hr.out.st⟩)
        clear htab6 hz
        go_wp2_with fail
        go_roundw
        case rel =>
          obtain ⟨v'', ht''⟩ := htab6'.out
          exact ⟨k + 1, _, v'', by go_num, by omega, ⟨ht'', hinv.out.1, hinv.out.2.2, hinv.out.2.1, hrun'.out, hbk6.out.1, hbk6.out.2⟩⟩
        case measure => simp [intOf]; omega
      · have hze : (e6 != 0) = true := by simp [hz]
        have hbad : Hid (parseL 0 t0 ls = ((k : Int) + 1, e6, t')) := Lib.hid (by have := hrun.out; rw [if_neg hz] at this; exact this.symm)
        have hz' := Lib.hid hz
        clear htab6 hz
        obtain ⟨⟨c0, c1, c2, c3, c4⟩, f⟩ := cells5 hres6.out
        have f0 := f 0
        have f1 := f 1
        have f2 := f 2
        have f3 := f 3
        have f4 := f 4
        clear f
        go_wp2_with fail
        obtain ⟨W5, hW5, h5, hb5, hk5⟩ := put5 hres6.out (.slice none 0 0) (.int .i64 0) (.int .i64 0) (.int .i64 0) (.int .i64 0) (Nat.le_refl q0)
        rw [← hW5]
        clear hW5 f0 f1 f2 f3 f4 c0 c1 c2 c3 c4
        obtain ⟨⟨c0, c1, c2, c3, c4⟩, f⟩ := cells5 h5
        clear f
        replace h5 := Lib.hid h5
        refine bodyPost_ret (v := .tuple #[.agg #[.slice none 0 0, .int .i64 0, .int .i64 0, .int .i64 0, .int .i64 0], .int .i64 (k + 1), .int .i64 e6]) ?ret rfl ?post
        case ret => rw [res_three rfl]; go_simp
        case post => exact ⟨.slice none 0 0, t0, by rw [e0.out, hbad.out]; rfl, World.ownsRow_nil _ _ _ _, by rw [← hq0.out]; exact (hq0.out ▸ hB4.out).trans (hbk6.out.1.trans hb5), fun h => by rw [e0.out, hbad.out] at h; exact absurd h hz'.out⟩
    · obtain rfl : k = n := by omega
      have hfin : Hid (parseL 0 t0 ls = (0, 0, t')) := Lib.hid (by rw [← hr.out.run, hn.out, List.drop_length]; rfl)
      obtain ⟨L, capv, hv'⟩ := hr.out.tab.len
      subst hv'
      obtain ⟨c0, c1, c2, c3, c4⟩ := hr.out.tab.cells
      have fb4 := hr.out.tab.frozen 4
      obtain ⟨⟨q0c, q1c, q2c, q3c, q4c⟩, f⟩ := cells5 hresw.out
      have f0 := f 0
      have f1 := f 1
      have f2 := f 2
      have f3 := f 3
      have f4 := f 4
      clear f hwo
      have hqb1 := hqb.out
      have hqb2 : b0 ≠ q0 := fun e => hqb.out e.symm
      by_cases hst : t'.st = 0
      · have hse : (t'.st == 0) = true := by simp [hst]
        have hst0 := Lib.hid hst
        clear hst
        obtain ⟨hta, hba, hka⟩ := tab_st hr.out.tab 3
        have hresa : Hid ((wr.setCell ⟨b0, 4, none⟩ (.int .i64 3)).heap[q0]? = some (.cells #[.slice none 0 0, .int .i64 0, .int .i64 0, .int .i64 0, .int .i64 0] 31 (0, 0))) := Lib.hid (by rw [Below.heap_setCell _ _ _ _ hqb.out]; exact hresw.out)
        replace hta := Lib.hid hta
        replace hba := Lib.hid hba
        replace hka := Lib.hid hka
        go_wp2_with fail
        obtain ⟨W5, hW5, h5, hb5, hk5⟩ := put5 hresa.out (.slice L t'.M.length capv) (.int .i64 t'.last.1) (.int .i64 t'.last.2.1) (.int .i64 t'.last.2.2) (.int .i64 3) (Nat.le_refl q0)
        rw [← hW5]
        clear hW5 f0 f1 f2 f3 f4 c0 c1 c2 c3 c4 q0c q1c q2c q3c q4c
        obtain ⟨⟨c0, c1, c2, c3, c4⟩, f⟩ := cells5 h5
        clear f
        replace h5 := Lib.hid h5
        refine bodyPost_ret (v := .tuple #[.agg #[.slice L t'.M.length capv, .int .i64 t'.last.1, .int .i64 t'.last.2.1, .int .i64 t'.last.2.2, .int .i64 3], .int .i64 0, .int .i64 0]) ?ret rfl ?post
        case ret => rw [res_three rfl]; go_simp
        case post =>
          refine ⟨.slice L t'.M.length capv, { t' with st := 3 }, by rw [e0.out, hfin.out], ?_, ?_, fun _ => by rw [e0.out, hfin.out]; simp only; rw [if_pos hst0.out]⟩
          · rw [← hq0.out]
            exact own_put hta.out.own hresa.out (by decide) hb5 hk5
          · rw [← hq0.out]
            exact (hq0.out ▸ hB4.out).trans (hr.out.below.trans (hba.out.trans hb5))
      · have hse : (t'.st == 0) = false := by simp [hst]
        have hst0 := Lib.hid hst
        clear hst
        go_wp2_with fail
        obtain ⟨W5, hW5, h5, hb5, hk5⟩ := put5 hresw.out (.slice L t'.M.length capv) (.int .i64 t'.last.1) (.int .i64 t'.last.2.1) (.int .i64 t'.last.2.2) (.int .i64 t'.st) (Nat.le_refl q0)
        rw [← hW5]
        clear hW5 f0 f1 f2 f3 f4 c0 c1 c2 c3 c4 q0c q1c q2c q3c q4c
        obtain ⟨⟨c0, c1, c2, c3, c4⟩, f⟩ := cells5 h5
        clear f
        replace h5 := Lib.hid h5
        refine bodyPost_ret (v := .tuple #[.agg #[.slice L t'.M.length capv, .int .i64 t'.last.1, .int .i64 t'.last.2.1, .int .i64 t'.last.2.2, .int .i64 t'.st], .int .i64 0, .int .i64 0]) ?ret rfl ?post
        case ret => rw [res_three rfl]; go_simp
        case post =>
          refine ⟨.slice L t'.M.length capv, { t' with st := t'.st }, by rw [e0.out, hfin.out], ?_, ?_, fun _ => by rw [e0.out, hfin.out]; simp only; rw [if_neg hst0.out]⟩
          · rw [← hq0.out]
            exact own_put hr.out.tab.own hresw.out (by decide) hb5 hk5
          · rw [← hq0.out]
            exact (hq0.out ▸ hB4.out).trans (hr.out.below.trans (hb5))
end Go.Proofs.YtibhifjehbajnaaDoor
