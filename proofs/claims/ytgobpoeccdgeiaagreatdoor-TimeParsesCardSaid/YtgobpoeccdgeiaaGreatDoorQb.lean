/- The sum of package num over words in memory. The product of package num over words in memory, by an own walk. Bytes of one's own in memory. The difference of package num over words in memory. The quotient of package num over words in memory. Decimal digits turned into words: fromDigits and pow10 of package num. -/
import Derived.Test.YtgobpoeccdgeiaaGreatDoorQa
import Derived.Laws.MakeOwn
import Derived.Laws.OwnMore
import Derived.OwnWalk
import Derived.Carry
import Derived.RegionTactic
import Derived.Lib.ConvBytes
import Derived.Deep.Strs
import Derived.Laws.BytesArg
import Derived.WalkSpells
import Derived.Deep.RegionLawGrows
import Derived.Maps.AppendAt

namespace Go.Proofs.YtgobpoeccdgeiaaGreatDoor
open Go.RowKit NumP Go.Proofs.YtgobpoeccdgeiaaGreatDoorW.PrintWords
set_option linter.unusedVariables false

def wds (xs : List Int) : List Value := xs.map (Value.int .u64)
theorem wds_len (xs : List Int) : (wds xs).length = xs.length := by simp [wds]
theorem info_word : (Tryz.prog.info? 142).map (fun i => (i.zero, i.size, i.bytes)) = some (some (.int .u64 0), 1, 8) := by kernel_rfl
theorem own_below {w w' : World} {base : Nat} {e : TypeId} {size : Nat} {v : Value} {n : Nat} {xs : List Value} (h : w.ownsRow base e size v n xs) (hb : Below w.heap.size w w') : w'.ownsRow base e size v n xs :=
  h.kept (row := none) ⟨hb.os, hb.tape, hb.output, hb.size, fun k hk _ => hb.block k hk⟩ (by cases v.ownBlock <;> simp)
theorem own_BAt {w : World} {base n : Nat} {v : Value} {xs : List Int} (h : w.ownsRow base 142 1 v n (wds xs)) : n = xs.length ∧ BAt w v xs := by
  have hl := h.1
  rw [wds_len, Nat.mul_one] at hl
  subst hl
  refine ⟨rfl, ?_⟩
  rcases h.2 with ⟨rfl, hn⟩ | ⟨g, cap, cur, rfl, _, _, hnc, hcm, _⟩
  · have : xs = [] := List.eq_nil_of_length_eq_zero hn
    subst this
    exact BAt.nil w
  · unfold maxLen at hcm
    refine ⟨_, cap, rfl, hnc, by omega, fun _ => ⟨⟨g, 0, none⟩, rfl, fun i hi => ?_⟩⟩
    have := h.cells (g := g) rfl i (.int .u64 xs[i]) (by simp [wds, hi])
    exact this
theorem BAt.cellAt {w : World} {A : Option Addr} {n c : Nat} {xs : List Int} (h : BAt w (.slice A n c) xs) (i : Nat) (hi : i < xs.length) : ∃ ad, A = some ad ∧ w.cell? (ad.add i) = some (.int .u64 (xs[i])) := by
  obtain ⟨A', c', e, h1, h2, h3⟩ := h.at_
  injection e with e1 e2 e3
  subst e1 e2 e3
  obtain ⟨ad, ea, hc⟩ := h3 (by omega)
  exact ⟨ad, ea, hc i hi⟩
theorem BAt.form {w : World} {v : Value} {xs : List Int} (h : BAt w v xs) : ∃ A c, v = .slice A xs.length c := by
  obtain ⟨A, c, e, _⟩ := h.at_
  exact ⟨A, c, e⟩
theorem make_words (w : World) (n : Nat) (hn : n ≤ 1000000) : (Instr.makeSlice 85 (.int .i64 (n : Int)) (.int .i64 (n : Int))).run Tryz.prog w = .ok (.slice (some ⟨w.heap.size, 0, none⟩) n n) (w.alloc (.cells (madeCells #[.int .u64 0] n) 142)) := by
  obtain ⟨i0, hi, hz0, hz1, hz2⟩ := info_parts info_word
  have h := run_make (P := Tryz.prog) w 85 142 i0 (.int .u64 0) Tryz.underlying85 hi hz0 .i64 .i64 n n (by omega) (by omega) (by rw [hz2]; omega) (by omega)
  rw [h, hz1]
  simp [Value.cells]
theorem made_own (w : World) (n : Nat) (hn : n ≤ 1000000) : (w.alloc (.cells (madeCells #[.int .u64 0] n) 142)).ownsRow w.heap.size 142 1 (.slice (some ⟨w.heap.size, 0, none⟩) n n) n (wds (List.replicate n 0)) := by
  refine ⟨by simp [wds], .inr ⟨w.heap.size, n, madeCells #[.int .u64 0] n, rfl, Nat.le_refl _, (MapKept.heap_alloc _ _).1, Nat.le_refl _, by unfold maxLen; omega, by rw [size_madeCells]; omega, ?_⟩⟩
  have e : (madeCells #[.int .u64 0] n).toList = List.replicate n (.int .u64 0) := by
    apply List.ext_getElem
    · simp [madeCells]
    · intro i h1 h2
      simp [madeCells, Nat.mod_one]
  rw [e, List.take_replicate]
  simp [wds]
/-- Where the loop of a sum stands. -/
structure PlusRel (W wr : World) (v : Value) (xs ys : List Int) (n k : Nat) (out : List Int) (c : Int) : Prop where
  own : wr.ownsRow W.heap.size 142 1 v n (wds out)
  below : Below W.heap.size W wr
  wd : Wd out
  eq : vB (out.take k) + PW k * c = vB (xs.take k) + vB (ys.take k)
  c0 : 0 ≤ c ∧ c ≤ 1
  last : k = n → c = 0
theorem own_form1 {w : World} {base n : Nat} {e : TypeId} {v : Value} {xs : List Value} (h : w.ownsRow base e 1 v n xs) (h0 : 0 < n) : ∃ g cap, v = .slice (some ⟨g, 0, none⟩) n cap := by
  rcases h.2 with ⟨_, hn⟩ | ⟨g, cap, cur', hv, _⟩
  · omega
  · exact ⟨g, cap, hv⟩
theorem wds_set (xs : List Int) (k : Nat) (x : Int) : wds (xs.set k x) = (wds xs).set k (.int .u64 x) := by simp [wds, List.map_set]
theorem plus_rel {W wr : World} {N k : Nat} {xs ys out : List Int} {c s : Int} (h : PlusRel W wr (.slice (some ⟨W.heap.size, 0, none⟩) N N) xs ys N k out c) (hk : k < N) (hx : Wd xs) (hy : Wd ys) (hxn : xs.length < N) (hyn : ys.length < N)
    (hs : s = c + rd xs (k : Int) + rd ys (k : Int)) :
    PlusRel W (wr.setCell ⟨W.heap.size, k, none⟩ (.int .u64 (s % 1000000000))) (.slice (some ⟨W.heap.size, 0, none⟩) N N) xs ys N (k + 1) (out.set k (s % 1000000000)) (s / 1000000000) := by
  have hl := h.own.1
  rw [wds_len, Nat.mul_one] at hl
  have hst := h.own.stored k (.int .u64 (s % 1000000000))
  have h1 := rd_wd hx k
  have h2 := rd_wd hy k
  have h3 := h.c0
  refine ⟨by rw [wds_set]; exact hst.1, h.below.setCell (p := ⟨W.heap.size, k, none⟩) (Nat.le_refl _) _, h.wd.set k (by omega), by rw [hs]; exact plus_step xs ys out k c (by omega) h.eq, by omega, fun e => ?_⟩
  have e1 : rd xs (k : Int) = 0 := rd_out xs k (by omega)
  have e2 : rd ys (k : Int) = 0 := rd_out ys k (by omega)
  omega
set_option maxHeartbeats 2000000 in
set_option maxRecDepth 100000 in
theorem plus_w (W : World) (v u : Value) (xs ys : List Int) (hv : BAt W v xs) (hu : BAt W u ys) (hx : Wd xs) (hy : Wd ys) (hxl : xs.length < 900000) (hyl : ys.length < 900000) :
    Calls Tryz.prog 130 #[v, u] W fun e w' => ∃ r zs, e = .returned r ∧ BAt w' r (normL zs) ∧ Wd zs ∧ vB zs = vB xs + vB ys ∧ Below W.heap.size W w' := by
  obtain ⟨A, ca, rfl⟩ := hv.form
  obtain ⟨B, cb, rfl⟩ := hu.form
  obtain ⟨n, hn⟩ : ∃ n, n = xs.length := ⟨_, rfl⟩
  obtain ⟨m, hm⟩ : ∃ m, m = ys.length := ⟨_, rfl⟩
  obtain ⟨N, hN⟩ : ∃ N, N = max n m + 1 := ⟨_, rfl⟩
  rw [← hn] at hxl hv ⊢
  rw [← hm] at hyl hu ⊢
  have hNn : n < N ∧ m < N ∧ N ≤ 1000000 := by omega
  obtain ⟨N1, N2, N3⟩ := hNn
  have hmk := make_words W N N3
  have hmk1 : (m : Int) > n → (Instr.makeSlice 85 (.int .i64 ((m : Int) + 1)) (.int .i64 ((m : Int) + 1))).run Tryz.prog W = .ok (.slice (some ⟨W.heap.size, 0, none⟩) N N) (W.alloc (.cells (madeCells #[.int .u64 0] N) 142)) := fun h => by rw [show (m : Int) + 1 = (N : Int) by omega]; exact hmk
  have hmk2 : ¬ (m : Int) > n → (Instr.makeSlice 85 (.int .i64 ((n : Int) + 1)) (.int .i64 ((n : Int) + 1))).run Tryz.prog W = .ok (.slice (some ⟨W.heap.size, 0, none⟩) N N) (W.alloc (.cells (madeCells #[.int .u64 0] N) 142)) := fun h => by rw [show (n : Int) + 1 = (N : Int) by omega]; exact hmk
  have hown := made_own W N N3
  obtain ⟨W1, hW1⟩ : ∃ W1, W1 = W.alloc (.cells (madeCells #[.int .u64 0] N) 142) := ⟨_, rfl⟩
  have hb1 : Below W.heap.size W W1 := by rw [hW1]; exact (Below.refl _ _).alloc (Nat.le_refl _) _
  rw [← hW1] at hown hmk1 hmk2
  have hrel : Hid (PlusRel W W1 (.slice (some ⟨W.heap.size, 0, none⟩) N N) xs ys N 0 (List.replicate N 0) 0) := Lib.hid ⟨hown, hb1, (fun y hy => by rw [List.eq_of_mem_replicate hy]; decide), by simp [vB, PW], by omega, fun _ => rfl⟩
  replace hn := Lib.hid hn
  replace hm := Lib.hid hm
  replace hv := Lib.hid hv
  replace hu := Lib.hid hu
  replace hx := Lib.hid hx
  replace hy := Lib.hid hy
  clear hN hown hb1 hmk hW1
  by_cases hmn : (m : Int) > n
  all_goals first | have hmk := hmk1 hmn | have hmk := hmk2 hmn
  all_goals
    clear hmk1 hmk2
    go_enter Tryz.func130, Tryz.ntmps130
    go_wp2_with fail
    clear hmn hmk
    go_loopw [6, 17] (fun cy i wr => ∃ (k : Nat) (out : List Int) (c : Int), i = .int .i64 k ∧ cy = .int .u64 c ∧ 0 ≤ c ∧ c ≤ 1 ∧ k ≤ N ∧ Hid (PlusRel W wr (.slice (some ⟨W.heap.size, 0, none⟩) N N) xs ys N k out c)) (fun _ i _ => N - (intOf i).toNat)
    case atStart => exact ⟨0, _, 0, rfl, rfl, by omega, by omega, Nat.zero_le _, hrel⟩
    case round =>
      obtain ⟨k, out, c, rfl, rfl, c0, c1, hk, hr⟩ := hrel
      by_cases hlt : k < N
      · have hown := hr.out.own
        have hol := hown.1
        rw [wds_len, Nat.mul_one] at hol
        have hfz := hown.frozenAt k
        obtain ⟨z, hcz⟩ : ∃ z, wr.cell? ⟨W.heap.size, k, none⟩ = some z := by
          rw [hown.cellAt k (by omega)]
          exact ⟨_, List.getElem?_eq_getElem (by rw [wds_len]; omega)⟩
        obtain ⟨x0, x1⟩ := rd_wd hx.out k
        obtain ⟨y0, y1⟩ := rd_wd hy.out k
        have hxc : k < n → ∃ ad, A = some ad ∧ wr.cell? (ad.add k) = some (.int .u64 (rd xs (k : Int))) := fun h => by
          have h' : k < xs.length := by rw [← hn.out]; exact h
          obtain ⟨ad, e1, e2⟩ := hv.out.cellAt k h'
          exact ⟨ad, e1, by rw [hr.out.below.cell (World.block_lt_of_cell? W _ e2), e2, rd_at xs k h']⟩
        have hyc : k < m → ∃ ad, B = some ad ∧ wr.cell? (ad.add k) = some (.int .u64 (rd ys (k : Int))) := fun h => by
          have h' : k < ys.length := by rw [← hm.out]; exact h
          obtain ⟨ad, e1, e2⟩ := hu.out.cellAt k h'
          exact ⟨ad, e1, by rw [hr.out.below.cell (World.block_lt_of_cell? W _ e2), e2, rd_at ys k h']⟩
        have hxn : ¬ k < n → rd xs (k : Int) = 0 := fun h => rd_out xs k (by rw [← hn.out]; omega)
        have hyn : ¬ k < m → rd ys (k : Int) = 0 := fun h => rd_out ys k (by rw [← hm.out]; omega)
        obtain ⟨x, hxe⟩ : ∃ x, x = rd xs (k : Int) := ⟨_, rfl⟩
        obtain ⟨y, hye⟩ : ∃ y, y = rd ys (k : Int) := ⟨_, rfl⟩
        rw [← hxe] at x0 x1 hxc hxn
        rw [← hye] at y0 y1 hyc hyn
        replace hxe := Lib.hid hxe
        replace hye := Lib.hid hye
        replace hown := Lib.hid hown
        have hrel2 : Hid (∀ s, s = c + x + y → PlusRel W (wr.setCell ⟨W.heap.size, k, none⟩ (.int .u64 (s % 1000000000))) (.slice (some ⟨W.heap.size, 0, none⟩) N N) xs ys N (k + 1) (out.set k (s % 1000000000)) (s / 1000000000)) := Lib.hid (fun s hs =>
          plus_rel hr.out hlt hx.out hy.out (by rw [← hn.out]; exact N1) (by rw [← hm.out]; exact N2) (by rw [hs, hxe.out, hye.out]))
        by_cases hkn : k < n
        · obtain ⟨ad, rfl, hcx⟩ := hxc hkn
          by_cases hkm : k < m
          · obtain ⟨ae, rfl, hcy⟩ := hyc hkm
            clear hxc hyc hxn hyn
            go_wp2_with fail
            go_roundw
            case rel => exact ⟨k + 1, _, _, by go_num, rfl, by omega, by omega, by omega, Lib.hid (hrel2.out (c + x + y) rfl)⟩
            case measure => simp [intOf]; omega
          · have hy0 := hyn hkm
            clear hxc hyc hxn hyn
            subst hy0
            go_wp2_with fail
            go_roundw
            case rel => exact ⟨k + 1, _, _, by go_num, rfl, by omega, by omega, by omega, Lib.hid (hrel2.out (c + x) (by omega))⟩
            case measure => simp [intOf]; omega
        · have hx0 := hxn hkn
          by_cases hkm : k < m
          · obtain ⟨ae, rfl, hcy⟩ := hyc hkm
            clear hxc hyc hxn hyn
            subst hx0
            go_wp2_with fail
            go_roundw
            case rel => exact ⟨k + 1, _, _, by go_num, rfl, by omega, by omega, by omega, Lib.hid (hrel2.out (c + y) (by omega))⟩
            case measure => simp [intOf]; omega
          · have hy0 := hyn hkm
            clear hxc hyc hxn hyn
            subst hx0 hy0
            go_wp2_with fail
            go_roundw
            case rel => exact ⟨k + 1, _, _, by go_num, rfl, by omega, by omega, by omega, Lib.hid (hrel2.out c (by omega))⟩
            case measure => simp [intOf]; omega
      · obtain rfl : k = N := by omega
        obtain ⟨hol, hB⟩ := own_BAt hr.out.own
        have hnb := norm_b wr _ out hB (by omega)
        have hval : Hid (vB out = vB xs + vB ys) := Lib.hid (by
          have h1 := hr.out.eq
          rw [hr.out.last rfl, Int.mul_zero, Int.add_zero, List.take_of_length_le (by omega), List.take_of_length_le (by rw [← hn.out]; omega), List.take_of_length_le (by rw [← hm.out]; omega)] at h1
          exact h1)
        clear hB hol
        go_wp2_with fail
        refine hnb.mono ?_
        rintro e w2 ⟨r, rfl, hB2, hb2⟩
        go_wp2_with fail
        go_ret
        exact ⟨r, out, rfl, hB2, hr.out.wd, hval.out, hr.out.below.trans (hb2.mono hr.out.below.size)⟩
/-- The sum of two numbers. -/
theorem plus_b (w : World) (v u : Value) (n m : Nat) (hv : BN w v n) (hu : BN w u m) (hn : (wordsN n).length < 900000) (hm : (wordsN m).length < 900000) : Calls Tryz.prog 130 #[v, u] w (BPost w (wordsN (n + m))) := by
  refine (plus_w w v u _ _ hv hu (wordsN_is n).wd (wordsN_is m).wd hn hm).mono ?_
  rintro e w' ⟨r, zs, rfl, hB, hw, hval, hb⟩
  refine ⟨r, rfl, ?_, hb⟩
  rw [← (is_norm (n := n + m) hw (by rw [hval, (wordsN_is n).v, (wordsN_is m).v]; rfl)).eq]
  exact hB
end Go.Proofs.YtgobpoeccdgeiaaGreatDoor

namespace Go.Proofs.YtgobpoeccdgeiaaGreatDoor
open Go.RowKit NumP Go.Proofs.YtgobpoeccdgeiaaGreatDoorW.PrintWords
set_option linter.unusedVariables false

theorem make_words2 (w : World) (n : Nat) (hn : n ≤ 2000000) : (Instr.makeSlice 85 (.int .i64 (n : Int)) (.int .i64 (n : Int))).run Tryz.prog w = .ok (.slice (some ⟨w.heap.size, 0, none⟩) n n) (w.alloc (.cells (madeCells #[.int .u64 0] n) 142)) := by
  obtain ⟨i0, hi, hz0, hz1, hz2⟩ := info_parts info_word
  have h := run_make (P := Tryz.prog) w 85 142 i0 (.int .u64 0) Tryz.underlying85 hi hz0 .i64 .i64 n n (by omega) (by omega) (by rw [hz2]; omega) (by omega)
  rw [h, hz1]
  simp [Value.cells]
theorem made_own2 (w : World) (n : Nat) (hn : n ≤ 2000000) : (w.alloc (.cells (madeCells #[.int .u64 0] n) 142)).ownsRow w.heap.size 142 1 (.slice (some ⟨w.heap.size, 0, none⟩) n n) n (wds (List.replicate n 0)) := by
  refine ⟨by simp [wds], .inr ⟨w.heap.size, n, madeCells #[.int .u64 0] n, rfl, Nat.le_refl _, (MapKept.heap_alloc _ _).1, Nat.le_refl _, by unfold maxLen; omega, by rw [size_madeCells]; omega, ?_⟩⟩
  have e : (madeCells #[.int .u64 0] n).toList = List.replicate n (.int .u64 0) := by
    apply List.ext_getElem
    · simp [madeCells]
    · intro i h1 h2
      simp [madeCells, Nat.mod_one]
  rw [e, List.take_replicate]
  simp [wds]
/-- Where the outer loop of a product stands. -/
structure TimM (W wr : World) (a b : List Int) (N i : Nat) (out : List Int) : Prop where
  own : wr.ownsRow W.heap.size 142 1 (.slice (some ⟨W.heap.size, 0, none⟩) N N) N (wds out)
  below : Below W.heap.size W wr
  tim : TimO a b N i out
/-- Where the inner loop stands. -/
structure TimN (W wr : World) (b : List Int) (N i j : Nat) (x V0 : Int) (out : List Int) (c : Int) : Prop where
  own : wr.ownsRow W.heap.size 142 1 (.slice (some ⟨W.heap.size, 0, none⟩) N N) N (wds out)
  below : Below W.heap.size W wr
  tim : TimI b N i j x V0 out c
theorem TimN.step {W wr : World} {b : List Int} {N i j : Nat} {x V0 : Int} {out : List Int} {c s : Int} (h : TimN W wr b N i j x V0 out c) (hb : Wd b) (hx : 0 ≤ x ∧ x < 1000000000) (hj : j < b.length) (hN : i + b.length < N)
    (hs : s = c + (rd out ((i + j : Nat) : Int) + x * rd b (j : Int))) : TimN W (wr.setCell ⟨W.heap.size, i + j, none⟩ (.int .u64 (s % 1000000000))) b N i (j + 1) x V0 (out.set (i + j) (s % 1000000000)) (s / 1000000000) :=
  ⟨by rw [wds_set]; exact (h.own.stored (i + j) (.int .u64 (s % 1000000000))).1, h.below.setCell (p := ⟨W.heap.size, i + j, none⟩) (Nat.le_refl _) _, h.tim.step hb hx hj hN hs⟩
theorem TimM.next {W wr0 wr : World} {a b : List Int} {N i : Nat} {out0 out : List Int} {c : Int} (h0 : TimM W wr0 a b N i out0) (h : TimN W wr b N i b.length (rd a (i : Int)) (vB out0) out c) (hN : i + b.length < N) :
    TimM W (wr.setCell ⟨W.heap.size, i + b.length, none⟩ (.int .u64 c)) a b N (i + 1) (out.set (i + b.length) c) :=
  ⟨by rw [wds_set]; exact (h.own.stored (i + b.length) (.int .u64 c)).1, h.below.setCell (p := ⟨W.heap.size, i + b.length, none⟩) (Nat.le_refl _) _, h0.tim.next h.tim hN⟩
theorem own_at {w : World} {g N : Nat} {out : List Int} (h : w.ownsRow g 142 1 (.slice (some ⟨g, 0, none⟩) N N) N (wds out)) (k : Nat) (hk : k < N) : out.length = N ∧ w.cell? ⟨g, k, none⟩ = some (.int .u64 (rd out (k : Int))) ∧ w.frozen? ⟨g, k, none⟩ = false := by
  have hol := h.1
  rw [wds_len, Nat.mul_one] at hol
  refine ⟨hol, ?_, h.frozenAt k⟩
  rw [h.cellAt k (by omega)]
  unfold wds
  rw [List.getElem?_map, List.getElem?_eq_getElem (by omega), rd_at out k (by omega)]
  rfl
set_option maxHeartbeats 4000000 in
set_option maxRecDepth 100000 in
theorem times_b (w : World) (v u : Value) (n m : Nat) (hv : BN w v n) (hu : BN w u m) (hn : Small n) (hm : Small m) : Calls Tryz.prog 74 #[v, u] w (BPost w (wordsN (n * m))) := by
  obtain ⟨A, ca, rfl⟩ := BAt.form hv
  obtain ⟨B, cb, rfl⟩ := BAt.form hu
  have ia := wordsN_is n
  have ib := wordsN_is m
  obtain ⟨a, ha⟩ : ∃ a, a = wordsN n := ⟨_, rfl⟩
  obtain ⟨b, hb⟩ : ∃ b, b = wordsN m := ⟨_, rfl⟩
  unfold Small at hn hm
  unfold BN at hv hu
  rw [← ha] at hv ia hn ⊢
  rw [← hb] at hu ib hm ⊢
  clear ha hb
  obtain ⟨p, hp⟩ : ∃ p, p = a.length := ⟨_, rfl⟩
  obtain ⟨q, hq⟩ : ∃ q, q = b.length := ⟨_, rfl⟩
  rw [← hp] at hv hn ⊢
  rw [← hq] at hu hm ⊢
  obtain ⟨N, hN⟩ : ∃ N, N = p + q := ⟨_, rfl⟩
  have hN2 : N ≤ 2000000 := by omega
  have hmk := make_words2 w N hN2
  have hsum : (p : Int) + (q : Int) = (N : Int) := by omega
  have hown := made_own2 w N hN2
  obtain ⟨W1, hW1⟩ : ∃ W1, W1 = w.alloc (.cells (madeCells #[.int .u64 0] N) 142) := ⟨_, rfl⟩
  have hb1 : Below w.heap.size w W1 := by rw [hW1]; exact (Below.refl _ _).alloc (Nat.le_refl _) _
  rw [← hW1] at hown hmk
  have hrel : Hid (TimM w W1 a b N 0 (List.replicate N 0)) := Lib.hid ⟨hown, hb1, TimO.start a b N⟩
  replace hp := Lib.hid hp
  replace hq := Lib.hid hq
  replace hv := Lib.hid hv
  replace hu := Lib.hid hu
  replace ia := Lib.hid ia
  replace ib := Lib.hid ib
  replace hN := Lib.hid hN
  clear hown hb1 hW1
  go_enter Tryz.func74, Tryz.ntmps74
  go_wp2_with fail
  clear hmk hsum
  go_loopw [19] (fun iv wr => ∃ (i : Nat) (out : List Int), iv = .int .i64 (i : Int) ∧ i ≤ p ∧ Hid (TimM w wr a b N i out)) (fun iv _ => p - (intOf iv).toNat)
  case atStart => exact ⟨0, _, rfl, Nat.zero_le _, hrel⟩
  case round =>
    obtain ⟨i, out0, rfl, hi, hr⟩ := hrel
    by_cases hlt : i < p
    · obtain ⟨wo, rfl⟩ : ∃ wo : World, wo = wr := ⟨_, rfl⟩
      have gi : (i : Int) < (p : Int) := by omega
      have hia : i < a.length := by have := hp.out; omega
      obtain ⟨ad, rfl, hca⟩ := hv.out.cellAt i hia
      have cx : wo.cell? (ad.add i) = some (.int .u64 (rd a (i : Int))) := by rw [hr.out.below.cell (World.block_lt_of_cell? w _ hca), hca, rd_at a i hia]
      have wx := rd_wd ia.out.wd i
      obtain ⟨x, hx⟩ : ∃ x, x = rd a (i : Int) := ⟨_, rfl⟩
      rw [← hx] at cx wx
      obtain ⟨x0, x1⟩ := wx
      have hst : Hid (TimN w wo b N i 0 x (vB out0) out0 0) := Lib.hid ⟨hr.out.own, hr.out.below, by rw [hx]; exact hr.out.tim.inner⟩
      have hqN : i + q < N := by have := hN.out; omega
      replace hx := Lib.hid hx
      replace hca := Lib.hid hca
      go_wp2_with fail
      go_loopw [8, 26] (fun cv jv wr => ∃ (j : Nat) (out : List Int) (c : Int), jv = .int .i64 (j : Int) ∧ cv = .int .u64 c ∧ 0 ≤ c ∧ c ≤ 999999999 ∧ j ≤ q ∧ Hid (TimN w wr b N i j x (vB out0) out c)) (fun _ jv _ => q - (intOf jv).toNat)
      case atStart => exact ⟨0, out0, 0, rfl, rfl, by omega, by omega, Nat.zero_le _, hst⟩
      case round =>
        obtain ⟨j, out, c, rfl, rfl, c0, c1, hj, hr2⟩ := hrel
        by_cases hjq : j < q
        · have gj : (j : Int) < (q : Int) := by omega
          have hjb : j < b.length := by have := hq.out; omega
          obtain ⟨ae, rfl, hcb⟩ := hu.out.cellAt j hjb
          have cy : wr.cell? (ae.add j) = some (.int .u64 (rd b (j : Int))) := by rw [hr2.out.below.cell (World.block_lt_of_cell? w _ hcb), hcb, rd_at b j hjb]
          have wy := rd_wd ib.out.wd j
          obtain ⟨hol, co, fo⟩ := own_at hr2.out.own (i + j) (by omega)
          have wo2 := rd_wd hr2.out.tim.wd (i + j)
          have hxy := hr2.out.tim.bnd ib.out.wd ⟨x0, x1⟩
          have hstep : Hid (∀ s, s = c + (rd out ((i + j : Nat) : Int) + x * rd b (j : Int)) → TimN w (wr.setCell ⟨w.heap.size, i + j, none⟩ (.int .u64 (s % 1000000000))) b N i (j + 1) x (vB out0) (out.set (i + j) (s % 1000000000)) (s / 1000000000)) :=
            Lib.hid (fun s hs => hr2.out.step ib.out.wd ⟨x0, x1⟩ hjb (by have := hq.out; omega) hs)
          obtain ⟨y, hy⟩ : ∃ y, y = rd b (j : Int) := ⟨_, rfl⟩
          obtain ⟨o, ho⟩ : ∃ o, o = rd out ((i + j : Nat) : Int) := ⟨_, rfl⟩
          obtain ⟨r, hrr⟩ : ∃ r, r = i + j := ⟨_, rfl⟩
          rw [← hy] at cy wy hxy hstep
          rw [← ho] at co wo2 hstep
          rw [← hrr] at co fo hstep
          obtain ⟨y0, y1⟩ := wy
          obtain ⟨o0, o1⟩ := wo2
          obtain ⟨z, hz⟩ : ∃ z, z = x * y := ⟨_, rfl⟩
          rw [← hz] at hxy hstep
          obtain ⟨z0, z1⟩ := hxy
          have gr : (i : Int) + (j : Int) = (r : Int) := by omega
          have grN : (r : Int) < (N : Int) := by omega
          have grN2 : r < N := by omega
          have gz : x * y = z := hz.symm
          have gw : IntKind.u64.wrap (x * y) = z := by rw [← hz]; exact u64w _ (by omega)
          replace hy := Lib.hid hy
          replace ho := Lib.hid ho
          replace hrr := Lib.hid hrr
          replace hz := Lib.hid hz
          replace hol := Lib.hid hol
          replace hcb := Lib.hid hcb
          clear hst hr hrel
          go_wp2_with fail
          go_roundw
          case rel => exact ⟨j + 1, _, _, by go_num, rfl, by omega, by omega, by omega, Lib.hid (hstep.out (c + (o + z)) rfl)⟩
          case measure => simp [intOf]; omega
        · obtain rfl : j = q := by omega
          obtain ⟨hol, co, fo⟩ := own_at hr2.out.own (i + j) (by omega)
          have hz0 : rd out ((i + j : Nat) : Int) = 0 := hr2.out.tim.zero (i + j) (by rw [← hq.out]; exact Nat.le_refl _)
          have hnext : Hid (TimM w (wr.setCell ⟨w.heap.size, i + j, none⟩ (.int .u64 c)) a b N (i + 1) (out.set (i + j) c)) := Lib.hid (by
            have h1 := hr2.out
            have h2 := hr.out
            have e := hq.out
            rw [e] at h1 hqN ⊢
            rw [hx.out] at h1
            exact h2.next h1 hqN)
          rw [hz0] at co
          obtain ⟨r, hrr⟩ : ∃ r, r = i + j := ⟨_, rfl⟩
          rw [← hrr] at co fo hnext
          have gr : (i : Int) + (j : Int) = (r : Int) := by omega
          have grN : (r : Int) < (N : Int) := by omega
          have grN2 : r < N := by omega
          replace hrr := Lib.hid hrr
          replace hz0 := Lib.hid hz0
          replace hol := Lib.hid hol
          clear hst hr hrel
          go_wp2_with fail
          go_roundw
          case rel => exact ⟨i + 1, _, by go_num, by omega, hnext⟩
          case measure => simp [intOf]; omega
    · obtain rfl : i = p := by omega
      obtain ⟨hol, hB⟩ := own_BAt hr.out.own
      have hnb := norm_b wr _ out0 hB (by omega)
      have hval : Hid (normL out0 = wordsN (n * m)) := Lib.hid (by
        have h1 := hr.out.tim.eq
        rw [hp.out, List.take_length, ia.out.v, ib.out.v] at h1
        exact (is_norm (n := n * m) hr.out.tim.wd (by rw [h1]; push_cast; rfl)).eq)
      clear hB hol hrel
      go_wp2_with fail
      refine hnb.mono ?_
      rintro e w2 ⟨r, rfl, hB2, hb2⟩
      go_wp2_with fail
      go_ret
      exact ⟨r, rfl, by rw [← hval.out]; exact hB2, hr.out.below.trans (hb2.mono hr.out.below.size)⟩
end Go.Proofs.YtgobpoeccdgeiaaGreatDoor

namespace Go.Proofs.YtgobpoeccdgeiaaGreatDoor
open Go.RowKit NumP Go.Proofs.YtgobpoeccdgeiaaGreatDoorW.PrintWords
set_option linter.unusedVariables false

/-- Bytes as values. -/
def byts (l : List UInt8) : List Value := l.map fun b : UInt8 => Value.int .u8 (b.toNat : Int)
theorem byts_len (l : List UInt8) : (byts l).length = l.length := by simp [byts]
theorem byts_app (a b : List UInt8) : byts (a ++ b) = byts a ++ byts b := by simp [byts]
theorem byts_one (l : List UInt8) : ∀ u ∈ byts l, u.oneCell' = true := fun u hu => by
  rw [byts, List.mem_map] at hu
  obtain ⟨d, _, rfl⟩ := hu
  rfl
theorem own_byte (w : World) (c : UInt8) (x : Int) (hx : x = (c.toNat : Int)) : (w.alloc (.cells #[.int .u8 x] 5)).ownsRow w.heap.size 5 1 (.slice (some ⟨w.heap.size, 0, none⟩) 1 1) 1 (byts [c]) := by
  subst hx
  exact ⟨rfl, .inr ⟨w.heap.size, 1, #[.int .u8 (c.toNat : Int)], rfl, Nat.le_refl _, (MapKept.heap_alloc _ _).1, Nat.le_refl _, by unfold maxLen; omega, rfl, rfl⟩⟩
theorem info_byte : (Tryz.prog.info? 5).map (fun i => (i.zero, i.size, i.bytes)) = some (some (.int .u8 0), 1, 1) := by kernel_rfl
set_option maxRecDepth 100000 in
theorem str_own {w : World} {B n : Nat} {A : Option Addr} {c : Nat} {l : List UInt8} (h : w.ownsRow B 5 1 (.slice A n c) n (byts l)) : (convert 116 9 (.slice A n c)).run Tryz.prog w = .ok (.string ⟨l.toArray⟩) w := by
  rcases h.2 with ⟨e1, e2⟩ | ⟨g, cap, cur, e, h2⟩
  · have hl : l = [] := by
      have := h.1
      rw [byts_len, e2, Nat.zero_mul] at this
      exact List.eq_nil_of_length_eq_zero this
    injection e1 with a1 a2 a3
    subst a1 a2 a3 hl
    exact run_convert_bytes_nil w 116 5 Tryz.underlying116 Tryz.underlying5 0 0 9 Tryz.underlying9
  · injection e with a1 a2 a3
    subst a1
    have hn : l.length = n := by
      have := h.1
      rw [byts_len, Nat.mul_one] at this
      exact this
    subst hn
    refine run_convert_bytes_back w 116 9 5 ⟨g, 0, none⟩ c l Tryz.underlying116 Tryz.underlying5 Tryz.underlying9 fun j hj => ?_
    exact h.cells (g := g) rfl j _ (by rw [byts, List.getElem?_map, List.getElem?_eq_getElem hj]; rfl)
theorem byte_news {w : World} {c : UInt8} {x : Int} (hx : x = (c.toNat : Int)) : ∀ j u, (byts [c])[j]? = some u → (w.alloc (.cells #[.int .u8 x] 5)).cell? ((⟨w.heap.size, 0, none⟩ : Addr).add j) = some u := (own_byte w c x hx).cells (g := w.heap.size) rfl
theorem own_lit {w : World} {B n : Nat} {v : Value} {l : List UInt8} (h : w.ownsRow B 5 1 v n (byts l)) (hn : 0 < n) : ∃ (A' : Option Addr) (c' : Nat), v = .slice A' n c' := by
  obtain ⟨g, cap, e⟩ := own_form1 h hn
  exact ⟨_, _, e⟩
end Go.Proofs.YtgobpoeccdgeiaaGreatDoor

namespace Go.Proofs.YtgobpoeccdgeiaaGreatDoor
open Go.RowKit NumP Go.Proofs.YtgobpoeccdgeiaaGreatDoorW.PrintWords
set_option linter.unusedVariables false

theorem own_any {w : World} {base e size n : Nat} {v : Value} {xs : List Value} (h : w.ownsRow base e size v n xs) : ∃ L cap, v = .slice L n cap := by
  rcases h.2 with ⟨hv, h0⟩ | ⟨g, cap, cur', hv, _⟩
  · exact ⟨none, 0, by rw [hv, h0]⟩
  · exact ⟨_, cap, hv⟩
set_option maxHeartbeats 1000000 in
set_option maxRecDepth 100000 in
theorem clone_w (W : World) (v : Value) (xs : List Int) (hv : BAt W v xs) (hl : xs.length < 900000) :
    Calls Tryz.prog 159 #[v] W fun e w' => ∃ r, e = .returned r ∧ w'.ownsRow W.heap.size 142 1 r xs.length (wds xs) ∧ Below W.heap.size W w' := by
  obtain ⟨A, c, rfl⟩ := hv.form
  cases A with
  | none =>
    have h0 : xs.length = 0 := by
      rcases Nat.eq_zero_or_pos xs.length with h | h
      · exact h
      · obtain ⟨ad, e, _⟩ := hv.cellAt 0 h
        cases e
    obtain rfl := List.eq_nil_of_length_eq_zero h0
    have hq := Lib.run_eql_slice_nil (P := Tryz.prog) W 85 142 none 0 c 0 0 Tryz.underlying85
    replace hv := Lib.hid hv
    simp only [List.length_nil]
    go_enter Tryz.func159, Tryz.ntmps159
    go_wp2_with fail
    go_ret
    exact ⟨.slice none 0 0, rfl, World.ownsRow_nil _ _ _ _, Below.refl _ _⟩
  | some ad =>
    have hc : Hid (∀ j u, (wds xs)[j]? = some u → W.cell? (ad.add j) = some u) := Lib.hid (fun j u hj => by
      obtain ⟨hjl, hj⟩ := List.getElem?_eq_some_iff.1 hj
      rw [wds_len] at hjl
      obtain ⟨ad', e1, e2⟩ := hv.cellAt j hjl
      cases e1
      rw [e2, ← hj]
      simp [wds])
    obtain ⟨i0, hi, hz0, hz1, hz2⟩ := info_parts info_word
    obtain ⟨n, hn⟩ : ∃ n, n = xs.length := ⟨_, rfl⟩
    rw [← hn] at hl ⊢
    have hwl : Hid ((wds xs).length = n * 1) := Lib.hid (by rw [wds_len, hn, Nat.mul_one])
    have hW1 := World.ownsRow_lit W #[] 0 (base := W.heap.size) (e := 142) (size := 1) (Nat.le_refl _) (by decide) rfl
    obtain ⟨W1, hW⟩ : ∃ W1, W1 = W.alloc (.cells #[] 142) := ⟨_, rfl⟩
    have hb1 : Below W.heap.size W W1 := by rw [hW]; exact (Below.refl _ _).alloc (Nat.le_refl _) _
    have hc1 : Hid (∀ j u, (wds xs)[j]? = some u → W1.cell? (ad.add j) = some u) := Lib.hid (fun j u hj => by
      have h := hc.out j u hj
      rw [hb1.cell (World.block_lt_of_cell? W _ h), h])
    rw [← hW] at hW1
    replace hv := Lib.hid hv
    clear hn hc
    have hs1 : W.heap.size ≤ W1.heap.size := hb1.size
    have hq := Lib.run_eql_slice_nil (P := Tryz.prog) W 85 142 (some ad) n c 0 0 Tryz.underlying85
    go_enter Tryz.func159, Tryz.ntmps159
    go_wp2_with (at_builtin; rw [← hW]; refine wpList_append_own _ rfl _ _ 85 rfl W.heap.size 142 i0 (.int .u64 0) 1 8 Tryz.underlying85 hi hz0 hz1 hz2 rfl (by decide) _ 0 [] rfl hW1 ad n c (wds xs) rfl hwl.out hc1.out (by intro y hy; simp [wds] at hy; obtain ⟨q, -, rfl⟩ := hy; rfl) (by unfold maxLen; omega) (by omega) hs1 ?_; intro v' w3 hown' hgrow3 hnil3)
    go_ret
    have hb3 : Below W.heap.size W w3 := Below.grown hb1 hgrow3 hs1 (fun j hj => (hW1.lt j hj).1)
    exact ⟨v', rfl, by simpa using hown', hb3⟩

/-- Where the loop of a difference stands. -/
structure MinRel (W wr : World) (v : Value) (xs ys : List Int) (n k : Nat) (out : List Int) (c : Int) : Prop where
  own : wr.ownsRow W.heap.size 142 1 v n (wds out)
  below : Below W.heap.size W wr
  wd : Wd out
  tail : out.drop k = xs.drop k
  eq : vB (out.take k) - PW k * c = vB (xs.take k) - vB (ys.take k)
theorem min_rel {W wr w' : World} {g cap n k : Nat} {xs ys out : List Int} {c x' c' : Int} (h : MinRel W wr (.slice (some ⟨g, 0, none⟩) n cap) xs ys n k out c) (hk : k < n) (hn : n = xs.length)
    (ho : w'.ownsRow W.heap.size 142 1 (.slice (some ⟨g, 0, none⟩) n cap) n (wds (out.set k x'))) (hb : Below W.heap.size W w') (h0 : 0 ≤ x' ∧ x' < 1000000000)
    (hs : x' - 1000000000 * c' = rd xs (k : Int) - (c + rd ys (k : Int))) :
    MinRel W w' (.slice (some ⟨g, 0, none⟩) n cap) xs ys n (k + 1) (out.set k x') c' := by
  have hl := h.own.1
  rw [wds_len, Nat.mul_one] at hl
  have h2 := rd_drop h.tail (by omega) (by omega)
  exact ⟨ho, hb, h.wd.set k h0, by rw [set_drop]; exact h2.2, minus_step xs ys out k c x' c' (by omega) h.eq hs⟩
set_option maxHeartbeats 2000000 in
set_option maxRecDepth 100000 in
theorem minus_w (W : World) (v u : Value) (xs ys : List Int) (hv : BAt W v xs) (hu : BAt W u ys) (hx : Wd xs) (hy : Wd ys) (hxl : xs.length < 900000) (hyl : ys.length ≤ xs.length) (hle : vB ys ≤ vB xs) :
    Calls Tryz.prog 131 #[v, u] W fun e w' => ∃ r zs, e = .returned r ∧ BAt w' r (normL zs) ∧ Wd zs ∧ vB zs = vB xs - vB ys ∧ Below W.heap.size W w' := by
  have hcl := clone_w W v xs hv hxl
  obtain ⟨B, cb, rfl⟩ := hu.form
  obtain ⟨n, hn⟩ : ∃ n, n = xs.length := ⟨_, rfl⟩
  obtain ⟨m, hm⟩ : ∃ m, m = ys.length := ⟨_, rfl⟩
  rw [← hn] at hxl hyl hcl
  rw [← hm] at hyl hu ⊢
  replace hu := Lib.hid hu
  replace hv := Lib.hid hv
  replace hx := Lib.hid hx
  replace hy := Lib.hid hy
  replace hn := Lib.hid hn
  replace hm := Lib.hid hm
  replace hle := Lib.hid hle
  go_enter Tryz.func131, Tryz.ntmps131
  go_wp2_with fail
  refine hcl.mono ?_
  rintro e w1 ⟨r, rfl, ho1, hb1⟩
  clear hcl
  obtain ⟨L, cap, rfl⟩ := own_any ho1
  have hrel : Hid (MinRel W w1 (.slice L n cap) xs ys n 0 xs 0) := Lib.hid ⟨ho1, hb1, hx.out, rfl, by simp [vB, PW]⟩
  have hLn : Hid (0 < n → ∃ g, L = some ⟨g, 0, none⟩) := Lib.hid (fun h => by
    obtain ⟨g, cap', e⟩ := own_form1 ho1 h
    injection e with e1
    exact ⟨g, e1⟩)
  clear ho1 hb1
  go_wp2_with fail
  go_loopw [6, 13] (fun cy i wr => ∃ (k : Nat) (out : List Int) (c : Int), i = .int .i64 k ∧ cy = .int .u64 c ∧ 0 ≤ c ∧ c ≤ 1 ∧ k ≤ n ∧ Hid (MinRel W wr (.slice L n cap) xs ys n k out c)) (fun _ i _ => n - (intOf i).toNat)
  case atStart => exact ⟨0, xs, 0, rfl, rfl, by omega, by omega, Nat.zero_le _, hrel⟩
  case round =>
    obtain ⟨k, out, c, rfl, rfl, c0, c1, hk, hr⟩ := hrel
    by_cases hlt : k < n
    · obtain ⟨g, rfl⟩ := hLn.out (by omega)
      have hown := hr.out.own
      have hol := hown.1
      rw [wds_len, Nat.mul_one] at hol
      have hfz := hown.frozenAt k
      have hkl : k < xs.length := by rw [← hn.out]; exact hlt
      obtain ⟨hrd, -⟩ := rd_drop hr.out.tail (by omega) (by rw [← hn.out]; exact hol)
      have hcz : wr.cell? ⟨g, k, none⟩ = some (.int .u64 (rd xs (k : Int))) := by
        rw [hown.cellAt k (by omega), ← hrd, rd_at out k (by omega)]
        simp [wds, hol, hlt]
      obtain ⟨x0, x1⟩ := rd_wd hx.out k
      obtain ⟨y0, y1⟩ := rd_wd hy.out k
      have hyc : k < m → ∃ ad, B = some ad ∧ wr.cell? (ad.add k) = some (.int .u64 (rd ys (k : Int))) := fun h => by
        have h' : k < ys.length := by rw [← hm.out]; exact h
        obtain ⟨ad, e1, e2⟩ := hu.out.cellAt k h'
        exact ⟨ad, e1, by rw [hr.out.below.cell (World.block_lt_of_cell? W _ e2), e2, rd_at ys k h']⟩
      have hyn : ¬ k < m → rd ys (k : Int) = 0 := fun h => rd_out ys k (by rw [← hm.out]; omega)
      obtain ⟨x, hxe⟩ : ∃ x, x = rd xs (k : Int) := ⟨_, rfl⟩
      obtain ⟨y, hye⟩ : ∃ y, y = rd ys (k : Int) := ⟨_, rfl⟩
      rw [← hxe] at x0 x1 hcz
      rw [← hye] at y0 y1 hyc hyn
      have hg : Hid (W.heap.size ≤ g) := Lib.hid (hown.lt g rfl).1
      have hone : Hid (∀ x' c' : Int, 0 ≤ x' ∧ x' < 1000000000 → x' - 1000000000 * c' = x - (c + y) → MinRel W (wr.setCell ⟨g, k, none⟩ (.int .u64 x')) (.slice (some ⟨g, 0, none⟩) n cap) xs ys n (k + 1) (out.set k x') c') := Lib.hid (fun x' c' h0 h1 =>
        min_rel hr.out hlt hn.out (by rw [wds_set]; exact (hr.out.own.stored k _).1) (hr.out.below.setCell (p := ⟨g, k, none⟩) hg.out _) h0 (by rw [h1, hxe, hye]))
      have htwo : Hid (∀ z x' c' : Int, 0 ≤ x' ∧ x' < 1000000000 → x' - 1000000000 * c' = x - (c + y) → MinRel W ((wr.setCell ⟨g, k, none⟩ (.int .u64 z)).setCell ⟨g, k, none⟩ (.int .u64 x')) (.slice (some ⟨g, 0, none⟩) n cap) xs ys n (k + 1) (out.set k x') c') := Lib.hid (fun z x' c' h0 h1 =>
        min_rel hr.out hlt hn.out (by
          have h2 := ((hr.out.own.stored k (.int .u64 z)).1.stored k (.int .u64 x')).1
          rw [List.set_set] at h2
          rw [wds_set]; exact h2) ((hr.out.below.setCell (p := ⟨g, k, none⟩) hg.out _).setCell (p := ⟨g, k, none⟩) hg.out _) h0 (by rw [h1, hxe, hye]))
      replace hown := Lib.hid hown
      clear hol hxe hrd
      replace hye := Lib.hid hye
      by_cases hkm : k < m
      · obtain ⟨ae, rfl, hcy⟩ := hyc hkm
        clear hyc hyn
        by_cases hxy : x < c + y
        · go_wp2_with fail
          go_roundw
          case rel => exact ⟨k + 1, _, 1, by go_num, rfl, by omega, by omega, by omega, Lib.hid (htwo.out (x + 1000000000) (x + 1000000000 - (c + y)) 1 (by omega) (by omega))⟩
          case measure => simp [intOf]; omega
        · go_wp2_with fail
          go_roundw
          case rel => exact ⟨k + 1, _, 0, by go_num, rfl, by omega, by omega, by omega, Lib.hid (hone.out (x - (c + y)) 0 (by omega) (by omega))⟩
          case measure => simp [intOf]; omega
      · have hy0 := hyn hkm
        clear hyc hyn
        subst hy0
        by_cases hxy : x < c
        · go_wp2_with fail
          go_roundw
          case rel => exact ⟨k + 1, _, 1, by go_num, rfl, by omega, by omega, by omega, Lib.hid (htwo.out (x + 1000000000) (x + 1000000000 - c) 1 (by omega) (by omega))⟩
          case measure => simp [intOf]; omega
        · go_wp2_with fail
          go_roundw
          case rel => exact ⟨k + 1, _, 0, by go_num, rfl, by omega, by omega, by omega, Lib.hid (hone.out (x - c) 0 (by omega) (by omega))⟩
          case measure => simp [intOf]; omega
    · obtain rfl : k = n := by omega
      obtain ⟨hol, hB⟩ := own_BAt hr.out.own
      have hnb := norm_b wr _ out hB (by omega)
      have hval : Hid (vB out = vB xs - vB ys) := Lib.hid (by
        have h1 := hr.out.eq
        have h2 := vB_max hr.out.wd
        have h3 := hle.out
        rw [List.take_of_length_le (by omega), List.take_of_length_le (by rw [← hn.out]; omega), List.take_of_length_le (by rw [← hm.out]; omega)] at h1
        rw [← hol] at h2
        have hc : c = 0 ∨ c = 1 := by omega
        rcases hc with rfl | rfl
        · rw [Int.mul_zero] at h1; omega
        · rw [Int.mul_one] at h1; omega)
      clear hB hol
      go_wp2_with fail
      refine hnb.mono ?_
      rintro e w2 ⟨r, rfl, hB2, hb2⟩
      go_wp2_with fail
      go_ret
      exact ⟨r, out, rfl, hB2, hr.out.wd, hval.out, hr.out.below.trans (hb2.mono hr.out.below.size)⟩
/-- The difference of two numbers. -/
theorem minus_b (w : World) (v u : Value) (n m : Nat) (hv : BN w v n) (hu : BN w u m) (hn : (wordsN n).length < 900000) (hm : m ≤ n) : Calls Tryz.prog 131 #[v, u] w (BPost w (wordsN (n - m))) := by
  have hlen : (wordsN m).length ≤ (wordsN n).length := by
    rcases Nat.lt_or_ge (wordsN n).length (wordsN m).length with h | h
    · have := (wordsN_is n).lt_of_len (wordsN_is m) h
      omega
    · exact h
  refine (minus_w w v u _ _ hv hu (wordsN_is n).wd (wordsN_is m).wd hn hlen (by rw [(wordsN_is n).v, (wordsN_is m).v]; omega)).mono ?_
  rintro e w' ⟨r, zs, rfl, hB, hw, hval, hb⟩
  refine ⟨r, rfl, ?_, hb⟩
  rw [← (is_norm (n := n - m) hw (by rw [hval, (wordsN_is n).v, (wordsN_is m).v]; omega)).eq]
  exact hB
end Go.Proofs.YtgobpoeccdgeiaaGreatDoor

namespace Go.Proofs.YtgobpoeccdgeiaaGreatDoor
open Go.RowKit NumP Go.Proofs.YtgobpoeccdgeiaaGreatDoorW.PrintWords
set_option linter.unusedVariables false

theorem run_append_none_c {w : World} {base n c : Nat} {v : Value} {xs : List Value} (hown : w.ownsRow base 142 1 v n xs) (ty : TypeId) :
    (Builtin.append_ #[85, 85] ty #[v, .slice none 0 c]).run Tryz.prog w = .ok v w := by
  obtain ⟨i0, hi, hz0, hz1, hz2⟩ := info_parts info_word
  have ht := Tryz.underlying85
  rcases hown.2 with ⟨rfl, rfl⟩ | ⟨g, cap, cur, rfl, _, _, hnc, _⟩
  · simp [Builtin.append_, run_underlying ht, sizeOf, typeInfo, hi, Builtin.lenOf, Builtin.firstCells]
  · simp [Builtin.append_, run_underlying ht, sizeOf, typeInfo, hi, Builtin.lenOf, Builtin.firstCells, hnc, storeCells]
/-- append of words to a row of one's own. -/
theorem wpList_append_bat {w : World} {ops : Array Oper} {rest : List Oper} {o : Oper} {a : Act} {Q : Exit → Act → World → Prop} (hgd : o.guard = none) (s x : Operand)
    (ho : o.op = .call { callee := .builtin .append, args := #[s, x], argTypes := #[85, 85] }) (base : Nat) (v : Value) (n : Nat) (xs : List Int) (hs : a.eval s = v) (hown : w.ownsRow base 142 1 v n (wds xs))
    (u : Value) (ys : List Int) (hx : a.eval x = u) (hu : BAt w u ys) (b1 : n + ys.length ≤ 1000000) (hbase : base ≤ w.heap.size)
    (h : ∀ v' w', w'.ownsRow base 142 1 v' (n + ys.length) (wds (xs ++ ys)) → Below base w w' → wpList Tryz.prog ops Q rest (a.put o.dst v') w') : wpList Tryz.prog ops Q (o :: rest) a w := by
  obtain ⟨A, c, rfl⟩ := hu.form
  cases A with
  | none =>
    have h0 : ys.length = 0 := by
      rcases Nat.eq_zero_or_pos ys.length with h | h
      · exact h
      · obtain ⟨ad, e, _⟩ := hu.cellAt 0 h
        cases e
    obtain rfl := List.eq_nil_of_length_eq_zero h0
    refine wpList_plain hgd fun K hK => ?_
    have hrun := run_append_none_c (c := c) hown o.type
    unfold Oper.wp
    simp only [List.length_nil] at hx
    simp [execOp, ho, resolve, invoke, builtin, hs, hx, hrun, Result.andThen]
    refine hK _ _ (h v w ?_ (Below.refl _ _))
    simpa using hown
  | some ad =>
    have hc : ∀ j u, (wds ys)[j]? = some u → w.cell? (ad.add j) = some u := fun j u hj => by
      obtain ⟨hjl, hj⟩ := List.getElem?_eq_some_iff.1 hj
      rw [wds_len] at hjl
      obtain ⟨ad', e1, e2⟩ := hu.cellAt j hjl
      cases e1
      rw [e2, ← hj]
      simp [wds]
    obtain ⟨i0, hi, hz0, hz1, hz2⟩ := info_parts info_word
    refine wpList_append_own _ hgd s x 85 ho base 142 i0 (.int .u64 0) 1 8 Tryz.underlying85 hi hz0 hz1 hz2 rfl (by decide) v n (wds xs) hs hown ad ys.length c (wds ys) hx (by rw [wds_len, Nat.mul_one]) hc (by intro y hy; simp [wds] at hy; obtain ⟨q, -, rfl⟩ := hy; rfl) (by unfold maxLen; omega) (by omega) hbase ?_
    intro v' w' hown' hgrow _
    refine h v' w' (by simpa [wds] using hown') (Below.grown (Below.refl _ _) hgrow hbase (fun k hk => (hown.lt k hk).1))
theorem lit_BAt (w : World) (x : Int) : BAt (w.alloc (.cells #[.int .u64 x] 142)) (.slice (some ⟨w.heap.size, 0, none⟩) 1 1) [x] := by
  refine ⟨_, 1, rfl, Nat.le_refl _, by simp, fun _ => ⟨⟨w.heap.size, 0, none⟩, rfl, fun i hi => ?_⟩⟩
  have : i = 0 := by simp at hi; omega
  subst this
  rw [show (Addr.add ⟨w.heap.size, 0, none⟩ 0) = ⟨w.heap.size, 0, none⟩ from rfl, World.cell?_alloc_at _ _ _ _ rfl]
  rfl
theorem lit_own (w : World) (x : Int) : (w.alloc (.cells #[.int .u64 x] 142)).ownsRow w.heap.size 142 1 (.slice (some ⟨w.heap.size, 0, none⟩) 1 1) 1 (wds [x]) :=
  World.ownsRow_lit w #[.int .u64 x] 1 (Nat.le_refl _) (by decide) rfl
/-- Words that a slice leads to, whatever becomes of block q. -/
def BOk (q : Nat) (w : World) (v : Value) (xs : List Int) : Prop := ∀ W' : World, (∀ k, k ≠ q → k < w.heap.size → W'.heap[k]? = w.heap[k]?) → BAt W' v xs
theorem BOk.bat {q : Nat} {w : World} {v : Value} {xs : List Int} (h : BOk q w v xs) : BAt w v xs := h w fun _ _ _ => rfl
theorem BOk.of_own {q base n : Nat} {w : World} {v : Value} {xs : List Int} (h : w.ownsRow base 142 1 v n (wds xs)) (hq : q < base) : BOk q w v xs := fun W' hW => by
  refine (own_BAt (n := n) (base := base) (w := W') ⟨h.1, ?_⟩).2
  rcases h.2 with hn | ⟨g, cap, cur, rfl, hb, hg, rest⟩
  · exact .inl hn
  · refine .inr ⟨g, cap, cur, rfl, hb, ?_, rest⟩
    rw [hW g (by omega) (Array.getElem?_eq_some_iff.1 hg).1]
    exact hg
theorem norm_ok (q : Nat) (w : World) (hq : q < w.heap.size) (v : Value) (xs : List Int) (h : BOk q w v xs) (hl : xs.length < 9223372036854775807) : Calls Tryz.prog 127 #[v] w fun e w' => ∃ r, e = .returned r ∧ BOk q w' r (normL xs) ∧ Below w.heap.size w w' := by
  refine (norm_g w v xs h.bat hl).mono ?_
  rintro e w' ⟨A, k, c, rfl, hk, rfl, hV, hb⟩
  exact ⟨_, rfl, fun W' hW => by rw [hV]; exact (h W' (fun j hj hlt => (hW j hj (Nat.lt_of_lt_of_le hlt hb.size)).trans (hb.block j hlt))).take k hk, hb⟩
/-- The value of the words from k on. -/
def DV (xs : List Int) (k : Nat) : Nat := (vB (xs.drop k)).toNat
theorem DV_eq {xs : List Int} (h : Wd xs) (k : Nat) : (DV xs k : Int) = vB (xs.drop k) := Int.toNat_of_nonneg (vB_nonneg (h.drop k))
theorem DV_step {xs : List Int} (h : Wd xs) (k : Nat) (hk : k < xs.length) : DV xs k = DV xs (k + 1) * 1000000000 + (rd xs (k : Int)).toNat := by
  have h1 := DV_eq h k
  have h2 := DV_eq h (k + 1)
  have h3 := rd_wd h k
  rw [List.drop_eq_getElem_cons hk, vB, ← h2, ← rd_at xs k hk] at h1
  omega
theorem DV_end (xs : List Int) : DV xs xs.length = 0 := by simp [DV, vB]
structure OvRel (W wr : World) (q r : Value) (xs : List Int) (n m k : Nat) (qs : List Int) : Prop where
  own : wr.ownsRow W.heap.size 142 1 q n (wds qs)
  wd : Wd qs
  quo : vB (qs.drop k) = ((DV xs k / m : Nat) : Int)
  rem : BN wr r (DV xs k % m)
  below : Below W.heap.size W wr
set_option maxHeartbeats 2000000 in
set_option maxRecDepth 100000 in
theorem over_w (W : World) (v u : Value) (xs : List Int) (m : Nat) (hv : BAt W v xs) (hu : BN W u m) (hx : Wd xs) (hxl : xs.length ≤ 400000) (hm : (wordsN m).length ≤ 400000) (hm0 : 0 < m) :
    Calls Tryz.prog 128 #[v, u] W fun e w' => ∃ q r, e = .returned (.tuple #[q, r]) ∧ BN w' q (DV xs 0 / m) ∧ BN w' r (DV xs 0 % m) ∧ Below W.heap.size W w' := by
  obtain ⟨A, ca, rfl⟩ := hv.form
  obtain ⟨n, hn⟩ : ∃ n, n = xs.length := ⟨_, rfl⟩
  rw [← hn] at hxl hv ⊢
  have hmk := make_words W n (by omega)
  have hown := made_own W n (by omega)
  obtain ⟨W1, hW1⟩ : ∃ W1, W1 = W.alloc (.cells (madeCells #[.int .u64 0] n) 142) := ⟨_, rfl⟩
  have hb1 : Below W.heap.size W W1 := by rw [hW1]; exact (Below.refl _ _).alloc (Nat.le_refl _) _
  rw [← hW1] at hown hmk
  have hrel : Hid (OvRel W W1 (.slice (some ⟨W.heap.size, 0, none⟩) n n) (.slice none 0 0) xs n m n (List.replicate n 0)) := Lib.hid ⟨hown, (fun y hy => by rw [List.eq_of_mem_replicate hy]; decide), by
      rw [hn, DV_end]; simp [vB], by
      rw [hn, DV_end, Nat.zero_mod]
      exact BAt.nil _, hb1⟩
  replace hn := Lib.hid hn
  replace hv := Lib.hid hv
  replace hu := Lib.hid hu
  replace hx := Lib.hid hx
  clear hown hb1 hW1
  go_enter Tryz.func128, Tryz.ntmps128
  go_wp2_with fail
  clear hmk
  go_loopw [5, 6] (fun rv iv wr => ∃ (k : Nat) (i : Int) (qs : List Int), iv = .int .i64 i ∧ i + 1 = (k : Int) ∧ k ≤ n ∧ Hid (OvRel W wr (.slice (some ⟨W.heap.size, 0, none⟩) n n) rv xs n m k qs)) (fun _ iv _ => (intOf iv + 1).toNat)
  case atStart => exact ⟨n, (n : Int) - 1, _, rfl, by omega, Nat.le_refl _, hrel⟩
  case round =>
    obtain ⟨k, i, qs, rfl, hik, hk, hr⟩ := hrel
    clear hrel
    cases k with
    | zero =>
      obtain rfl : i = -1 := by omega
      obtain ⟨hol, hB⟩ := own_BAt hr.out.own
      have hnb := norm_b wr _ qs hB (by omega)
      have hq : Hid (normL qs = wordsN (DV xs 0 / m)) := Lib.hid (by
        have h1 := hr.out.quo
        rw [List.drop_zero] at h1
        exact (is_norm hr.out.wd h1).eq)
      rw [hq.out] at hnb
      clear hB hol hik
      go_wp2_with fail
      refine hnb.mono ?_
      rintro e w2 ⟨r, rfl, hB2, hb2⟩
      clear hnb
      go_wp2_with fail
      go_ret2
      exact ⟨_, _, rfl, hB2, hr.out.rem.below hb2, hr.out.below.trans (hb2.mono hr.out.below.size)⟩
    | succ j =>
      obtain rfl : i = (j : Int) := by omega
      clear hik
      have hjl : j < xs.length := by rw [← hn.out]; omega
      obtain ⟨ad, rfl, hca⟩ := hv.out.cellAt j hjl
      obtain ⟨x0, x1⟩ := rd_wd hx.out j
      have hcx : wr.cell? (ad.add j) = some (.int .u64 (rd xs (j : Int))) := by
        rw [hr.out.below.cell (World.block_lt_of_cell? W _ hca), hca, rd_at xs j hjl]
      obtain ⟨x, hxe⟩ : ∃ x, x = (rd xs (j : Int)).toNat := ⟨_, rfl⟩
      have hxc : rd xs (j : Int) = (x : Int) := by rw [hxe]; omega
      rw [hxc] at hcx
      have hxlt : x < 1000000000 := by omega
      have hDV := Lib.hid (DV_step hx.out j hjl)
      rw [← hxe] at hDV
      have hjn : (j : Int) < (n : Int) := by omega
      clear hca hxe hxc x0 x1
      have hrem := hr.out.rem
      obtain ⟨r0, hr0⟩ : ∃ r0, r0 = DV xs (j + 1) % m := ⟨_, rfl⟩
      rw [← hr0] at hrem
      have hr0m : Hid (r0 < m) := Lib.hid (by rw [hr0]; exact Nat.mod_lt _ hm0)
      have hrl : (wordsN r0).length ≤ 400000 := by
        rcases Nat.lt_or_ge (wordsN m).length (wordsN r0).length with h | h
        · have := (wordsN_is m).lt_of_len (wordsN_is r0) h
          have := hr0m.out
          omega
        · omega
      replace hr0 := Lib.hid hr0
      obtain ⟨W2, hW2⟩ : ∃ W2, W2 = wr.alloc (.cells #[.int .u64 (x : Int)] 142) := ⟨_, rfl⟩
      have ho2 := lit_own wr (x : Int)
      have hb2 : Below wr.heap.size wr W2 := by rw [hW2]; exact (Below.refl _ _).alloc (Nat.le_refl _) _
      rw [← hW2] at ho2
      have hrem2 := hrem.below hb2
      replace hrem := Lib.hid hrem
      have hs2 : wr.heap.size ≤ W2.heap.size := hb2.size
      replace hb2 := Lib.hid hb2
      go_wp2_with (at_builtin; rw [← hW2]; refine wpList_append_bat rfl _ _ rfl wr.heap.size _ 1 [(x : Int)] rfl ho2 _ (wordsN r0) rfl hrem2 (by omega) hs2 ?_; intro v3 w3 hown3 hb3)
      obtain ⟨h3l, hB3⟩ := own_BAt hown3
      have hqw : W.heap.size < wr.heap.size := by
        have := (hr.out.own.lt W.heap.size rfl).2
        exact this
      have hnb := norm_ok W.heap.size w3 (Nat.lt_of_lt_of_le hqw (Nat.le_trans hs2 hb3.size)) v3 _ (BOk.of_own hown3 hqw) (by rw [← h3l]; omega)
      have hRR : Hid (normL ([(x : Int)] ++ wordsN r0) = wordsN (r0 * 1000000000 + x)) := Lib.hid (norm_cons x r0 hxlt)
      obtain ⟨R, hR⟩ : ∃ R, R = r0 * 1000000000 + x := ⟨_, rfl⟩
      rw [← hR] at hRR
      rw [hRR.out] at hnb
      have hRl : (wordsN R).length ≤ 400001 := by
        have h1 : (normL ([(x : Int)] ++ wordsN r0)).length ≤ _ := normL_len _
        rw [hRR.out] at h1
        simp at h1; omega
      have hRm : Hid (R < m * 1000000000) := Lib.hid (by
        have h1 := hr0m.out
        have h2 : (r0 + 1) * 1000000000 ≤ m * 1000000000 := Nat.mul_le_mul_right _ h1
        omega)
      replace hR := Lib.hid hR
      have hb03 : Hid (Below W.heap.size W w3) := Lib.hid (hr.out.below.trans ((hb2.out.trans hb3).mono hr.out.below.size))
      have ho3 : Hid (w3.ownsRow W.heap.size 142 1 (.slice (some ⟨W.heap.size, 0, none⟩) n n) n (wds qs)) := Lib.hid (own_below (hr.out.own) (hb2.out.trans hb3))
      clear hown3 hB3 h3l hrem2 ho2 hW2 hb2 hs2 hb3 hcx
      refine hnb.mono ?_
      rintro e w4 ⟨r4, rfl, hB4, hb4⟩
      clear hnb
      have hb04 : Hid (Below W.heap.size W w4) := Lib.hid (hb03.out.trans (hb4.mono hb03.out.size))
      have ho4 : Hid (w4.ownsRow W.heap.size 142 1 (.slice (some ⟨W.heap.size, 0, none⟩) n n) n (wds qs)) := Lib.hid (own_below ho3.out hb4)
      have hBk : Hid (BOk W.heap.size w4 r4 (wordsN R)) := Lib.hid hB4
      have hB4 : Hid (BN w4 r4 R) := Lib.hid hBk.out.bat
      have hu4 : Hid (BN w4 u m) := Lib.hid (hu.out.below (hb04.out.mono (Nat.le_refl _)))
      clear hb4
      go_wp2_with fail
      obtain ⟨wo, hwo⟩ : ∃ wo : World, wo = w4 := ⟨_, rfl⟩
      go_loopw [7, 8] (fun lv hv wr => ∃ lo hi : Nat, lv = .int .u64 lo ∧ hv = .int .u64 hi ∧ lo < hi ∧ hi ≤ 1000000000 ∧ Hid (m * lo ≤ R) ∧ Hid (R < m * hi) ∧ Hid (Below w4.heap.size w4 wr)) (fun lv hv _ => (intOf hv - intOf lv).toNat)
      case atStart => exact ⟨0, 1000000000, rfl, rfl, by omega, by omega, Lib.hid (by omega), hRm, Lib.hid (Below.refl _ _)⟩
      case round =>
        obtain ⟨lo, hi, rfl, rfl, hlh, hh9, hlo, hhi, hb5⟩ := hrel
        by_cases hgap : lo + 1 < hi
        · obtain ⟨mid, hmid⟩ : ∃ mid, mid = (lo + hi) / 2 := ⟨_, rfl⟩
          have hm1 : 0 < mid := by omega
          have hm2 : mid < 1000000000 := by omega
          have hm3 : lo < mid := by omega
          have hm4 : mid < hi := by omega
          have hme : Hid (((lo : Int) + (hi : Int)) / 2 = (mid : Int)) := Lib.hid (by omega)
          clear hmid
          have hbm := lit_BAt wr (mid : Int)
          have hbl : Below wr.heap.size wr (wr.alloc (.cells #[.int .u64 (mid : Int)] 142)) := (Below.refl _ _).alloc (Nat.le_refl _) _
          obtain ⟨W6, hW6⟩ : ∃ W6, W6 = wr.alloc (.cells #[.int .u64 (mid : Int)] 142) := ⟨_, rfl⟩
          rw [← hW6] at hbm hbl
          have hb6 : Hid (Below w4.heap.size w4 W6) := Lib.hid (hb5.out.trans (hbl.mono hb5.out.size))
          have hbn : BN W6 (.slice (some ⟨wr.heap.size, 0, none⟩) 1 1) mid := by
            unfold BN
            rw [one_word hm1 hm2]; exact hbm
          have hsm : Small mid := by
            unfold Small
            rw [one_word hm1 hm2]; simp
          have htm := times_b W6 u _ m mid (hu4.out.below hb6.out) hbn (by unfold Small; omega) hsm
          clear hbm hbl hbn
          go_wp2_with fail
          rw [hme.out, ← hW6]
          refine htm.mono ?_
          rintro e w7 ⟨p7, rfl, hB7, hb7⟩
          clear htm
          have hB7 : BN w7 p7 (m * mid) := hB7
          have hb47 : Hid (Below w4.heap.size w4 w7) := Lib.hid (hb6.out.trans (hb7.mono hb6.out.size))
          have hpl : Small (m * mid) := by
            refine Small.of_lt (n := m * mid) (k := (wordsN m).length + 1) ?_ (by omega)
            rw [Nat.pow_succ]
            exact Nat.mul_lt_mul'' (wordsN_is m).lt hm2
          have hcm := cmp_b w7 p7 r4 (m * mid) R hB7 (hB4.out.below hb47.out) hpl (by unfold Small; omega)
          clear hB7 hb7
          go_wp2_with fail
          refine hcm.mono ?_
          rintro e w8 ⟨⟨cr, rfl, hsg⟩, hb8⟩
          clear hcm
          have hb48 : Hid (Below w4.heap.size w4 w8) := Lib.hid (hb47.out.trans (hb8.mono hb47.out.size))
          obtain ⟨sg1, sg2, sg3, sg4⟩ := hsg
          clear hb8
          by_cases hc0 : cr ≤ 0
          · have hle : Hid (m * mid ≤ R) := Lib.hid (by omega)
            clear sg1 sg2
            go_wp2_with fail
            go_roundw
            case rel => exact ⟨mid, hi, rfl, rfl, hm4, hh9, hle, hhi, hb48⟩
            case measure => simp [intOf]; omega
          · have hgt : Hid (R < m * mid) := Lib.hid (by omega)
            clear sg1 sg2
            go_wp2_with fail
            go_roundw
            case rel => exact ⟨lo, mid, rfl, rfl, hm3, by omega, hlo, hgt, hb48⟩
            case measure => simp [intOf]; omega
        · obtain rfl : hi = lo + 1 := by omega
          have hlo9 : lo < 1000000000 := by omega
          have hown5 := own_below ho4.out hb5.out
          have hol := hown5.1
          rw [wds_len, Nat.mul_one] at hol
          have hjn2 : j < n := by omega
          have hfz := hown5.frozenAt j
          obtain ⟨z, hcz⟩ : ∃ z, wr.cell? ⟨W.heap.size, j, none⟩ = some z := by
            rw [hown5.cellAt j (by omega)]
            exact ⟨_, List.getElem?_eq_getElem (by rw [wds_len]; omega)⟩
          have hst := (hown5.stored j (.int .u64 (lo : Int))).1
          rw [← wds_set] at hst
          obtain ⟨W9, hW9⟩ : ∃ W9, W9 = wr.setCell ⟨W.heap.size, j, none⟩ (.int .u64 (lo : Int)) := ⟨_, rfl⟩
          have hb9 : Hid (Below W.heap.size W W9) := Lib.hid (by rw [hW9]; exact (hb04.out.trans (hb5.out.mono hb04.out.size)).setCell (p := ⟨W.heap.size, j, none⟩) (Nat.le_refl _) _)
          have hr9 : BN W9 r4 R := hBk.out W9 (fun k hk hlt => by rw [hW9, Below.heap_setCell _ _ _ _ hk, hb5.out.block k hlt])
          rw [← hW9] at hst
          have hu9 : BN W9 u m := hu.out.below hb9.out
          obtain ⟨W10, hW10⟩ : ∃ W10, W10 = W9.alloc (.cells #[.int .u64 (lo : Int)] 142) := ⟨_, rfl⟩
          have hbl := lit_BAt W9 (lo : Int)
          have hb10 : Below W9.heap.size W9 W10 := by rw [hW10]; exact (Below.refl _ _).alloc (Nat.le_refl _) _
          rw [← hW10] at hbl
          have hn10 := norm_b W10 _ _ hbl (by simp)
          rw [norm_one lo hlo9] at hn10
          replace hr9 := Lib.hid (hr9.below hb10)
          replace hu9 := Lib.hid (hu9.below hb10)
          have hst10 := Lib.hid (own_below hst hb10)
          have hb010 : Hid (Below W.heap.size W W10) := Lib.hid (hb9.out.trans (hb10.mono hb9.out.size))
          have hs9 : Hid (wr.heap.size = W9.heap.size) := Lib.hid (by rw [hW9]; simp [World.setCell])
          rw [← hs9.out] at hn10
          replace hown5 := Lib.hid hown5
          clear hbl hst hb10
          go_wp2_with fail
          rw [← hW9, ← hW10]
          clear hW9 hW10 hfz hcz
          refine hn10.mono ?_
          rintro e w11 ⟨p11, rfl, hB11, hb11⟩
          clear hn10
          have hB11 : BN w11 p11 lo := hB11
          have ht11 := times_b w11 u p11 m lo (hu9.out.below hb11) hB11 (by unfold Small; omega) (Small.of_lt (k := 1) (by omega) (by omega))
          replace hr9 := Lib.hid (hr9.out.below hb11)
          replace hst10 := Lib.hid (own_below hst10.out hb11)
          replace hb010 : Hid (Below W.heap.size W w11) := Lib.hid (hb010.out.trans (hb11.mono hb010.out.size))
          clear hb11 hB11
          go_wp2_with fail
          refine ht11.mono ?_
          rintro e w12 ⟨p12, rfl, hB12, hb12⟩
          clear ht11
          have hB12 : BN w12 p12 (m * lo) := hB12
          have hmn := minus_b w12 r4 p12 R (m * lo) (hr9.out.below hb12) hB12 (by omega) hlo.out
          replace hst10 := Lib.hid (own_below hst10.out hb12)
          replace hb010 : Hid (Below W.heap.size W w12) := Lib.hid (hb010.out.trans (hb12.mono hb010.out.size))
          clear hb12 hB12
          go_wp2_with fail
          refine hmn.mono ?_
          rintro e w13 ⟨r13, rfl, hB13, hb13⟩
          clear hmn
          have hst13 := Lib.hid (own_below hst10.out hb13)
          have hb013 : Hid (Below W.heap.size W w13) := Lib.hid (hb010.out.trans (hb13.mono hb010.out.size))
          clear hb13
          have hfin : Hid (OvRel W w13 (.slice (some ⟨W.heap.size, 0, none⟩) n n) r13 xs n m j (qs.set j (lo : Int))) := Lib.hid (by
            have h1 : m * lo ≤ DV xs (j + 1) % m * 1000000000 + x := by rw [← hr0.out, ← hR.out]; exact hlo.out
            have h2 : DV xs (j + 1) % m * 1000000000 + x < m * (lo + 1) := by rw [← hr0.out, ← hR.out]; exact hhi.out
            obtain ⟨h3, h4⟩ := over_step (DV xs (j + 1)) m x lo hm0 h1 h2
            rw [← hDV.out] at h3 h4
            refine ⟨hst13.out, hr.out.wd.set j (by omega), ?_, ?_, hb013.out⟩
            · have hq := hr.out.quo
              have hjq : j < qs.length := by omega
              rw [List.drop_eq_getElem_cons (by simpa using hjq), vB, set_drop, hq, h3]
              simp
              omega
            · have hB13 : BN w13 r13 (R - m * lo) := hB13
              rw [h4, ← hr0.out, ← hR.out]
              exact hB13)
          clear hlo hhi
          go_wp2_with fail
          go_roundw
          case rel => exact ⟨j, (j : Int) - 1, _, rfl, by omega, by omega, hfin⟩
          case measure => simp [intOf]
/-- The quotient and the rest of two numbers. -/
theorem over_b (w : World) (v u : Value) (n m : Nat) (hv : BN w v n) (hu : BN w u m) (hn : (wordsN n).length ≤ 400000) (hm : (wordsN m).length ≤ 400000) (h0 : 0 < m) :
    Calls Tryz.prog 128 #[v, u] w fun e w' => ∃ q r, e = .returned (.tuple #[q, r]) ∧ BN w' q (n / m) ∧ BN w' r (n % m) ∧ Below w.heap.size w w' := by
  have h := over_w w v u (wordsN n) m hv hu (wordsN_is n).wd hn hm h0
  have e : DV (wordsN n) 0 = n := by
    have h1 := DV_eq (wordsN_is n).wd 0
    rw [List.drop_zero, (wordsN_is n).v] at h1
    omega
  rw [e] at h
  exact h
end Go.Proofs.YtgobpoeccdgeiaaGreatDoor

namespace Go.Proofs.YtgobpoeccdgeiaaGreatDoor
open Go.RowKit NumP Go.Proofs.YtgobpoeccdgeiaaGreatDoorW.PrintWords
set_option linter.unusedVariables false

/-- append to a row of one's own, ws one step of a region that draws its order. -/
theorem step_append_own {P : Program} {ops : Array Oper} {o : Oper} {a : Act} {w : World} {K : Act → World → Prop} {Q : Exit → Act → World → Prop} {E : Prop}
    (hg : o.guard = none) (s x : Operand) (t : TypeId) (hop : o.op = Op.call { callee := Callee.builtin Builtin.append, args := #[s, x], argTypes := #[t, t] })
    (base : Nat) (e : TypeId) (i : TypeInfo) (z : Value) (size bytes : Nat) (h1 : P.underlying t = some (.slice e)) (h2 : P.info? e = some i) (h3 : i.zero = some z) (h4 : i.size = size) (h5 : i.bytes = bytes) (h6 : z.cells.size = size) (h7 : 0 < size)
    (v : Value) (n : Nat) (xs : List Value) (hs : a.eval s = v) (hown : w.ownsRow base e size v n xs)
    (ad : Addr) (m c : Nat) (news : List Value) (hx : a.eval x = .slice (some ad) m c) (hn : news.length = m * size) (hc : ∀ j u, news[j]? = some u → w.cell? (ad.add j) = some u) (h1c : ∀ u ∈ news, u.oneCell' = true)
    (b1 : n + m ≤ maxLen) (b2 : (n + m) * bytes ≤ 140737488355328) (hbase : base ≤ w.heap.size)
    (hK : ∀ v' w', w'.ownsRow base e size v' (n + m) (xs ++ news) → w.grownBy w' v.ownBlock → K (a.put o.dst v') w') :
    if Region.wanted o (yielded ops a.tmps) = true then Oper.wp P o a w K Q else E := by
  have hw : Region.wanted o (yielded ops a.tmps) = true := by simp [Region.wanted, hg]
  rw [if_pos hw]
  obtain ⟨v', w', hrun, r1, r2, _⟩ := run_append_own (P := P) w base t o.type e i z size bytes h1 h2 h3 h4 h5 h6 h7 v n xs hown ad m c news hn hc h1c b1 b2 hbase
  unfold Oper.wp
  simp [execOp, hop, resolve, invoke, builtin, hs, hx, hrun, Result.andThen]
  exact hK v' w' r1 r2
def strSize : Value → Nat
  | .string s => s.size
  | _ => 0
structure FrRel (W wr : World) (v : Value) (s s' : ByteArray) (ws : List Int) : Prop where
  own : wr.ownsRow W.heap.size 142 1 v ws.length (wds ws)
  wd : Wd ws
  below : Below W.heap.size W wr
  eq : vB ws + PW ws.length * (valD s'.data.toList : Int) = (valD s.data.toList : Int)
  dig : ∀ c ∈ s'.data.toList, isDig c = true
  le : ws.length + s'.size ≤ s.size

theorem list_len (s : ByteArray) : s.data.toList.length = s.size := by simp
theorem ext_data (s : ByteArray) (a p : Nat) : (s.extract a p).data.toList = (s.data.toList.drop a).take (p - a) := by simp [ByteArray.data_extract, Array.toList_extract]
theorem ext_drop (s : ByteArray) (k : Nat) : (s.extract k s.size).data.toList = s.data.toList.drop k := by
  rw [ext_data, List.take_of_length_le]
  rw [List.length_drop, list_len]; omega
theorem ext_take (s : ByteArray) (k : Nat) : (s.extract 0 k).data.toList = s.data.toList.take k := by
  rw [ext_data]; simp
theorem data_inj {a b : ByteArray} (h : a.data.toList = b.data.toList) : a = b := by
  apply ByteArray.ext
  exact Array.ext' h
theorem ext_all (s : ByteArray) : s.extract 0 s.size = s := data_inj (by rw [ext_drop]; rfl)
theorem fr_step {W wr w' : World} {v v' : Value} {s s' X s2 : ByteArray} {ws : List Int} {x : Int} {K : Nat} (h : FrRel W wr v s s' ws) (hK : K = s'.size - 9) (h0 : 0 < s'.size) (hX : X.data.toList = s'.data.toList.drop K) (h2 : s2.data.toList = s'.data.toList.take K)
    (hx : x = (valD X.data.toList : Int)) (hx9 : 0 ≤ x ∧ x < 1000000000) (ho : w'.ownsRow W.heap.size 142 1 v' (ws.length + 1) (wds ws ++ [.int .u64 x])) (hb : Below W.heap.size W w') : FrRel W w' v' s s2 (ws ++ [x]) := by
  have hl := list_len s'
  refine ⟨by simpa [wds] using ho, h.wd.snoc hx9, hb, ?_, fun c hc => h.dig c (by rw [h2] at hc; exact List.mem_of_mem_take hc), ?_⟩
  · rw [List.length_append, List.length_singleton, h2, hx, hX, hK, ← hl]
    exact from_step ws s'.data.toList _ h.eq
  · have h3 := h.le
    have h4 : s2.size = min K s'.size := by
      have := list_len s2
      rw [← this, h2, List.length_take, hl]
    rw [List.length_append, List.length_singleton, h4]
    omega
set_option maxHeartbeats 1000000 in
set_option maxRecDepth 100000 in
theorem from_b (s : ByteArray) (W : World) (hs : s.size ≤ 100000) (hd : ∀ c ∈ s.data.toList, isDig c = true) :
    Calls Tryz.prog 118 #[.string s] W (BPost W (wordsN (valD s.data.toList))) := by
  have hrel : Hid (FrRel W W (.slice none 0 0) s s []) := Lib.hid ⟨World.ownsRow_nil _ _ _ _, Wd_nil, Below.refl _ _, by simp [vB, PW], hd, by simp⟩
  clear hd
  obtain ⟨i0, hi, hz0, hz1, hz2⟩ := info_parts info_word
  go_enter Tryz.func118, Tryz.ntmps118
  go_wp2_with fail
  go_loopw [0, 3] (fun sv v wr => ∃ (s' : ByteArray) (ws : List Int) (L : Option Addr) (c : Nat), sv = .string s' ∧ v = .slice L ws.length c ∧ s'.size ≤ 100000 ∧ Hid (FrRel W wr v s s' ws)) (fun sv _ _ => strSize sv)
  case atStart => exact ⟨s, [], none, 0, rfl, rfl, hs, hrel⟩
  case round =>
    obtain ⟨s', ws, L, c, rfl, rfl, hs', hr⟩ := hrel
    by_cases h0 : 0 < s'.size
    · obtain ⟨K, hK⟩ : ∃ K, K = s'.size - 9 := ⟨_, rfl⟩
      obtain ⟨X, hX⟩ : ∃ X, X = s'.extract K s'.size := ⟨_, rfl⟩
      have hXl : Hid (X.data.toList = s'.data.toList.drop K) := Lib.hid (by rw [hX]; exact ext_drop s' K)
      have hXs : X.size = s'.size - K := by rw [hX, ByteArray.size_extract]; omega
      have hXd : Hid (∀ c ∈ X.data.toList, isDig c = true) := Lib.hid (fun c hc => hr.out.dig c (by rw [hXl.out] at hc; exact List.mem_of_mem_drop hc))
      obtain ⟨n, hn⟩ : ∃ n, n = X.size := ⟨_, rfl⟩
      have hn9 : n ≤ 9 := by omega
      have hn1 : 1 ≤ n := by omega
      have hnl : Hid (X.data.toList.length = n) := Lib.hid (by rw [hn, list_len])
      have hcv := Lib.run_convert_string_bytes (P := Tryz.prog) wr 9 116 5 X Tryz.underlying9 Tryz.underlying116 Tryz.underlying5
      obtain ⟨cap2, hcap⟩ : ∃ cap2, cap2 = grownCap wr X.size 0 5 := ⟨_, rfl⟩
      obtain ⟨W2, hW2⟩ : ∃ W2, W2 = Lib.bytesWorld wr 5 X := ⟨_, rfl⟩
      obtain ⟨g, hg⟩ : ∃ g, g = wr.heap.size := ⟨_, rfl⟩
      have hcell : Hid (∀ j, j < n → W2.cell? ⟨g, j, none⟩ = some (.int .u8 (X.data.toList.getD j 0).toNat)) := Lib.hid (fun j hj => by rw [hW2, hg]; exact Lib.bytesWorld_cell wr 5 X j (by omega))
      have hb2 : Hid (Below wr.heap.size wr W2) := Lib.hid (by
        rw [hW2]
        exact ⟨rfl, rfl, rfl, by rw [Lib.bytesWorld_size]; omega, fun k hk => Lib.bytesWorld_at_old wr 5 X k hk⟩)
      rw [← hcap, ← hW2, ← hg, ← hn] at hcv
      rw [hX] at hcv
      have hK1 : Hid (K = s'.size - 9) := Lib.hid hK
      replace hn := Lib.hid hn
      have hXe := Lib.hid hX
      clear hcap hW2 hX hrel
      replace hg := Lib.hid hg
      rcases Nat.lt_or_ge 9 s'.size with h9 | h9
      all_goals first | have g1 : (s'.size : Int) - 9 > 0 := by omega | have g1 : ¬ ((s'.size : Int) - 9 > 0) := by omega
      · rw [hK] at hcv
        clear hK
        go_wp2_with fail
        go_loop [5, 20] (fun wv iv => ∃ (j : Nat) (x : Int), iv = .int .i64 j ∧ wv = .int .u64 x ∧ j ≤ n ∧ 0 ≤ x ∧ x ≤ 999999999 ∧ Hid (x = (valD (X.data.toList.take j) : Int))) (fun _ iv => n - (intOf iv).toNat)
        case atStart => exact ⟨0, 0, rfl, rfl, Nat.zero_le _, by omega, by omega, rfl⟩
        case round =>
          obtain ⟨j, x, rfl, rfl, hj, hx0, hx1, hx⟩ := hrel
          by_cases hjn : j < n
          · have hc := hcell.out j hjn
            have hjl : j < X.data.toList.length := by rw [hnl.out]; exact hjn
            obtain ⟨b, hb⟩ : ∃ b, b = X.data.toList.getD j 0 := ⟨_, rfl⟩
            have hbe : b = X.data.toList[j] := by rw [hb, List.getD_eq_getElem?_getD, List.getElem?_eq_getElem hjl]; rfl
            rw [← hb] at hc
            have hbd := hXd.out b (by rw [hbe]; exact List.getElem_mem _)
            simp only [isDig, Bool.and_eq_true, decide_eq_true_eq] at hbd
            obtain ⟨d0, d1⟩ := hbd
            have hnext : Hid (10 * x + ((b.toNat : Int) - 48) = (valD (X.data.toList.take (j + 1)) : Int)) := Lib.hid (by
              rw [take_snoc _ j hjl, valD_snoc, ← hbe, hx.out]
              omega)
            have hlt : 10 * x + ((b.toNat : Int) - 48) ≤ 999999999 := by
              have h1 := valD_lt (X.data.toList.take (j + 1)) (fun c hc => hXd.out c (List.mem_of_mem_take hc))
              have h2 : (X.data.toList.take (j + 1)).length ≤ 9 := by rw [List.length_take]; omega
              have h3 : 10 ^ (X.data.toList.take (j + 1)).length ≤ 10 ^ 9 := Nat.pow_le_pow_right (by decide) h2
              rw [hnext.out]
              omega
            obtain ⟨q, hq⟩ : ∃ q, q = b.toNat := ⟨_, rfl⟩
            rw [← hq] at hc d0 d1 hnext hlt
            clear hq hb hbe
            go_wp2_with fail
            go_round
            case rel => exact ⟨j + 1, _, by go_num, rfl, by omega, by omega, hlt, hnext⟩
            case measure => simp [intOf]; omega
          · obtain rfl : j = n := by omega
            have hxv : Hid (x = (valD X.data.toList : Int)) := Lib.hid (by rw [hx.out, List.take_of_length_le (by rw [hnl.out]; exact Nat.le_refl _)])
            have hown := hr.out.own
            have hwl := hr.out.le
            have hown2 := own_below hown hb2.out
            have hs2 : W.heap.size ≤ W2.heap.size := Nat.le_trans hr.out.below.size hb2.out.size
            replace hown := Lib.hid hown
            go_wp2_with fail
            have hwn : ws.length ≤ 100000 := by omega
            have k1 : (9 : Int) ≤ (s'.size : Int) := by omega
            have k2 : (s'.size : Int) - 9 ≤ (s'.size : Int) := by omega
            go_region_law (refine step_append_own rfl (.tmp 31) (.tmp 33) 85 rfl W.heap.size 142 i0 (.int .u64 0) 1 8 Tryz.underlying85 hi hz0 hz1 hz2 rfl (by decide) (.slice L ws.length c) ws.length (wds ws) (by simp [Act.eval]) (hown2.drew.alloc _) ⟨W2.heap.size, 0, none⟩ 1 1 [.int .u64 x] (by simp [Act.eval]) rfl (cell_one_new _ _ _) (by intro u hu; simp at hu; subst hu; rfl) (by unfold maxLen; omega) (by omega) (by simp; omega) ?_; intro v3 w3 hown3 hgrow3)
            all_goals
              obtain ⟨L3, c3, hv3⟩ := own_any hown3
              subst hv3
              have hb3 : Hid (Below W.heap.size W w3) := Lib.hid (hr.out.below.trans ((hb2.out.mono hr.out.below.size).trans (Below.grown (((Below.refl W.heap.size W2).drew).alloc hs2 _) hgrow3 (by simp; omega) (fun k hk => (hown2.lt k hk).1))))
              have hown3 := Lib.hid hown3
              clear hown2 hgrow3
              go_simp
              go_wp2_with fail
              go_roundw
              case rel =>
                refine ⟨_, ws ++ [x], L3, c3, rfl, by simp, by first | (simp; done) | (simp; omega), fr_step hr.out hK1.out h0 hXl.out (by rw [show ((s'.size : Int) - 9).toNat = K by rw [hK1.out]; omega]; exact ext_take s' K) hxv.out (by omega) hown3.out hb3.out⟩
              case measure => simp [strSize]; omega
      · have e0 : K = 0 := by omega
        rw [e0, ext_all] at hcv
        have hK0 := Lib.hid e0
        clear hK e0
        go_wp2_with fail
        go_loop [5, 20] (fun wv iv => ∃ (j : Nat) (x : Int), iv = .int .i64 j ∧ wv = .int .u64 x ∧ j ≤ n ∧ 0 ≤ x ∧ x ≤ 999999999 ∧ Hid (x = (valD (X.data.toList.take j) : Int))) (fun _ iv => n - (intOf iv).toNat)
        case atStart => exact ⟨0, 0, rfl, rfl, Nat.zero_le _, by omega, by omega, rfl⟩
        case round =>
          obtain ⟨j, x, rfl, rfl, hj, hx0, hx1, hx⟩ := hrel
          by_cases hjn : j < n
          · have hc := hcell.out j hjn
            have hjl : j < X.data.toList.length := by rw [hnl.out]; exact hjn
            obtain ⟨b, hb⟩ : ∃ b, b = X.data.toList.getD j 0 := ⟨_, rfl⟩
            have hbe : b = X.data.toList[j] := by rw [hb, List.getD_eq_getElem?_getD, List.getElem?_eq_getElem hjl]; rfl
            rw [← hb] at hc
            have hbd := hXd.out b (by rw [hbe]; exact List.getElem_mem _)
            simp only [isDig, Bool.and_eq_true, decide_eq_true_eq] at hbd
            obtain ⟨d0, d1⟩ := hbd
            have hnext : Hid (10 * x + ((b.toNat : Int) - 48) = (valD (X.data.toList.take (j + 1)) : Int)) := Lib.hid (by
              rw [take_snoc _ j hjl, valD_snoc, ← hbe, hx.out]
              omega)
            have hlt : 10 * x + ((b.toNat : Int) - 48) ≤ 999999999 := by
              have h1 := valD_lt (X.data.toList.take (j + 1)) (fun c hc => hXd.out c (List.mem_of_mem_take hc))
              have h2 : (X.data.toList.take (j + 1)).length ≤ 9 := by rw [List.length_take]; omega
              have h3 : 10 ^ (X.data.toList.take (j + 1)).length ≤ 10 ^ 9 := Nat.pow_le_pow_right (by decide) h2
              rw [hnext.out]
              omega
            obtain ⟨q, hq⟩ : ∃ q, q = b.toNat := ⟨_, rfl⟩
            rw [← hq] at hc d0 d1 hnext hlt
            clear hq hb hbe
            go_wp2_with fail
            go_round
            case rel => exact ⟨j + 1, _, by go_num, rfl, by omega, by omega, hlt, hnext⟩
            case measure => simp [intOf]; omega
          · obtain rfl : j = n := by omega
            have hxv : Hid (x = (valD X.data.toList : Int)) := Lib.hid (by rw [hx.out, List.take_of_length_le (by rw [hnl.out]; exact Nat.le_refl _)])
            have hown := hr.out.own
            have hwl := hr.out.le
            have hown2 := own_below hown hb2.out
            have hs2 : W.heap.size ≤ W2.heap.size := Nat.le_trans hr.out.below.size hb2.out.size
            replace hown := Lib.hid hown
            go_wp2_with fail
            have hwn : ws.length ≤ 100000 := by omega
            have k1 : (0 : Int) ≤ (s'.size : Int) := by omega
            go_region_law (refine step_append_own rfl (.tmp 31) (.tmp 33) 85 rfl W.heap.size 142 i0 (.int .u64 0) 1 8 Tryz.underlying85 hi hz0 hz1 hz2 rfl (by decide) (.slice L ws.length c) ws.length (wds ws) (by simp [Act.eval]) (hown2.drew.alloc _) ⟨W2.heap.size, 0, none⟩ 1 1 [.int .u64 x] (by simp [Act.eval]) rfl (cell_one_new _ _ _) (by intro u hu; simp at hu; subst hu; rfl) (by unfold maxLen; omega) (by omega) (by simp; omega) ?_; intro v3 w3 hown3 hgrow3)
            all_goals
              obtain ⟨L3, c3, hv3⟩ := own_any hown3
              subst hv3
              have hb3 : Hid (Below W.heap.size W w3) := Lib.hid (hr.out.below.trans ((hb2.out.mono hr.out.below.size).trans (Below.grown (((Below.refl W.heap.size W2).drew).alloc hs2 _) hgrow3 (by simp; omega) (fun k hk => (hown2.lt k hk).1))))
              have hown3 := Lib.hid hown3
              clear hown2 hgrow3
              go_simp
              go_wp2_with fail
              go_roundw
              case rel =>
                refine ⟨_, ws ++ [x], L3, c3, rfl, by simp, by first | (simp; done) | (simp; omega), fr_step hr.out hK1.out h0 hXl.out (by rw [hK0.out]; rfl) hxv.out (by omega) hown3.out hb3.out⟩
              case measure => simp [strSize]; omega
    · have hz : s'.size = 0 := by omega
      obtain ⟨hol, hB⟩ := own_BAt hr.out.own
      have hnb := norm_b wr _ ws hB (by have := hr.out.le; omega)
      have hq : Hid (normL ws = wordsN (valD s.data.toList)) := Lib.hid (by
        have h1 := hr.out.eq
        have h2 : s'.data.toList = [] := List.eq_nil_of_length_eq_zero (by rw [list_len]; exact hz)
        rw [h2, valD_nil] at h1
        exact (is_norm hr.out.wd (by simpa using h1)).eq)
      rw [hq.out] at hnb
      clear hB hol hz hrel
      go_wp2_with fail
      refine hnb.mono ?_
      rintro e w2 ⟨r, rfl, hB2, hb2⟩
      clear hnb
      go_wp2_with fail
      go_ret
      exact ⟨r, rfl, hB2, hr.out.below.trans (hb2.mono hr.out.below.size)⟩
end Go.Proofs.YtgobpoeccdgeiaaGreatDoor
