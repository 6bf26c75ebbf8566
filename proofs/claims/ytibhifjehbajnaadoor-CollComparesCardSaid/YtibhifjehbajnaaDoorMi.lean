/- The reference's Key. The reference's Compare. CollCompares returns true: the program's Compare beside the reference's. CollKeys returns true: the program's keys beside the reference's. -/
import Derived.Test.YtibhifjehbajnaaDoorMg
import Derived.Test.YtibhifjehbajnaaDoorMc
import Derived.Test.YtibhifjehbajnaaDoorMh

namespace Go.Proofs.YtibhifjehbajnaaDoor
open Go.RowKit Go.Maps
set_option linter.unusedVariables false

/-- The bytes before level k. -/
def accK (t : CT) (cs : List Int) (k : Nat) : List Int := if k = 0 then [] else keyK t cs k
def zeroK (k : Nat) : List Int := if k = 0 then [] else [0, 0, 0]
theorem accK_succ (t : CT) (cs : List Int) (k : Nat) (hk : k < 3) : accK t cs (k + 1) = (accK t cs k ++ zeroK k) ++ levelOf t k cs := by
  have h : k = 0 ∨ k = 1 ∨ k = 2 := by omega
  rcases h with rfl | rfl | rfl
  · simp [accK, zeroK, keyK_one]
  · simp only [accK, zeroK]
    exact keyK_two t cs
  · simp only [accK, zeroK]
    exact keyK_three t cs
theorem accK_len (t : CT) (cs : List Int) (k : Nat) : (accK t cs k).length ≤ 9 * cs.length + 6 := by
  unfold accK
  split
  · simp
  · exact keyK_len t cs k
theorem keyP_acc {t : CT} {s : ByteArray} (ht : isText s = true) (hst : stOk t) (k : Nat) (h1 : (1 ≤ k ∧ t.st ≤ k) ∨ k = 3) (h3 : k ≤ 3) (h2 : k ≤ 1 ∨ (k : Int) - 1 < t.st) : keyP t s = accK t (runesOf s) k := by
  unfold keyP accK
  rw [if_pos ht]
  obtain ⟨q1, q2⟩ := hst
  have h0 : k ≠ 0 := by omega
  rw [if_neg h0]
  congr 1
  split
  · omega
  · split
    · omega
    · omega
theorem info_u8 : (Tryd.prog.info? 5).map (fun i => (i.zero, i.size, i.bytes)) = some (some (.int .u8 0), 1, 1) := by kernel_rfl
structure KeyRel (w1 wr : World) (v : Value) (acc : List Int) : Prop where
  own : wr.ownsRow w1.heap.size 5 1 v acc.length (byteVs acc)
  below : Below w1.heap.size w1 wr
theorem byteVs_app (a b : List Int) : byteVs (a ++ b) = byteVs a ++ byteVs b := by simp [byteVs]
theorem levelOf_snoc (t : CT) (k : Nat) (cs : List Int) (j : Nat) (hj : j < cs.length) : levelOf t k (cs.take (j + 1)) = levelOf t k (cs.take j) ++ lev1 t k cs[j] := by
  unfold levelOf
  rw [List.take_succ_eq_append_getElem hj, List.map_append, List.flatten_append]
  simp
theorem own_any {w : World} {base e size n : Nat} {v : Value} {xs : List Value} (h : w.ownsRow base e size v n xs) : ∃ L cap, v = .slice L n cap := by
  rcases h.2 with ⟨hv, h0⟩ | ⟨g, cap, cur', hv, _⟩
  · exact ⟨none, 0, by rw [hv, h0]⟩
  · exact ⟨_, cap, hv⟩

set_option maxHeartbeats 1000000 in
set_option maxRecDepth 100000 in
theorem RKey_none (W : World) (b : Nat) (s : ByteArray) (hs : s.size ≤ 10000) (ht : isText s = false) : Calls Tryd.prog 19 #[.pointer (some ⟨b, 0, none⟩), .string s] W (KeyPost W []) := by
  have hp := rpoints_calls s W (by omega)
  rw [ht, if_neg (by decide)] at hp
  go_enter Tryd.func19, Tryd.ntmps19
  go_wp2_with fail
  refine hp.mono ?_
  rintro e w1 ⟨v, rfl, -, hb⟩
  go_wp2_with fail
  go_ret
  exact ⟨.slice none 0 0, rfl, World.ownsRow_nil _ _ _ _, hb⟩

set_option maxHeartbeats 4000000 in
set_option maxRecDepth 100000 in
theorem RKey_some (W : World) (B b : Nat) (t : CT) (h : RTab W B b t.M t.last t.st) (s : ByteArray) (hs : s.size ≤ 10000) (hM : t.M.length ≤ 4096) (hl : 0 ≤ t.last.1 ∧ t.last.1 ≤ 1000000) (hi : TIn t.M) (hst : stOk t) (ht : isText s = true) :
    Calls Tryd.prog 19 #[.pointer (some ⟨b, 0, none⟩), .string s] W (KeyPost W (keyP t s)) := by
  have hp := rpoints_calls s W (by omega)
  rw [ht, if_pos rfl] at hp
  have hkp : Hid (∀ k : Nat, ((1 ≤ k ∧ t.st ≤ k) ∨ k = 3) → k ≤ 3 → (k ≤ 1 ∨ (k : Int) - 1 < t.st) → keyP t s = accK t (runesOf s) k) := Lib.hid (fun k => keyP_acc ht hst k)
  have hn : (runesOf s).length ≤ s.size := runesOf_len s
  have hch : Hid (∀ c ∈ runesOf s, 0 ≤ c ∧ c ≤ 1114111) := Lib.hid (fun c hc => by
    have := isCharB_cases ((text_enc ht).2 c hc)
    omega)
  obtain ⟨cs, hcs⟩ : ∃ cs, cs = runesOf s := ⟨_, rfl⟩
  rw [← hcs] at hp hkp hn hch
  clear hcs
  replace hl := Lib.hid hl
  replace hi := Lib.hid hi
  replace hst := Lib.hid hst
  replace h := Lib.hid h
  clear ht
  go_enter Tryd.func19, Tryd.ntmps19
  go_wp2_with fail
  refine hp.mono ?_
  rintro e w1 ⟨v1, rfl, ho1, hb1⟩
  clear hp
  replace ho1 := ho1 trivial
  obtain ⟨L, cap1, rfl⟩ := own_any ho1
  have hat : Hid (∀ k (hk : k < cs.length), ∃ g, L = some ⟨g, 0, none⟩ ∧ w1.cell? ⟨g, k, none⟩ = some (.int .i64 (cs[k]'hk))) := Lib.hid (by
    intro k hk
    rcases ho1.2 with ⟨hv, h0⟩ | ⟨g, cap', cur', hv, _⟩
    · omega
    · cases hv
      refine ⟨g, rfl, ?_⟩
      rw [ho1.cellAt k (by omega)]
      simp [hk])
  have h1 : Hid (RTab w1 B b t.M t.last t.st) := Lib.hid (h.out.below hb1)
  replace hb1 := Lib.hid hb1
  obtain ⟨n, hnn⟩ : ∃ n, n = cs.length := ⟨_, rfl⟩
  rw [← hnn] at hn ⊢
  replace hnn := Lib.hid hnn
  clear ho1
  go_wp2_with fail
  obtain ⟨i0, hi0, hz0, hz1, hz2⟩ := info_parts info_u8
  go_loopw [7, 8] (fun v i wr => ∃ (k : Nat) (L7 : Option Addr) (c7 m7 : Nat), v = .slice L7 m7 c7 ∧ i = .int .i64 k ∧ k ≤ 3 ∧ Hid (m7 = (accK t cs k).length) ∧ m7 ≤ 9 * n + 6 ∧ Hid (KeyRel w1 wr v (accK t cs k)) ∧ Hid (k ≤ 1 ∨ (k : Int) - 1 < t.st)) (fun _ i _ => 3 - (intOf i).toNat)
  case atStart => exact ⟨0, none, 0, 0, rfl, rfl, by omega, rfl, by omega, ⟨World.ownsRow_nil _ _ _ _, Below.refl _ _⟩, .inl (by omega)⟩
  case round =>
    obtain ⟨k, L7, c7, m7, rfl, rfl, hk, hm7, hm7l, hr, hkst⟩ := hrel
    by_cases h3 : k < 3
    · have c4 : wr.cell? ⟨b, 4, none⟩ = some (.int .i64 t.st) := by
        obtain ⟨v, hv, _⟩ := (h1.out.below hr.out.below).blk
        rw [Lib.cell_of_heap hv]; rfl
      by_cases hret : 0 < k ∧ t.st ≤ k
      · obtain ⟨hk0, hks⟩ := hret
        have g1 : ((k : Int) > 0) := by omega
        have g2 : ((k : Int) ≥ t.st) := hks
        go_wp2_with fail
        go_ret
        have e := hkp.out k (.inl ⟨hk0, hks⟩) hk hkst.out
        exact ⟨.slice L7 m7 c7, rfl, by rw [e]; exact hr.out.own.base hb1.out.size, hb1.out.trans (hr.out.below.mono hb1.out.size)⟩
      · by_cases hk0 : k = 0
        · replace hk0 := Lib.hid hk0
          have g1 : ¬ ((k : Int) > 0) := by have := hk0.out; omega
          go_wp2_with fail
          obtain ⟨wo, hwo⟩ : ∃ wo : World, wo = wr := ⟨_, rfl⟩
          go_loopw [7, 9] (fun v i wr => ∃ (j : Nat) (L8 : Option Addr) (c8 m8 : Nat), v = .slice L8 m8 c8 ∧ i = .int .i64 j ∧ j ≤ n ∧ Hid (m8 = ((accK t cs k ++ zeroK k) ++ levelOf t k (cs.take j)).length) ∧ m8 ≤ 9 * n + 9 + 3 * j ∧ Hid (KeyRel w1 wr v ((accK t cs k ++ zeroK k) ++ levelOf t k (cs.take j)))) (fun _ i _ => n - (intOf i).toNat)
          case atStart => exact ⟨0, _, _, _, rfl, rfl, Nat.zero_le _, ⟨Lib.hid (by rw [hm7.out, hk0.out]; simp [zeroK, levelOf]), by omega, ⟨by rw [hk0.out]; have := hr.out.own; rw [hk0.out] at this; simpa [zeroK, levelOf] using this, hr.out.below⟩⟩⟩
          case round =>
            obtain ⟨j, L8, c8, m8, rfl, rfl, hj, hm8, hm8l, hr8⟩ := hrel
            by_cases hjn : j < n
            · have hjc : j < cs.length := by rw [← hnn.out]; exact hjn
              obtain ⟨g, rfl, hcell⟩ := hat.out j hjc
              obtain ⟨c, hc⟩ : ∃ c, c = cs[j]'hjc := ⟨_, rfl⟩
              have hcr := hch.out c (by rw [hc]; exact List.getElem_mem _)
              have hcj : wr.cell? ⟨g, j, none⟩ = some (.int .i64 c) := by
                rw [hr8.out.below.cell (p := ⟨g, j, none⟩) (World.block_lt_of_cell? w1 _ hcell), hcell, hc]
              have hsn := Lib.hid (levelOf_snoc t k cs j hjc)
              rw [← hc] at hsn
              have hwt := Weights_calls wr B b t.M t.last t.st c (h1.out.below hr8.out.below) (by omega) hcr hl.out
              have hwt' : Calls Tryd.prog 45 #[.pointer (some ⟨b, 0, none⟩), .int .i64 c] wr fun e w' => e = .returned (.agg #[.int .i64 (weightOf t c).1, .int .i64 (weightOf t c).2.1, .int .i64 (weightOf t c).2.2]) ∧ Below wr.heap.size wr w' := hwt
              obtain ⟨⟨b0, b1, b2, b3, b4, b5⟩, i1, i2⟩ := weight_in hi.out hM hl.out hcr
              have hlev : Hid (lev1 t k c = if 0 < comp (weightOf t c) k then three (comp (weightOf t c) k) else []) := Lib.hid rfl
              obtain ⟨x, hx⟩ : ∃ x, x = weightOf t c := ⟨_, rfl⟩
              rw [← hx] at hwt' b0 b1 b2 b3 b4 b5 i1 i2 hlev
              have hcomp : (0 ≤ comp x k ∧ comp x k ≤ 3000000) ∧ (0 < x.1 ↔ 0 < comp x k) := by
                have h : k = 0 ∨ k = 1 ∨ k = 2 := by omega
                rcases h with rfl | rfl | rfl
                · exact ⟨⟨b0, b1⟩, Iff.rfl⟩
                · exact ⟨⟨b2, b3⟩, i1⟩
                · exact ⟨⟨b4, b5⟩, i2⟩
              obtain ⟨⟨y0, y1⟩, y2⟩ := hcomp
              replace y2 := Lib.hid y2
              have hget : Hid ((#[Value.int .i64 x.1, .int .i64 x.2.1, .int .i64 x.2.2] : Array Value)[k]? = some (.int .i64 (comp x k))) := Lib.hid (by
                have h : k = 0 ∨ k = 1 ∨ k = 2 := by omega
                rcases h with rfl | rfl | rfl <;> rfl)
              clear hwt hx hc hcell hcr i1 i2 b2 b3 b4 b5 hwo
              go_wp2_with fail
              refine hwt'.mono ?_
              rintro e w5 ⟨rfl, hb5⟩
              clear hwt' hcj
              have hr5 : Hid (KeyRel w1 w5 (.slice L8 m8 c8) ((accK t cs k ++ zeroK k) ++ levelOf t k (cs.take j))) := Lib.hid ⟨ownsRow_below hr8.out.own hb5, hr8.out.below.trans (hb5.mono hr8.out.below.size)⟩
              obtain ⟨W6, hW6⟩ : ∃ W6, W6 = w5.alloc (.cells #[.int .i64 x.1, .int .i64 x.2.1, .int .i64 x.2.2] 29) := ⟨_, rfl⟩
              obtain ⟨q, hq⟩ : ∃ q, q = w5.heap.size := ⟨_, rfl⟩
              have hb6 : Below w5.heap.size w5 W6 := by rw [hW6]; exact (Below.refl _ _).alloc (Nat.le_refl _) _
              have hr6 : Hid (KeyRel w1 W6 (.slice L8 m8 c8) ((accK t cs k ++ zeroK k) ++ levelOf t k (cs.take j))) := Lib.hid ⟨ownsRow_below hr5.out.own hb6, hr5.out.below.trans (hb6.mono hr5.out.below.size)⟩
              have a0 : W6.cell? ⟨q, 0, none⟩ = some (.int .i64 x.1) := by rw [hW6, hq, World.cell?_alloc_at _ _ _ _ rfl]; rfl
              have ak : W6.cell? ⟨q, k, none⟩ = some (.int .i64 (comp x k)) := by rw [hW6, hq, World.cell?_alloc_at _ _ _ _ rfl]; exact hget.out
              clear hb5 hb6
              by_cases hx0 : 0 < x.1
              · have hgt : x.1 > 0 := hx0
                have hyp := y2.out.1 hx0
                have h3c := three_calls (comp x k) W6 y0 (by omega)
                have hcat : Hid ((accK t cs k ++ zeroK k) ++ levelOf t k (cs.take (j + 1)) = ((accK t cs k ++ zeroK k) ++ levelOf t k (cs.take j)) ++ three (comp x k)) := Lib.hid (by rw [hsn.out, hlev.out, if_pos hyp]; simp only [List.append_assoc])
                have h3e : Hid (threeR (comp x k) = three (comp x k)) := Lib.hid (threeR_eq _ y0 (by omega))
                go_wp2_with fail
                rw [← hW6, ← hq]
                clear hW6 hq
                go_wp2_with fail
                have hgl : ∀ h, ([Value.int .i64 x.1, .int .i64 x.2.1, .int .i64 x.2.2] : List Value)[k]'h = .int .i64 (comp x k) := fun h => by
                  have := hget.out
                  rw [Array.getElem?_eq_getElem (by simpa using h)] at this
                  exact Option.some.inj this
                rw [hgl]
                clear hgl
                refine h3c.mono ?_
                rintro e w7 ⟨rfl, hw7⟩
                have hb7 : Below W6.heap.size W6 w7 := by rw [hw7]; exact (Below.refl _ _).alloc (Nat.le_refl _) _
                have hc7 : Hid (∀ i u, ((threeR (comp x k)).map (Value.int .u8))[i]? = some u → w7.cell? (Addr.add ⟨W6.heap.size, 0, none⟩ i) = some u) := Lib.hid (by rw [hw7]; exact cells_new W6 _ 5)
                have hr7 : Hid (KeyRel w1 w7 (.slice L8 m8 c8) ((accK t cs k ++ zeroK k) ++ levelOf t k (cs.take j))) := Lib.hid ⟨ownsRow_below hr6.out.own hb7, hr6.out.below.trans (hb7.mono hr6.out.below.size)⟩
                have hown7 : w7.ownsRow w1.heap.size 5 1 (.slice L8 m8 c8) m8 (byteVs (accK t cs k ++ zeroK k ++ levelOf t k (cs.take j))) := by
                  have := hr7.out.own
                  rw [← hm8.out] at this
                  exact this
                have hs7 : w1.heap.size ≤ w7.heap.size := hr7.out.below.size
                obtain ⟨q7, hq7⟩ : ∃ q7, q7 = W6.heap.size := ⟨_, rfl⟩
                rw [← hq7] at hc7 ⊢
                clear hw7 hb7 h3c a0 ak hq7
                go_wp2_with (at_builtin; refine wpList_append_own _ rfl _ _ 35 rfl w1.heap.size 5 i0 (.int .u8 0) 1 1 Tryd.underlying35 hi0 hz0 hz1 hz2 rfl (by decide) (.slice L8 m8 c8) m8 _ rfl hown7 ⟨q7, 0, none⟩ 3 3 ((threeR (comp x k)).map (Value.int .u8)) rfl rfl hc7.out (by intro u hu; simp [threeR] at hu; rcases hu with rfl | rfl | rfl <;> rfl) (by unfold maxLen; omega) (by omega) hs7 ?_; intro v9 w9 hown9 hgrow9 hnil9)
                have hb9 : Hid (Below w1.heap.size w1 w9) := Lib.hid (Below.grown hr7.out.below hgrow9 hs7 (fun i hi => (hr7.out.own.lt _ hi).1))
                obtain ⟨L9, c9, rfl⟩ := own_any hown9
                go_roundw
                case rel =>
                  refine ⟨j + 1, L9, c9, m8 + 3, rfl, by go_num, by omega, ?_, by omega, ⟨?_, hb9.out⟩⟩
                  · show m8 + 3 = _
                    rw [hcat.out, List.length_append (bs := three (comp x k)), three_len, ← hm8.out]
                  · rw [hcat.out]
                    have e1 : (((accK t cs k ++ zeroK k) ++ levelOf t k (cs.take j)) ++ three (comp x k)).length = m8 + 3 := by rw [List.length_append (bs := three (comp x k)), three_len, ← hm8.out]
                    rw [e1, byteVs_app, ← h3e.out]
                    exact hown9
                case measure => simp [intOf]; omega
              · have hgt : ¬ (x.1 > 0) := hx0
                have hyn : ¬ 0 < comp x k := fun q => hx0 (y2.out.2 q)
                have hcat : Hid ((accK t cs k ++ zeroK k) ++ levelOf t k (cs.take (j + 1)) = (accK t cs k ++ zeroK k) ++ levelOf t k (cs.take j)) := Lib.hid (by rw [hsn.out, hlev.out, if_neg hyn, List.append_nil])
                go_wp2_with fail
                rw [← hW6]
                clear hW6 hq a0 ak
                go_wp2_with fail
                go_roundw
                case rel =>
                  exact ⟨j + 1, L8, c8, m8, rfl, by go_num, by omega, Lib.hid (by rw [hcat.out]; exact hm8.out), by omega, Lib.hid (by rw [hcat.out]; exact hr6.out)⟩
                case measure => simp [intOf]; omega
            · obtain rfl : j = n := by omega
              have hfull : Hid (accK t cs (k + 1) = (accK t cs k ++ zeroK k) ++ levelOf t k (cs.take j)) := Lib.hid (by rw [accK_succ t cs k h3, hnn.out, List.take_length])
              have hlenf := accK_len t cs (k + 1)
              go_wp2_with fail
              go_roundw
              case rel =>
                refine ⟨k + 1, L8, c8, m8, rfl, by go_num, by omega, Lib.hid (by rw [hfull.out]; exact hm8.out), ?_, Lib.hid (by rw [hfull.out]; exact hr8.out), Lib.hid ?_⟩
                · rw [hm8.out, ← hfull.out]
                  rw [← hnn.out] at hlenf
                  exact hlenf
                · exact .inl (by rw [hk0.out]; omega)
              case measure => simp [intOf]; omega
        · have hk1 : 0 < k := by omega
          have hkl : (k : Int) < t.st := by omega
          have g1 : ((k : Int) > 0) := by omega
          have g2 : ¬ ((k : Int) ≥ t.st) := by omega
          have hz0 : Hid (zeroK k = three 0) := Lib.hid (by unfold zeroK; rw [if_neg hk0]; rfl)
          have h3c := three_calls 0 wr (by omega) (by omega)
          clear hk0
          go_wp2_with fail
          refine h3c.mono ?_
          rintro e w7 ⟨rfl, hw7⟩
          have hb7 : Below wr.heap.size wr w7 := by rw [hw7]; exact (Below.refl _ _).alloc (Nat.le_refl _) _
          have hc7 : Hid (∀ i u, ((threeR 0).map (Value.int .u8))[i]? = some u → w7.cell? (Addr.add ⟨wr.heap.size, 0, none⟩ i) = some u) := Lib.hid (by rw [hw7]; exact cells_new wr _ 5)
          have hr7 : Hid (KeyRel w1 w7 (.slice L7 m7 c7) (accK t cs k)) := Lib.hid ⟨ownsRow_below hr.out.own hb7, hr.out.below.trans (hb7.mono hr.out.below.size)⟩
          have hown7 : w7.ownsRow w1.heap.size 5 1 (.slice L7 m7 c7) m7 (byteVs (accK t cs k)) := by
            have := hr7.out.own
            rw [← hm7.out] at this
            exact this
          have hs7 : w1.heap.size ≤ w7.heap.size := hr7.out.below.size
          obtain ⟨q7, hq7⟩ : ∃ q7, q7 = wr.heap.size := ⟨_, rfl⟩
          rw [← hq7] at hc7 ⊢
          clear hw7 hb7 h3c hq7 c4
          obtain ⟨i5, hi5, hy0, hy1, hy2⟩ := info_parts info_u8
          go_wp2_with (at_builtin; refine wpList_append_own _ rfl _ _ 35 rfl w1.heap.size 5 i5 (.int .u8 0) 1 1 Tryd.underlying35 hi5 hy0 hy1 hy2 rfl (by decide) (.slice L7 m7 c7) m7 _ rfl hown7 ⟨q7, 0, none⟩ 3 3 ((threeR 0).map (Value.int .u8)) rfl rfl hc7.out (by intro u hu; simp [threeR] at hu; subst hu; rfl) (by unfold maxLen; omega) (by omega) hs7 ?_; intro v9 w9 hown9 hgrow9 hnil9)
          have hb9 : Hid (Below w1.heap.size w1 w9) := Lib.hid (Below.grown hr7.out.below hgrow9 hs7 (fun i hi => (hr7.out.own.lt _ hi).1))
          obtain ⟨L9, c9, rfl⟩ := own_any hown9
          have hown9' := Lib.hid hown9
          clear hown9 hgrow9 hnil9 hown7
          obtain ⟨wo, hwo⟩ : ∃ wo : World, wo = w9 := ⟨_, rfl⟩
          go_loopw [7, 9] (fun v i wr => ∃ (j : Nat) (L8 : Option Addr) (c8 m8 : Nat), v = .slice L8 m8 c8 ∧ i = .int .i64 j ∧ j ≤ n ∧ Hid (m8 = ((accK t cs k ++ zeroK k) ++ levelOf t k (cs.take j)).length) ∧ m8 ≤ 9 * n + 9 + 3 * j ∧ Hid (KeyRel w1 wr v ((accK t cs k ++ zeroK k) ++ levelOf t k (cs.take j)))) (fun _ i _ => n - (intOf i).toNat)
          case atStart =>
            refine ⟨0, _, _, _, rfl, rfl, Nat.zero_le _, Lib.hid ?_, by omega, ⟨?_, hb9.out⟩⟩
            · rw [List.take_zero, hz0.out, hm7.out]
              simp [three_len, levelOf]
            · rw [List.take_zero, hz0.out]
              have e1 : (accK t cs k ++ three 0 ++ levelOf t k []).length = m7 + 3 := by rw [hm7.out]; simp [three_len, levelOf]
              rw [e1]
              have e2 : byteVs (accK t cs k ++ three 0 ++ levelOf t k []) = byteVs (accK t cs k) ++ (threeR 0).map (Value.int .u8) := by
                rw [byteVs_app, byteVs_app]
                simp [levelOf, byteVs, threeR, three]
              rw [e2]
              exact hown9'.out
          case round =>
            obtain ⟨j, L8, c8, m8, rfl, rfl, hj, hm8, hm8l, hr8⟩ := hrel
            by_cases hjn : j < n
            · have hjc : j < cs.length := by rw [← hnn.out]; exact hjn
              obtain ⟨g, rfl, hcell⟩ := hat.out j hjc
              obtain ⟨c, hc⟩ : ∃ c, c = cs[j]'hjc := ⟨_, rfl⟩
              have hcr := hch.out c (by rw [hc]; exact List.getElem_mem _)
              have hcj : wr.cell? ⟨g, j, none⟩ = some (.int .i64 c) := by
                rw [hr8.out.below.cell (p := ⟨g, j, none⟩) (World.block_lt_of_cell? w1 _ hcell), hcell, hc]
              have hsn := Lib.hid (levelOf_snoc t k cs j hjc)
              rw [← hc] at hsn
              have hwt := Weights_calls wr B b t.M t.last t.st c (h1.out.below hr8.out.below) (by omega) hcr hl.out
              have hwt' : Calls Tryd.prog 45 #[.pointer (some ⟨b, 0, none⟩), .int .i64 c] wr fun e w' => e = .returned (.agg #[.int .i64 (weightOf t c).1, .int .i64 (weightOf t c).2.1, .int .i64 (weightOf t c).2.2]) ∧ Below wr.heap.size wr w' := hwt
              obtain ⟨⟨b0, b1, b2, b3, b4, b5⟩, i1, i2⟩ := weight_in hi.out hM hl.out hcr
              have hlev : Hid (lev1 t k c = if 0 < comp (weightOf t c) k then three (comp (weightOf t c) k) else []) := Lib.hid rfl
              obtain ⟨x, hx⟩ : ∃ x, x = weightOf t c := ⟨_, rfl⟩
              rw [← hx] at hwt' b0 b1 b2 b3 b4 b5 i1 i2 hlev
              have hcomp : (0 ≤ comp x k ∧ comp x k ≤ 3000000) ∧ (0 < x.1 ↔ 0 < comp x k) := by
                have h : k = 0 ∨ k = 1 ∨ k = 2 := by omega
                rcases h with rfl | rfl | rfl
                · exact ⟨⟨b0, b1⟩, Iff.rfl⟩
                · exact ⟨⟨b2, b3⟩, i1⟩
                · exact ⟨⟨b4, b5⟩, i2⟩
              obtain ⟨⟨y0, y1⟩, y2⟩ := hcomp
              replace y2 := Lib.hid y2
              have hget : Hid ((#[Value.int .i64 x.1, .int .i64 x.2.1, .int .i64 x.2.2] : Array Value)[k]? = some (.int .i64 (comp x k))) := Lib.hid (by
                have h : k = 0 ∨ k = 1 ∨ k = 2 := by omega
                rcases h with rfl | rfl | rfl <;> rfl)
              clear hwt hx hc hcell hcr i1 i2 b2 b3 b4 b5 hwo hz0
              go_wp2_with fail
              refine hwt'.mono ?_
              rintro e w5 ⟨rfl, hb5⟩
              clear hwt' hcj
              have hr5 : Hid (KeyRel w1 w5 (.slice L8 m8 c8) ((accK t cs k ++ zeroK k) ++ levelOf t k (cs.take j))) := Lib.hid ⟨ownsRow_below hr8.out.own hb5, hr8.out.below.trans (hb5.mono hr8.out.below.size)⟩
              obtain ⟨W6, hW6⟩ : ∃ W6, W6 = w5.alloc (.cells #[.int .i64 x.1, .int .i64 x.2.1, .int .i64 x.2.2] 29) := ⟨_, rfl⟩
              obtain ⟨q, hq⟩ : ∃ q, q = w5.heap.size := ⟨_, rfl⟩
              have hb6 : Below w5.heap.size w5 W6 := by rw [hW6]; exact (Below.refl _ _).alloc (Nat.le_refl _) _
              have hr6 : Hid (KeyRel w1 W6 (.slice L8 m8 c8) ((accK t cs k ++ zeroK k) ++ levelOf t k (cs.take j))) := Lib.hid ⟨ownsRow_below hr5.out.own hb6, hr5.out.below.trans (hb6.mono hr5.out.below.size)⟩
              have a0 : W6.cell? ⟨q, 0, none⟩ = some (.int .i64 x.1) := by rw [hW6, hq, World.cell?_alloc_at _ _ _ _ rfl]; rfl
              have ak : W6.cell? ⟨q, k, none⟩ = some (.int .i64 (comp x k)) := by rw [hW6, hq, World.cell?_alloc_at _ _ _ _ rfl]; exact hget.out
              clear hb5 hb6
              by_cases hx0 : 0 < x.1
              · have hgt : x.1 > 0 := hx0
                have hyp := y2.out.1 hx0
                have h3c := three_calls (comp x k) W6 y0 (by omega)
                have hcat : Hid ((accK t cs k ++ zeroK k) ++ levelOf t k (cs.take (j + 1)) = ((accK t cs k ++ zeroK k) ++ levelOf t k (cs.take j)) ++ three (comp x k)) := Lib.hid (by rw [hsn.out, hlev.out, if_pos hyp]; simp only [List.append_assoc])
                have h3e : Hid (threeR (comp x k) = three (comp x k)) := Lib.hid (threeR_eq _ y0 (by omega))
                go_wp2_with fail
                rw [← hW6, ← hq]
                clear hW6 hq
                go_wp2_with fail
                have hgl : ∀ h, ([Value.int .i64 x.1, .int .i64 x.2.1, .int .i64 x.2.2] : List Value)[k]'h = .int .i64 (comp x k) := fun h => by
                  have := hget.out
                  rw [Array.getElem?_eq_getElem (by simpa using h)] at this
                  exact Option.some.inj this
                rw [hgl]
                clear hgl
                refine h3c.mono ?_
                rintro e w7 ⟨rfl, hw7⟩
                have hb7 : Below W6.heap.size W6 w7 := by rw [hw7]; exact (Below.refl _ _).alloc (Nat.le_refl _) _
                have hc7 : Hid (∀ i u, ((threeR (comp x k)).map (Value.int .u8))[i]? = some u → w7.cell? (Addr.add ⟨W6.heap.size, 0, none⟩ i) = some u) := Lib.hid (by rw [hw7]; exact cells_new W6 _ 5)
                have hr7 : Hid (KeyRel w1 w7 (.slice L8 m8 c8) ((accK t cs k ++ zeroK k) ++ levelOf t k (cs.take j))) := Lib.hid ⟨ownsRow_below hr6.out.own hb7, hr6.out.below.trans (hb7.mono hr6.out.below.size)⟩
                have hown7 : w7.ownsRow w1.heap.size 5 1 (.slice L8 m8 c8) m8 (byteVs (accK t cs k ++ zeroK k ++ levelOf t k (cs.take j))) := by
                  have := hr7.out.own
                  rw [← hm8.out] at this
                  exact this
                have hs7 : w1.heap.size ≤ w7.heap.size := hr7.out.below.size
                obtain ⟨q7, hq7⟩ : ∃ q7, q7 = W6.heap.size := ⟨_, rfl⟩
                rw [← hq7] at hc7 ⊢
                clear hw7 hb7 h3c a0 ak hq7
                go_wp2_with (at_builtin; refine wpList_append_own _ rfl _ _ 35 rfl w1.heap.size 5 i5 (.int .u8 0) 1 1 Tryd.underlying35 hi5 hy0 hy1 hy2 rfl (by decide) (.slice L8 m8 c8) m8 _ rfl hown7 ⟨q7, 0, none⟩ 3 3 ((threeR (comp x k)).map (Value.int .u8)) rfl rfl hc7.out (by intro u hu; simp [threeR] at hu; rcases hu with rfl | rfl | rfl <;> rfl) (by unfold maxLen; omega) (by omega) hs7 ?_; intro v9 w9 hown9 hgrow9 hnil9)
                have hb9 : Hid (Below w1.heap.size w1 w9) := Lib.hid (Below.grown hr7.out.below hgrow9 hs7 (fun i hi => (hr7.out.own.lt _ hi).1))
                obtain ⟨L9, c9, rfl⟩ := own_any hown9
                go_roundw
                case rel =>
                  refine ⟨j + 1, L9, c9, m8 + 3, rfl, by go_num, by omega, ?_, by omega, ⟨?_, hb9.out⟩⟩
                  · show m8 + 3 = _
                    rw [hcat.out, List.length_append (bs := three (comp x k)), three_len, ← hm8.out]
                  · rw [hcat.out]
                    have e1 : (((accK t cs k ++ zeroK k) ++ levelOf t k (cs.take j)) ++ three (comp x k)).length = m8 + 3 := by rw [List.length_append (bs := three (comp x k)), three_len, ← hm8.out]
                    rw [e1, byteVs_app, ← h3e.out]
                    exact hown9
                case measure => simp [intOf]; omega
              · have hgt : ¬ (x.1 > 0) := hx0
                have hyn : ¬ 0 < comp x k := fun q => hx0 (y2.out.2 q)
                have hcat : Hid ((accK t cs k ++ zeroK k) ++ levelOf t k (cs.take (j + 1)) = (accK t cs k ++ zeroK k) ++ levelOf t k (cs.take j)) := Lib.hid (by rw [hsn.out, hlev.out, if_neg hyn, List.append_nil])
                go_wp2_with fail
                rw [← hW6]
                clear hW6 hq a0 ak
                go_wp2_with fail
                go_roundw
                case rel =>
                  exact ⟨j + 1, L8, c8, m8, rfl, by go_num, by omega, Lib.hid (by rw [hcat.out]; exact hm8.out), by omega, Lib.hid (by rw [hcat.out]; exact hr6.out)⟩
                case measure => simp [intOf]; omega
            · obtain rfl : j = n := by omega
              have hfull : Hid (accK t cs (k + 1) = (accK t cs k ++ zeroK k) ++ levelOf t k (cs.take j)) := Lib.hid (by rw [accK_succ t cs k h3, hnn.out, List.take_length])
              have hlenf := accK_len t cs (k + 1)
              go_wp2_with fail
              go_roundw
              case rel =>
                refine ⟨k + 1, L8, c8, m8, rfl, by go_num, by omega, Lib.hid (by rw [hfull.out]; exact hm8.out), ?_, Lib.hid (by rw [hfull.out]; exact hr8.out), Lib.hid ?_⟩
                · rw [hm8.out, ← hfull.out]
                  rw [← hnn.out] at hlenf
                  exact hlenf
                · exact .inr (by omega)
              case measure => simp [intOf]; omega
    · obtain rfl : k = 3 := by omega
      go_wp2_with fail
      go_ret
      have e := hkp.out 3 (.inr rfl) (by omega) hkst.out
      exact ⟨.slice L7 m7 c7, rfl, by rw [e]; exact hr.out.own.base hb1.out.size, hb1.out.trans (hr.out.below.mono hb1.out.size)⟩
/-- Key, for any text. -/
theorem RKey_calls (W : World) (B b : Nat) (t : CT) (h : RTab W B b t.M t.last t.st) (s : ByteArray) (hs : s.size ≤ 10000) (hM : t.M.length ≤ 4096) (hl : 0 ≤ t.last.1 ∧ t.last.1 ≤ 1000000) (hi : TIn t.M) (hst : stOk t) :
    Calls Tryd.prog 19 #[.pointer (some ⟨b, 0, none⟩), .string s] W (KeyPost W (keyP t s)) := by
  cases ht : isText s with
  | false => rw [keyP_none ht]; exact RKey_none W b s hs ht
  | true => exact RKey_some W B b t h s hs hM hl hi hst ht
end Go.Proofs.YtibhifjehbajnaaDoor

namespace Go.Proofs.YtibhifjehbajnaaDoor
open Go.RowKit Go.Maps
set_option linter.unusedVariables false

def InB (xs : List Int) : Prop := ∀ x ∈ xs, 0 ≤ x ∧ x < 256
theorem InB.app {a b : List Int} (ha : InB a) (hb : InB b) : InB (a ++ b) := fun x hx => (List.mem_append.1 hx).elim (ha x) (hb x)
theorem three_in (n : Int) : InB (three n) := fun x hx => by
  simp only [three, List.mem_cons, List.not_mem_nil, or_false] at hx
  rcases hx with rfl | rfl | rfl <;> omega
theorem level_in (t : CT) (k : Nat) : ∀ cs : List Int, InB (levelOf t k cs)
  | [] => fun x hx => by simp [levelOf] at hx
  | c :: cs => by
    have ih := level_in t k cs
    have e : levelOf t k (c :: cs) = lev1 t k c ++ levelOf t k cs := by simp [levelOf]
    rw [e]
    refine InB.app ?_ ih
    unfold lev1
    split
    · exact three_in _
    · intro x hx; simp at hx
theorem zeros_in : InB [0, 0, 0] := fun x hx => by simp at hx; omega
theorem keyK_in (t : CT) (cs : List Int) (k : Nat) : InB (keyK t cs k) := by
  unfold keyK
  refine InB.app (InB.app (level_in _ _ _) ?_) ?_
  · by_cases h : 2 ≤ k
    · rw [if_pos h]; exact zeros_in.app (level_in _ _ _)
    · rw [if_neg h]; intro x hx; simp at hx
  · by_cases h : 3 ≤ k
    · rw [if_pos h]; exact zeros_in.app (level_in _ _ _)
    · rw [if_neg h]; intro x hx; simp at hx
theorem keyP_in (t : CT) (s : ByteArray) : InB (keyP t s) := by
  unfold keyP
  by_cases h : isText s
  · rw [if_pos h]; exact keyK_in _ _ _
  · rw [if_neg h]; intro x hx; simp at hx
theorem u8_ltI {x y : Int} (hx : 0 ≤ x ∧ x < 256) (hy : 0 ≤ y ∧ y < 256) : UInt8.ofNat x.toNat < UInt8.ofNat y.toNat ↔ x < y := by
  have f : ∀ m : Int, 0 ≤ m → m < 256 → (UInt8.ofNat m.toNat).toNat = m.toNat := fun m a b => by
    rw [UInt8.toNat_ofNat']; omega
  rw [UInt8.lt_iff_toNat_lt, f x hx.1 hx.2, f y hy.1 hy.2]
  omega
theorem cmpB_cons {x y : Int} (xs ys : List Int) (hx : 0 ≤ x ∧ x < 256) (hy : 0 ≤ y ∧ y < 256) : cmpB (x :: xs) (y :: ys) = if x < y then -1 else if y < x then 1 else cmpB xs ys := by
  show Lib.compareBytes (UInt8.ofNat x.toNat :: Lib.bytesOf xs) (UInt8.ofNat y.toNat :: Lib.bytesOf ys) = _
  rw [Lib.compareBytes]
  simp only [u8_ltI hx hy, u8_ltI hy hx]
  rfl
theorem cmpB_nil_nil : cmpB [] [] = 0 := rfl
theorem cmpB_nil_cons (y : Int) (ys : List Int) : cmpB [] (y :: ys) = -1 := rfl
theorem cmpB_cons_nil (x : Int) (xs : List Int) : cmpB (x :: xs) [] = 1 := rfl
theorem cmpB_end {xs ys : List Int} {k : Nat} (h1 : k ≤ xs.length) (h2 : k ≤ ys.length) (h : k = xs.length ∨ k = ys.length) : cmpB (xs.drop k) (ys.drop k) = if xs.length < ys.length then -1 else if ys.length < xs.length then 1 else 0 := by
  rcases Nat.lt_trichotomy xs.length ys.length with hl | hl | hl
  · have e : k = xs.length := by omega
    rw [if_pos hl, e, List.drop_length, List.drop_eq_getElem_cons hl, cmpB_nil_cons]
  · have e : k = xs.length := by omega
    rw [if_neg (by omega), if_neg (by omega), e, List.drop_length, hl, List.drop_length]; rfl
  · have e : k = ys.length := by omega
    rw [if_neg (by omega), if_pos hl, e, List.drop_length, List.drop_eq_getElem_cons hl, cmpB_cons_nil]
theorem key_at {w : World} {base n cap : Nat} {L : Option Addr} {xs : List Int} (h : w.ownsRow base 5 1 (.slice L n cap) xs.length (byteVs xs)) : n = xs.length ∧ ∀ k (hk : k < xs.length), ∃ g, L = some ⟨g, 0, none⟩ ∧ w.cell? ⟨g, k, none⟩ = some (.int .u8 (xs[k]'hk)) := by
  rcases h.2 with ⟨hv, h0⟩ | ⟨g, cap', cur', hv, _⟩
  · injection hv with _ h1 _
    exact ⟨h1.trans h0.symm, fun k hk => by omega⟩
  · injection hv with h1 h2 h3
    subst h1 h2 h3
    refine ⟨rfl, fun k hk => ⟨g, rfl, ?_⟩⟩
    rw [h.cellAt k (by omega)]
    simp [byteVs, hk]

set_option maxHeartbeats 4000000 in
set_option maxRecDepth 100000 in
theorem RCmp_calls (W : World) (B b : Nat) (t : CT) (h : RTab W B b t.M t.last t.st) (x y : ByteArray) (hx : x.size ≤ 10000) (hy : y.size ≤ 10000) (hM : t.M.length ≤ 4096) (hl : 0 ≤ t.last.1 ∧ t.last.1 ≤ 1000000) (hi : TIn t.M) (hst : stOk t) :
    Calls Tryd.prog 22 #[.pointer (some ⟨b, 0, none⟩), .string x, .string y] W fun e w' => e = .returned (.int .i64 (cmpP t x y)) ∧ Below W.heap.size W w' := by
  have hk1 := RKey_calls W B b t h x hx hM hl hi hst
  replace h := Lib.hid h
  replace hi := Lib.hid hi
  replace hst := Lib.hid hst
  have hcp : Hid (cmpP t x y = cmpB (keyP t x) (keyP t y)) := Lib.hid rfl
  go_enter Tryd.func22, Tryd.ntmps22
  go_wp2_with fail
  refine hk1.mono ?_
  rintro e w1 ⟨v1, rfl, ho1, hb1⟩
  have hk2 := RKey_calls w1 B b t (h.out.below hb1) y hy hM hl hi.out hst.out
  replace ho1 := Lib.hid ho1
  clear hk1
  go_wp2_with fail
  refine hk2.mono ?_
  rintro e w2 ⟨v2, rfl, ho2, hb2⟩
  clear hk2
  obtain ⟨xs, hxs⟩ : ∃ xs, xs = keyP t x := ⟨_, rfl⟩
  obtain ⟨ys, hys⟩ : ∃ ys, ys = keyP t y := ⟨_, rfl⟩
  have hinx : Hid (InB xs) := Lib.hid (by rw [hxs]; exact keyP_in t x)
  have hiny : Hid (InB ys) := Lib.hid (by rw [hys]; exact keyP_in t y)
  have hxl : xs.length ≤ 100000 := by
    rw [hxs]; unfold keyP
    have h1 := runesOf_len x
    split
    · exact Nat.le_trans (keyK_len _ _ _) (by omega)
    · simp
  have hyl : ys.length ≤ 100000 := by
    rw [hys]; unfold keyP
    have h1 := runesOf_len y
    split
    · exact Nat.le_trans (keyK_len _ _ _) (by omega)
    · simp
  have ho12 : w2.ownsRow W.heap.size 5 1 v1 xs.length (byteVs xs) := by rw [hxs]; exact ownsRow_below ho1.out hb2
  rw [← hys] at ho2
  rw [← hxs, ← hys] at hcp
  clear hxs hys ho1
  obtain ⟨L1, cap1, rfl⟩ := own_any ho12
  obtain ⟨L2, cap2, rfl⟩ := own_any ho2
  have ha1 := Lib.hid (key_at ho12).2
  have ha2 := Lib.hid (key_at ho2).2
  obtain ⟨n, hn⟩ : ∃ n, n = xs.length := ⟨_, rfl⟩
  obtain ⟨m, hm⟩ : ∃ m, m = ys.length := ⟨_, rfl⟩
  rw [← hn] at hxl ⊢
  rw [← hm] at hyl ⊢
  replace hn := Lib.hid hn
  replace hm := Lib.hid hm
  have hb02 : Hid (Below W.heap.size W w2) := Lib.hid (hb1.trans (hb2.mono hb1.size))
  clear ho12 ho2 hb1 hb2
  go_wp2_with fail
  go_loopw [9] (fun i wr => ∃ k : Nat, i = .int .i64 k ∧ k ≤ n ∧ k ≤ m ∧ Hid (cmpP t x y = cmpB (xs.drop k) (ys.drop k)) ∧ Hid (Below w2.heap.size w2 wr)) (fun i _ => n - (intOf i).toNat)
  case atStart => exact ⟨0, rfl, Nat.zero_le _, Nat.zero_le _, by rw [List.drop_zero, List.drop_zero]; exact hcp, Below.refl _ _⟩
  case round =>
    obtain ⟨k, rfl, hkn, hkm, hh, hbr⟩ := hrel
    by_cases hlt : k < n ∧ k < m
    · obtain ⟨h1, h2⟩ := hlt
      have h1' : k < xs.length := by rw [← hn.out]; exact h1
      have h2' : k < ys.length := by rw [← hm.out]; exact h2
      obtain ⟨g1, rfl, c1⟩ := ha1.out k h1'
      obtain ⟨g2, rfl, c2⟩ := ha2.out k h2'
      obtain ⟨p, hp⟩ : ∃ p, p = xs[k]'h1' := ⟨_, rfl⟩
      obtain ⟨q, hq⟩ : ∃ q, q = ys[k]'h2' := ⟨_, rfl⟩
      have d1 : wr.cell? ⟨g1, k, none⟩ = some (.int .u8 p) := by rw [hbr.out.cell (p := ⟨g1, k, none⟩) (World.block_lt_of_cell? w2 _ c1), c1, hp]
      have d2 : wr.cell? ⟨g2, k, none⟩ = some (.int .u8 q) := by rw [hbr.out.cell (p := ⟨g2, k, none⟩) (World.block_lt_of_cell? w2 _ c2), c2, hq]
      have hcc : Hid (cmpP t x y = if p < q then -1 else if q < p then 1 else cmpB (xs.drop (k + 1)) (ys.drop (k + 1))) := Lib.hid (by
        rw [hh.out, List.drop_eq_getElem_cons h1', List.drop_eq_getElem_cons h2', cmpB_cons _ _ (hinx.out _ (List.getElem_mem _)) (hiny.out _ (List.getElem_mem _)), ← hp, ← hq])
      clear c1 c2 hp hq h1' h2'
      have e1 : (0 : Int) ≤ (k : Int) := by omega
      have e2 : ((k : Int) < (n : Int)) := by omega
      have e3 : ((k : Int) < (m : Int)) := by omega
      rcases Int.lt_trichotomy p q with hpq | hpq | hpq
      · have f1 : p < q := hpq
        go_wp2_with fail
        go_quiet (fail)
        go_wp2_with fail
        go_ret
        exact ⟨by rw [hcc.out, if_pos hpq]; rfl, hb02.out.trans ((below_drewN hbr.out _).mono hb02.out.size)⟩
      · have f1 : ¬ p < q := by omega
        have f2 : ¬ q < p := by omega
        replace hcc : Hid (cmpP t x y = cmpB (xs.drop (k + 1)) (ys.drop (k + 1))) := Lib.hid (by rw [hcc.out, if_neg f1, if_neg f2])
        clear hpq
        go_wp2_with fail
        go_quiet (fail)
        obtain ⟨w4, hw4⟩ : ∃ w4, w4 = wr.drewN nq := ⟨_, rfl⟩
        have hb4 : Hid (Below w2.heap.size w2 w4) := Lib.hid (by rw [hw4]; exact below_drewN hbr.out _)
        replace d1 : w4.cell? ⟨g1, k, none⟩ = some (.int .u8 p) := by rw [hw4, World.cell?_drewN]; exact d1
        replace d2 : w4.cell? ⟨g2, k, none⟩ = some (.int .u8 q) := by rw [hw4, World.cell?_drewN]; exact d2
        rw [← hw4]
        clear hw4
        go_wp2_with fail
        go_quiet (fail)
        go_wp2_with fail
        go_roundw
        case rel => exact ⟨k + 1, by go_num, by omega, by omega, hcc, below_drewN hb4.out _⟩
        case measure => simp [intOf]; omega
      · have f1 : ¬ p < q := by omega
        have f2 : q < p := hpq
        go_wp2_with fail
        go_quiet (fail)
        obtain ⟨w4, hw4⟩ : ∃ w4, w4 = wr.drewN nq := ⟨_, rfl⟩
        have hb4 : Hid (Below w2.heap.size w2 w4) := Lib.hid (by rw [hw4]; exact below_drewN hbr.out _)
        replace d1 : w4.cell? ⟨g1, k, none⟩ = some (.int .u8 p) := by rw [hw4, World.cell?_drewN]; exact d1
        replace d2 : w4.cell? ⟨g2, k, none⟩ = some (.int .u8 q) := by rw [hw4, World.cell?_drewN]; exact d2
        rw [← hw4]
        clear hw4
        go_wp2_with fail
        go_quiet (fail)
        go_wp2_with fail
        go_ret
        exact ⟨by rw [hcc.out, if_neg (by omega), if_pos (by omega)]; rfl, hb02.out.trans ((below_drewN hb4.out _).mono hb02.out.size)⟩
    · have hend : Hid (cmpP t x y = if n < m then -1 else if m < n then 1 else 0) := Lib.hid (by
        rw [hh.out, hn.out, hm.out]
        have q1 := hn.out
        have q2 := hm.out
        exact cmpB_end (by omega) (by omega) (by omega))
      by_cases hkn1 : k < n
      · have hkm1 : ¬ k < m := fun q => hlt ⟨hkn1, q⟩
        have hnm : ¬ n < m := by omega
        have hmn : m < n := by omega
        go_wp2_with fail
        go_ret
        exact ⟨by rw [hend.out, if_neg hnm, if_pos hmn]; rfl, hb02.out.trans (hbr.out.mono hb02.out.size)⟩
      · by_cases hnm : n < m
        · go_wp2_with fail
          go_ret
          exact ⟨by rw [hend.out, if_pos hnm]; rfl, hb02.out.trans (hbr.out.mono hb02.out.size)⟩
        · have hmn : ¬ m < n := by omega
          go_wp2_with fail
          go_ret
          exact ⟨by rw [hend.out, if_neg hnm, if_neg hmn]; rfl, hb02.out.trans (hbr.out.mono hb02.out.size)⟩
end Go.Proofs.YtibhifjehbajnaaDoor

namespace Go.Proofs.YtibhifjehbajnaaDoor
open Go.RowKit Go.Maps
set_option linter.unusedVariables false

/-- Both Parse's, one behind the other: one error for both; if there is none, the program's table gives keys, and the reference's values make a table in memory. -/
theorem t_inv {text : ByteArray} (h : (parseP text).2.1 = 0) : (0 ≤ (parseP text).2.2.last.1 ∧ (parseP text).2.2.last.1 ≤ 1000000) ∧ (parseP text).2.2.M.length ≤ 4096 ∧ TIn (parseP text).2.2.M ∧ stOk (parseP text).2.2 := by
  obtain ⟨h1, h2, h3⟩ := parseP_inv text h
  have h4 := h1.1
  have h5 := h1.2.1
  exact ⟨⟨h4, by omega⟩, h2, parseP_in text, h3⟩
theorem RPost.open {W : World} {R : Int × Int × CT} {e : Ending} {w' : World} (h : RPost W R e w') : ∃ (L : Option Addr) (c : Nat) (t : CT), e = .returned (.tuple #[.agg #[.slice L t.M.length c, .int .i64 t.last.1, .int .i64 t.last.2.1, .int .i64 t.last.2.2, .int .i64 t.st], .int .i64 R.1, .int .i64 R.2.1]) ∧
    w'.ownsRow W.heap.size 97 4 (.slice L t.M.length c) t.M.length (rcells t.M) ∧ Below W.heap.size W w' ∧ (R.2.1 = 0 → t = R.2.2) := by
  obtain ⟨v, t, he, ho, hb, ht⟩ := h
  obtain ⟨L, c, rfl⟩ := own_any ho
  exact ⟨L, c, t, he, ho, hb, ht⟩
/-- The values of a table, stored in a new block. -/
theorem rtab_new {W w2 : World} {L : Option Addr} {c : Nat} {t : CT} (ho : w2.ownsRow W.heap.size 97 4 (.slice L t.M.length c) t.M.length (rcells t.M)) (hb : Below W.heap.size W w2) :
    ∃ W3, W3 = w2.alloc (.cells #[.slice L t.M.length c, .int .i64 t.last.1, .int .i64 t.last.2.1, .int .i64 t.last.2.2, .int .i64 t.st] 31) ∧ RTab W3 W.heap.size w2.heap.size t.M t.last t.st ∧ Below w2.heap.size w2 W3 := by
  have hb3 : Below w2.heap.size w2 (w2.alloc (.cells #[.slice L t.M.length c, .int .i64 t.last.1, .int .i64 t.last.2.1, .int .i64 t.last.2.2, .int .i64 t.st] 31)) := (Below.refl _ _).alloc (Nat.le_refl _) _
  have hblk := (MapKept.heap_alloc w2 (.cells #[.slice L t.M.length c, .int .i64 t.last.1, .int .i64 t.last.2.1, .int .i64 t.last.2.2, .int .i64 t.st] 31)).1
  have ho3 := ownsRow_below ho hb3
  exact ⟨_, rfl, ⟨hb.size, _, hblk, ho3, own_tag ho3 hblk (by decide)⟩, hb3⟩

set_option maxHeartbeats 8000000 in
set_option maxRecDepth 100000 in
theorem compares_calls (text a b : ByteArray) (W : World) (hL : LaidW W) (h0 : text.size ≤ maxLen) (h1 : a.size ≤ maxLen) (h2 : b.size ≤ maxLen) :
    Calls Tryd.prog 5 #[.string text, .string a, .string b] W fun e w' => e = .returned (.bool true) ∧ Below W.heap.size W w' := by
  have hlc : Calls Tryd.prog 14 #[.string text, .slice (some ⟨W.heap.size, 0, none⟩) 2 2] (W.alloc (.cells #[.string a, .string b] 9)) fun e w' => e = .returned (.bool (lightB text [a, b])) ∧ (W.alloc (.cells #[.string a, .string b] 9)) = w' :=
    light_calls text [a, b] W.heap.size _ (strs_of W [a, b]) (by simp)
  have hb1 : Below W.heap.size W (W.alloc (.cells #[.string a, .string b] 9)) := (Below.refl _ _).alloc (Nat.le_refl _) _
  have hL1 := hL.below hb1 hL.size
  go_enter Tryd.func5, Tryd.ntmps5
  cases hl : lightB text [a, b] with
  | false =>
    rw [hl] at hlc
    go_wp2_with (first | (go_at_call 14; refine hlc.mono ?_; rintro e w1 ⟨rfl, rfl⟩) | (go_at_call 15; refine (works_calls _ hL1).mono ?_; rintro e w2 ⟨rfl, hb2⟩))
    go_ret
    exact ⟨rfl, hb1.trans (hb2.mono hb1.size)⟩
  | true =>
    rw [hl] at hlc
    have hz : (a.size ≤ 200 ∧ b.size ≤ 200) ∧ text.size ≤ 2000 := by simpa [lightB] using hl
    obtain ⟨⟨ha, hb⟩, ht⟩ := hz
    clear hl
    go_wp2_with (go_at_call 14; refine hlc.mono ?_; rintro e w1 ⟨rfl, rfl⟩)
    obtain ⟨W1, hW1⟩ : ∃ W1, W1 = W.alloc (.cells #[.string a, .string b] 9) := ⟨_, rfl⟩
    rw [← hW1] at hb1 hL1 ⊢
    clear hW1 hlc
    replace hL1 := Lib.hid hL1
    replace hb1 := Lib.hid hb1
    refine (Parse_gives text W1 hL1.out (by omega)).mono ?_
    rintro e w2 ⟨p, rfl, hp, hb2, hG⟩
    have hR := RParse_calls text w2 ht
    have hti : Hid ((parseP text).2.1 = 0 → _) := Lib.hid (t_inv (text := text))
    have hG0 : Hid ((parseP text).2.1 = 0 → KeyGives w2 p (parseP text).2.2) := Lib.hid (fun h => by
      have := hG
      unfold tabOf at this
      rw [if_pos h] at this
      exact this)
    have hL2 : Hid (LaidW w2) := Lib.hid (hL1.out.below hb2 hL1.out.size)
    have hb02 : Hid (Below W.heap.size W w2) := Lib.hid (hb1.out.trans (hb2.mono hb1.out.size))
    clear hG hb2 hp hL hL1 hb1
    obtain ⟨R, hRR⟩ : ∃ R, R = parseP text := ⟨_, rfl⟩
    rw [← hRR] at hR hti hG0 ⊢
    clear hRR
    obtain ⟨l, er, T⟩ := R
    simp only at hti hG0 ⊢
    go_wp2_with fail
    refine hR.mono ?_
    intro e w3 hpost
    obtain ⟨L, c, t, rfl, ho3, hb3, ht3⟩ := hpost.open
    clear hpost hR
    simp only at ht3
    obtain ⟨W4, hW4, hT4, hb4⟩ := rtab_new ho3 hb3
    obtain ⟨q, hq⟩ : ∃ q, q = w3.heap.size := ⟨_, rfl⟩
    have hb24 : Hid (Below w2.heap.size w2 W4) := Lib.hid (hb3.trans (hb4.mono hb3.size))
    have hL4 : Hid (LaidW W4) := Lib.hid (hL2.out.below hb24.out hL2.out.size)
    have hb04 : Hid (Below W.heap.size W W4) := Lib.hid (hb02.out.trans (hb24.out.mono hb02.out.size))
    rw [← hq] at hT4
    replace hT4 := Lib.hid hT4
    clear ho3 hb3 hb4 hL2
    by_cases he : er = 0
    · have hee : (er != 0) = false := by simp [he]
      obtain rfl := ht3 he
      obtain ⟨k1, k2, k3, k4⟩ := hti.out he
      have hGG := Lib.hid (hG0.out he)
      subst he
      clear hti hG0 ht3
      replace k3 := Lib.hid k3
      replace k4 := Lib.hid k4
      go_wp2_with fail
      rw [← hW4, ← hq]
      clear hW4 hq
      have hc1 := Compare_calls W4 p t (hGG.out.later hb24.out) a b (by omega) (by omega)
      refine hc1.mono ?_
      rintro e w5 ⟨rfl, hb5⟩
      clear hc1
      have hT5 := hT4.out.below hb5
      have hc2 := RCmp_calls w5 _ q t hT5 a b (by omega) (by omega) k2 k1 k3.out k4.out
      have hL5 : Hid (LaidW w5) := Lib.hid (hL4.out.below hb5 hL4.out.size)
      have hb05 : Hid (Below W.heap.size W w5) := Lib.hid (hb04.out.trans (hb5.mono hb04.out.size))
      obtain ⟨x, hx⟩ : ∃ x, x = cmpP t a b := ⟨_, rfl⟩
      rw [← hx] at hc2 ⊢
      clear hx hT5 hb5
      go_wp2_with fail
      refine hc2.mono ?_
      rintro e w6 ⟨rfl, hb6⟩
      clear hc2
      have hL6 : Hid (LaidW w6) := Lib.hid (hL5.out.below hb6 hL5.out.size)
      have hb06 : Hid (Below W.heap.size W w6) := Lib.hid (hb05.out.trans (hb6.mono hb05.out.size))
      clear hb6
      go_wp2_with fail
      refine (works_calls _ hL6.out).mono ?_
      rintro e w7 ⟨rfl, hb7⟩
      go_wp2_with fail
      go_ret
      exact ⟨rfl, hb06.out.trans (hb7.mono hb06.out.size)⟩
    · have hee : (er != 0) = true := by simp [he]
      clear hti hG0 ht3 he
      go_wp2_with fail
      rw [← hW4]
      refine (works_calls _ hL4.out).mono ?_
      rintro e w5 ⟨rfl, hb5⟩
      go_wp2_with fail
      go_ret
      exact ⟨rfl, hb04.out.trans (hb5.mono hb04.out.size)⟩
end Go.Proofs.YtibhifjehbajnaaDoor

namespace Go.Proofs.YtibhifjehbajnaaDoor
open Go.RowKit Go.Maps
set_option linter.unusedVariables false

set_option maxHeartbeats 8000000 in
set_option maxRecDepth 100000 in
theorem keys_calls (text s : ByteArray) (W : World) (hL : LaidW W) (h0 : text.size ≤ maxLen) (h1 : s.size ≤ maxLen) :
    Calls Tryd.prog 4 #[.string text, .string s] W fun e w' => e = .returned (.bool true) ∧ Below W.heap.size W w' := by
  have hlc : Calls Tryd.prog 14 #[.string text, .slice (some ⟨W.heap.size, 0, none⟩) 1 1] (W.alloc (.cells #[.string s] 9)) fun e w' => e = .returned (.bool (lightB text [s])) ∧ (W.alloc (.cells #[.string s] 9)) = w' :=
    light_calls text [s] W.heap.size _ (strs_of W [s]) (by simp)
  have hb1 : Below W.heap.size W (W.alloc (.cells #[.string s] 9)) := (Below.refl _ _).alloc (Nat.le_refl _) _
  have hL1 := hL.below hb1 hL.size
  go_enter Tryd.func4, Tryd.ntmps4
  cases hl : lightB text [s] with
  | false =>
    rw [hl] at hlc
    go_wp2_with (first | (go_at_call 14; refine hlc.mono ?_; rintro e w1 ⟨rfl, rfl⟩) | (go_at_call 15; refine (works_calls _ hL1).mono ?_; rintro e w2 ⟨rfl, hb2⟩))
    go_ret
    exact ⟨rfl, hb1.trans (hb2.mono hb1.size)⟩
  | true =>
    rw [hl] at hlc
    have hz : s.size ≤ 200 ∧ text.size ≤ 2000 := by simpa [lightB] using hl
    obtain ⟨hs, ht⟩ := hz
    clear hl
    go_wp2_with (go_at_call 14; refine hlc.mono ?_; rintro e w1 ⟨rfl, rfl⟩)
    obtain ⟨W1, hW1⟩ : ∃ W1, W1 = W.alloc (.cells #[.string s] 9) := ⟨_, rfl⟩
    rw [← hW1] at hb1 hL1 ⊢
    clear hW1 hlc
    replace hL1 := Lib.hid hL1
    replace hb1 := Lib.hid hb1
    refine (Parse_gives text W1 hL1.out (by omega)).mono ?_
    rintro e w2 ⟨p, rfl, hp, hb2, hG⟩
    have hR := RParse_calls text w2 ht
    have hti : Hid ((parseP text).2.1 = 0 → _) := Lib.hid (t_inv (text := text))
    have hG0 : Hid ((parseP text).2.1 = 0 → KeyGives w2 p (parseP text).2.2) := Lib.hid (fun h => by
      have := hG
      unfold tabOf at this
      rw [if_pos h] at this
      exact this)
    have hL2 : Hid (LaidW w2) := Lib.hid (hL1.out.below hb2 hL1.out.size)
    have hb02 : Hid (Below W.heap.size W w2) := Lib.hid (hb1.out.trans (hb2.mono hb1.out.size))
    replace hp := Lib.hid hp
    clear hG hb2 hL hL1 hb1
    obtain ⟨R, hRR⟩ : ∃ R, R = parseP text := ⟨_, rfl⟩
    rw [← hRR] at hR hti hG0 hp ⊢
    clear hRR
    obtain ⟨l, er, T⟩ := R
    simp only at hti hG0 hp ⊢
    go_wp2_with fail
    refine hR.mono ?_
    intro e w3 hpost
    obtain ⟨L, c, t, rfl, ho3, hb3, ht3⟩ := hpost.open
    clear hpost hR
    simp only at ht3
    obtain ⟨W4, hW4, hT4, hb4⟩ := rtab_new ho3 hb3
    obtain ⟨q, hq⟩ : ∃ q, q = w3.heap.size := ⟨_, rfl⟩
    have hb24 : Hid (Below w2.heap.size w2 W4) := Lib.hid (hb3.trans (hb4.mono hb3.size))
    have hL4 : Hid (LaidW W4) := Lib.hid (hL2.out.below hb24.out hL2.out.size)
    have hb04 : Hid (Below W.heap.size W W4) := Lib.hid (hb02.out.trans (hb24.out.mono hb02.out.size))
    rw [← hq] at hT4
    replace hT4 := Lib.hid hT4
    clear ho3 hb3 hb4 hL2
    by_cases he : er = 0
    · have hee : (er != 0) = false := by simp [he]
      obtain rfl := ht3 he
      obtain ⟨k1, k2, k3, k4⟩ := hti.out he
      have hGG := Lib.hid (hG0.out he)
      subst he
      clear hti hG0 ht3
      replace k3 := Lib.hid k3
      replace k4 := Lib.hid k4
      go_wp2_with fail
      rw [← hW4, ← hq]
      clear hW4 hq
      refine (hGG.out W4 hb24.out s (by omega)).mono ?_
      rintro e w5 ⟨va, rfl, hoa, hb5⟩
      have hT5 := hT4.out.below hb5
      have hc2 := RKey_calls w5 _ q t hT5 s (by omega) k2 k1 k3.out k4.out
      obtain ⟨La, ca, rfl⟩ := own_any hoa
      have hga : Hid (∀ j, (Value.slice La (keyP t s).length ca).ownBlock = some j → W4.heap.size ≤ j ∧ j < w5.heap.size) := Lib.hid (fun j hj => hoa.lt j hj)
      replace hoa := Lib.hid hoa
      replace hb5 := Lib.hid hb5
      obtain ⟨xs, hx⟩ : ∃ xs, xs = keyP t s := ⟨_, rfl⟩
      have hgg : Hid (KeyGives w2 p t) := hGG
      have hxn : Hid (keyP t s = xs) := Lib.hid hx.symm
      have hxl : xs.length ≤ 100000 := by
        rw [hx]; unfold keyP
        have h1 := runesOf_len s
        split
        · exact Nat.le_trans (keyK_len _ _ _) (by omega)
        · simp
      rw [← hx] at hc2 hoa hga ⊢
      clear hx hT5
      obtain ⟨n, hn⟩ : ∃ n, n = xs.length := ⟨_, rfl⟩
      rw [← hn] at hxl hoa hga ⊢
      replace hn := Lib.hid hn
      go_wp2_with fail
      refine hc2.mono ?_
      rintro e w6 ⟨vb, rfl, hob, hb6⟩
      clear hc2
      have hoa6 : w6.ownsRow W4.heap.size 5 1 (.slice La n ca) n (byteVs xs) := ownsRow_below hoa.out hb6
      have hE := Equal_bytes w6 (.slice La n ca) vb xs xs (bytesRd_of (base := W4.heap.size) (by rw [← hn.out]; exact hoa6)) (bytesRd_of hob)
      have heq : (Lib.bytesOf xs == Lib.bytesOf xs) = true := by simp
      rw [heq] at hE
      clear heq
      have hb46 : Hid (Below W4.heap.size W4 w6) := Lib.hid (hb5.out.trans (hb6.mono hb5.out.size))
      replace hoa6 := Lib.hid hoa6
      replace hob := Lib.hid hob
      replace hb6 := Lib.hid hb6
      go_wp2_with fail
      refine hE.mono ?_
      rintro e w7 ⟨rfl, rfl⟩
      clear hE
      go_wp2_with fail
      go_loopw [53] (fun i wr => ∃ (k : Nat) (zs : List Value), i = .int .i64 k ∧ k ≤ n ∧ Hid (wr.ownsRow W4.heap.size 5 1 (.slice La n ca) n zs) ∧ Hid (wr.ownsRow w5.heap.size 5 1 vb xs.length (byteVs xs)) ∧ Hid (Below W4.heap.size W4 wr)) (fun i _ => n - (intOf i).toNat)
      case atStart => exact ⟨0, _, rfl, Nat.zero_le _, hoa6, hob, hb46⟩
      case round =>
        obtain ⟨k, zs, rfl, hk, hza, hzb, hbr⟩ := hrel
        by_cases hlt : k < n
        · obtain ⟨g, rfl⟩ : ∃ g, La = some ⟨g, 0, none⟩ := by
            rcases hza.out.2 with ⟨_, h0⟩ | ⟨g, cap', cur', hv, _⟩
            · omega
            · cases hv; exact ⟨g, rfl⟩
          have hzl := hza.out.1
          obtain ⟨z, hcell⟩ : ∃ z, wr.cell? ⟨g, k, none⟩ = some z := by
            rw [hza.out.cellAt k (by omega)]
            exact ⟨zs[k]'(by omega), List.getElem?_eq_getElem _⟩
          have hfz := hza.out.frozenAt k
          have hst := hza.out.stored k (.int .u8 99)
          have hg := hga.out g rfl
          have hst1 := Lib.hid hst.1
          have hst2 : Hid ((wr.setCell ⟨g, k, none⟩ (.int .u8 99)).ownsRow w5.heap.size 5 1 vb xs.length (byteVs xs)) := Lib.hid (hzb.out.kept hst.2 (by
            cases hvb : vb.ownBlock with
            | none => exact .inl rfl
            | some j =>
              right
              intro e
              injection e with e
              have := (hzb.out.lt j hvb).1
              omega))
          have hst3 : Hid (Below W4.heap.size W4 (wr.setCell ⟨g, k, none⟩ (.int .u8 99))) := Lib.hid (hbr.out.setCell (p := ⟨g, k, none⟩) hg.1 _)
          clear hst hg hzl
          go_wp2_with fail
          go_roundw
          case rel => exact ⟨k + 1, _, by go_num, by omega, hst1, hst2, hst3⟩
          case measure => simp [intOf]; omega
        · obtain rfl : k = n := by omega
          have hkk := hgg.out wr (hb24.out.trans (hbr.out.mono hb24.out.size)) s (by omega)
          rw [hxn.out] at hkk
          go_wp2_with fail
          refine hkk.mono ?_
          rintro e w8 ⟨vc, rfl, hoc, hb8⟩
          clear hkk
          have hE := Equal_bytes w8 vc vb xs xs (bytesRd_of hoc) (bytesRd_of (ownsRow_below hzb.out hb8))
          have heq : (Lib.bytesOf xs == Lib.bytesOf xs) = true := by simp
          rw [heq] at hE
          clear heq
          have hb08 : Hid (Below W.heap.size W w8) := Lib.hid (hb04.out.trans ((hbr.out.trans (hb8.mono hbr.out.size)).mono hb04.out.size))
          have hL8 : Hid (LaidW w8) := Lib.hid (hL4.out.below (hbr.out.trans (hb8.mono hbr.out.size)) hL4.out.size)
          clear hoc hb8
          go_wp2_with fail
          refine hE.mono ?_
          rintro e w9 ⟨rfl, rfl⟩
          clear hE
          go_wp2_with fail
          refine (works_calls _ hL8.out).mono ?_
          rintro e w9 ⟨rfl, hb9⟩
          go_wp2_with fail
          go_ret
          exact ⟨rfl, hb08.out.trans (hb9.mono hb08.out.size)⟩
    · have hee : (er != 0) = true := by simp [he]
      obtain rfl := hp.out.2 he
      clear hti hG0 ht3 he hp
      go_wp2_with fail
      rw [← hW4]
      refine (works_calls _ hL4.out).mono ?_
      rintro e w5 ⟨rfl, hb5⟩
      go_wp2_with fail
      go_ret
      exact ⟨rfl, hb04.out.trans (hb5.mono hb04.out.size)⟩
end Go.Proofs.YtibhifjehbajnaaDoor
