/- coll's Key and Compare, walked: what they return, as plain Lean functions of the table and the text. -/
import Derived.Test.YtibhifjehbajnaaDoorCollKey1
import Derived.Lib.Bytealg
import Derived.Lib.BytesEntry
namespace Go.Proofs.YtibhifjehbajnaaDoor
open Go.RowKit Go.Maps
set_option linter.unusedVariables false

theorem three_len (n : Int) : (three n).length = 3 := rfl
theorem lev1_len (t : CT) (k : Nat) (c : Int) : (lev1 t k c).length ≤ 3 := by
  unfold lev1
  split
  · rw [three_len]; exact Nat.le_refl _
  · simp
theorem levelOf_len (t : CT) (k : Nat) : ∀ cs : List Int, (levelOf t k cs).length ≤ 3 * cs.length
  | [] => by simp [levelOf]
  | c :: cs => by
    rw [levelOf_cons]
    have := lev1_len t k c
    have := levelOf_len t k cs
    simp; omega
theorem runesFrom_len (s : ByteArray) : ∀ (f pos : Nat), (runesFrom s f pos).length ≤ f
  | 0, pos => by simp [runesFrom]
  | f + 1, pos => by
    unfold runesFrom
    split
    · have := runesFrom_len s f (pos + (Utf8.decode s pos).2)
      simp; omega
    · simp
theorem runesOf_len (s : ByteArray) : (runesOf s).length ≤ s.size := runesFrom_len s s.size 0

/-- The bytes of the levels below k. -/
def keyK (t : CT) (cs : List Int) (k : Nat) : List Int :=
  (levelOf t 0 cs ++ (if 2 ≤ k then [0, 0, 0] ++ levelOf t 1 cs else [])) ++ (if 3 ≤ k then [0, 0, 0] ++ levelOf t 2 cs else [])
def keyP (t : CT) (s : ByteArray) : List Int := if isText s then keyK t (runesOf s) (if t.st ≤ 1 then 1 else if t.st = 2 then 2 else 3) else []
theorem keyK_len (t : CT) (cs : List Int) (k : Nat) : (keyK t cs k).length ≤ 9 * cs.length + 6 := by
  have h0 := levelOf_len t 0 cs
  have h1 := levelOf_len t 1 cs
  have h2 := levelOf_len t 2 cs
  unfold keyK
  split <;> split <;> simp <;> omega
theorem keyK_one (t : CT) (cs : List Int) : keyK t cs 1 = levelOf t 0 cs := by simp [keyK]
theorem keyK_two (t : CT) (cs : List Int) : keyK t cs 2 = (keyK t cs 1 ++ [0, 0, 0]) ++ levelOf t 1 cs := by simp [keyK]
theorem keyK_three (t : CT) (cs : List Int) : keyK t cs 3 = (keyK t cs 2 ++ [0, 0, 0]) ++ levelOf t 2 cs := by simp [keyK]

/-- What Key leaves: new bytes. -/
def KeyPost (W : World) (xs : List Int) (e : Ending) (w' : World) : Prop :=
  ∃ v, e = .returned v ∧ w'.ownsRow W.heap.size 5 1 v xs.length (byteVs xs) ∧ Below W.heap.size W w'

set_option maxRecDepth 100000 in
set_option maxHeartbeats 2000000 in
theorem Key_none (W : World) (p : Option Addr) (s : ByteArray) (ht : isText s = false) :
    Calls Tryd.prog 18 #[.pointer p, .string s] W (KeyPost W []) := by
  go_enter Tryd.func18, Tryd.ntmps18
  go_wp2_with (go_at_call 24; refine (IsText_calls _ _).mono ?_; rintro e w1 ⟨rfl, hb1⟩; rw [ht])
  go_ret
  have hb0 : Below W.heap.size W ((W.alloc (.cells #[.pointer p] 24)).alloc (.cells #[.string s] 9)) := ((Below.refl _ _).alloc (Nat.le_refl _) _).alloc (by simp) _
  exact ⟨.slice none 0 0, rfl, World.ownsRow_nil _ _ _ _, hb0.trans (hb1.mono hb0.size)⟩

theorem _root_.Go.World.ownsRow.base {w : World} {base base' : Nat} {e : TypeId} {size : Nat} {v : Value} {n : Nat} {xs : List Value} (h : w.ownsRow base e size v n xs) (hb : base' ≤ base) : w.ownsRow base' e size v n xs := by
  obtain ⟨h1, h2⟩ := h
  refine ⟨h1, ?_⟩
  rcases h2 with h2 | ⟨g, cap, cur, a, b, r⟩
  · exact .inl h2
  · exact .inr ⟨g, cap, cur, a, by omega, r⟩

set_option maxRecDepth 100000 in
set_option maxHeartbeats 4000000 in
theorem Key_some (W : World) (b : Nat) (t : CT) (h : TabRd W b t W.heap.size) (s : ByteArray) (ht : isText s = true) (hl0 : 0 ≤ t.last.1) (hl1 : t.last.1 ≤ 1000000) (hst3 : t.st ≤ 3) (hss : s.size ≤ 4294967296) :
    Calls Tryd.prog 18 #[.pointer (some ⟨b, 0, none⟩), .string s] W (KeyPost W (keyP t s)) := by
  have hmf : ∀ (fn : Fn) (first cap : Array Value) (w : World), (Instr.makeFunc fn first cap).run Tryd.prog w = .ok (.func fn first cap) w := fun _ _ _ _ => rfl
  obtain ⟨i0, hi, hz0, hz1, hz2⟩ := info_parts info_byte
  have hb0 : Below W.heap.size W ((W.alloc (.cells #[.pointer (some ⟨b, 0, none⟩)] 24)).alloc (.cells #[.string s] 9)) := ((Below.refl _ _).alloc (Nat.le_refl _) _).alloc (by simp) _
  have hc0 : ((W.alloc (.cells #[.pointer (some ⟨b, 0, none⟩)] 24)).alloc (.cells #[.string s] 9)).cell? ⟨W.heap.size, 0, none⟩ = some (.pointer (some ⟨b, 0, none⟩)) := by
    rw [World.cell?_alloc_past _ _ _ (by simp), World.cell?_alloc_at _ _ _ _ rfl]; rfl
  have hc1 : ((W.alloc (.cells #[.pointer (some ⟨b, 0, none⟩)] 24)).alloc (.cells #[.string s] 9)).cell? ⟨W.heap.size + 1, 0, none⟩ = some (.string s) := by
    rw [World.cell?_alloc_at _ _ _ _ (by simp)]; rfl
  go_enter Tryd.func18, Tryd.ntmps18
  go_wp2_with (go_at_call 24; refine (IsText_calls _ _).mono ?_; rintro e w1 ⟨rfl, hb1⟩; rw [ht]; have hct : w1.cell? ⟨W.heap.size, 0, none⟩ = some (.pointer (some ⟨b, 0, none⟩)) := (hb1.cell (p := ⟨W.heap.size, 0, none⟩) (by simp; omega)).trans hc0; have hcs : w1.cell? ⟨W.heap.size + 1, 0, none⟩ = some (.string s) := (hb1.cell (p := ⟨W.heap.size + 1, 0, none⟩) (by simp)).trans hc1; have hbW : Below W.heap.size W w1 := hb0.trans (hb1.mono hb0.size); have hs1 : W.heap.size + 2 ≤ w1.heap.size := by have := hb1.size; simpa using this)
  obtain ⟨W4, hW4⟩ : ∃ W4, W4 = w1.alloc (.cells #[.slice none 0 0] 35) := ⟨_, rfl⟩
  obtain ⟨ob, hob⟩ : ∃ ob, ob = w1.heap.size := ⟨_, rfl⟩
  have hb4 : Below W.heap.size W W4 := by rw [hW4]; exact hbW.alloc hbW.size _
  have hct4 : W4.cell? ⟨W.heap.size, 0, none⟩ = some (.pointer (some ⟨b, 0, none⟩)) := by rw [hW4]; exact (World.cell?_alloc_past _ _ _ (by show _ < w1.heap.size; omega)).trans hct
  have hcs4 : W4.cell? ⟨W.heap.size + 1, 0, none⟩ = some (.string s) := by rw [hW4]; exact (World.cell?_alloc_past _ _ _ (by show _ < w1.heap.size; omega)).trans hcs
  have hT4 : TabRd W4 b t ob := ⟨Nat.lt_of_lt_of_le h.lt (by omega), by rw [hW4, hob]; simp, by
    obtain ⟨mo, q1, q2⟩ := (h.below hb4).blk
    refine ⟨mo, q1, ?_⟩
    rcases q2 with q2 | ⟨m, D, q3, q4, q5⟩
    · exact .inl q2
    · exact .inr ⟨m, D, q3, by omega, q5⟩⟩
  have hout4 : W4.heap[ob]? = some (.cells #[.slice none 0 0] 35 (0, 0)) := by rw [hW4, hob]; exact (MapKept.heap_alloc _ _).1
  have hob1 : W.heap.size + 1 < ob := by omega
  have hob0 : W.heap.size < ob := by omega
  have hob3 : ob + 1 ≤ W4.heap.size := by rw [hW4, hob]; simp
  rw [← hW4, ← hob]
  clear hW4 hob hct hcs hbW hs1 hc0 hc1 hb0 hb1
  have hno : W4.ownsRow (ob + 1) 5 1 (.slice none 0 0) ([] : List Int).length (byteVs []) := World.ownsRow_nil _ _ _ _
  have hr := runesOf_len s
  have hoB : ob + 1 ≤ W4.heap.size := hob3
  have hA4 : Around W4 (W.heap.size + 1) W.heap.size ob b (ob + 1) s t (.slice none 0 0) [] :=
    ⟨hob1, hob0, Nat.lt_succ_self _, hob3, hcs4, hct4, hT4, hout4, hno⟩
  refine (level0_calls W4 (W.heap.size + 1) W.heap.size ob b (ob + 1) s t _ [] hA4 hl0 hl1 hss (by simp)).mono ?_
  rintro e w5 ⟨rfl, v5, hA5, hB5⟩
  rw [List.nil_append] at hA5
  have hB5' : Below W.heap.size W w5 := hb4.trans (hB5.below (by omega) (by omega))
  have hE5 : Hid (levelOf t 0 (runesOf s) = keyK t (runesOf s) 1) := (keyK_one _ _).symm
  clear hA4 hcs4 hct4 hT4 hout4 hno

  go_wp2_with fail
  go_loopw [7] (fun i wr => ∃ (k : Nat) (v : Value), 1 ≤ k ∧ k ≤ 3 ∧ i = .int .i64 k ∧ Around wr (W.heap.size + 1) W.heap.size ob b (ob + 1) s t v (keyK t (runesOf s) k) ∧ Below W.heap.size W wr ∧ Hid (k ≤ 1 ∨ (k : Int) ≤ t.st)) (fun i _ => 3 - (intOf i).toNat)
  case atStart => exact ⟨1, v5, Nat.le_refl _, by omega, rfl, by rw [← hE5.out]; exact hA5, hB5', Or.inl (Nat.le_refl _)⟩
  case round =>
    obtain ⟨k, v, hk1, hk3, rfl, hA, hb, hkk⟩ := hrel
    have hptr := hA.ptr
    obtain ⟨-, hst⟩ := hA.tab.cells
    have hkl := keyK_len t (runesOf s) k
    by_cases hlt : (k : Int) < t.st
    · have hk12 : k = 1 ∨ k = 2 := by omega
      have hoc : wr.cell? ⟨ob, 0, none⟩ = some v := by simp [World.cell?, hA.out]
      have hos : ob < wr.heap.size := Nat.lt_of_lt_of_le hA.o_lt hA.size
      have hown := hA.own
      generalize hacc : keyK t (runesOf s) k = acc at hA hown hkl
      have hacc' := Lib.hid hacc
      clear hacc
      have hcl : Hid (wr.heap.size + 1 ≠ 0) := by show _ ≠ _; omega
      rcases hk12 with rfl | rfl
      · go_wp2_with (at_builtin; refine wpList_append_own _ rfl _ _ 35 rfl (ob + 1) 5 i0 (.int .u8 0) 1 1 Tryd.underlying35 hi hz0 hz1 hz2 rfl (by decide) _ _ _ rfl (hown.alloc _) ⟨wr.heap.size, 0, none⟩ 3 3 [.int .u8 0, .int .u8 0, .int .u8 0] rfl rfl ?c1 ?c2 ?c3 ?c4 ?c5 ?_; (case c1 => exact cell_three_new wr (.int .u8 0) (.int .u8 0) (.int .u8 0) 5); (case c2 => intro y hy; simp at hy; subst hy; rfl); (case c3 => unfold maxLen; omega); (case c4 => omega); (case c5 => simp; have := hA.size; omega); intro v2 w3 hown3 hgrow3 hnil3; obtain ⟨g2, cp2, hv2⟩ := ownsRow_slice hown3 (by omega); have hX := hA.app ((Below.refl _ _).alloc (Nat.le_refl _) _) hown3 hgrow3; rw [hv2] at hX ⊢; obtain ⟨hx1, hx2, hx3, hx4, hx5, hx6⟩ := hX; have hx4' := Lib.hid hx4; have hx5' := Lib.hid hx5; clear hx1 hx4 hx5 hx6 hown3 hgrow3 hnil3 hv2)
        refine (level1_calls _ (W.heap.size + 1) W.heap.size ob b (ob + 1) s t _ (acc ++ [0, 0, 0]) hx4'.out hl0 hl1 hss (by simp; omega)).mono ?_
        rintro e w6 ⟨rfl, v6, hA6, hB6⟩
        have hb6 : Below W.heap.size W w6 := hb.trans ((hx5'.out.trans hB6).below (by omega) (by omega))
        have hE6 : Hid (acc ++ [0, 0, 0] ++ levelOf t 1 (runesOf s) = keyK t (runesOf s) (1 + 1)) := by
          show _ = _
          rw [← hacc'.out]
          exact (keyK_two _ _).symm

        go_wp2_with fail
        go_roundw
        case rel => exact ⟨1 + 1, v6, by omega, by omega, by go_num, by rw [← hE6.out]; exact hA6, hb6, Or.inr (by omega)⟩
        case measure => simp [intOf]
      · go_wp2_with (at_builtin; refine wpList_append_own _ rfl _ _ 35 rfl (ob + 1) 5 i0 (.int .u8 0) 1 1 Tryd.underlying35 hi hz0 hz1 hz2 rfl (by decide) _ _ _ rfl (hown.alloc _) ⟨wr.heap.size, 0, none⟩ 3 3 [.int .u8 0, .int .u8 0, .int .u8 0] rfl rfl ?c1 ?c2 ?c3 ?c4 ?c5 ?_; (case c1 => exact cell_three_new wr (.int .u8 0) (.int .u8 0) (.int .u8 0) 5); (case c2 => intro y hy; simp at hy; subst hy; rfl); (case c3 => unfold maxLen; omega); (case c4 => omega); (case c5 => simp; have := hA.size; omega); intro v2 w3 hown3 hgrow3 hnil3; obtain ⟨g2, cp2, hv2⟩ := ownsRow_slice hown3 (by omega); have hX := hA.app ((Below.refl _ _).alloc (Nat.le_refl _) _) hown3 hgrow3; rw [hv2] at hX ⊢; obtain ⟨hx1, hx2, hx3, hx4, hx5, hx6⟩ := hX; have hx4' := Lib.hid hx4; have hx5' := Lib.hid hx5; clear hx1 hx4 hx5 hx6 hown3 hgrow3 hnil3 hv2)
        refine (level2_calls _ (W.heap.size + 1) W.heap.size ob b (ob + 1) s t _ (acc ++ [0, 0, 0]) hx4'.out hl0 hl1 hss (by simp; omega)).mono ?_
        rintro e w6 ⟨rfl, v6, hA6, hB6⟩
        have hb6 : Below W.heap.size W w6 := hb.trans ((hx5'.out.trans hB6).below (by omega) (by omega))
        have hE6 : Hid (acc ++ [0, 0, 0] ++ levelOf t 2 (runesOf s) = keyK t (runesOf s) (2 + 1)) := by
          show _ = _
          rw [← hacc'.out]
          exact (keyK_three _ _).symm

        go_wp2_with fail
        go_roundw
        case rel => exact ⟨2 + 1, v6, by omega, by omega, by go_num, by rw [← hE6.out]; exact hA6, hb6, Or.inr (by omega)⟩
        case measure => simp [intOf]
    · have hoc : wr.cell? ⟨ob, 0, none⟩ = some v := by simp [World.cell?, hA.out]
      go_wp2_with fail
      go_ret
      have e : keyP t s = keyK t (runesOf s) k := by
        unfold keyP
        rw [if_pos ht]
        rcases hkk.out with h1 | h1
        · have hk : k = 1 := by omega
          subst hk
          rw [if_pos (by omega)]
        · by_cases hk : k = 1
          · subst hk
            rw [if_pos (by omega)]
          · rw [if_neg (by omega)]
            by_cases hk2 : k = 2
            · subst hk2
              rw [if_pos (by omega)]
            · have hk : k = 3 := by omega
              subst hk
              rw [if_neg (by omega)]
      exact ⟨v, rfl, by rw [e]; exact (hA.own).base (by omega), hb⟩

set_option maxRecDepth 100000 in
set_option maxHeartbeats 4000000 in
theorem Key_nil (W : World) (s : ByteArray) (ht : isText s = true) (hss : s.size ≤ 4294967296) :
    Calls Tryd.prog 18 #[.pointer none, .string s] W (KeyPost W (keyP t0 s)) := by
  have hmf : ∀ (fn : Fn) (first cap : Array Value) (w : World), (Instr.makeFunc fn first cap).run Tryd.prog w = .ok (.func fn first cap) w := fun _ _ _ _ => rfl
  obtain ⟨i0, hi, hz0, hz1, hz2⟩ := info_parts info_byte
  have hb0 : Below W.heap.size W ((W.alloc (.cells #[.pointer none] 24)).alloc (.cells #[.string s] 9)) := ((Below.refl _ _).alloc (Nat.le_refl _) _).alloc (by simp) _
  have hc0 : ((W.alloc (.cells #[.pointer none] 24)).alloc (.cells #[.string s] 9)).cell? ⟨W.heap.size, 0, none⟩ = some (.pointer none) := by
    rw [World.cell?_alloc_past _ _ _ (by simp), World.cell?_alloc_at _ _ _ _ rfl]; rfl
  have hc1 : ((W.alloc (.cells #[.pointer none] 24)).alloc (.cells #[.string s] 9)).cell? ⟨W.heap.size + 1, 0, none⟩ = some (.string s) := by
    rw [World.cell?_alloc_at _ _ _ _ (by simp)]; rfl
  have hl0 : 0 ≤ t0.last.1 := by decide
  have hl1 : t0.last.1 ≤ 1000000 := by decide
  have hst3 : t0.st ≤ 3 := by decide
  obtain ⟨t, htt⟩ : ∃ t, t = t0 := ⟨_, rfl⟩
  rw [← htt] at hl0 hl1 hst3 ⊢
  have htt' := Lib.hid htt
  clear htt
  go_enter Tryd.func18, Tryd.ntmps18
  go_wp2_with (go_at_call 24; refine (IsText_calls _ _).mono ?_; rintro e w1 ⟨rfl, hb1⟩; rw [ht]; have hH : w1.heap[W.heap.size]? = some (.cells #[.pointer none] 24 (0, 0)) := (hb1.block W.heap.size (by simp; omega)).trans (by rw [Below.heap_alloc _ _ _ (by simp)]; exact (MapKept.heap_alloc _ _).1); have hca : ∀ oo, (w1.alloc oo).cell? ⟨W.heap.size, 0, none⟩ = some (.pointer none) := (fun oo => by rw [World.cell?_alloc_past _ _ _ (Array.getElem?_eq_some_iff.1 hH).1]; simp [World.cell?, hH]); have hfa : ∀ oo, (w1.alloc oo).frozen? ⟨W.heap.size, 0, none⟩ = false := (fun oo => by rw [World.frozen?_alloc_old _ _ _ (by have := (Array.getElem?_eq_some_iff.1 hH).1; simp; omega)]; simp [World.frozen?, hH]); have hct : w1.cell? ⟨W.heap.size, 0, none⟩ = some (.pointer none) := (hb1.cell (p := ⟨W.heap.size, 0, none⟩) (by simp; omega)).trans hc0; have hcs : w1.cell? ⟨W.heap.size + 1, 0, none⟩ = some (.string s) := (hb1.cell (p := ⟨W.heap.size + 1, 0, none⟩) (by simp)).trans hc1; have hbW : Below W.heap.size W w1 := hb0.trans (hb1.mono hb0.size); have hs1 : W.heap.size + 2 ≤ w1.heap.size := by have := hb1.size; simpa using this)
  obtain ⟨W4, hW4⟩ : ∃ W4, W4 = (((w1.alloc (.cells #[.map none, .int .i64 0, .int .i64 0, .int .i64 0, .int .i64 0] 46)).setCell ⟨W.heap.size, 0, none⟩ (.pointer (some ⟨w1.heap.size, 0, none⟩))).alloc (.cells #[.slice none 0 0] 35)) := ⟨_, rfl⟩
  obtain ⟨b, hbb⟩ : ∃ b, b = w1.heap.size := ⟨_, rfl⟩
  obtain ⟨ob, hob⟩ : ∃ ob, ob = b + 1 := ⟨_, rfl⟩
  have hsz2 : ((w1.alloc (.cells #[.map none, .int .i64 0, .int .i64 0, .int .i64 0, .int .i64 0] 46)).setCell ⟨W.heap.size, 0, none⟩ (.pointer (some ⟨w1.heap.size, 0, none⟩))).heap.size = ob := by rw [hob, hbb]; simp [World.setCell]
  have hb4 : Below W.heap.size W W4 := by rw [hW4]; exact ((hbW.alloc hbW.size _).setCell (Nat.le_refl _) _).alloc (by rw [hsz2]; omega) _
  have hct4 : W4.cell? ⟨W.heap.size, 0, none⟩ = some (.pointer (some ⟨b, 0, none⟩)) := by
    have hx : ((w1.alloc (.cells #[.map none, .int .i64 0, .int .i64 0, .int .i64 0, .int .i64 0] 46)).setCell ⟨W.heap.size, 0, none⟩ (.pointer (some ⟨w1.heap.size, 0, none⟩))).heap[W.heap.size]? = some (.cells #[.pointer (some ⟨w1.heap.size, 0, none⟩)] 24 (0, 0)) := by
      have hq : (w1.alloc (.cells #[.map none, .int .i64 0, .int .i64 0, .int .i64 0, .int .i64 0] 46)).heap[W.heap.size]? = some (.cells #[.pointer none] 24 (0, 0)) := by rw [Below.heap_alloc _ _ _ (by omega)]; exact hH
      simp [World.setCell, Array.getElem?_modify, hq]
    rw [hW4, World.cell?_alloc_past _ _ _ (by show _ < _; rw [hsz2]; omega)]
    simp [World.cell?, hx, hbb]
  have hcs4 : W4.cell? ⟨W.heap.size + 1, 0, none⟩ = some (.string s) := by
    have hx : ((w1.alloc (.cells #[.map none, .int .i64 0, .int .i64 0, .int .i64 0, .int .i64 0] 46)).setCell ⟨W.heap.size, 0, none⟩ (.pointer (some ⟨w1.heap.size, 0, none⟩))).heap[W.heap.size + 1]? = w1.heap[W.heap.size + 1]? := by
      rw [Below.heap_setCell _ _ _ _ (by simp), Below.heap_alloc _ _ _ (by omega)]
    rw [hW4, World.cell?_alloc_past _ _ _ (by show _ < _; rw [hsz2]; omega), ← hcs]
    simp [World.cell?, hx]
  have hT4 : TabRd W4 b t ob := ⟨by omega, by rw [hW4]; simp [hsz2], none, by
    rw [hW4, Below.heap_alloc _ _ _ (by rw [hsz2]; omega), Below.heap_setCell _ _ _ _ (by show b ≠ W.heap.size; omega), hbb, htt'.out]
    exact (MapKept.heap_alloc _ _).1, .inl ⟨rfl, by rw [htt'.out]; rfl⟩⟩
  have hout4 : W4.heap[ob]? = some (.cells #[.slice none 0 0] 35 (0, 0)) := by rw [hW4, ← hsz2]; exact (MapKept.heap_alloc _ _).1
  have hob1 : W.heap.size + 1 < ob := by omega
  have hob0 : W.heap.size < ob := by omega
  have hob3 : ob + 1 ≤ W4.heap.size := by rw [hW4]; simp [hsz2]
  rw [← hW4, ← hbb, ← hob]
  clear hW4 hob hbb hct hcs hbW hs1 hc0 hc1 hb0 hb1 hsz2 hH hfa hca
  have hno : W4.ownsRow (ob + 1) 5 1 (.slice none 0 0) ([] : List Int).length (byteVs []) := World.ownsRow_nil _ _ _ _
  have hr := runesOf_len s
  have hoB : ob + 1 ≤ W4.heap.size := hob3
  have hA4 : Around W4 (W.heap.size + 1) W.heap.size ob b (ob + 1) s t (.slice none 0 0) [] :=
    ⟨hob1, hob0, Nat.lt_succ_self _, hob3, hcs4, hct4, hT4, hout4, hno⟩
  refine (level0_calls W4 (W.heap.size + 1) W.heap.size ob b (ob + 1) s t _ [] hA4 hl0 hl1 hss (by simp)).mono ?_
  rintro e w5 ⟨rfl, v5, hA5, hB5⟩
  rw [List.nil_append] at hA5
  have hB5' : Below W.heap.size W w5 := hb4.trans (hB5.below (by omega) (by omega))
  have hE5 : Hid (levelOf t 0 (runesOf s) = keyK t (runesOf s) 1) := (keyK_one _ _).symm
  clear hA4 hcs4 hct4 hT4 hout4 hno

  go_wp2_with fail
  go_loopw [7] (fun i wr => ∃ (k : Nat) (v : Value), 1 ≤ k ∧ k ≤ 3 ∧ i = .int .i64 k ∧ Around wr (W.heap.size + 1) W.heap.size ob b (ob + 1) s t v (keyK t (runesOf s) k) ∧ Below W.heap.size W wr ∧ Hid (k ≤ 1 ∨ (k : Int) ≤ t.st)) (fun i _ => 3 - (intOf i).toNat)
  case atStart => exact ⟨1, v5, Nat.le_refl _, by omega, rfl, by rw [← hE5.out]; exact hA5, hB5', Or.inl (Nat.le_refl _)⟩
  case round =>
    obtain ⟨k, v, hk1, hk3, rfl, hA, hb, hkk⟩ := hrel
    have hptr := hA.ptr
    obtain ⟨-, hst⟩ := hA.tab.cells
    have hkl := keyK_len t (runesOf s) k
    by_cases hlt : (k : Int) < t.st
    · have hk12 : k = 1 ∨ k = 2 := by omega
      have hoc : wr.cell? ⟨ob, 0, none⟩ = some v := by simp [World.cell?, hA.out]
      have hos : ob < wr.heap.size := Nat.lt_of_lt_of_le hA.o_lt hA.size
      have hown := hA.own
      generalize hacc : keyK t (runesOf s) k = acc at hA hown hkl
      have hacc' := Lib.hid hacc
      clear hacc
      have hcl : Hid (wr.heap.size + 1 ≠ 0) := by show _ ≠ _; omega
      rcases hk12 with rfl | rfl
      · go_wp2_with (at_builtin; refine wpList_append_own _ rfl _ _ 35 rfl (ob + 1) 5 i0 (.int .u8 0) 1 1 Tryd.underlying35 hi hz0 hz1 hz2 rfl (by decide) _ _ _ rfl (hown.alloc _) ⟨wr.heap.size, 0, none⟩ 3 3 [.int .u8 0, .int .u8 0, .int .u8 0] rfl rfl ?c1 ?c2 ?c3 ?c4 ?c5 ?_; (case c1 => exact cell_three_new wr (.int .u8 0) (.int .u8 0) (.int .u8 0) 5); (case c2 => intro y hy; simp at hy; subst hy; rfl); (case c3 => unfold maxLen; omega); (case c4 => omega); (case c5 => simp; have := hA.size; omega); intro v2 w3 hown3 hgrow3 hnil3; obtain ⟨g2, cp2, hv2⟩ := ownsRow_slice hown3 (by omega); have hX := hA.app ((Below.refl _ _).alloc (Nat.le_refl _) _) hown3 hgrow3; rw [hv2] at hX ⊢; obtain ⟨hx1, hx2, hx3, hx4, hx5, hx6⟩ := hX; have hx4' := Lib.hid hx4; have hx5' := Lib.hid hx5; clear hx1 hx4 hx5 hx6 hown3 hgrow3 hnil3 hv2)
        refine (level1_calls _ (W.heap.size + 1) W.heap.size ob b (ob + 1) s t _ (acc ++ [0, 0, 0]) hx4'.out hl0 hl1 hss (by simp; omega)).mono ?_
        rintro e w6 ⟨rfl, v6, hA6, hB6⟩
        have hb6 : Below W.heap.size W w6 := hb.trans ((hx5'.out.trans hB6).below (by omega) (by omega))
        have hE6 : Hid (acc ++ [0, 0, 0] ++ levelOf t 1 (runesOf s) = keyK t (runesOf s) (1 + 1)) := by
          show _ = _
          rw [← hacc'.out]
          exact (keyK_two _ _).symm

        go_wp2_with fail
        go_roundw
        case rel => exact ⟨1 + 1, v6, by omega, by omega, by go_num, by rw [← hE6.out]; exact hA6, hb6, Or.inr (by omega)⟩
        case measure => simp [intOf]
      · go_wp2_with (at_builtin; refine wpList_append_own _ rfl _ _ 35 rfl (ob + 1) 5 i0 (.int .u8 0) 1 1 Tryd.underlying35 hi hz0 hz1 hz2 rfl (by decide) _ _ _ rfl (hown.alloc _) ⟨wr.heap.size, 0, none⟩ 3 3 [.int .u8 0, .int .u8 0, .int .u8 0] rfl rfl ?c1 ?c2 ?c3 ?c4 ?c5 ?_; (case c1 => exact cell_three_new wr (.int .u8 0) (.int .u8 0) (.int .u8 0) 5); (case c2 => intro y hy; simp at hy; subst hy; rfl); (case c3 => unfold maxLen; omega); (case c4 => omega); (case c5 => simp; have := hA.size; omega); intro v2 w3 hown3 hgrow3 hnil3; obtain ⟨g2, cp2, hv2⟩ := ownsRow_slice hown3 (by omega); have hX := hA.app ((Below.refl _ _).alloc (Nat.le_refl _) _) hown3 hgrow3; rw [hv2] at hX ⊢; obtain ⟨hx1, hx2, hx3, hx4, hx5, hx6⟩ := hX; have hx4' := Lib.hid hx4; have hx5' := Lib.hid hx5; clear hx1 hx4 hx5 hx6 hown3 hgrow3 hnil3 hv2)
        refine (level2_calls _ (W.heap.size + 1) W.heap.size ob b (ob + 1) s t _ (acc ++ [0, 0, 0]) hx4'.out hl0 hl1 hss (by simp; omega)).mono ?_
        rintro e w6 ⟨rfl, v6, hA6, hB6⟩
        have hb6 : Below W.heap.size W w6 := hb.trans ((hx5'.out.trans hB6).below (by omega) (by omega))
        have hE6 : Hid (acc ++ [0, 0, 0] ++ levelOf t 2 (runesOf s) = keyK t (runesOf s) (2 + 1)) := by
          show _ = _
          rw [← hacc'.out]
          exact (keyK_three _ _).symm

        go_wp2_with fail
        go_roundw
        case rel => exact ⟨2 + 1, v6, by omega, by omega, by go_num, by rw [← hE6.out]; exact hA6, hb6, Or.inr (by omega)⟩
        case measure => simp [intOf]
    · have hoc : wr.cell? ⟨ob, 0, none⟩ = some v := by simp [World.cell?, hA.out]
      go_wp2_with fail
      go_ret
      have e : keyP t s = keyK t (runesOf s) k := by
        unfold keyP
        rw [if_pos ht]
        rcases hkk.out with h1 | h1
        · have hk : k = 1 := by omega
          subst hk
          rw [if_pos (by omega)]
        · by_cases hk : k = 1
          · subst hk
            rw [if_pos (by omega)]
          · rw [if_neg (by omega)]
            by_cases hk2 : k = 2
            · subst hk2
              rw [if_pos (by omega)]
            · have hk : k = 3 := by omega
              subst hk
              rw [if_neg (by omega)]
      exact ⟨v, rfl, by rw [e]; exact (hA.own).base (by omega), hb⟩

end Go.Proofs.YtibhifjehbajnaaDoor
