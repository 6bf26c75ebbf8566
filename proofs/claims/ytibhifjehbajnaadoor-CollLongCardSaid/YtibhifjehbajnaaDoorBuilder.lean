/- A strings.Builder in this dump: copyCheck, WriteRune and WriteString walked (the shelf's own statements of them ask for another body of copyCheck), chars.From at one code point. -/
import Derived.Test.YtibhifjehbajnaaDoorChars
import Derived.Test.YtibhifjehbajnaaDoorShelf
import Derived.Shelf.Strings.BuilderRune
namespace Go.Proofs.YtibhifjehbajnaaDoor
open Go.RowKit Go.Maps Go.Shelf
set_option linter.unusedVariables false

def lays242_ren : Ren := ⟨fun | 242 => 52 | 278 => 75 | n => n, fun | 37 => 35 | 46 => 75 | 51 => 106 | 72 => 60 | n => n, fun n => n⟩
theorem lays242 : Go.Proofs.Lays.n242 Tryd.prog lays242_ren := {
  mixed := by kernel_rfl
  f242 := Tryd.func52.trans (congrArg some (by kernel_rfl))
  f278 := Tryd.func75.trans (congrArg some (by kernel_rfl))
  t4 := Tryd.underlying4
  a4 := Tryd.isAgg4
  z4 := Tryd.sizeOf4
  v4 := Tryd.zeroValue4
  t5 := Tryd.underlying5
  a5 := Tryd.isAgg5
  z5 := Tryd.sizeOf5
  v5 := Tryd.zeroValue5
  t21 := Tryd.underlying21
  a21 := Tryd.isAgg21
  z21 := Tryd.sizeOf21
  v21 := Tryd.zeroValue21
  t37 := Tryd.underlying35
  a37 := Tryd.isAgg35
  z37 := Tryd.sizeOf35
  v37 := Tryd.zeroValue35
  t46 := Tryd.underlying75
  a46 := Tryd.isAgg75
  z46 := Tryd.sizeOf75
  v46 := Tryd.zeroValue75
  t51 := Tryd.underlying106
  a51 := Tryd.isAgg106
  z51 := Tryd.sizeOf106
  v51 := Tryd.zeroValue106 }
theorem extra242 : Builder.Extra Tryd.prog lays242_ren := {
  sizeBuilder := by kernel_rfl
  liesBuilder := by kernel_rfl
  t5 := Tryd.underlying5
  a5 := Tryd.isAgg5
  z5 := Tryd.sizeOf5
  v5 := Tryd.zeroValue5
  infoByte := by kernel_rfl
  cellsByte := by kernel_rfl
  sizeByte := by kernel_rfl
  neB5 := by decide }

set_option maxHeartbeats 1000000 in
set_option maxRecDepth 100000 in
theorem copyCheck_used (b : Nat) (w : World) (h0 : w.cell? ⟨b, 0, none⟩ = some (.pointer (some ⟨b, 0, none⟩))) :
    Calls Tryd.prog 51 #[.pointer (some ⟨b, 0, none⟩)] w fun e w' => e = .returned (.tuple #[]) ∧ w' = w := by
  obtain ⟨j, hj, _⟩ := Option.map_eq_some_iff.1 extra242.sizeBuilder
  go_enter Tryd.func51, Tryd.ntmps51
  go_wp2
  rw [Lib.run_neq_ptr_same w _ Tryd.underlying58 hj]
  go_wp2
  go_end0
  exact ⟨rfl, rfl⟩

set_option maxHeartbeats 1000000 in
set_option maxRecDepth 100000 in
theorem copyCheck_fresh (b : Nat) (w : World) (h0 : w.cell? ⟨b, 0, none⟩ = some (.pointer none)) (hsh : w.shape? b = some (60, 2)) (hfz : w.frozen? ⟨b, 0, none⟩ = false) :
    Calls Tryd.prog 51 #[.pointer (some ⟨b, 0, none⟩)] w fun e w' => e = .returned (.tuple #[]) ∧ w' = w.setCell ⟨b, 0, none⟩ (.pointer (some ⟨b, 0, none⟩)) := by
  obtain ⟨j, hj, hjs⟩ := Option.map_eq_some_iff.1 extra242.sizeBuilder
  go_enter Tryd.func51, Tryd.ntmps51
  go_wp2
  rw [Lib.run_to_unsafe w ⟨b, 0, none⟩ Tryd.underlying58 Tryd.underlying104 hj (by rw [hjs]; decide) hsh (Nat.zero_lt_succ 1)]
  simp only [Result.andThen]
  rw [Oper.upon_value]
  go_wp2
  rw [run_callFunc_extern Tryd.func74 (by kernel_rfl) (by kernel_rfl) (by kernel_rfl) (e := Extern.AbiNoEscape.same) (by kernel_rfl)]
  rw [Lib.run_noEscape]
  simp only [Result.andThen]
  rw [Oper.upon_value]
  go_wp2
  rw [Lib.run_from_unsafe w ⟨b, 0, none⟩ Tryd.underlying104 Tryd.underlying58 hj hsh extra242.liesBuilder]
  simp only [Result.andThen]
  rw [Oper.upon_value]
  go_wp2
  go_end0
  exact ⟨rfl, rfl⟩

theorem copyCheck_k (B b : Nat) (bs : List Value) (w : World) (h : Lib.IsBuilderF 60 5 B b bs w) :
    Calls Tryd.prog 51 #[.pointer (some ⟨b, 0, none⟩)] w fun e w' => e = .returned (.tuple #[]) ∧ (Lib.BuilderAtF 60 5 B b (.pointer (some ⟨b, 0, none⟩)) bs w' ∧ Below B w w' ∧ Lib.OthersKept 5 (some b) w w') := by
  rcases h with h | h
  · refine (copyCheck_fresh b w h.cell0 h.shape h.frozen0).mono ?_
    rintro e w' ⟨rfl, rfl⟩
    exact ⟨rfl, h.used _, (Below.refl B w).setCell (p := ⟨b, 0, none⟩) h.1 _, (Lib.OthersKept.refl _ _ w).setCell ⟨b, 0, none⟩ rfl _⟩
  · refine (copyCheck_used b w h.cell0).mono ?_
    rintro e w' ⟨rfl, rfl⟩
    exact ⟨rfl, h, Below.refl B _, Lib.OthersKept.refl _ _ _⟩

set_option maxHeartbeats 4000000 in
set_option maxRecDepth 100000 in
theorem WriteRune_k (B b : Nat) (bs : List Value) (r : Int) (hr0 : -2147483648 ≤ r) (hr1 : r ≤ 2147483647) (w : World) (h : Lib.IsBuilderF 60 5 B b bs w) (hlen : bs.length + 4 ≤ 140737488355328) (hBw : B ≤ w.heap.size) :
    Calls Tryd.prog 30 #[.pointer (some ⟨b, 0, none⟩), .int .i32 r] w fun e w' => e = .returned (.tuple #[.int .i64 (Lib.runeCells r).length, .nilIface]) ∧ (Lib.BuilderAtF 60 5 B b (.pointer (some ⟨b, 0, none⟩)) (bs ++ Lib.runeCells r) w' ∧ Below B w w' ∧ Lib.OthersKept 5 (some b) w w') := by
  have hk4 := Lib.runeCells_le r
  go_enter Tryd.func30, Tryd.ntmps30
  go_wp2_with (go_at_call 51; refine (copyCheck_k B b bs _ h).mono ?_)
  rintro e w1 ⟨rfl, h1, hb1, hk1⟩
  obtain ⟨hB, v, hbk, hown, hne⟩ := h1
  obtain ⟨ao, cap, rfl⟩ : ∃ ao cap, v = .slice ao bs.length cap := by
    rcases hown.2 with ⟨hv, h0⟩ | ⟨g, cap, cur, fz, hv, _⟩
    · exact ⟨none, 0, by rw [hv, h0]⟩
    · exact ⟨_, _, hv⟩
  have c0 : w1.cell? ⟨b, 0, none⟩ = some (.pointer (some ⟨b, 0, none⟩)) := by rw [Lib.cell_of_heap hbk]; rfl
  have c1 : w1.cell? ⟨b, 1, none⟩ = some (.slice ao bs.length cap) := by rw [Lib.cell_of_heap hbk]; rfl
  go_wp2_with (go_at_call 52; refine (Any.utf8_AppendRune_own lays242 extra242 B _ bs.length bs r hr0 hr1 _ hown hlen (by have := hb1.size; omega)).mono ?_)
  rintro e w2 ⟨v', rfl, hown', o, hgrow⟩
  have hlt : b < w1.heap.size := by
    rcases Nat.lt_or_ge b w1.heap.size with h' | h'
    · exact h'
    · simp [Array.getElem?_eq_none h'] at hbk
  have hb2 : w2.heap[b]? = some (.cells #[.pointer (some ⟨b, 0, none⟩), .slice ao bs.length cap] 60 (0, 0)) := by
    rw [hgrow.block b (by simp; omega) (fun e => hne e.symm), Lib.alloc_old w1 _ b hlt]
    exact hbk
  have d0 : w2.cell? ⟨b, 0, none⟩ = some (.pointer (some ⟨b, 0, none⟩)) := by rw [Lib.cell_of_heap hb2]; rfl
  have d1 : w2.cell? ⟨b, 1, none⟩ = some (.slice ao bs.length cap) := by rw [Lib.cell_of_heap hb2]; rfl
  have f1 : w2.frozen? ⟨b, 1, none⟩ = false := Lib.frozen_of_heap hb2 1
  obtain ⟨g, cap', rfl⟩ : ∃ g cap', v' = .slice (some ⟨g, 0, none⟩) (bs.length + (Lib.runeCells r).length) cap' := by
    rcases hown'.2 with ⟨_, h0⟩ | ⟨g, cap', cur, fz, hv, _⟩
    · omega
    · exact ⟨g, cap', hv⟩
  go_wp2
  go_ret2
  refine ⟨?_, ?_, ?_, ((hk1.alloc _).grown hgrow (Lib.ownsRowF_kind (hown.alloc _))).setCell ⟨b, 1, none⟩ rfl _⟩
  · have e : ((bs.length : Int) + ((Lib.runeCells r).length : Int) - (bs.length : Int)) = ((Lib.runeCells r).length : Int) := by omega
    simp [e]
  · exact Lib.BuilderAtF.put (T := 60) (e := 5) hB hb2 (bs' := bs ++ Lib.runeCells r) (by have hx : lays242_ren.t 5 = 5 := rfl; rw [hx] at hown'; simpa using hown') (by decide)
  · exact ((hb1.alloc (by have := hb1.size; omega) _).grown hgrow (by have := hb1.size; simp; omega) (fun k hk => (hown.lt k hk).1)).setCell (p := ⟨b, 1, none⟩) hB _

def okRune (c : Int) : Bool := decide (0 ≤ c ∧ c ≤ 1114111) && isCharB c

/-- chars.From at one code point: whether it is a character. -/
def fromE (c : Int) : Value := .int .i64 (if okRune c then 0 else 10)

def FromRel (A : Nat) (W : World) (c : Int) (b : Nat) (i : Int) (w : World) : Prop :=
  Below W.heap.size W w ∧ (i = 0 ∨ i = 1) ∧ (i = 1 → okRune c = true) ∧ ∃ l, l.length ≤ 4 * i.toNat ∧ Lib.IsBuilderF 60 5 W.heap.size b (Lib.byteCells l) w

set_option maxHeartbeats 4000000 in
set_option maxRecDepth 100000 in
theorem From_calls (c : Int) (A : Nat) (W : World) (h0 : 0 ≤ c) (h1 : c ≤ 2147483647) (hA : A < W.heap.size) (hc : W.cell? ⟨A, 0, none⟩ = some (.int .i64 c)) :
    Calls Tryd.prog 100 #[.slice (some ⟨A, 0, none⟩) 1 1] W fun e w' => (∃ s, e = .returned (.tuple #[.string s, fromE c])) ∧ Below W.heap.size W w' := by
  go_enter Tryd.func100, Tryd.ntmps100
  go_wp2
  go_loopw [9] (fun vi wr => ∃ i, vi = .int .i64 i ∧ Hid (FromRel A W c W.heap.size i wr)) (fun vi _ => 1 - (intOf vi).toNat)
  case atStart => exact ⟨0, rfl, (Below.refl _ _).alloc (Nat.le_refl _) _, .inl rfl, (by omega), [], by simp, Lib.IsBuilderF.of (Lib.fresh_isBuilder _ _ _)⟩
  case round =>
    obtain ⟨i, rfl, hh⟩ := hrel
    obtain ⟨wo, hwo⟩ : ∃ wo : World, wo = wr := ⟨_, rfl⟩
    obtain ⟨hbel, hi, hok, l, hl, hbd⟩ := hh.out
    clear hh
    have hwB : W.heap.size ≤ wr.heap.size := hbel.size
    rcases hi with rfl | rfl
    · have hcell : wr.cell? ⟨A, 0, none⟩ = some (.int .i64 c) := (hbel.cell (p := ⟨A, 0, none⟩) hA).trans hc
      have hw : IntKind.i32.wrap c = c := by rw [IntKind.wrap_i32]; omega
      have hl0 : l = [] := by cases l with | nil => rfl | cons a b => simp at hl
      subst hl0
      clear hl hwo
      by_cases hbig : c ≤ 1114111
      · by_cases hch : isCharB c = true
        · have hokc : okRune c = true := by simp [okRune, h0, hbig, hch]
          go_wp2_with (first | (go_at_call 47; refine (isChar_calls _ _).mono ?_; rintro e w' ⟨rfl, n, rfl⟩) | (go_at_call 30; refine (WriteRune_k W.heap.size W.heap.size [] c (by omega) (by omega) _ (show Lib.IsBuilderF 60 5 W.heap.size W.heap.size [] (wr.drewN _) from hbd) (by decide) hwB).mono ?_; rintro e w2 ⟨rfl, hb2, hbw2, _⟩))
          go_roundw
          case rel => exact ⟨1, rfl, hbel.trans (below_drewN (Below.refl _ _) _ |>.trans hbw2), .inr rfl, fun _ => hokc, Lib.encodeRune c, by have := Lib.runeCells_le c; rw [Lib.runeCells_length] at this; simp; omega, .inr (by rw [Lib.byteCells_encodeRune]; simpa using hb2)⟩
          case measure => simp [intOf]
        · have hch : isCharB c = false := by simpa using hch
          have hfr : fromE c = .int .i64 10 := by simp [fromE, okRune, hch]
          go_wp2_with (go_at_call 47; refine (isChar_calls _ _).mono ?_; rintro e w' ⟨rfl, n, rfl⟩)
          go_ret2
          exact ⟨⟨_, by first | rfl | (rw [hfr]; rfl)⟩, below_drewN hbel _⟩
      · have hfr : fromE c = .int .i64 10 := by simp [fromE, okRune, hbig]
        go_wp2
        go_ret2
        exact ⟨⟨_, by first | rfl | (rw [hfr]; rfl)⟩, hbel⟩
    · have hfr : fromE c = .int .i64 0 := by simp [fromE, hok rfl]
      clear hl hwo
      go_wp2_with (go_at_call 31; refine (Tryd.Builder_String_any_f W.heap.size W.heap.size l _ hbd hwB).mono ?_; rintro e w2 ⟨rfl, _, hbw2⟩)
      go_ret2
      exact ⟨⟨_, by first | rfl | (rw [hfr]; rfl)⟩, hbel.trans hbw2⟩
end Go.Proofs.YtibhifjehbajnaaDoor
