/- The function levels of package chisellaw03, walked. -/
import Derived.Test.YtibhifjehbajnaaDoorLies
import Derived.Laws.ResultCell
namespace Go.Proofs.YtibhifjehbajnaaDoor
open Go.RowKit Go.Maps
set_option linter.unusedVariables false

def ext (a : ByteArray) (d : UInt8) : ByteArray := a ++ (nl ++ strLine d)
theorem ext_is (a : ByteArray) (d : UInt8) : (a ++ ⟨#[10, 115, 116, 114, 101, 110, 103, 116, 104, 32]⟩) ++ ⟨#[d]⟩ = ext a d := by
  apply ByteArray.ext
  simp [ext, nl, strLine]
theorem ext_size (a : ByteArray) (d : UInt8) : (ext a d).size = a.size + 11 := by
  unfold ext
  rw [size_app, size_app]; rfl
def dig (k : Nat) : UInt8 := if k = 0 then 49 else if k = 1 then 50 else 51
def errB (a : ByteArray) (k : Nat) : Bool := (parseP (ext a (dig k))).2.1 == 0

structure LevAt (W wr : World) (q k : Nat) (text : ByteArray) (p0 p1 p2 : Option Addr) (t0 t1 t2 : CT) : Prop where
  below : Below q W wr
  size : q + 3 ≤ wr.heap.size
  res : wr.heap[q]? = some (.cells #[.pointer none, .pointer none, .pointer none] 50 (0, 0))
  arr : wr.heap[q + 1]? = some (.cells #[.pointer p0, .pointer p1, .pointer p2] 50 (0, 0))
  strs : wr.heap[q + 2]? = some (.cells #[.string ⟨#[49]⟩, .string ⟨#[50]⟩, .string ⟨#[51]⟩] 9 (0, 0))
  g0 : 0 < k → errB text 0 = true ∧ Lies wr (q + 3) p0 t0
  g1 : 1 < k → errB text 1 = true ∧ Lies wr (q + 3) p1 t1
  g2 : 2 < k → errB text 2 = true ∧ Lies wr (q + 3) p2 t2
theorem LevAt.later {W wr w' : World} {q k : Nat} {text : ByteArray} {p0 p1 p2 : Option Addr} {t0 t1 t2 : CT} (h : LevAt W wr q k text p0 p1 p2 t0 t1 t2) (hb : Below wr.heap.size wr w') : LevAt W w' q k text p0 p1 p2 t0 t1 t2 := by
  have hz := h.size
  exact ⟨h.below.trans (hb.mono (by omega)), by have := hb.size; omega, (hb.block q (by omega)).trans h.res, (hb.block (q + 1) (by omega)).trans h.arr, (hb.block (q + 2) (by omega)).trans h.strs,
    fun hk => ⟨(h.g0 hk).1, (h.g0 hk).2.below hb⟩, fun hk => ⟨(h.g1 hk).1, (h.g1 hk).2.below hb⟩, fun hk => ⟨(h.g2 hk).1, (h.g2 hk).2.below hb⟩⟩
theorem arr_set {w : World} {b k : Nat} {v p0 p1 p2 : Value} {T : TypeId} (h : w.heap[b]? = some (.cells #[p0, p1, p2] T (0, 0))) :
    (w.setCell ⟨b, k, none⟩ v).heap[b]? = some (.cells ((#[p0, p1, p2] : Array Value).setIfInBounds k v) T (0, 0)) := by
  simp [World.setCell, Array.getElem?_modify, h]
/-- The pointer of number k is laid. -/
theorem LevAt.set0 {W wr : World} {q : Nat} {text : ByteArray} {p0 p1 p2 p : Option Addr} {t0 t1 t2 : CT} (h : LevAt W wr q 0 text p0 p1 p2 t0 t1 t2) (he : errB text 0 = true) (hl : Lies wr (q + 3) p t0) :
    LevAt W (wr.setCell ⟨q + 1, 0, none⟩ (.pointer p)) q 1 text p p1 p2 t0 t1 t2 := by
  have ho : ∀ i, i ≠ q + 1 → (wr.setCell ⟨q + 1, 0, none⟩ (.pointer p)).heap[i]? = wr.heap[i]? := fun i hi => Below.heap_setCell _ _ _ _ hi
  exact ⟨h.below.setCell (by show q ≤ q + 1; omega) _, by have := h.size; simpa [World.setCell] using this, (ho q (by omega)).trans h.res, arr_set h.arr, (ho (q + 2) (by omega)).trans h.strs,
    fun _ => ⟨he, hl.same fun i hi _ => ho i (by omega)⟩, fun hk => by omega, fun hk => by omega⟩
theorem LevAt.set1 {W wr : World} {q : Nat} {text : ByteArray} {p0 p1 p2 p : Option Addr} {t0 t1 t2 : CT} (h : LevAt W wr q 1 text p0 p1 p2 t0 t1 t2) (he : errB text 1 = true) (hl : Lies wr (q + 3) p t1) :
    LevAt W (wr.setCell ⟨q + 1, 1, none⟩ (.pointer p)) q 2 text p0 p p2 t0 t1 t2 := by
  have ho : ∀ i, i ≠ q + 1 → (wr.setCell ⟨q + 1, 1, none⟩ (.pointer p)).heap[i]? = wr.heap[i]? := fun i hi => Below.heap_setCell _ _ _ _ hi
  exact ⟨h.below.setCell (by show q ≤ q + 1; omega) _, by have := h.size; simpa [World.setCell] using this, (ho q (by omega)).trans h.res, arr_set h.arr, (ho (q + 2) (by omega)).trans h.strs,
    fun _ => ⟨(h.g0 (by omega)).1, (h.g0 (by omega)).2.same fun i hi _ => ho i (by omega)⟩, fun _ => ⟨he, hl.same fun i hi _ => ho i (by omega)⟩, fun hk => by omega⟩
theorem LevAt.set2 {W wr : World} {q : Nat} {text : ByteArray} {p0 p1 p2 p : Option Addr} {t0 t1 t2 : CT} (h : LevAt W wr q 2 text p0 p1 p2 t0 t1 t2) (he : errB text 2 = true) (hl : Lies wr (q + 3) p t2) :
    LevAt W (wr.setCell ⟨q + 1, 2, none⟩ (.pointer p)) q 3 text p0 p1 p t0 t1 t2 := by
  have ho : ∀ i, i ≠ q + 1 → (wr.setCell ⟨q + 1, 2, none⟩ (.pointer p)).heap[i]? = wr.heap[i]? := fun i hi => Below.heap_setCell _ _ _ _ hi
  exact ⟨h.below.setCell (by show q ≤ q + 1; omega) _, by have := h.size; simpa [World.setCell] using this, (ho q (by omega)).trans h.res, arr_set h.arr, (ho (q + 2) (by omega)).trans h.strs,
    fun _ => ⟨(h.g0 (by omega)).1, (h.g0 (by omega)).2.same fun i hi _ => ho i (by omega)⟩, fun _ => ⟨(h.g1 (by omega)).1, (h.g1 (by omega)).2.same fun i hi _ => ho i (by omega)⟩, fun _ => ⟨he, hl.same fun i hi _ => ho i (by omega)⟩⟩

theorem lev_cells {W w4 : World} {q k : Nat} {text : ByteArray} {p0 p1 p2 : Option Addr} {T0 T1 T2 : CT} (h : LevAt W w4 q k text p0 p1 p2 T0 T1 T2) : (∀ j, w4.cell? ⟨q + 1, j, none⟩ = (#[.pointer p0, .pointer p1, .pointer p2] : Array Value)[j]?) ∧ (∀ j, w4.frozen? ⟨q + 1, j, none⟩ = false) ∧ (∀ j, w4.cell? ⟨q, j, none⟩ = (#[.pointer none, .pointer none, .pointer none] : Array Value)[j]?) ∧ (∀ j, w4.frozen? ⟨q, j, none⟩ = false) ∧ (∀ j, w4.cell? ⟨q + 2, j, none⟩ = (#[.string ⟨#[49]⟩, .string ⟨#[50]⟩, .string ⟨#[51]⟩] : Array Value)[j]?) :=
  ⟨fun j => Lib.cell_of_heap h.arr j, fun j => Lib.frozen_of_heap h.arr j, fun j => Lib.cell_of_heap h.res j, fun j => Lib.frozen_of_heap h.res j, fun j => Lib.cell_of_heap h.strs j⟩
/-- The result is laid. -/
theorem lev_ret {W wr : World} {q k : Nat} {text : ByteArray} {p0 p1 p2 : Option Addr} {T0 T1 T2 : CT} (h : LevAt W wr q k text p0 p1 p2 T0 T1 T2) :
    ∃ W5, W5 = (((wr.setCell ⟨q, 0, none⟩ (.pointer p0)).setCell ⟨q, 1, none⟩ (.pointer p1)).setCell ⟨q, 2, none⟩ (.pointer p2)) ∧
      W5.cell? ⟨q, 0, none⟩ = some (.pointer p0) ∧ W5.cell? ⟨q, 1, none⟩ = some (.pointer p1) ∧ W5.cell? ⟨q, 2, none⟩ = some (.pointer p2) ∧ Hid (Below q W W5) ∧ Hid (∀ i, q + 1 ≤ i → W5.heap[i]? = wr.heap[i]?) := by
  refine ⟨_, rfl, ?_⟩
  obtain ⟨W5, hW5⟩ : ∃ W5, W5 = (((wr.setCell ⟨q, 0, none⟩ (.pointer p0)).setCell ⟨q, 1, none⟩ (.pointer p1)).setCell ⟨q, 2, none⟩ (.pointer p2)) := ⟨_, rfl⟩
  rw [← hW5]
  have hblk : W5.heap[q]? = some (.cells #[.pointer p0, .pointer p1, .pointer p2] 50 (0, 0)) := by
    rw [hW5]
    simp [World.setCell, Array.getElem?_modify, h.res]
  refine ⟨by rw [Lib.cell_of_heap hblk]; rfl, by rw [Lib.cell_of_heap hblk]; rfl, by rw [Lib.cell_of_heap hblk]; rfl, ?_, ?_⟩
  · show Below q W W5
    rw [hW5]
    exact ((h.below.setCell (p := ⟨q, 0, none⟩) (Nat.le_refl _) _).setCell (p := ⟨q, 1, none⟩) (Nat.le_refl _) _).setCell (p := ⟨q, 2, none⟩) (Nat.le_refl _) _
  · intro j hj
    have hj2 : j ≠ q := by omega
    rw [hW5, Below.heap_setCell _ _ _ _ hj2, Below.heap_setCell _ _ _ _ hj2, Below.heap_setCell _ _ _ _ hj2]

def LevPost (W : World) (text : ByteArray) (t0 t1 t2 : CT) (e : Ending) (w' : World) : Prop := Below W.heap.size W w' ∧
      ((∃ p0 p1 p2, e = .returned (.tuple #[.agg #[.pointer p0, .pointer p1, .pointer p2], .bool true]) ∧ errB text 0 = true ∧ errB text 1 = true ∧ errB text 2 = true ∧
        KeyGives w' p0 t0 ∧ KeyGives w' p1 t1 ∧ KeyGives w' p2 t2) ∨ (∃ p0 p1 p2, e = .returned (.tuple #[.agg #[.pointer p0, .pointer p1, .pointer p2], .bool false])))

def ParseAt (W' : World) (text : ByteArray) (j : Nat) (t : CT) (e : Ending) (w' : World) : Prop :=
  Below W'.heap.size W' w' ∧ ((errB text j = true ∧ ∃ p, e = .returned (.tuple #[.pointer p, .int .i64 0, .int .i64 0]) ∧ Lies w' W'.heap.size p t) ∨
    (errB text j = false ∧ ∃ l er : Int, er ≠ 0 ∧ e = .returned (.tuple #[.pointer none, .int .i64 l, .int .i64 er])))
theorem parse_at (text : ByteArray) (hs : text.size ≤ 2000) (W' : World) (hL : LaidW W') (j : Nat) :
    Calls Tryd.prog 16 #[.string (text ++ ⟨#[10, 115, 116, 114, 101, 110, 103, 116, 104, 32]⟩ ++ ⟨#[dig j]⟩)] W' (ParseAt W' text j (tabOf (ext text (dig j)))) := by
  rw [ext_is]
  refine (Parse_lies (ext text (dig j)) W' hL (by rw [ext_size]; omega)).mono ?_
  rintro e w1 ⟨hb1, h | h⟩
  · exact ⟨hb1, .inl ⟨by unfold errB; rw [h.1]; rfl, h.2⟩⟩
  · exact ⟨hb1, .inr ⟨by unfold errB; simpa using h.1, _, _, h.1, h.2⟩⟩

set_option maxHeartbeats 8000000 in
set_option maxRecDepth 100000 in
theorem levels_open (text : ByteArray) (T0 T1 T2 : CT) (W : World) (hL : LaidW W) (hs : text.size ≤ 2000)
    (hP0 : Hid (∀ W', LaidW W' → Calls Tryd.prog 16 #[.string (text ++ ⟨#[10, 115, 116, 114, 101, 110, 103, 116, 104, 32]⟩ ++ ⟨#[49]⟩)] W' (ParseAt W' text 0 T0)))
    (hP1 : Hid (∀ W', LaidW W' → Calls Tryd.prog 16 #[.string (text ++ ⟨#[10, 115, 116, 114, 101, 110, 103, 116, 104, 32]⟩ ++ ⟨#[50]⟩)] W' (ParseAt W' text 1 T1)))
    (hP2 : Hid (∀ W', LaidW W' → Calls Tryd.prog 16 #[.string (text ++ ⟨#[10, 115, 116, 114, 101, 110, 103, 116, 104, 32]⟩ ++ ⟨#[51]⟩)] W' (ParseAt W' text 2 T2))) :
    Calls Tryd.prog 25 #[.string text] W (LevPost W text T0 T1 T2) := by
  go_enter Tryd.func25, Tryd.ntmps25
  go_wp2
  obtain ⟨W3, hW3⟩ : ∃ W3, W3 = (((W.alloc (Obj.cells #[Value.pointer none, Value.pointer none, Value.pointer none] 50)).alloc
          (Obj.cells #[Value.pointer none, Value.pointer none, Value.pointer none] 50)).alloc
      (Obj.cells #[Value.string { data := #[49] }, Value.string { data := #[50] }, Value.string { data := #[51] }] 9)) := ⟨_, rfl⟩
  have hbel : Below W.heap.size W W3 := by
    rw [hW3]
    exact (((Below.refl _ _).alloc (Nat.le_refl _) _).alloc (by simp) _).alloc (by simp; omega) _
  have hA : LevAt W W3 W.heap.size 0 text none none none T0 T1 T2 := by
    refine ⟨hbel, by rw [hW3]; simp, ?_, ?_, ?_, (fun h => by omega), (fun h => by omega), (fun h => by omega)⟩
    · rw [hW3, Below.heap_alloc _ _ _ (by simp; omega), Below.heap_alloc _ _ _ (by simp)]
      exact (MapKept.heap_alloc _ _).1
    · rw [hW3, Below.heap_alloc _ _ _ (by simp)]
      rw [show W.heap.size + 1 = (W.alloc (Obj.cells #[Value.pointer none, Value.pointer none, Value.pointer none] 50)).heap.size by simp]
      exact (MapKept.heap_alloc _ _).1
    · rw [hW3]
      rw [show W.heap.size + 2 = ((W.alloc (Obj.cells #[Value.pointer none, Value.pointer none, Value.pointer none] 50)).alloc (Obj.cells #[Value.pointer none, Value.pointer none, Value.pointer none] 50)).heap.size by simp]
      exact (MapKept.heap_alloc _ _).1
  rw [← hW3]
  clear hW3 hbel
  have hL8 := hL.size
  obtain ⟨q, hq⟩ : ∃ q, q = W.heap.size := ⟨_, rfl⟩
  rw [← hq] at hA hL8 ⊢
  have hqq := Lib.hid hq
  clear hq
  have hA := Lib.hid hA
  have hLW := Lib.hid hL
  clear hL
  go_loopw [12] (fun i wr => ∃ (k : Nat) (p0 p1 p2 : Option Addr), i = .int .i64 k ∧ k ≤ 3 ∧ Hid (LevAt W wr q k text p0 p1 p2 T0 T1 T2)) (fun i _ => 3 - (intOf i).toNat)
  case atStart => exact ⟨0, none, none, none, rfl, by omega, hA⟩
  case round =>
    obtain ⟨k, p0, p1, p2, rfl, hk, hn⟩ := hrel
    clear hA
    have hz3 := hn.out.size
    have hLr : LaidW wr := hLW.out.below hn.out.below (by omega)
    by_cases hlt : k < 3
    · rcases (show k = 0 ∨ k = 1 ∨ k = 2 by omega) with rfl | rfl | rfl
      · obtain ⟨_, _, _, _, cs⟩ := lev_cells hn.out
        have s0 : wr.cell? ⟨q + 2, 0, none⟩ = some (.string ⟨#[49]⟩) := cs 0
        clear cs
        go_wp2_with fail
        refine (hP0.out _ hLr).mono ?_
        rintro e w4 ⟨hb4, ⟨he, p, rfl, hl⟩ | ⟨he, l, er, hne, rfl⟩⟩
        · obtain ⟨b, rfl⟩ := hl.ne
          have hn4 := Lib.hid (hn.out.later hb4)
          obtain ⟨ca, fa, _, _, _⟩ := lev_cells hn4.out
          have a0 : w4.cell? ⟨q + 1, 0, none⟩ = some (.pointer p0) := ca 0
          have a1 : w4.cell? ⟨q + 1, 1, none⟩ = some (.pointer p1) := ca 1
          have a2 : w4.cell? ⟨q + 1, 2, none⟩ = some (.pointer p2) := ca 2
          have f0 := fa 0
          have f1 := fa 1
          have f2 := fa 2
          have hl := Lib.hid (hl.mono hz3)
          have he := Lib.hid he
          clear ca fa hb4
          go_wp2_with fail
          go_roundw
          case rel => exact ⟨1, _, p1, p2, rfl, by omega, hn4.out.set0 he.out hl.out⟩
          case measure => simp [intOf]
        · have hn4 := Lib.hid (hn.out.later hb4)
          obtain ⟨ca, _, cr, fr, _⟩ := lev_cells hn4.out
          have a0 : w4.cell? ⟨q + 1, 0, none⟩ = some (.pointer p0) := ca 0
          have a1 : w4.cell? ⟨q + 1, 1, none⟩ = some (.pointer p1) := ca 1
          have a2 : w4.cell? ⟨q + 1, 2, none⟩ = some (.pointer p2) := ca 2
          have r0 : w4.cell? ⟨q, 0, none⟩ = some (.pointer none) := cr 0
          have r1 : w4.cell? ⟨q, 1, none⟩ = some (.pointer none) := cr 1
          have r2 : w4.cell? ⟨q, 2, none⟩ = some (.pointer none) := cr 2
          have f0 := fr 0
          have f1 := fr 1
          have f2 := fr 2
          have hne1 : (er != 0) = true := by simpa using hne
          clear ca cr fr hb4 hne he
          go_wp2_with fail
          obtain ⟨W5, hW5, y0, y1, y2, hb5, ho5⟩ := lev_ret hn4.out
          rw [← hW5]
          clear hW5 a0 a1 a2 r0 r1 r2 f0 f1 f2
          refine bodyPost_ret (v := .tuple #[.agg #[.pointer p0, .pointer p1, .pointer p2], .bool false]) ?ret rfl ?post
          case ret => rw [results_cell_tmp rfl]; go_simp
          case post => exact ⟨by rw [← hqq.out]; exact hb5.out, .inr ⟨p0, p1, p2, rfl⟩⟩
      · obtain ⟨_, _, _, _, cs⟩ := lev_cells hn.out
        have s0 : wr.cell? ⟨q + 2, 1, none⟩ = some (.string ⟨#[50]⟩) := cs 1
        clear cs
        go_wp2_with fail
        refine (hP1.out _ hLr).mono ?_
        rintro e w4 ⟨hb4, ⟨he, p, rfl, hl⟩ | ⟨he, l, er, hne, rfl⟩⟩
        · obtain ⟨b, rfl⟩ := hl.ne
          have hn4 := Lib.hid (hn.out.later hb4)
          obtain ⟨ca, fa, _, _, _⟩ := lev_cells hn4.out
          have a0 : w4.cell? ⟨q + 1, 0, none⟩ = some (.pointer p0) := ca 0
          have a1 : w4.cell? ⟨q + 1, 1, none⟩ = some (.pointer p1) := ca 1
          have a2 : w4.cell? ⟨q + 1, 2, none⟩ = some (.pointer p2) := ca 2
          have f0 := fa 0
          have f1 := fa 1
          have f2 := fa 2
          have hl := Lib.hid (hl.mono hz3)
          have he := Lib.hid he
          clear ca fa hb4
          go_wp2_with fail
          go_roundw
          case rel => exact ⟨2, p0, _, p2, rfl, by omega, hn4.out.set1 he.out hl.out⟩
          case measure => simp [intOf]
        · have hn4 := Lib.hid (hn.out.later hb4)
          obtain ⟨ca, _, cr, fr, _⟩ := lev_cells hn4.out
          have a0 : w4.cell? ⟨q + 1, 0, none⟩ = some (.pointer p0) := ca 0
          have a1 : w4.cell? ⟨q + 1, 1, none⟩ = some (.pointer p1) := ca 1
          have a2 : w4.cell? ⟨q + 1, 2, none⟩ = some (.pointer p2) := ca 2
          have r0 : w4.cell? ⟨q, 0, none⟩ = some (.pointer none) := cr 0
          have r1 : w4.cell? ⟨q, 1, none⟩ = some (.pointer none) := cr 1
          have r2 : w4.cell? ⟨q, 2, none⟩ = some (.pointer none) := cr 2
          have f0 := fr 0
          have f1 := fr 1
          have f2 := fr 2
          have hne1 : (er != 0) = true := by simpa using hne
          clear ca cr fr hb4 hne he
          go_wp2_with fail
          obtain ⟨W5, hW5, y0, y1, y2, hb5, ho5⟩ := lev_ret hn4.out
          rw [← hW5]
          clear hW5 a0 a1 a2 r0 r1 r2 f0 f1 f2
          refine bodyPost_ret (v := .tuple #[.agg #[.pointer p0, .pointer p1, .pointer p2], .bool false]) ?ret rfl ?post
          case ret => rw [results_cell_tmp rfl]; go_simp
          case post => exact ⟨by rw [← hqq.out]; exact hb5.out, .inr ⟨p0, p1, p2, rfl⟩⟩
      · obtain ⟨_, _, _, _, cs⟩ := lev_cells hn.out
        have s0 : wr.cell? ⟨q + 2, 2, none⟩ = some (.string ⟨#[51]⟩) := cs 2
        clear cs
        go_wp2_with fail
        refine (hP2.out _ hLr).mono ?_
        rintro e w4 ⟨hb4, ⟨he, p, rfl, hl⟩ | ⟨he, l, er, hne, rfl⟩⟩
        · obtain ⟨b, rfl⟩ := hl.ne
          have hn4 := Lib.hid (hn.out.later hb4)
          obtain ⟨ca, fa, _, _, _⟩ := lev_cells hn4.out
          have a0 : w4.cell? ⟨q + 1, 0, none⟩ = some (.pointer p0) := ca 0
          have a1 : w4.cell? ⟨q + 1, 1, none⟩ = some (.pointer p1) := ca 1
          have a2 : w4.cell? ⟨q + 1, 2, none⟩ = some (.pointer p2) := ca 2
          have f0 := fa 0
          have f1 := fa 1
          have f2 := fa 2
          have hl := Lib.hid (hl.mono hz3)
          have he := Lib.hid he
          clear ca fa hb4
          go_wp2_with fail
          go_roundw
          case rel => exact ⟨3, p0, p1, _, rfl, by omega, hn4.out.set2 he.out hl.out⟩
          case measure => simp [intOf]
        · have hn4 := Lib.hid (hn.out.later hb4)
          obtain ⟨ca, _, cr, fr, _⟩ := lev_cells hn4.out
          have a0 : w4.cell? ⟨q + 1, 0, none⟩ = some (.pointer p0) := ca 0
          have a1 : w4.cell? ⟨q + 1, 1, none⟩ = some (.pointer p1) := ca 1
          have a2 : w4.cell? ⟨q + 1, 2, none⟩ = some (.pointer p2) := ca 2
          have r0 : w4.cell? ⟨q, 0, none⟩ = some (.pointer none) := cr 0
          have r1 : w4.cell? ⟨q, 1, none⟩ = some (.pointer none) := cr 1
          have r2 : w4.cell? ⟨q, 2, none⟩ = some (.pointer none) := cr 2
          have f0 := fr 0
          have f1 := fr 1
          have f2 := fr 2
          have hne1 : (er != 0) = true := by simpa using hne
          clear ca cr fr hb4 hne he
          go_wp2_with fail
          obtain ⟨W5, hW5, y0, y1, y2, hb5, ho5⟩ := lev_ret hn4.out
          rw [← hW5]
          clear hW5 a0 a1 a2 r0 r1 r2 f0 f1 f2
          refine bodyPost_ret (v := .tuple #[.agg #[.pointer p0, .pointer p1, .pointer p2], .bool false]) ?ret rfl ?post
          case ret => rw [results_cell_tmp rfl]; go_simp
          case post => exact ⟨by rw [← hqq.out]; exact hb5.out, .inr ⟨p0, p1, p2, rfl⟩⟩
    · obtain rfl : k = 3 := by omega
      obtain ⟨ca, _, cr, fr, _⟩ := lev_cells hn.out
      have a0 : wr.cell? ⟨q + 1, 0, none⟩ = some (.pointer p0) := ca 0
      have a1 : wr.cell? ⟨q + 1, 1, none⟩ = some (.pointer p1) := ca 1
      have a2 : wr.cell? ⟨q + 1, 2, none⟩ = some (.pointer p2) := ca 2
      have r0 : wr.cell? ⟨q, 0, none⟩ = some (.pointer none) := cr 0
      have r1 : wr.cell? ⟨q, 1, none⟩ = some (.pointer none) := cr 1
      have r2 : wr.cell? ⟨q, 2, none⟩ = some (.pointer none) := cr 2
      have f0 := fr 0
      have f1 := fr 1
      have f2 := fr 2
      clear ca cr fr
      go_wp2_with fail
      obtain ⟨W5, hW5, y0, y1, y2, hb5, ho5⟩ := lev_ret hn.out
      rw [← hW5]
      clear hW5 a0 a1 a2 r0 r1 r2 f0 f1 f2
      refine bodyPost_ret (v := .tuple #[.agg #[.pointer p0, .pointer p1, .pointer p2], .bool true]) ?ret rfl ?post
      case ret => rw [results_cell_tmp rfl]; go_simp
      case post =>
        have z0 := hn.out.g0 (by omega)
        have z1 := hn.out.g1 (by omega)
        have z2 := hn.out.g2 (by omega)
        exact ⟨by rw [← hqq.out]; exact hb5.out, .inl ⟨p0, p1, p2, rfl, z0.1, z1.1, z2.1, (z0.2.same fun i hi _ => ho5.out i (by omega)).gives, (z1.2.same fun i hi _ => ho5.out i (by omega)).gives, (z2.2.same fun i hi _ => ho5.out i (by omega)).gives⟩⟩
theorem levels_calls (text : ByteArray) (W : World) (hL : LaidW W) (hs : text.size ≤ 2000) :
    Calls Tryd.prog 25 #[.string text] W (LevPost W text (tabOf (ext text (dig 0))) (tabOf (ext text (dig 1))) (tabOf (ext text (dig 2)))) :=
  levels_open text _ _ _ W hL hs (fun W' hL' => parse_at text hs W' hL' 0) (fun W' hL' => parse_at text hs W' hL' 1) (fun W' hL' => parse_at text hs W' hL' 2)
end Go.Proofs.YtibhifjehbajnaaDoor
