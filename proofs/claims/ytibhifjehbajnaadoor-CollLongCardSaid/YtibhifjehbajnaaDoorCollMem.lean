/- How a collation's table lies in memory: a block of five cells, the first of which is a map from characters to weights; what the map's operations do, as plain lists. -/
import Derived.Test.YtibhifjehbajnaaDoorChars
import Derived.Maps.OwnSet
import Derived.Maps.OwnOps
import Derived.StillTailTactics
import Derived.Carry
namespace Go.Proofs.YtibhifjehbajnaaDoor
open Go.RowKit Go.Maps

abbrev W3 := Int × Int × Int
def wv (w : W3) : Value := .agg #[.int .i64 w.1, .int .i64 w.2.1, .int .i64 w.2.2]
def wdat (w : W3) : DataW Unit := .agg [.lit (.int .i64 w.1), .lit (.int .i64 w.2.1), .lit (.int .i64 w.2.2)]
def wElemL : List Value → Option (DataW Unit × List MemPlace)
  | [.int .i64 a, .int .i64 b, .int .i64 c] => some (wdat (a, b, c), [])
  | _ => none
def wElem : Value → Option (DataW Unit × List MemPlace)
  | .agg cs => wElemL cs.toList
  | _ => none
theorem wElem_mk (w : W3) : wElem (wv w) = some (wdat w, []) := rfl
theorem wElemL_inv {l : List Value} {z : DataW Unit × List MemPlace} (h : wElemL l = some z) : ∃ w : W3, l = [.int .i64 w.1, .int .i64 w.2.1, .int .i64 w.2.2] ∧ z = (wdat w, []) := by
  unfold wElemL at h
  split at h
  · injection h with h; exact ⟨(_, _, _), rfl, h.symm⟩
  · cases h
theorem wElem_inv {v : Value} {z : DataW Unit × List MemPlace} (h : wElem v = some z) : ∃ w : W3, v = wv w ∧ z = (wdat w, []) := by
  cases v with
  | agg cs =>
    obtain ⟨w, h1, h2⟩ := wElemL_inv h
    refine ⟨w, ?_, h2⟩
    unfold wv
    rw [← h1]
  | _ => simp [wElem] at h
theorem wdat_inj {a b : W3} (h : wdat a = wdat b) : a = b := by
  simp [wdat] at h
  obtain ⟨h1, h2, h3⟩ := h
  exact Prod.ext h1 (Prod.ext h2 h3)

/-- The weights of c in a list of characters with weights, z if it is not there. -/
def getW (M : List (Int × W3)) (c : Int) (z : W3) : W3 := match M.find? (fun p => p.1 == c) with
  | some p => p.2
  | none => z
def inM (M : List (Int × W3)) (c : Int) : Bool := M.any (fun p => p.1 == c)

structure MapIs (D : DataW Unit) (M : List (Int × W3)) : Prop where
  tidy : Tidy D
  has : ∀ c, Maps.has D (.int .i32 c) = inM M c
  at_ : ∀ c z, D.atKey (.int .i32 c) (wdat z) = wdat (getW M c z)
  size : Maps.size D = M.length

theorem isKey_i32 (c : Int) : WideAt.IsKeyLit (.int .i32 c) := by simp [WideAt.IsKeyLit]

theorem MapIs.empty : MapIs (.map []) [] := ⟨tidy_empty, fun _ => rfl, fun _ _ => rfl, rfl⟩
theorem MapIs.put {D : DataW Unit} {M : List (Int × W3)} (h : MapIs D M) {c : Int} (hc : inM M c = false) (x : W3) : MapIs (D.put (.int .i32 c) (wdat x)) (M ++ [(c, x)]) := by
  refine ⟨h.tidy.put (isKey_i32 c) _, fun k => ?_, fun k z => ?_, ?_⟩
  · by_cases e : k = c
    · subst e
      rw [has_put_same h.tidy.isMap (isKey_i32 _)]
      simp [inM]
    · rw [has_put_other (by simp [e]), h.has]
      simp [inM, Ne.symm e]
  · by_cases e : k = c
    · subst e
      rw [atKey_put_same h.tidy.isMap (isKey_i32 _)]
      have hn : M.find? (fun p => p.1 == k) = none := by
        simp only [inM] at hc
        rw [List.find?_eq_none]
        intro p hp hh
        rw [List.any_eq_false] at hc
        exact hc p hp hh
      simp [getW, List.find?_append, hn]
    · rw [atKey_put_other (by simp [e]), h.at_]
      have hq : (M ++ [(c, x)]).find? (fun p => p.1 == k) = M.find? (fun p => p.1 == k) := by
        rw [List.find?_append]
        simp [Ne.symm e]
      unfold getW
      rw [hq]
  · rw [size_put h.tidy, h.has, hc, h.size]; simp

/-- The table at block b: its map at block m with M, the weights of the last listed character, the strength. -/
structure TabAt (W : World) (b m : Nat) (M : List (Int × W3)) (l : W3) (st : Int) : Prop where
  blk : W.heap[b]? = some (.cells #[.map (some m), .int .i64 l.1, .int .i64 l.2.1, .int .i64 l.2.2, .int .i64 st] 46 (0, 0))
  map : ∃ D, W.ownsMap (H := Unit) Tryd.prog 21 wElem m M.length D ∧ MapIs D M

theorem info_w : (Tryd.prog.info? 44).map (fun i => (i.zero, i.size, i.bytes)) = some (some (.agg #[.int .i64 0, .int .i64 0, .int .i64 0]), 3, 24) := by kernel_rfl
theorem zero_w (w : World) : (zeroValue 44).run Tryd.prog w = .ok (wv (0, 0, 0)) w := by kernel_rfl
theorem law21 : Keyed Tryd.prog 21 := int_keyed Tryd.underlying21

theorem TabAt.mapLt {W : World} {b m : Nat} {M : List (Int × W3)} {l : W3} {st : Int} (h : TabAt W b m M l st) : m < W.heap.size ∧ b < W.heap.size ∧ b ≠ m := by
  obtain ⟨D, hm, _⟩ := h.map
  have h1 := hm.lt
  have h2 : b < W.heap.size := (Array.getElem?_eq_some_iff.1 h.blk).1
  refine ⟨h1, h2, fun e => ?_⟩
  obtain ⟨es, clock, he, _⟩ := hm
  rw [← e, h.blk] at he
  cases he
/-- What lies below a bound stays where nothing below it is changed. -/
theorem TabAt.below {W W' : World} {b m B : Nat} {M : List (Int × W3)} {l : W3} {st : Int} (h : TabAt W b m M l st) (hb : Below B W W') (h1 : b < B) (h2 : m < B) : TabAt W' b m M l st := by
  obtain ⟨D, hm, hD⟩ := h.map
  refine ⟨(hb.block b h1).trans h.blk, D, ?_, hD⟩
  obtain ⟨es, clock, he, r⟩ := hm
  exact ⟨es, clock, (hb.block m h2).trans he, r⟩
theorem TabAt.drewN {W : World} {b m : Nat} {M : List (Int × W3)} {l : W3} {st : Int} (h : TabAt W b m M l st) (n : Nat) : TabAt (W.drewN n) b m M l st := ⟨h.blk, h.map⟩
theorem TabAt.alloc {W : World} {b m : Nat} {M : List (Int × W3)} {l : W3} {st : Int} (h : TabAt W b m M l st) (o : Obj) : TabAt (W.alloc o) b m M l st :=
  h.below ((Below.refl _ _).alloc (Nat.le_refl _) o) h.mapLt.2.1 h.mapLt.1
/-- Its five cells. -/
theorem TabAt.cell {W : World} {b m : Nat} {M : List (Int × W3)} {l : W3} {st : Int} (h : TabAt W b m M l st) :
    W.cell? ⟨b, 0, none⟩ = some (.map (some m)) ∧ W.cell? ⟨b, 1, none⟩ = some (.int .i64 l.1) ∧ W.cell? ⟨b, 2, none⟩ = some (.int .i64 l.2.1) ∧ W.cell? ⟨b, 3, none⟩ = some (.int .i64 l.2.2) ∧ W.cell? ⟨b, 4, none⟩ = some (.int .i64 st) := by
  simp [World.cell?, h.blk]
theorem TabAt.frozen {W : World} {b m : Nat} {M : List (Int × W3)} {l : W3} {st : Int} (h : TabAt W b m M l st) (k : Nat) : W.frozen? ⟨b, k, none⟩ = false := by
  simp [World.frozen?, h.blk]

def fullE (n : Nat) : Int := if 4096 < n then 2 else 0
/-- full: 4096 characters at most. -/
theorem full_calls (W : World) (b m : Nat) (M : List (Int × W3)) (l : W3) (st : Int) (h : TabAt W b m M l st) :
    Calls Tryd.prog 86 #[.pointer (some ⟨b, 0, none⟩)] W fun e w' => e = .returned (.int .i64 (fullE M.length)) ∧ W = w' := by
  obtain ⟨c0, c1, c2, c3, c4⟩ := h.cell
  clear c1 c2 c3 c4
  obtain ⟨D, hm, hD⟩ := h.map
  have hsz := hD.size
  have hS := Lib.hid hsz
  clear hsz
  have hlen : ∀ ty, (Builtin.len_ #[43] ty #[.map (some m)]).run Tryd.prog W = .ok (.int .i64 (Maps.size D)) W := fun ty => hm.len Tryd.underlying43 ty
  go_enter Tryd.func86, Tryd.ntmps86
  go_wp2_with fail
  all_goals go_ret
  all_goals exact ⟨ret_int (by rw [← hS.out]; unfold fullE; first | rw [if_pos (by omega)] | rw [if_neg (by omega)]), rfl⟩

/-- 'w, ok := t.of[c]' on a table's map. -/
theorem wpList_lookup_w (w : World) {ops : Array Oper} {rest : List Oper} {o : Oper} {a : Act} {Q : Exit → Act → World → Prop}
    (hg : o.guard = none) (m x : Operand) (hop : o.op = Op.lookup 43 m x true) (b n : Nat) (D : DataW Unit) (M : List (Int × W3)) (hm : a.eval m = .map (some b)) (hown : w.ownsMap Tryd.prog 21 wElem b n D) (hD : MapIs D M)
    (c : Int) (hx : a.eval x = .int .i32 c) (hk : keyOf Tryd.prog 21 (.int .i32 c) = some (.int .i32 c)) (ok : Bool) (hok : inM M c = ok)
    (hK : wpList Tryd.prog ops Q rest (a.put o.dst (.tuple #[.agg #[.int .i64 (getW M c (0, 0, 0)).1, .int .i64 (getW M c (0, 0, 0)).2.1, .int .i64 (getW M c (0, 0, 0)).2.2], .bool ok])) w) :
    wpList Tryd.prog ops Q (o :: rest) a w := by
  refine wpList_lookup_own_ok w hg m x 43 hop 21 44 law21 Tryd.underlying43 wElem (zero_w w) (wdat (0, 0, 0)) [] (wElem_mk _) b n D hm hown _ _ hx hk ?_
  intro v ps hv
  obtain ⟨u, rfl, hz⟩ := wElem_inv hv
  have hu : u = getW M c (0, 0, 0) := by
    have := congrArg Prod.fst hz
    rw [hD.at_] at this
    exact (wdat_inj this).symm
  subst hu
  rw [hD.has, hok]
  exact hK

set_option maxRecDepth 100000 in
theorem put_yes (W : World) (b m : Nat) (M : List (Int × W3)) (l : W3) (st : Int) (h : TabAt W b m M l st) (c : Int) (x : W3) (hc : inM M c = false) (hcw : (Lit.int .i32 c).wf = true) (hM : M.length < 4294967296) :
    Calls Tryd.prog 85 #[.pointer (some ⟨b, 0, none⟩), .int .i32 c, wv x] W fun e w' => e = .returned (.int .i64 0) ∧ TabAt w' b m (M ++ [(c, x)]) l st ∧ W.grownBy w' (some m) := by
  obtain ⟨c0, c1, c2, c3, c4⟩ := h.cell
  clear c1 c2 c3 c4
  obtain ⟨D, hm, hD⟩ := h.map
  have hlt := h.mapLt
  have hk0 : keyOf Tryd.prog 21 (.int .i32 c) = some (.int .i32 c) := keyOf_int_mk Tryd.underlying21 hcw
  have hk := Lib.hid hk0
  have hM' := Lib.hid hM
  have hcw' := Lib.hid hcw
  have hc' := Lib.hid hc
  clear hk0 hM hcw hc
  unfold wv
  go_enter Tryd.func85, Tryd.ntmps85
  go_wp2_with (at_lookup; refine wpList_lookup_w _ rfl _ _ rfl m _ D M rfl (hm.alloc _) hD c rfl hk.out false hc'.out ?_)
  obtain ⟨W2, hW2⟩ : ∃ W2, W2 = ((W.alloc (.cells #[.int .i64 x.1, .int .i64 x.2.1, .int .i64 x.2.2] 44)).alloc (.cells #[.int .i64 (getW M c (0, 0, 0)).1, .int .i64 (getW M c (0, 0, 0)).2.1, .int .i64 (getW M c (0, 0, 0)).2.2] 44)) := ⟨_, rfl⟩
  have hb2 : Below W.heap.size W W2 := by rw [hW2]; exact ((Below.refl _ _).alloc (Nat.le_refl _) _).alloc (by simp) _
  have hx0 : W2.cell? ⟨W.heap.size, 0, none⟩ = some (.int .i64 x.1) := by rw [hW2]; simp
  have hx1 : W2.cell? ⟨W.heap.size, 1, none⟩ = some (.int .i64 x.2.1) := by rw [hW2]; simp
  have hx2 : W2.cell? ⟨W.heap.size, 2, none⟩ = some (.int .i64 x.2.2) := by rw [hW2]; simp
  have hm2 : W2.ownsMap Tryd.prog 21 wElem m M.length D := by rw [hW2]; exact (hm.alloc _).alloc _
  have h2 : TabAt W2 b m M l st := by rw [hW2]; exact (h.alloc _).alloc _
  have c02 := h2.cell.1
  rw [← hW2]
  clear hW2 c0
  go_still_tail 6, (by kernel_rfl)
  change wpList _ _ _ _ _ W2.drew
  have hmd : W2.drew.ownsMap Tryd.prog 21 wElem m M.length D := hm2
  refine wpList_mapUpdate_own _ rfl _ _ _ 43 rfl 21 44 law21 Tryd.underlying43 wElem m M.length D rfl hmd (by have := hM'.out; unfold maxLen; omega) _ _ (.int .i32 c) rfl rfl hk.out (wdat x) [] rfl ?_
  intro w1 hown1 hgrow1
  have hT : TabAt w1 b m (M ++ [(c, x)]) l st ∧ W.grownBy w1 (some m) := by
    have hb0 : W2.drew.heap[b]? = W2.heap[b]? := rfl
    have hs := hgrow1.size
    have hs2 : W2.drew.heap.size = W2.heap.size := rfl
    refine ⟨⟨?_, D.put (.int .i32 c) (wdat x), by simpa using hown1, hD.put hc'.out x⟩, ⟨hgrow1.os.trans hb2.os, hgrow1.tape.trans hb2.tape, hgrow1.output.trans hb2.output, by have := hb2.size; omega, fun k hk hne => ?_⟩⟩
    · rw [hgrow1.block b (by have := h2.mapLt.2.1; omega) (by simpa using hlt.2.2), hb0]; exact h2.blk
    · rw [hgrow1.block k (by have := hb2.size; omega) hne]; exact hb2.block k hk
  have hT' := Lib.hid hT
  clear hT hown1 hgrow1 hmd hm2 h2 c02 hx0 hx1 hx2 hb2
  go_wp2
  go_ret
  exact ⟨rfl, hT'.out⟩

set_option maxRecDepth 100000 in
theorem put_no (W : World) (b m : Nat) (M : List (Int × W3)) (l : W3) (st : Int) (h : TabAt W b m M l st) (c : Int) (x : W3) (hc : inM M c = true) (hcw : (Lit.int .i32 c).wf = true) :
    Calls Tryd.prog 85 #[.pointer (some ⟨b, 0, none⟩), .int .i32 c, wv x] W fun e w' => e = .returned (.int .i64 4) ∧ Below W.heap.size W w' := by
  obtain ⟨c0, c1, c2, c3, c4⟩ := h.cell
  clear c1 c2 c3 c4
  obtain ⟨D, hm, hD⟩ := h.map
  have hlt := h.mapLt
  have hk0 : keyOf Tryd.prog 21 (.int .i32 c) = some (.int .i32 c) := keyOf_int_mk Tryd.underlying21 hcw
  have hk := Lib.hid hk0
  have hc' := Lib.hid hc
  clear hk0 hcw hc
  unfold wv
  go_enter Tryd.func85, Tryd.ntmps85
  go_wp2_with (at_lookup; refine wpList_lookup_w _ rfl _ _ rfl m _ D M rfl (hm.alloc _) hD c rfl hk.out true hc'.out ?_)
  go_ret
  exact ⟨rfl, ((Below.refl _ _).alloc (Nat.le_refl _) _).alloc (by simp) _⟩
end Go.Proofs.YtibhifjehbajnaaDoor
