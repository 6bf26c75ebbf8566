/- The closure of coll's Key, walked: it appends the weights of one level, in three bytes each. -/
import Derived.Test.YtibhifjehbajnaaDoorCollParse
namespace Go.Proofs.YtibhifjehbajnaaDoor
open Go.RowKit Go.Maps
set_option linter.unusedVariables false

/-- The weights of a character for a table. -/
def weightOf (t : CT) (c : Int) : W3 := if inM t.M c then getW t.M c (0, 0, 0) else (c + t.last.1 + 1, 1, 1)
def comp (w : W3) : Nat → Int
  | 0 => w.1
  | 1 => w.2.1
  | _ => w.2.2
def three (n : Int) : List Int := [n / 65536 % 256, n / 256 % 256, n % 256]
def lev1 (t : CT) (k : Nat) (c : Int) : List Int := if 0 < comp (weightOf t c) k then three (comp (weightOf t c) k) else []
/-- The runes of a string from place pos on, as Go's range gives them. -/
def runesFrom (s : ByteArray) : Nat → Nat → List Int
  | 0, _ => []
  | f + 1, pos => if pos < s.size then ((Utf8.decode s pos).1 : Int) :: runesFrom s f (pos + (Utf8.decode s pos).2) else []
def runesOf (s : ByteArray) : List Int := runesFrom s s.size 0
def levelOf (t : CT) (k : Nat) (cs : List Int) : List Int := (cs.map (lev1 t k)).flatten

/-- What a table is for those who only read it: its block, and its map (nil, or one that holds its characters). -/
structure TabRd (W : World) (b : Nat) (t : CT) (B : Nat) : Prop where
  lt : b < B
  size : B ≤ W.heap.size
  blk : ∃ mo, W.heap[b]? = some (.cells #[.map mo, .int .i64 t.last.1, .int .i64 t.last.2.1, .int .i64 t.last.2.2, .int .i64 t.st] 46 (0, 0)) ∧
    ((mo = none ∧ t.M = []) ∨ ∃ m D, mo = some m ∧ m < B ∧ W.ownsMap (H := Unit) Tryd.prog 21 wElem m t.M.length D ∧ MapIs D t.M)
theorem TabAt.rd {W : World} {b m B : Nat} {t : CT} (h : TabAt W b m t.M t.last t.st) (hb : b < B) (hm : m < B) (hB : B ≤ W.heap.size) : TabRd W b t B := by
  obtain ⟨D, hD, hM⟩ := h.map
  exact ⟨hb, hB, some m, h.blk, .inr ⟨m, D, rfl, hm, hD, hM⟩⟩
theorem TabRd.below {W W' : World} {b B : Nat} {t : CT} (h : TabRd W b t B) (k : Below B W W') : TabRd W' b t B := by
  obtain ⟨h1, h2, mo, h3, h4⟩ := h
  refine ⟨h1, Nat.le_trans h2 k.size, mo, (k.block b h1).trans h3, ?_⟩
  rcases h4 with h4 | ⟨m, D, h5, h6, ⟨es, clock, h7, h8⟩, h9⟩
  · exact .inl h4
  · exact .inr ⟨m, D, h5, h6, ⟨es, clock, (k.block m h6).trans h7, h8⟩, h9⟩
theorem TabRd.look {W : World} {b B : Nat} {t : CT} (h : TabRd W b t B) : ∃ mo, W.cell? ⟨b, 0, none⟩ = some (.map mo) ∧
    ∀ c, (Lit.int .i32 c).wf = true → (Instr.lookup 43 (.map mo) (.int .i32 c) true).run Tryd.prog W = .ok (.tuple #[wv (getW t.M c (0, 0, 0)), .bool (inM t.M c)]) W := by
  obtain ⟨h1, h2, mo, h3, h4⟩ := h
  refine ⟨mo, by simp [World.cell?, h3], fun c hc => ?_⟩
  have hk : keyOf Tryd.prog 21 (.int .i32 c) = some (.int .i32 c) := keyOf_int_mk Tryd.underlying21 hc
  rcases h4 with ⟨rfl, hM⟩ | ⟨m, D, rfl, hm, hown, hD⟩
  · rw [hM]
    exact Maps.look_nil true law21 Tryd.underlying43 (zero_w W) hk
  · obtain ⟨v, ps, hrun, hv⟩ := hown.look_ok law21 Tryd.underlying43 (zero_w W) (wElem_mk (0, 0, 0)) hk
    obtain ⟨u, rfl, hz⟩ := wElem_inv hv
    have hu : u = getW t.M c (0, 0, 0) := by
      have := congrArg Prod.fst hz
      rw [hD.at_] at this
      exact (wdat_inj this).symm
    rw [hrun, hD.has, hu]
theorem TabRd.cells {W : World} {b B : Nat} {t : CT} (h : TabRd W b t B) : W.cell? ⟨b, 1, none⟩ = some (.int .i64 t.last.1) ∧ W.cell? ⟨b, 4, none⟩ = some (.int .i64 t.st) := by
  obtain ⟨h1, h2, mo, h3, h4⟩ := h
  simp [World.cell?, h3]

theorem info_byte : (Tryd.prog.info? 5).map (fun i => (i.zero, i.size, i.bytes)) = some (some (.int .u8 0), 1, 1) := by kernel_rfl
def byteVs (xs : List Int) : List Value := xs.map (Value.int .u8)

/-- Below B, all but block ob is as it was. -/
structure But (B ob : Nat) (w w' : World) : Prop where
  os : w'.os = w.os
  tape : w'.tape = w.tape
  output : w'.output = w.output
  size : w.heap.size ≤ w'.heap.size
  block : ∀ k, k < B → k ≠ ob → w'.heap[k]? = w.heap[k]?

theorem But.below {w w' : World} {B ob B1 : Nat} (h : But B ob w w') (h1 : B1 ≤ ob) (h2 : ob ≤ B) : Below B1 w w' := ⟨h.os, h.tape, h.output, h.size, fun k hk => h.block k (by omega) (by omega)⟩
theorem But.refl (B ob : Nat) (w : World) : But B ob w w := ⟨rfl, rfl, rfl, Nat.le_refl _, fun _ _ _ => rfl⟩
theorem But.trans {B ob : Nat} {a b c : World} (h : But B ob a b) (k : But B ob b c) : But B ob a c :=
  ⟨k.os.trans h.os, k.tape.trans h.tape, k.output.trans h.output, Nat.le_trans h.size k.size, fun i hi hn => (k.block i hi hn).trans (h.block i hi hn)⟩
theorem But.of_below {B ob : Nat} {w w' : World} (h : Below B w w') : But B ob w w' := ⟨h.os, h.tape, h.output, h.size, fun k hk _ => h.block k hk⟩
theorem But.set {B ob : Nat} {w w' : World} (h : But B ob w w') (u : Value) : But B ob w (w'.setCell ⟨ob, 0, none⟩ u) :=
  h.trans ⟨rfl, rfl, rfl, by simp [World.setCell], fun k _ h1 => Below.heap_setCell _ _ _ _ h1⟩
theorem ownsRow_iter {w : World} {base : Nat} {e : TypeId} {size : Nat} {v : Value} {n : Nat} {xs : List Value} (h : w.ownsRow base e size v n xs) {k : Nat} {s : ByteArray} {pos : Nat} (hk : w.heap[k]? = some (.stringIter s pos)) (p : Nat) : (w.iterAt k s p).ownsRow base e size v n xs := by
  obtain ⟨h1, h2⟩ := h
  refine ⟨h1, ?_⟩
  rcases h2 with h2 | ⟨g, cap, cur, a, b, c, d⟩
  · exact .inl h2
  · have hne : g ≠ k := fun e1 => by rw [e1, hk] at c; cases c
    exact .inr ⟨g, cap, cur, a, b, by rw [Lib.iterAt_other _ _ _ _ _ hne]; exact c, d⟩

theorem cell_three_new (w : World) (a b c : Value) (t : TypeId) : ∀ j u, [a, b, c][j]? = some u → (w.alloc (.cells #[a, b, c] t)).cell? ((⟨w.heap.size, 0, none⟩ : Addr).add j) = some u := by
  intro j u hj
  match j, hj with
  | 0, hj => simp at hj; subst hj; simp [Addr.add]
  | 1, hj => simp at hj; subst hj; simp [Addr.add]
  | 2, hj => simp at hj; subst hj; simp [Addr.add]
  | j + 3, hj => simp at hj
theorem ownsRow_slice {w : World} {base : Nat} {e : TypeId} {size : Nat} {v : Value} {n : Nat} {xs : List Value} (h : w.ownsRow base e size v n xs) (hn : 0 < n) : ∃ g cap, v = .slice (some ⟨g, 0, none⟩) n cap := by
  rcases h.2 with ⟨_, h0⟩ | ⟨g, cap, cur, hv, _⟩
  · omega
  · exact ⟨g, cap, hv⟩
/-- What stands around the closure: the string, the table, the bytes so far. -/
structure Around (W : World) (sb tb ob b B : Nat) (s : ByteArray) (t : CT) (v : Value) (acc : List Int) : Prop where
  s_lt : sb < ob
  t_lt : tb < ob
  o_lt : ob < B
  size : B ≤ W.heap.size
  str : W.cell? ⟨sb, 0, none⟩ = some (.string s)
  ptr : W.cell? ⟨tb, 0, none⟩ = some (.pointer (some ⟨b, 0, none⟩))
  tab : TabRd W b t ob
  out : W.heap[ob]? = some (.cells #[v] 35 (0, 0))
  own : W.ownsRow B 5 1 v acc.length (byteVs acc)
theorem Around.step {W W' : World} {sb tb ob b B : Nat} {s : ByteArray} {t : CT} {v v' : Value} {acc acc' : List Int} (h : Around W sb tb ob b B s t v acc) (k : But B ob W W') (ho : W'.heap[ob]? = some (.cells #[v'] 35 (0, 0))) (hw : W'.ownsRow B 5 1 v' acc'.length (byteVs acc')) :
    Around W' sb tb ob b B s t v' acc' := by
  have hb := k.below (B1 := ob) (Nat.le_refl _) (by have := h.o_lt; omega)
  exact ⟨h.s_lt, h.t_lt, h.o_lt, Nat.le_trans h.size k.size, (hb.cell (p := ⟨sb, 0, none⟩) h.s_lt).trans h.str, (hb.cell (p := ⟨tb, 0, none⟩) h.t_lt).trans h.ptr, h.tab.below hb, ho, hw⟩

theorem ownsRow_ne_iter {w : World} {base : Nat} {e : TypeId} {size : Nat} {v : Value} {n : Nat} {xs : List Value} (h : w.ownsRow base e size v n xs) {k : Nat} {s : ByteArray} {pos : Nat} (hk : w.heap[k]? = some (.stringIter s pos)) : some k ≠ v.ownBlock := by
  rcases h.2 with ⟨rfl, _⟩ | ⟨g, cap, cur, rfl, _, c, _⟩
  · simp [Value.ownBlock]
  · simp only [Value.ownBlock, ne_eq, Option.some.injEq]
    intro e1
    rw [e1, c] at hk
    cases hk
theorem levelOf_cons (t : CT) (k : Nat) (c : Int) (l : List Int) : levelOf t k (c :: l) = lev1 t k c ++ levelOf t k l := by simp [levelOf]

/-- Behind the append of three bytes. -/
theorem Around.app {W W2 w3 : World} {sb tb ob b B : Nat} {s : ByteArray} {t : CT} {v v2 : Value} {acc : List Int} {x y z : Int} (h : Around W sb tb ob b B s t v acc) (h2 : Below W.heap.size W W2)
    (hown3 : w3.ownsRow B 5 1 v2 (acc.length + 3) (byteVs acc ++ [.int .u8 x, .int .u8 y, .int .u8 z])) (hg : W2.grownBy w3 v.ownBlock) :
    w3.heap[ob]? = some (.cells #[v] 35 (0, 0)) ∧ w3.cell? ⟨ob, 0, none⟩ = some v ∧ w3.frozen? ⟨ob, 0, none⟩ = false ∧ Around (w3.setCell ⟨ob, 0, none⟩ v2) sb tb ob b B s t v2 (acc ++ [x, y, z]) ∧ But B ob W (w3.setCell ⟨ob, 0, none⟩ v2) ∧
    (∀ k, k < W.heap.size → k ≠ ob → some k ≠ v.ownBlock → (w3.setCell ⟨ob, 0, none⟩ v2).heap[k]? = W.heap[k]?) := by
  have hob := h.o_lt
  have hsz := h.size
  have hB2 : But B ob W W2 := But.of_below (h2.mono h.size)
  have hbl : ∀ k, k < B → w3.heap[k]? = W.heap[k]? := fun k hk => by
    rw [hg.block k (by have := h2.size; omega) (fun e => by have := (h.own.lt k e.symm).1; omega)]
    exact h2.block k (by omega)
  have ho : w3.heap[ob]? = some (.cells #[v] 35 (0, 0)) := (hbl ob hob).trans h.out
  have hb3 : But B ob W w3 := ⟨hg.os.trans h2.os, hg.tape.trans h2.tape, hg.output.trans h2.output, Nat.le_trans h2.size hg.size, fun k hk _ => hbl k hk⟩
  have hb4 : But B ob W (w3.setCell ⟨ob, 0, none⟩ v2) := hb3.set v2
  refine ⟨ho, by simp [World.cell?, ho], by simp [World.frozen?, ho], h.step hb4 (by simp [World.setCell, Array.getElem?_modify, ho]) ?_, hb4, fun k hk hn1 hn2 => ?_⟩
  rotate_left
  · rw [Below.heap_setCell _ _ _ _ hn1, hg.block k (by have := h2.size; omega) hn2]
    exact h2.block k hk
  have e : (acc ++ [x, y, z]).length = acc.length + 3 := by simp
  rw [e]
  have e2 : byteVs (acc ++ [x, y, z]) = byteVs acc ++ [.int .u8 x, .int .u8 y, .int .u8 z] := by simp [byteVs]
  rw [e2]
  obtain ⟨q1, q2⟩ := hown3
  refine ⟨q1, ?_⟩
  rcases q2 with q2 | ⟨g, cap, cur, qa, qb, qc, qd⟩
  · exact .inl q2
  · exact .inr ⟨g, cap, cur, qa, qb, by rw [Below.heap_setCell _ _ _ _ (show g ≠ ob by omega)]; exact qc, qd⟩

set_option maxRecDepth 100000 in
set_option maxHeartbeats 1000000 in
theorem level0_calls (W : World) (sb tb ob b B : Nat) (s : ByteArray) (t : CT) (v : Value) (acc : List Int) (h : Around W sb tb ob b B s t v acc) (hl0 : 0 ≤ t.last.1) (hl1 : t.last.1 ≤ 1000000) (hss : s.size ≤ 4294967296) (hacc : acc.length ≤ 1000000000000) :
    Calls Tryd.prog 42 #[.int .i64 0, .pointer (some ⟨sb, 0, none⟩), .pointer (some ⟨tb, 0, none⟩), .pointer (some ⟨ob, 0, none⟩)] W fun e w' => e = .returned (.tuple #[]) ∧ ∃ v', Around w' sb tb ob b B s t v' (acc ++ levelOf t 0 (runesOf s)) ∧ But B ob W w' := by
  obtain ⟨i0, hi, hz0, hz1, hz2⟩ := info_parts info_byte
  have hstr := h.str
  go_enter Tryd.func42, Tryd.ntmps42
  go_wp2_with fail
  clear hstr
  go_loopw [6] (fun _ wr => ∃ (pos fuel : Nat) (v' : Value) (acc' : List Int), wr.heap[W.heap.size]? = some (.stringIter s pos) ∧ Around wr sb tb ob b B s t v' acc' ∧ But B ob W wr ∧ Hid (acc' ++ levelOf t 0 (runesFrom s fuel pos) = acc ++ levelOf t 0 (runesOf s)) ∧ s.size ≤ pos + fuel ∧ acc'.length ≤ acc.length + 3 * pos) (fun _ wr => s.size - wr.iterPos W.heap.size)
  case atStart =>
    have hal : Below W.heap.size W (W.iter s 0) := (Below.refl _ _).alloc (Nat.le_refl _) _
    have hob := h.o_lt
    have hsz := h.size
    have hBut : But B ob W (W.iter s 0) := But.of_below (hal.mono h.size)
    exact ⟨0, s.size, v, acc, World.iter_heap W s 0, h.step hBut ((hal.block ob (by omega)).trans h.out) (ownsRow_below h.own hal), hBut, rfl, by omega, by omega⟩
  case round =>
    obtain ⟨pos, fuel, v', acc', hit, hA, hB, HS, hb, hlen⟩ := hrel
    have hpos0 := iterPos_of hit
    by_cases hp : pos < s.size
    · have hnx : ∀ ty, (Instr.next (.pointer (some ⟨W.heap.size, 0, none⟩)) true ty).run Tryd.prog wr = _ := fun ty => Lib.run_next_any_at wr W.heap.size s pos ty hit hp
      have hwd := Lib.decode_width_pos s pos hp
      have hwl := width_le s pos hp
      obtain ⟨fuel, rfl⟩ : ∃ f', fuel = f' + 1 := ⟨fuel - 1, by omega⟩
      have hit2 := Lib.iterAt_heap wr W.heap.size s pos (pos + (Utf8.decode s pos).2) hit
      have hmx := decode_max s pos
      have hBit : B ≤ W.heap.size := h.size
      have hbi : Below B wr (wr.iterAt W.heap.size s (pos + (Utf8.decode s pos).2)) := Lib.below_iterAt (Below.refl _ _) hBit s _
      have hBi : But B ob W (wr.iterAt W.heap.size s (pos + (Utf8.decode s pos).2)) := hB.trans (But.of_below hbi)
      have hAi : Around (wr.iterAt W.heap.size s (pos + (Utf8.decode s pos).2)) sb tb ob b B s t v' acc' :=
        hA.step (But.of_below hbi) ((hbi.block ob h.o_lt).trans hA.out) (ownsRow_iter hA.own hit _)
      obtain ⟨W1, hW1⟩ : ∃ W1, W1 = wr.iterAt W.heap.size s (pos + (Utf8.decode s pos).2) := ⟨_, rfl⟩
      obtain ⟨c, hcd⟩ : ∃ c, c = ((Utf8.decode s pos).1 : Int) := ⟨_, rfl⟩
      obtain ⟨k, hkd⟩ : ∃ k, k = (Utf8.decode s pos).2 := ⟨_, rfl⟩
      have hS0 : Hid (runesFrom s (fuel + 1) pos = c :: runesFrom s fuel (pos + k)) := by show _ = _; rw [runesFrom, if_pos hp, ← hcd, ← hkd]
      rw [← hW1] at hnx hAi hBi hit2
      rw [← hcd] at hnx
      rw [← hkd] at hwd hwl hit2
      have hc0 : 0 ≤ c := by omega
      have hc1 : c ≤ 1114111 := by omega
      clear hW1 hcd hkd hbi hA hB hit hmx
      obtain ⟨mo, hm0, hlk0⟩ := hAi.tab.look
      have hlk := hlk0 c (wf_rune ⟨hc0, hc1⟩)
      unfold wv at hlk
      obtain ⟨hl, -⟩ := hAi.tab.cells
      have hptr := hAi.ptr
      have hbs : b < W1.heap.size := Nat.lt_of_lt_of_le hAi.tab.lt hAi.tab.size
      have hos : ob < W1.heap.size := Nat.lt_of_lt_of_le hAi.o_lt hAi.size
      have hts : tb < W1.heap.size := Nat.lt_trans hAi.t_lt hos
      have hp1 : ∀ ob, (W1.alloc ob).cell? ⟨tb, 0, none⟩ = some (.pointer (some ⟨b, 0, none⟩)) := fun ob => (World.cell?_alloc_past _ _ _ hts).trans hptr
      have hl1' : ∀ ob, (W1.alloc ob).cell? ⟨b, 1, none⟩ = some (.int .i64 t.last.1) := fun ob => (World.cell?_alloc_past _ _ _ hbs).trans hl
      have hoc : W1.cell? ⟨ob, 0, none⟩ = some v' := by simp [World.cell?, hAi.out]
      have hof : W1.frozen? ⟨ob, 0, none⟩ = false := by simp [World.frozen?, hAi.out]
      have hoc1 : ∀ oo, (W1.alloc oo).cell? ⟨ob, 0, none⟩ = some v' := fun oo => (World.cell?_alloc_past _ _ _ hos).trans hoc
      have hown := hAi.own
      have hitlt : W.heap.size < W1.heap.size := (Array.getElem?_eq_some_iff.1 hit2).1
      have hoB := hAi.o_lt
      clear hlk0
      cases hin : inM t.M c with
      | true =>
        rw [hin] at hlk
        obtain ⟨n, hn⟩ : ∃ n, n = (getW t.M c (0, 0, 0)).1 := ⟨_, rfl⟩
        rw [← hn] at hlk
        have hcw : comp (weightOf t c) 0 = n := by simp [weightOf, hin, comp, hn]
        have hcw' := Lib.hid hcw
        clear hn hcw
        by_cases hnp : 0 < n
        · have hlv : lev1 t 0 c = [n / 65536 % 256, n / 256 % 256, n % 256] := by simp [lev1, hcw'.out, hnp, three]
          have hlv' := Lib.hid hlv
          clear hlv
          go_wp2_with (at_builtin; refine wpList_append_own _ rfl _ _ 35 rfl B 5 i0 (.int .u8 0) 1 1 Tryd.underlying35 hi hz0 hz1 hz2 rfl (by decide) _ _ _ rfl ((hown.alloc _).alloc _) ⟨W1.heap.size + 1, 0, none⟩ 3 3 [.int .u8 (n / 65536 % 256), .int .u8 (n / 256 % 256), .int .u8 (n % 256)] rfl rfl ?c1 ?c2 ?c3 ?c4 ?c5 ?_; (case c1 => have := cell_three_new (W1.alloc (.cells #[.int .i64 n, .int .i64 (getW t.M c (0, 0, 0)).2.1, .int .i64 (getW t.M c (0, 0, 0)).2.2] 44)) (.int .u8 (n / 65536 % 256)) (.int .u8 (n / 256 % 256)) (.int .u8 (n % 256)) 5; rw [World.size_alloc] at this; exact this); (case c2 => intro y hy; simp at hy; rcases hy with rfl | rfl | rfl <;> rfl); (case c3 => unfold maxLen; omega); (case c4 => omega); (case c5 => simp; have := hAi.size; omega); intro v2 w3 hown3 hgrow3 hnil3; obtain ⟨g2, cp2, hv2⟩ := ownsRow_slice hown3 (by omega); have hX := hAi.app (((Below.refl _ _).alloc (Nat.le_refl _) _).alloc (by simp) _) hown3 hgrow3; rw [hv2] at hX ⊢; obtain ⟨hx1, hx2, hx3, hx4, hx5, hx6⟩ := hX; have hx4' := Lib.hid hx4; have hx5' := Lib.hid hx5; have hx6' := Lib.hid hx6; clear hx1 hx4 hx5 hx6 hown3 hgrow3 hnil3 hv2)
          have hit3 := (hx6'.out W.heap.size hitlt (by omega) (ownsRow_ne_iter hAi.own hit2)).trans hit2
          go_roundw
          case rel => exact ⟨pos + k, fuel, _, _, hit3, hx4'.out, hBi.trans hx5'.out, (by show _ = _; rw [← HS.out, hS0.out, levelOf_cons, hlv'.out, List.append_assoc]), by omega, by simp; omega⟩
          case measure => rw [iterPos_of hit3, hpos0]; omega
        · have hlv : lev1 t 0 c = [] := by simp [lev1, hcw'.out, hnp]
          have hlv' := Lib.hid hlv
          have hnn : n ≤ 0 := by omega
          clear hlv hnp
          go_wp2_with fail
          go_roundw
          case rel =>
            have hal : ∀ oo, Below W1.heap.size W1 (W1.alloc oo) := fun oo => (Below.refl _ _).alloc (Nat.le_refl _) oo
            refine ⟨pos + k, fuel, v', acc', (by rw [Below.heap_alloc _ _ _ hitlt]; exact hit2), hAi.step (But.of_below ((hal _).mono hAi.size)) (by rw [Below.heap_alloc _ _ _ hos]; exact hAi.out) (hAi.own.alloc _), hBi.trans (But.of_below ((hal _).mono hAi.size)), (by show _ = _; rw [← HS.out, hS0.out, levelOf_cons, hlv'.out, List.nil_append]), by omega, by omega⟩
          case measure =>
            have hit3 : ∀ oo, (W1.alloc oo).heap[W.heap.size]? = some (.stringIter s (pos + k)) := fun oo => by rw [Below.heap_alloc _ _ _ hitlt]; exact hit2
            rw [iterPos_of (hit3 _), hpos0]; omega
      | false =>
        rw [hin] at hlk
        have hlv : lev1 t 0 c = [(c + t.last.1 + 1) / 65536, (c + t.last.1 + 1) / 256 % 256, (c + t.last.1 + 1) % 256] := by
          have h1 : 0 < c + t.last.1 + 1 := by omega
          have h2 : (c + t.last.1 + 1) / 65536 % 256 = (c + t.last.1 + 1) / 65536 := by omega
          simp [lev1, weightOf, hin, comp, h1, three, h2]
        have hlv' := Lib.hid hlv
        clear hlv
        go_wp2_with (at_builtin; refine wpList_append_own _ rfl _ _ 35 rfl B 5 i0 (.int .u8 0) 1 1 Tryd.underlying35 hi hz0 hz1 hz2 rfl (by decide) _ _ _ rfl ((hown.alloc _).alloc _) ⟨W1.heap.size + 1, 0, none⟩ 3 3 [.int .u8 ((c + t.last.1 + 1) / 65536), .int .u8 ((c + t.last.1 + 1) / 256 % 256), .int .u8 ((c + t.last.1 + 1) % 256)] rfl rfl ?c1 ?c2 ?c3 ?c4 ?c5 ?_; (case c1 => have := cell_three_new (W1.alloc (.cells #[.int .i64 (c + t.last.1 + 1), .int .i64 1, .int .i64 1] 44)) (.int .u8 ((c + t.last.1 + 1) / 65536)) (.int .u8 ((c + t.last.1 + 1) / 256 % 256)) (.int .u8 ((c + t.last.1 + 1) % 256)) 5; rw [World.size_alloc] at this; exact this); (case c2 => intro y hy; simp at hy; rcases hy with rfl | rfl | rfl <;> rfl); (case c3 => unfold maxLen; omega); (case c4 => omega); (case c5 => simp; have := hAi.size; omega); intro v2 w3 hown3 hgrow3 hnil3; obtain ⟨g2, cp2, hv2⟩ := ownsRow_slice hown3 (by omega); have hX := hAi.app (((Below.refl _ _).alloc (Nat.le_refl _) _).alloc (by simp) _) hown3 hgrow3; rw [hv2] at hX ⊢; obtain ⟨hx1, hx2, hx3, hx4, hx5, hx6⟩ := hX; have hx4' := Lib.hid hx4; have hx5' := Lib.hid hx5; have hx6' := Lib.hid hx6; clear hx1 hx4 hx5 hx6 hown3 hgrow3 hnil3 hv2)
        have hit3 := (hx6'.out W.heap.size hitlt (by omega) (ownsRow_ne_iter hAi.own hit2)).trans hit2
        go_roundw
        case rel => exact ⟨pos + k, fuel, _, _, hit3, hx4'.out, hBi.trans hx5'.out, (by show _ = _; rw [← HS.out, hS0.out, levelOf_cons, hlv'.out, List.append_assoc]), by omega, by simp; omega⟩
        case measure => rw [iterPos_of hit3, hpos0]; omega
    · have hnx : ∀ ty, (Instr.next (.pointer (some ⟨W.heap.size, 0, none⟩)) true ty).run Tryd.prog wr = _ := fun ty => Lib.run_next_end_at wr W.heap.size s pos ty hit hp
      have e : Hid (acc' = acc ++ levelOf t 0 (runesOf s)) := by
        show _ = _
        rw [← HS.out]
        cases fuel <;> simp [runesFrom, hp, levelOf]
      go_wp2_with fail
      go_end0
      exact ⟨rfl, v', by rw [← e.out]; exact hA, hB⟩

set_option maxRecDepth 100000 in
set_option maxHeartbeats 1000000 in
theorem level1_calls (W : World) (sb tb ob b B : Nat) (s : ByteArray) (t : CT) (v : Value) (acc : List Int) (h : Around W sb tb ob b B s t v acc) (hl0 : 0 ≤ t.last.1) (hl1 : t.last.1 ≤ 1000000) (hss : s.size ≤ 4294967296) (hacc : acc.length ≤ 1000000000000) :
    Calls Tryd.prog 42 #[.int .i64 1, .pointer (some ⟨sb, 0, none⟩), .pointer (some ⟨tb, 0, none⟩), .pointer (some ⟨ob, 0, none⟩)] W fun e w' => e = .returned (.tuple #[]) ∧ ∃ v', Around w' sb tb ob b B s t v' (acc ++ levelOf t 1 (runesOf s)) ∧ But B ob W w' := by
  obtain ⟨i0, hi, hz0, hz1, hz2⟩ := info_parts info_byte
  have hstr := h.str
  go_enter Tryd.func42, Tryd.ntmps42
  go_wp2_with fail
  clear hstr
  go_loopw [6] (fun _ wr => ∃ (pos fuel : Nat) (v' : Value) (acc' : List Int), wr.heap[W.heap.size]? = some (.stringIter s pos) ∧ Around wr sb tb ob b B s t v' acc' ∧ But B ob W wr ∧ Hid (acc' ++ levelOf t 1 (runesFrom s fuel pos) = acc ++ levelOf t 1 (runesOf s)) ∧ s.size ≤ pos + fuel ∧ acc'.length ≤ acc.length + 3 * pos) (fun _ wr => s.size - wr.iterPos W.heap.size)
  case atStart =>
    have hal : Below W.heap.size W (W.iter s 0) := (Below.refl _ _).alloc (Nat.le_refl _) _
    have hob := h.o_lt
    have hsz := h.size
    have hBut : But B ob W (W.iter s 0) := But.of_below (hal.mono h.size)
    exact ⟨0, s.size, v, acc, World.iter_heap W s 0, h.step hBut ((hal.block ob (by omega)).trans h.out) (ownsRow_below h.own hal), hBut, rfl, by omega, by omega⟩
  case round =>
    obtain ⟨pos, fuel, v', acc', hit, hA, hB, HS, hb, hlen⟩ := hrel
    have hpos0 := iterPos_of hit
    by_cases hp : pos < s.size
    · have hnx : ∀ ty, (Instr.next (.pointer (some ⟨W.heap.size, 0, none⟩)) true ty).run Tryd.prog wr = _ := fun ty => Lib.run_next_any_at wr W.heap.size s pos ty hit hp
      have hwd := Lib.decode_width_pos s pos hp
      have hwl := width_le s pos hp
      obtain ⟨fuel, rfl⟩ : ∃ f', fuel = f' + 1 := ⟨fuel - 1, by omega⟩
      have hit2 := Lib.iterAt_heap wr W.heap.size s pos (pos + (Utf8.decode s pos).2) hit
      have hmx := decode_max s pos
      have hBit : B ≤ W.heap.size := h.size
      have hbi : Below B wr (wr.iterAt W.heap.size s (pos + (Utf8.decode s pos).2)) := Lib.below_iterAt (Below.refl _ _) hBit s _
      have hBi : But B ob W (wr.iterAt W.heap.size s (pos + (Utf8.decode s pos).2)) := hB.trans (But.of_below hbi)
      have hAi : Around (wr.iterAt W.heap.size s (pos + (Utf8.decode s pos).2)) sb tb ob b B s t v' acc' :=
        hA.step (But.of_below hbi) ((hbi.block ob h.o_lt).trans hA.out) (ownsRow_iter hA.own hit _)
      obtain ⟨W1, hW1⟩ : ∃ W1, W1 = wr.iterAt W.heap.size s (pos + (Utf8.decode s pos).2) := ⟨_, rfl⟩
      obtain ⟨c, hcd⟩ : ∃ c, c = ((Utf8.decode s pos).1 : Int) := ⟨_, rfl⟩
      obtain ⟨k, hkd⟩ : ∃ k, k = (Utf8.decode s pos).2 := ⟨_, rfl⟩
      have hS0 : Hid (runesFrom s (fuel + 1) pos = c :: runesFrom s fuel (pos + k)) := by show _ = _; rw [runesFrom, if_pos hp, ← hcd, ← hkd]
      rw [← hW1] at hnx hAi hBi hit2
      rw [← hcd] at hnx
      rw [← hkd] at hwd hwl hit2
      have hc0 : 0 ≤ c := by omega
      have hc1 : c ≤ 1114111 := by omega
      clear hW1 hcd hkd hbi hA hB hit hmx
      obtain ⟨mo, hm0, hlk0⟩ := hAi.tab.look
      have hlk := hlk0 c (wf_rune ⟨hc0, hc1⟩)
      unfold wv at hlk
      obtain ⟨hl, -⟩ := hAi.tab.cells
      have hptr := hAi.ptr
      have hbs : b < W1.heap.size := Nat.lt_of_lt_of_le hAi.tab.lt hAi.tab.size
      have hos : ob < W1.heap.size := Nat.lt_of_lt_of_le hAi.o_lt hAi.size
      have hts : tb < W1.heap.size := Nat.lt_trans hAi.t_lt hos
      have hp1 : ∀ ob, (W1.alloc ob).cell? ⟨tb, 0, none⟩ = some (.pointer (some ⟨b, 0, none⟩)) := fun ob => (World.cell?_alloc_past _ _ _ hts).trans hptr
      have hl1' : ∀ ob, (W1.alloc ob).cell? ⟨b, 1, none⟩ = some (.int .i64 t.last.1) := fun ob => (World.cell?_alloc_past _ _ _ hbs).trans hl
      have hoc : W1.cell? ⟨ob, 0, none⟩ = some v' := by simp [World.cell?, hAi.out]
      have hof : W1.frozen? ⟨ob, 0, none⟩ = false := by simp [World.frozen?, hAi.out]
      have hoc1 : ∀ oo, (W1.alloc oo).cell? ⟨ob, 0, none⟩ = some v' := fun oo => (World.cell?_alloc_past _ _ _ hos).trans hoc
      have hown := hAi.own
      have hitlt : W.heap.size < W1.heap.size := (Array.getElem?_eq_some_iff.1 hit2).1
      have hoB := hAi.o_lt
      clear hlk0
      cases hin : inM t.M c with
      | true =>
        rw [hin] at hlk
        obtain ⟨n, hn⟩ : ∃ n, n = (getW t.M c (0, 0, 0)).2.1 := ⟨_, rfl⟩
        rw [← hn] at hlk
        have hcw : comp (weightOf t c) 1 = n := by simp [weightOf, hin, comp, hn]
        have hcw' := Lib.hid hcw
        clear hn hcw
        by_cases hnp : 0 < n
        · have hlv : lev1 t 1 c = [n / 65536 % 256, n / 256 % 256, n % 256] := by simp [lev1, hcw'.out, hnp, three]
          have hlv' := Lib.hid hlv
          clear hlv
          go_wp2_with (at_builtin; refine wpList_append_own _ rfl _ _ 35 rfl B 5 i0 (.int .u8 0) 1 1 Tryd.underlying35 hi hz0 hz1 hz2 rfl (by decide) _ _ _ rfl ((hown.alloc _).alloc _) ⟨W1.heap.size + 1, 0, none⟩ 3 3 [.int .u8 (n / 65536 % 256), .int .u8 (n / 256 % 256), .int .u8 (n % 256)] rfl rfl ?c1 ?c2 ?c3 ?c4 ?c5 ?_; (case c1 => have := cell_three_new (W1.alloc (.cells #[.int .i64 (getW t.M c (0, 0, 0)).1, .int .i64 n, .int .i64 (getW t.M c (0, 0, 0)).2.2] 44)) (.int .u8 (n / 65536 % 256)) (.int .u8 (n / 256 % 256)) (.int .u8 (n % 256)) 5; rw [World.size_alloc] at this; exact this); (case c2 => intro y hy; simp at hy; rcases hy with rfl | rfl | rfl <;> rfl); (case c3 => unfold maxLen; omega); (case c4 => omega); (case c5 => simp; have := hAi.size; omega); intro v2 w3 hown3 hgrow3 hnil3; obtain ⟨g2, cp2, hv2⟩ := ownsRow_slice hown3 (by omega); have hX := hAi.app (((Below.refl _ _).alloc (Nat.le_refl _) _).alloc (by simp) _) hown3 hgrow3; rw [hv2] at hX ⊢; obtain ⟨hx1, hx2, hx3, hx4, hx5, hx6⟩ := hX; have hx4' := Lib.hid hx4; have hx5' := Lib.hid hx5; have hx6' := Lib.hid hx6; clear hx1 hx4 hx5 hx6 hown3 hgrow3 hnil3 hv2)
          have hit3 := (hx6'.out W.heap.size hitlt (by omega) (ownsRow_ne_iter hAi.own hit2)).trans hit2
          go_roundw
          case rel => exact ⟨pos + k, fuel, _, _, hit3, hx4'.out, hBi.trans hx5'.out, (by show _ = _; rw [← HS.out, hS0.out, levelOf_cons, hlv'.out, List.append_assoc]), by omega, by simp; omega⟩
          case measure => rw [iterPos_of hit3, hpos0]; omega
        · have hlv : lev1 t 1 c = [] := by simp [lev1, hcw'.out, hnp]
          have hlv' := Lib.hid hlv
          have hnn : n ≤ 0 := by omega
          clear hlv hnp
          go_wp2_with fail
          go_roundw
          case rel =>
            have hal : ∀ oo, Below W1.heap.size W1 (W1.alloc oo) := fun oo => (Below.refl _ _).alloc (Nat.le_refl _) oo
            refine ⟨pos + k, fuel, v', acc', (by rw [Below.heap_alloc _ _ _ hitlt]; exact hit2), hAi.step (But.of_below ((hal _).mono hAi.size)) (by rw [Below.heap_alloc _ _ _ hos]; exact hAi.out) (hAi.own.alloc _), hBi.trans (But.of_below ((hal _).mono hAi.size)), (by show _ = _; rw [← HS.out, hS0.out, levelOf_cons, hlv'.out, List.nil_append]), by omega, by omega⟩
          case measure =>
            have hit3 : ∀ oo, (W1.alloc oo).heap[W.heap.size]? = some (.stringIter s (pos + k)) := fun oo => by rw [Below.heap_alloc _ _ _ hitlt]; exact hit2
            rw [iterPos_of (hit3 _), hpos0]; omega
      | false =>
        rw [hin] at hlk
        have hlv : lev1 t 1 c = [0, 0, 1] := by simp [lev1, weightOf, hin, comp, three]
        have hlv' := Lib.hid hlv
        clear hlv
        go_wp2_with (at_builtin; refine wpList_append_own _ rfl _ _ 35 rfl B 5 i0 (.int .u8 0) 1 1 Tryd.underlying35 hi hz0 hz1 hz2 rfl (by decide) _ _ _ rfl ((hown.alloc _).alloc _) ⟨W1.heap.size + 1, 0, none⟩ 3 3 [.int .u8 0, .int .u8 0, .int .u8 1] rfl rfl ?c1 ?c2 ?c3 ?c4 ?c5 ?_; (case c1 => have := cell_three_new (W1.alloc (.cells #[.int .i64 (c + t.last.1 + 1), .int .i64 1, .int .i64 1] 44)) (.int .u8 0) (.int .u8 0) (.int .u8 1) 5; rw [World.size_alloc] at this; exact this); (case c2 => intro y hy; simp at hy; rcases hy with rfl | rfl | rfl <;> rfl); (case c3 => unfold maxLen; omega); (case c4 => omega); (case c5 => simp; have := hAi.size; omega); intro v2 w3 hown3 hgrow3 hnil3; obtain ⟨g2, cp2, hv2⟩ := ownsRow_slice hown3 (by omega); have hX := hAi.app (((Below.refl _ _).alloc (Nat.le_refl _) _).alloc (by simp) _) hown3 hgrow3; rw [hv2] at hX ⊢; obtain ⟨hx1, hx2, hx3, hx4, hx5, hx6⟩ := hX; have hx4' := Lib.hid hx4; have hx5' := Lib.hid hx5; have hx6' := Lib.hid hx6; clear hx1 hx4 hx5 hx6 hown3 hgrow3 hnil3 hv2)
        have hit3 := (hx6'.out W.heap.size hitlt (by omega) (ownsRow_ne_iter hAi.own hit2)).trans hit2
        go_roundw
        case rel => exact ⟨pos + k, fuel, _, _, hit3, hx4'.out, hBi.trans hx5'.out, (by show _ = _; rw [← HS.out, hS0.out, levelOf_cons, hlv'.out, List.append_assoc]), by omega, by simp; omega⟩
        case measure => rw [iterPos_of hit3, hpos0]; omega
    · have hnx : ∀ ty, (Instr.next (.pointer (some ⟨W.heap.size, 0, none⟩)) true ty).run Tryd.prog wr = _ := fun ty => Lib.run_next_end_at wr W.heap.size s pos ty hit hp
      have e : Hid (acc' = acc ++ levelOf t 1 (runesOf s)) := by
        show _ = _
        rw [← HS.out]
        cases fuel <;> simp [runesFrom, hp, levelOf]
      go_wp2_with fail
      go_end0
      exact ⟨rfl, v', by rw [← e.out]; exact hA, hB⟩

set_option maxRecDepth 100000 in
set_option maxHeartbeats 1000000 in
theorem level2_calls (W : World) (sb tb ob b B : Nat) (s : ByteArray) (t : CT) (v : Value) (acc : List Int) (h : Around W sb tb ob b B s t v acc) (hl0 : 0 ≤ t.last.1) (hl1 : t.last.1 ≤ 1000000) (hss : s.size ≤ 4294967296) (hacc : acc.length ≤ 1000000000000) :
    Calls Tryd.prog 42 #[.int .i64 2, .pointer (some ⟨sb, 0, none⟩), .pointer (some ⟨tb, 0, none⟩), .pointer (some ⟨ob, 0, none⟩)] W fun e w' => e = .returned (.tuple #[]) ∧ ∃ v', Around w' sb tb ob b B s t v' (acc ++ levelOf t 2 (runesOf s)) ∧ But B ob W w' := by
  obtain ⟨i0, hi, hz0, hz1, hz2⟩ := info_parts info_byte
  have hstr := h.str
  go_enter Tryd.func42, Tryd.ntmps42
  go_wp2_with fail
  clear hstr
  go_loopw [6] (fun _ wr => ∃ (pos fuel : Nat) (v' : Value) (acc' : List Int), wr.heap[W.heap.size]? = some (.stringIter s pos) ∧ Around wr sb tb ob b B s t v' acc' ∧ But B ob W wr ∧ Hid (acc' ++ levelOf t 2 (runesFrom s fuel pos) = acc ++ levelOf t 2 (runesOf s)) ∧ s.size ≤ pos + fuel ∧ acc'.length ≤ acc.length + 3 * pos) (fun _ wr => s.size - wr.iterPos W.heap.size)
  case atStart =>
    have hal : Below W.heap.size W (W.iter s 0) := (Below.refl _ _).alloc (Nat.le_refl _) _
    have hob := h.o_lt
    have hsz := h.size
    have hBut : But B ob W (W.iter s 0) := But.of_below (hal.mono h.size)
    exact ⟨0, s.size, v, acc, World.iter_heap W s 0, h.step hBut ((hal.block ob (by omega)).trans h.out) (ownsRow_below h.own hal), hBut, rfl, by omega, by omega⟩
  case round =>
    obtain ⟨pos, fuel, v', acc', hit, hA, hB, HS, hb, hlen⟩ := hrel
    have hpos0 := iterPos_of hit
    by_cases hp : pos < s.size
    · have hnx : ∀ ty, (Instr.next (.pointer (some ⟨W.heap.size, 0, none⟩)) true ty).run Tryd.prog wr = _ := fun ty => Lib.run_next_any_at wr W.heap.size s pos ty hit hp
      have hwd := Lib.decode_width_pos s pos hp
      have hwl := width_le s pos hp
      obtain ⟨fuel, rfl⟩ : ∃ f', fuel = f' + 1 := ⟨fuel - 1, by omega⟩
      have hit2 := Lib.iterAt_heap wr W.heap.size s pos (pos + (Utf8.decode s pos).2) hit
      have hmx := decode_max s pos
      have hBit : B ≤ W.heap.size := h.size
      have hbi : Below B wr (wr.iterAt W.heap.size s (pos + (Utf8.decode s pos).2)) := Lib.below_iterAt (Below.refl _ _) hBit s _
      have hBi : But B ob W (wr.iterAt W.heap.size s (pos + (Utf8.decode s pos).2)) := hB.trans (But.of_below hbi)
      have hAi : Around (wr.iterAt W.heap.size s (pos + (Utf8.decode s pos).2)) sb tb ob b B s t v' acc' :=
        hA.step (But.of_below hbi) ((hbi.block ob h.o_lt).trans hA.out) (ownsRow_iter hA.own hit _)
      obtain ⟨W1, hW1⟩ : ∃ W1, W1 = wr.iterAt W.heap.size s (pos + (Utf8.decode s pos).2) := ⟨_, rfl⟩
      obtain ⟨c, hcd⟩ : ∃ c, c = ((Utf8.decode s pos).1 : Int) := ⟨_, rfl⟩
      obtain ⟨k, hkd⟩ : ∃ k, k = (Utf8.decode s pos).2 := ⟨_, rfl⟩
      have hS0 : Hid (runesFrom s (fuel + 1) pos = c :: runesFrom s fuel (pos + k)) := by show _ = _; rw [runesFrom, if_pos hp, ← hcd, ← hkd]
      rw [← hW1] at hnx hAi hBi hit2
      rw [← hcd] at hnx
      rw [← hkd] at hwd hwl hit2
      have hc0 : 0 ≤ c := by omega
      have hc1 : c ≤ 1114111 := by omega
      clear hW1 hcd hkd hbi hA hB hit hmx
      obtain ⟨mo, hm0, hlk0⟩ := hAi.tab.look
      have hlk := hlk0 c (wf_rune ⟨hc0, hc1⟩)
      unfold wv at hlk
      obtain ⟨hl, -⟩ := hAi.tab.cells
      have hptr := hAi.ptr
      have hbs : b < W1.heap.size := Nat.lt_of_lt_of_le hAi.tab.lt hAi.tab.size
      have hos : ob < W1.heap.size := Nat.lt_of_lt_of_le hAi.o_lt hAi.size
      have hts : tb < W1.heap.size := Nat.lt_trans hAi.t_lt hos
      have hp1 : ∀ ob, (W1.alloc ob).cell? ⟨tb, 0, none⟩ = some (.pointer (some ⟨b, 0, none⟩)) := fun ob => (World.cell?_alloc_past _ _ _ hts).trans hptr
      have hl1' : ∀ ob, (W1.alloc ob).cell? ⟨b, 1, none⟩ = some (.int .i64 t.last.1) := fun ob => (World.cell?_alloc_past _ _ _ hbs).trans hl
      have hoc : W1.cell? ⟨ob, 0, none⟩ = some v' := by simp [World.cell?, hAi.out]
      have hof : W1.frozen? ⟨ob, 0, none⟩ = false := by simp [World.frozen?, hAi.out]
      have hoc1 : ∀ oo, (W1.alloc oo).cell? ⟨ob, 0, none⟩ = some v' := fun oo => (World.cell?_alloc_past _ _ _ hos).trans hoc
      have hown := hAi.own
      have hitlt : W.heap.size < W1.heap.size := (Array.getElem?_eq_some_iff.1 hit2).1
      have hoB := hAi.o_lt
      clear hlk0
      cases hin : inM t.M c with
      | true =>
        rw [hin] at hlk
        obtain ⟨n, hn⟩ : ∃ n, n = (getW t.M c (0, 0, 0)).2.2 := ⟨_, rfl⟩
        rw [← hn] at hlk
        have hcw : comp (weightOf t c) 2 = n := by simp [weightOf, hin, comp, hn]
        have hcw' := Lib.hid hcw
        clear hn hcw
        by_cases hnp : 0 < n
        · have hlv : lev1 t 2 c = [n / 65536 % 256, n / 256 % 256, n % 256] := by simp [lev1, hcw'.out, hnp, three]
          have hlv' := Lib.hid hlv
          clear hlv
          go_wp2_with (at_builtin; refine wpList_append_own _ rfl _ _ 35 rfl B 5 i0 (.int .u8 0) 1 1 Tryd.underlying35 hi hz0 hz1 hz2 rfl (by decide) _ _ _ rfl ((hown.alloc _).alloc _) ⟨W1.heap.size + 1, 0, none⟩ 3 3 [.int .u8 (n / 65536 % 256), .int .u8 (n / 256 % 256), .int .u8 (n % 256)] rfl rfl ?c1 ?c2 ?c3 ?c4 ?c5 ?_; (case c1 => have := cell_three_new (W1.alloc (.cells #[.int .i64 (getW t.M c (0, 0, 0)).1, .int .i64 (getW t.M c (0, 0, 0)).2.1, .int .i64 n] 44)) (.int .u8 (n / 65536 % 256)) (.int .u8 (n / 256 % 256)) (.int .u8 (n % 256)) 5; rw [World.size_alloc] at this; exact this); (case c2 => intro y hy; simp at hy; rcases hy with rfl | rfl | rfl <;> rfl); (case c3 => unfold maxLen; omega); (case c4 => omega); (case c5 => simp; have := hAi.size; omega); intro v2 w3 hown3 hgrow3 hnil3; obtain ⟨g2, cp2, hv2⟩ := ownsRow_slice hown3 (by omega); have hX := hAi.app (((Below.refl _ _).alloc (Nat.le_refl _) _).alloc (by simp) _) hown3 hgrow3; rw [hv2] at hX ⊢; obtain ⟨hx1, hx2, hx3, hx4, hx5, hx6⟩ := hX; have hx4' := Lib.hid hx4; have hx5' := Lib.hid hx5; have hx6' := Lib.hid hx6; clear hx1 hx4 hx5 hx6 hown3 hgrow3 hnil3 hv2)
          have hit3 := (hx6'.out W.heap.size hitlt (by omega) (ownsRow_ne_iter hAi.own hit2)).trans hit2
          go_roundw
          case rel => exact ⟨pos + k, fuel, _, _, hit3, hx4'.out, hBi.trans hx5'.out, (by show _ = _; rw [← HS.out, hS0.out, levelOf_cons, hlv'.out, List.append_assoc]), by omega, by simp; omega⟩
          case measure => rw [iterPos_of hit3, hpos0]; omega
        · have hlv : lev1 t 2 c = [] := by simp [lev1, hcw'.out, hnp]
          have hlv' := Lib.hid hlv
          have hnn : n ≤ 0 := by omega
          clear hlv hnp
          go_wp2_with fail
          go_roundw
          case rel =>
            have hal : ∀ oo, Below W1.heap.size W1 (W1.alloc oo) := fun oo => (Below.refl _ _).alloc (Nat.le_refl _) oo
            refine ⟨pos + k, fuel, v', acc', (by rw [Below.heap_alloc _ _ _ hitlt]; exact hit2), hAi.step (But.of_below ((hal _).mono hAi.size)) (by rw [Below.heap_alloc _ _ _ hos]; exact hAi.out) (hAi.own.alloc _), hBi.trans (But.of_below ((hal _).mono hAi.size)), (by show _ = _; rw [← HS.out, hS0.out, levelOf_cons, hlv'.out, List.nil_append]), by omega, by omega⟩
          case measure =>
            have hit3 : ∀ oo, (W1.alloc oo).heap[W.heap.size]? = some (.stringIter s (pos + k)) := fun oo => by rw [Below.heap_alloc _ _ _ hitlt]; exact hit2
            rw [iterPos_of (hit3 _), hpos0]; omega
      | false =>
        rw [hin] at hlk
        have hlv : lev1 t 2 c = [0, 0, 1] := by simp [lev1, weightOf, hin, comp, three]
        have hlv' := Lib.hid hlv
        clear hlv
        go_wp2_with (at_builtin; refine wpList_append_own _ rfl _ _ 35 rfl B 5 i0 (.int .u8 0) 1 1 Tryd.underlying35 hi hz0 hz1 hz2 rfl (by decide) _ _ _ rfl ((hown.alloc _).alloc _) ⟨W1.heap.size + 1, 0, none⟩ 3 3 [.int .u8 0, .int .u8 0, .int .u8 1] rfl rfl ?c1 ?c2 ?c3 ?c4 ?c5 ?_; (case c1 => have := cell_three_new (W1.alloc (.cells #[.int .i64 (c + t.last.1 + 1), .int .i64 1, .int .i64 1] 44)) (.int .u8 0) (.int .u8 0) (.int .u8 1) 5; rw [World.size_alloc] at this; exact this); (case c2 => intro y hy; simp at hy; rcases hy with rfl | rfl | rfl <;> rfl); (case c3 => unfold maxLen; omega); (case c4 => omega); (case c5 => simp; have := hAi.size; omega); intro v2 w3 hown3 hgrow3 hnil3; obtain ⟨g2, cp2, hv2⟩ := ownsRow_slice hown3 (by omega); have hX := hAi.app (((Below.refl _ _).alloc (Nat.le_refl _) _).alloc (by simp) _) hown3 hgrow3; rw [hv2] at hX ⊢; obtain ⟨hx1, hx2, hx3, hx4, hx5, hx6⟩ := hX; have hx4' := Lib.hid hx4; have hx5' := Lib.hid hx5; have hx6' := Lib.hid hx6; clear hx1 hx4 hx5 hx6 hown3 hgrow3 hnil3 hv2)
        have hit3 := (hx6'.out W.heap.size hitlt (by omega) (ownsRow_ne_iter hAi.own hit2)).trans hit2
        go_roundw
        case rel => exact ⟨pos + k, fuel, _, _, hit3, hx4'.out, hBi.trans hx5'.out, (by show _ = _; rw [← HS.out, hS0.out, levelOf_cons, hlv'.out, List.append_assoc]), by omega, by simp; omega⟩
        case measure => rw [iterPos_of hit3, hpos0]; omega
    · have hnx : ∀ ty, (Instr.next (.pointer (some ⟨W.heap.size, 0, none⟩)) true ty).run Tryd.prog wr = _ := fun ty => Lib.run_next_end_at wr W.heap.size s pos ty hit hp
      have e : Hid (acc' = acc ++ levelOf t 2 (runesOf s)) := by
        show _ = _
        rw [← HS.out]
        cases fuel <;> simp [runesFrom, hp, levelOf]
      go_wp2_with fail
      go_end0
      exact ⟨rfl, v', by rw [← e.out]; exact hA, hB⟩

end Go.Proofs.YtibhifjehbajnaaDoor
