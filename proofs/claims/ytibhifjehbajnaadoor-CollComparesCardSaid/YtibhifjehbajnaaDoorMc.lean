/- The closure of coll's Key, walked: it appends the weights of one level, in three bytes each. coll's Key and Compare, walked: what they return, as plain Lean functions of the table and the text. coll's Compare, bytes.Compare and bytes.Equal, walked over bytes that a call has made. The examples that every statement on collations checks besides (the function works of package chisellaw03): they hold. What the statements on collations share: light, and Parse as one that gives keys. The function light of package chisellaw03, walked. -/
import Derived.Test.YtibhifjehbajnaaDoorMb
import Derived.Lib.Bytealg
import Derived.Lib.BytesEntry

namespace Go.Proofs.YtibhifjehbajnaaDoor
open Go.RowKit Go.Maps
set_option linter.unusedVariables false

/-- The weights of a character for a table. -/
def weightOf (t : CT) (c : Int) : W3 := if inM t.M c then getW t.M c (0, 0, 0) else (c + t.last.1 + 1, 1, 1)
def comp (w : W3) : Nat → Int
  | 0 => w.1
  | 1 => w.2.1
  | _ => w.2.2
def three (n : Int) : List Int := [n / 65536 % 256, n / 256 % 256, n % 256]
def lev1 (t : CT) (k : Nat) (c : Int) : List Int := if 0 < comp (weightOf t c) k then three (comp (weightOf t c) k) else []
/-- The runes of a string from place pos on, as Go's range gives them. -/
def runesFrom (s : ByteArray) : Nat → Nat → List Int
  | 0, _ => []
  | f + 1, pos => if pos < s.size then ((Utf8.decode s pos).1 : Int) :: runesFrom s f (pos + (Utf8.decode s pos).2) else []
def runesOf (s : ByteArray) : List Int := runesFrom s s.size 0
def levelOf (t : CT) (k : Nat) (cs : List Int) : List Int := (cs.map (lev1 t k)).flatten

/-- What a table is for those who only read it: its block, and its map (nil, or one that holds its characters). -/
structure TabRd (W : World) (b : Nat) (t : CT) (B : Nat) : Prop where
  lt : b < B
  size : B ≤ W.heap.size
  blk : ∃ mo, W.heap[b]? = some (.cells #[.map mo, .int .i64 t.last.1, .int .i64 t.last.2.1, .int .i64 t.last.2.2, .int .i64 t.st] 46 (0, 0)) ∧
    ((mo = none ∧ t.M = []) ∨ ∃ m D, mo = some m ∧ m < B ∧ W.ownsMap (H := Unit) Tryd.prog 21 wElem m t.M.length D ∧ MapIs D t.M)
theorem TabAt.rd {W : World} {b m B : Nat} {t : CT} (h : TabAt W b m t.M t.last t.st) (hb : b < B) (hm : m < B) (hB : B ≤ W.heap.size) : TabRd W b t B := by
  obtain ⟨D, hD, hM⟩ := h.map
  exact ⟨hb, hB, some m, h.blk, .inr ⟨m, D, rfl, hm, hD, hM⟩⟩
theorem TabRd.below {W W' : World} {b B : Nat} {t : CT} (h : TabRd W b t B) (k : Below B W W') : TabRd W' b t B := by
  obtain ⟨h1, h2, mo, h3, h4⟩ := h
  refine ⟨h1, Nat.le_trans h2 k.size, mo, (k.block b h1).trans h3, ?_⟩
  rcases h4 with h4 | ⟨m, D, h5, h6, ⟨es, clock, h7, h8⟩, h9⟩
  · exact .inl h4
  · exact .inr ⟨m, D, h5, h6, ⟨es, clock, (k.block m h6).trans h7, h8⟩, h9⟩
theorem TabRd.look {W : World} {b B : Nat} {t : CT} (h : TabRd W b t B) : ∃ mo, W.cell? ⟨b, 0, none⟩ = some (.map mo) ∧
    ∀ c, (Lit.int .i32 c).wf = true → (Instr.lookup 43 (.map mo) (.int .i32 c) true).run Tryd.prog W = .ok (.tuple #[wv (getW t.M c (0, 0, 0)), .bool (inM t.M c)]) W := by
  obtain ⟨h1, h2, mo, h3, h4⟩ := h
  refine ⟨mo, by simp [World.cell?, h3], fun c hc => ?_⟩
  have hk : keyOf Tryd.prog 21 (.int .i32 c) = some (.int .i32 c) := keyOf_int_mk Tryd.underlying21 hc
  rcases h4 with ⟨rfl, hM⟩ | ⟨m, D, rfl, hm, hown, hD⟩
  · rw [hM]
    exact Maps.look_nil true law21 Tryd.underlying43 (zero_w W) hk
  · obtain ⟨v, ps, hrun, hv⟩ := hown.look_ok law21 Tryd.underlying43 (zero_w W) (wElem_mk (0, 0, 0)) hk
    obtain ⟨u, rfl, hz⟩ := wElem_inv hv
    have hu : u = getW t.M c (0, 0, 0) := by
      have := congrArg Prod.fst hz
      rw [hD.at_] at this
      exact (wdat_inj this).symm
    rw [hrun, hD.has, hu]
theorem TabRd.cells {W : World} {b B : Nat} {t : CT} (h : TabRd W b t B) : W.cell? ⟨b, 1, none⟩ = some (.int .i64 t.last.1) ∧ W.cell? ⟨b, 4, none⟩ = some (.int .i64 t.st) := by
  obtain ⟨h1, h2, mo, h3, h4⟩ := h
  simp [World.cell?, h3]

theorem info_byte : (Tryd.prog.info? 5).map (fun i => (i.zero, i.size, i.bytes)) = some (some (.int .u8 0), 1, 1) := by kernel_rfl
def byteVs (xs : List Int) : List Value := xs.map (Value.int .u8)

/-- Below B, all but block ob is as it was. -/
structure But (B ob : Nat) (w w' : World) : Prop where
  os : w'.os = w.os
  tape : w'.tape = w.tape
  output : w'.output = w.output
  size : w.heap.size ≤ w'.heap.size
  block : ∀ k, k < B → k ≠ ob → w'.heap[k]? = w.heap[k]?

theorem But.below {w w' : World} {B ob B1 : Nat} (h : But B ob w w') (h1 : B1 ≤ ob) (h2 : ob ≤ B) : Below B1 w w' := ⟨h.os, h.tape, h.output, h.size, fun k hk => h.block k (by omega) (by omega)⟩
theorem But.refl (B ob : Nat) (w : World) : But B ob w w := ⟨rfl, rfl, rfl, Nat.le_refl _, fun _ _ _ => rfl⟩
theorem But.trans {B ob : Nat} {a b c : World} (h : But B ob a b) (k : But B ob b c) : But B ob a c :=
  ⟨k.os.trans h.os, k.tape.trans h.tape, k.output.trans h.output, Nat.le_trans h.size k.size, fun i hi hn => (k.block i hi hn).trans (h.block i hi hn)⟩
theorem But.of_below {B ob : Nat} {w w' : World} (h : Below B w w') : But B ob w w' := ⟨h.os, h.tape, h.output, h.size, fun k hk _ => h.block k hk⟩
theorem But.set {B ob : Nat} {w w' : World} (h : But B ob w w') (u : Value) : But B ob w (w'.setCell ⟨ob, 0, none⟩ u) :=
  h.trans ⟨rfl, rfl, rfl, by simp [World.setCell], fun k _ h1 => Below.heap_setCell _ _ _ _ h1⟩
theorem ownsRow_iter {w : World} {base : Nat} {e : TypeId} {size : Nat} {v : Value} {n : Nat} {xs : List Value} (h : w.ownsRow base e size v n xs) {k : Nat} {s : ByteArray} {pos : Nat} (hk : w.heap[k]? = some (.stringIter s pos)) (p : Nat) : (w.iterAt k s p).ownsRow base e size v n xs := by
  obtain ⟨h1, h2⟩ := h
  refine ⟨h1, ?_⟩
  rcases h2 with h2 | ⟨g, cap, cur, a, b, c, d⟩
  · exact .inl h2
  · have hne : g ≠ k := fun e1 => by rw [e1, hk] at c; cases c
    exact .inr ⟨g, cap, cur, a, b, by rw [Lib.iterAt_other _ _ _ _ _ hne]; exact c, d⟩

theorem cell_three_new (w : World) (a b c : Value) (t : TypeId) : ∀ j u, [a, b, c][j]? = some u → (w.alloc (.cells #[a, b, c] t)).cell? ((⟨w.heap.size, 0, none⟩ : Addr).add j) = some u := by
  intro j u hj
  match j, hj with
  | 0, hj => simp at hj; subst hj; simp [Addr.add]
  | 1, hj => simp at hj; subst hj; simp [Addr.add]
  | 2, hj => simp at hj; subst hj; simp [Addr.add]
  | j + 3, hj => simp at hj
theorem ownsRow_slice {w : World} {base : Nat} {e : TypeId} {size : Nat} {v : Value} {n : Nat} {xs : List Value} (h : w.ownsRow base e size v n xs) (hn : 0 < n) : ∃ g cap, v = .slice (some ⟨g, 0, none⟩) n cap := by
  rcases h.2 with ⟨_, h0⟩ | ⟨g, cap, cur, hv, _⟩
  · omega
  · exact ⟨g, cap, hv⟩
/-- What stands around the closure: the string, the table, the bytes so far. -/
structure Around (W : World) (sb tb ob b B : Nat) (s : ByteArray) (t : CT) (v : Value) (acc : List Int) : Prop where
  s_lt : sb < ob
  t_lt : tb < ob
  o_lt : ob < B
  size : B ≤ W.heap.size
  str : W.cell? ⟨sb, 0, none⟩ = some (.string s)
  ptr : W.cell? ⟨tb, 0, none⟩ = some (.pointer (some ⟨b, 0, none⟩))
  tab : TabRd W b t ob
  out : W.heap[ob]? = some (.cells #[v] 35 (0, 0))
  own : W.ownsRow B 5 1 v acc.length (byteVs acc)
theorem Around.step {W W' : World} {sb tb ob b B : Nat} {s : ByteArray} {t : CT} {v v' : Value} {acc acc' : List Int} (h : Around W sb tb ob b B s t v acc) (k : But B ob W W') (ho : W'.heap[ob]? = some (.cells #[v'] 35 (0, 0))) (hw : W'.ownsRow B 5 1 v' acc'.length (byteVs acc')) :
    Around W' sb tb ob b B s t v' acc' := by
  have hb := k.below (B1 := ob) (Nat.le_refl _) (by have := h.o_lt; omega)
  exact ⟨h.s_lt, h.t_lt, h.o_lt, Nat.le_trans h.size k.size, (hb.cell (p := ⟨sb, 0, none⟩) h.s_lt).trans h.str, (hb.cell (p := ⟨tb, 0, none⟩) h.t_lt).trans h.ptr, h.tab.below hb, ho, hw⟩

theorem ownsRow_ne_iter {w : World} {base : Nat} {e : TypeId} {size : Nat} {v : Value} {n : Nat} {xs : List Value} (h : w.ownsRow base e size v n xs) {k : Nat} {s : ByteArray} {pos : Nat} (hk : w.heap[k]? = some (.stringIter s pos)) : some k ≠ v.ownBlock := by
  rcases h.2 with ⟨rfl, _⟩ | ⟨g, cap, cur, rfl, _, c, _⟩
  · simp [Value.ownBlock]
  · simp only [Value.ownBlock, ne_eq, Option.some.injEq]
    intro e1
    rw [e1, c] at hk
    cases hk
theorem levelOf_cons (t : CT) (k : Nat) (c : Int) (l : List Int) : levelOf t k (c :: l) = lev1 t k c ++ levelOf t k l := by simp [levelOf]

/-- Behind the append of three bytes. -/
theorem Around.app {W W2 w3 : World} {sb tb ob b B : Nat} {s : ByteArray} {t : CT} {v v2 : Value} {acc : List Int} {x y z : Int} (h : Around W sb tb ob b B s t v acc) (h2 : Below W.heap.size W W2)
    (hown3 : w3.ownsRow B 5 1 v2 (acc.length + 3) (byteVs acc ++ [.int .u8 x, .int .u8 y, .int .u8 z])) (hg : W2.grownBy w3 v.ownBlock) :
    w3.heap[ob]? = some (.cells #[v] 35 (0, 0)) ∧ w3.cell? ⟨ob, 0, none⟩ = some v ∧ w3.frozen? ⟨ob, 0, none⟩ = false ∧ Around (w3.setCell ⟨ob, 0, none⟩ v2) sb tb ob b B s t v2 (acc ++ [x, y, z]) ∧ But B ob W (w3.setCell ⟨ob, 0, none⟩ v2) ∧
    (∀ k, k < W.heap.size → k ≠ ob → some k ≠ v.ownBlock → (w3.setCell ⟨ob, 0, none⟩ v2).heap[k]? = W.heap[k]?) := by
  have hob := h.o_lt
  have hsz := h.size
  have hB2 : But B ob W W2 := But.of_below (h2.mono h.size)
  have hbl : ∀ k, k < B → w3.heap[k]? = W.heap[k]? := fun k hk => by
    rw [hg.block k (by have := h2.size; omega) (fun e => by have := (h.own.lt k e.symm).1; omega)]
    exact h2.block k (by omega)
  have ho : w3.heap[ob]? = some (.cells #[v] 35 (0, 0)) := (hbl ob hob).trans h.out
  have hb3 : But B ob W w3 := ⟨hg.os.trans h2.os, hg.tape.trans h2.tape, hg.output.trans h2.output, Nat.le_trans h2.size hg.size, fun k hk _ => hbl k hk⟩
  have hb4 : But B ob W (w3.setCell ⟨ob, 0, none⟩ v2) := hb3.set v2
  refine ⟨ho, by simp [World.cell?, ho], by simp [World.frozen?, ho], h.step hb4 (by simp [World.setCell, Array.getElem?_modify, ho]) ?_, hb4, fun k hk hn1 hn2 => ?_⟩
  rotate_left
  · rw [Below.heap_setCell _ _ _ _ hn1, hg.block k (by have := h2.size; omega) hn2]
    exact h2.block k hk
  have e : (acc ++ [x, y, z]).length = acc.length + 3 := by simp
  rw [e]
  have e2 : byteVs (acc ++ [x, y, z]) = byteVs acc ++ [.int .u8 x, .int .u8 y, .int .u8 z] := by simp [byteVs]
  rw [e2]
  obtain ⟨q1, q2⟩ := hown3
  refine ⟨q1, ?_⟩
  rcases q2 with q2 | ⟨g, cap, cur, qa, qb, qc, qd⟩
  · exact .inl q2
  · exact .inr ⟨g, cap, cur, qa, qb, by rw [Below.heap_setCell _ _ _ _ (show g ≠ ob by omega)]; exact qc, qd⟩

set_option maxRecDepth 100000 in
set_option maxHeartbeats 1000000 in
theorem level0_calls (W : World) (sb tb ob b B : Nat) (s : ByteArray) (t : CT) (v : Value) (acc : List Int) (h : Around W sb tb ob b B s t v acc) (hl0 : 0 ≤ t.last.1) (hl1 : t.last.1 ≤ 1000000) (hss : s.size ≤ 4294967296) (hacc : acc.length ≤ 1000000000000) :
    Calls Tryd.prog 42 #[.int .i64 0, .pointer (some ⟨sb, 0, none⟩), .pointer (some ⟨tb, 0, none⟩), .pointer (some ⟨ob, 0, none⟩)] W fun e w' => e = .returned (.tuple #[]) ∧ ∃ v', Around w' sb tb ob b B s t v' (acc ++ levelOf t 0 (runesOf s)) ∧ But B ob W w' := by
  obtain ⟨i0, hi, hz0, hz1, hz2⟩ := info_parts info_byte
  have hstr := h.str
  go_enter Tryd.func42, Tryd.ntmps42
  go_wp2_with fail
  clear hstr
  go_loopw [6] (fun _ wr => ∃ (pos fuel : Nat) (v' : Value) (acc' : List Int), wr.heap[W.heap.size]? = some (.stringIter s pos) ∧ Around wr sb tb ob b B s t v' acc' ∧ But B ob W wr ∧ Hid (acc' ++ levelOf t 0 (runesFrom s fuel pos) = acc ++ levelOf t 0 (runesOf s)) ∧ s.size ≤ pos + fuel ∧ acc'.length ≤ acc.length + 3 * pos) (fun _ wr => s.size - wr.iterPos W.heap.size)
  case atStart =>
    have hal : Below W.heap.size W (W.iter s 0) := (Below.refl _ _).alloc (Nat.le_refl _) _
    have hob := h.o_lt
    have hsz := h.size
    have hBut : But B ob W (W.iter s 0) := But.of_below (hal.mono h.size)
    exact ⟨0, s.size, v, acc, World.iter_heap W s 0, h.step hBut ((hal.block ob (by omega)).trans h.out) (ownsRow_below h.own hal), hBut, rfl, by omega, by omega⟩
  case round =>
    obtain ⟨pos, fuel, v', acc', hit, hA, hB, HS, hb, hlen⟩ := hrel
    have hpos0 := iterPos_of hit
    by_cases hp : pos < s.size
    · have hnx : ∀ ty, (Instr.next (.pointer (some ⟨W.heap.size, 0, none⟩)) true ty).run Tryd.prog wr = _ := fun ty => Lib.run_next_any_at wr W.heap.size s pos ty hit hp
      have hwd := Lib.decode_width_pos s pos hp
      have hwl := width_le s pos hp
      obtain ⟨fuel, rfl⟩ : ∃ f', fuel = f' + 1 := ⟨fuel - 1, by omega⟩
      have hit2 := Lib.iterAt_heap wr W.heap.size s pos (pos + (Utf8.decode s pos).2) hit
      have hmx := decode_max s pos
      have hBit : B ≤ W.heap.size := h.size
      have hbi : Below B wr (wr.iterAt W.heap.size s (pos + (Utf8.decode s pos).2)) := Lib.below_iterAt (Below.refl _ _) hBit s _
      have hBi : But B ob W (wr.iterAt W.heap.size s (pos + (Utf8.decode s pos).2)) := hB.trans (But.of_below hbi)
      have hAi : Around (wr.iterAt W.heap.size s (pos + (Utf8.decode s pos).2)) sb tb ob b B s t v' acc' :=
        hA.step (But.of_below hbi) ((hbi.block ob h.o_lt).trans hA.out) (ownsRow_iter hA.own hit _)
      obtain ⟨W1, hW1⟩ : ∃ W1, W1 = wr.iterAt W.heap.size s (pos + (Utf8.decode s pos).2) := ⟨_, rfl⟩
      obtain ⟨c, hcd⟩ : ∃ c, c = ((Utf8.decode s pos).1 : Int) := ⟨_, rfl⟩
      obtain ⟨k, hkd⟩ : ∃ k, k = (Utf8.decode s pos).2 := ⟨_, rfl⟩
      have hS0 : Hid (runesFrom s (fuel + 1) pos = c :: runesFrom s fuel (pos + k)) := by show _ = _; rw [runesFrom, if_pos hp, ← hcd, ← hkd]
      rw [← hW1] at hnx hAi hBi hit2
      rw [← hcd] at hnx
      rw [← hkd] at hwd hwl hit2
      have hc0 : 0 ≤ c := by omega
      have hc1 : c ≤ 1114111 := by omega
      clear hW1 hcd hkd hbi hA hB hit hmx
      obtain ⟨mo, hm0, hlk0⟩ := hAi.tab.look
      have hlk := hlk0 c (wf_rune ⟨hc0, hc1⟩)
      unfold wv at hlk
      obtain ⟨hl, -⟩ := hAi.tab.cells
      have hptr := hAi.ptr
      have hbs : b < W1.heap.size := Nat.lt_of_lt_of_le hAi.tab.lt hAi.tab.size
      have hos : ob < W1.heap.size := Nat.lt_of_lt_of_le hAi.o_lt hAi.size
      have hts : tb < W1.heap.size := Nat.lt_trans hAi.t_lt hos
      have hp1 : ∀ ob, (W1.alloc ob).cell? ⟨tb, 0, none⟩ = some (.pointer (some ⟨b, 0, none⟩)) := fun ob => (World.cell?_alloc_past _ _ _ hts).trans hptr
      have hl1' : ∀ ob, (W1.alloc ob).cell? ⟨b, 1, none⟩ = some (.int .i64 t.last.1) := fun ob => (World.cell?_alloc_past _ _ _ hbs).trans hl
      have hoc : W1.cell? ⟨ob, 0, none⟩ = some v' := by simp [World.cell?, hAi.out]
      have hof : W1.frozen? ⟨ob, 0, none⟩ = false := by simp [World.frozen?, hAi.out]
      have hoc1 : ∀ oo, (W1.alloc oo).cell? ⟨ob, 0, none⟩ = some v' := fun oo => (World.cell?_alloc_past _ _ _ hos).trans hoc
      have hown := hAi.own
      have hitlt : W.heap.size < W1.heap.size := (Array.getElem?_eq_some_iff.1 hit2).1
      have hoB := hAi.o_lt
      clear hlk0
      cases hin : inM t.M c with
      | true =>
        rw [hin] at hlk
        obtain ⟨n, hn⟩ : ∃ n, n = (getW t.M c (0, 0, 0)).1 := ⟨_, rfl⟩
        rw [← hn] at hlk
        have hcw : comp (weightOf t c) 0 = n := by simp [weightOf, hin, comp, hn]
        have hcw' := Lib.hid hcw
        clear hn hcw
        by_cases hnp : 0 < n
        · have hlv : lev1 t 0 c = [n / 65536 % 256, n / 256 % 256, n % 256] := by simp [lev1, hcw'.out, hnp, three]
          have hlv' := Lib.hid hlv
          clear hlv
          go_wp2_with (at_builtin; refine wpList_append_own _ rfl _ _ 35 rfl B 5 i0 (.int .u8 0) 1 1 Tryd.underlying35 hi hz0 hz1 hz2 rfl (by decide) _ _ _ rfl ((hown.alloc _).alloc _) ⟨W1.heap.size + 1, 0, none⟩ 3 3 [.int .u8 (n / 65536 % 256), .int .u8 (n / 256 % 256), .int .u8 (n % 256)] rfl rfl ?c1 ?c2 ?c3 ?c4 ?c5 ?_; (case c1 => have := cell_three_new (W1.alloc (.cells #[.int .i64 n, .int .i64 (getW t.M c (0, 0, 0)).2.1, .int .i64 (getW t.M c (0, 0, 0)).2.2] 44)) (.int .u8 (n / 65536 % 256)) (.int .u8 (n / 256 % 256)) (.int .u8 (n % 256)) 5; rw [World.size_alloc] at this; exact this); (case c2 => intro y hy; simp at hy; rcases hy with rfl | rfl | rfl <;> rfl); (case c3 => unfold maxLen; omega); (case c4 => omega); (case c5 => simp; have := hAi.size; omega); intro v2 w3 hown3 hgrow3 hnil3; obtain ⟨g2, cp2, hv2⟩ := ownsRow_slice hown3 (by omega); have hX := hAi.app (((Below.refl _ _).alloc (Nat.le_refl _) _).alloc (by simp) _) hown3 hgrow3; rw [hv2] at hX ⊢; obtain ⟨hx1, hx2, hx3, hx4, hx5, hx6⟩ := hX; have hx4' := Lib.hid hx4; have hx5' := Lib.hid hx5; have hx6' := Lib.hid hx6; clear hx1 hx4 hx5 hx6 hown3 hgrow3 hnil3 hv2)
          have hit3 := (hx6'.out W.heap.size hitlt (by omega) (ownsRow_ne_iter hAi.own hit2)).trans hit2
          go_roundw
          case rel => exact ⟨pos + k, fuel, _, _, hit3, hx4'.out, hBi.trans hx5'.out, (by show _ = _; rw [← HS.out, hS0.out, levelOf_cons, hlv'.out, List.append_assoc]), by omega, by simp; omega⟩
          case measure => rw [iterPos_of hit3, hpos0]; omega
        · have hlv : lev1 t 0 c = [] := by simp [lev1, hcw'.out, hnp]
          have hlv' := Lib.hid hlv
          have hnn : n ≤ 0 := by omega
          clear hlv hnp
          go_wp2_with fail
          go_roundw
          case rel =>
            have hal : ∀ oo, Below W1.heap.size W1 (W1.alloc oo) := fun oo => (Below.refl _ _).alloc (Nat.le_refl _) oo
            refine ⟨pos + k, fuel, v', acc', (by rw [Below.heap_alloc _ _ _ hitlt]; exact hit2), hAi.step (But.of_below ((hal _).mono hAi.size)) (by rw [Below.heap_alloc _ _ _ hos]; exact hAi.out) (hAi.own.alloc _), hBi.trans (But.of_below ((hal _).mono hAi.size)), (by show _ = _; rw [← HS.out, hS0.out, levelOf_cons, hlv'.out, List.nil_append]), by omega, by omega⟩
          case measure =>
            have hit3 : ∀ oo, (W1.alloc oo).heap[W.heap.size]? = some (.stringIter s (pos + k)) := fun oo => by rw [Below.heap_alloc _ _ _ hitlt]; exact hit2
            rw [iterPos_of (hit3 _), hpos0]; omega
      | false =>
        rw [hin] at hlk
        have hlv : lev1 t 0 c = [(c + t.last.1 + 1) / 65536, (c + t.last.1 + 1) / 256 % 256, (c + t.last.1 + 1) % 256] := by
          have h1 : 0 < c + t.last.1 + 1 := by omega
          have h2 : (c + t.last.1 + 1) / 65536 % 256 = (c + t.last.1 + 1) / 65536 := by omega
          simp [lev1, weightOf, hin, comp, h1, three, h2]
        have hlv' := Lib.hid hlv
        clear hlv
        go_wp2_with (at_builtin; refine wpList_append_own _ rfl _ _ 35 rfl B 5 i0 (.int .u8 0) 1 1 Tryd.underlying35 hi hz0 hz1 hz2 rfl (by decide) _ _ _ rfl ((hown.alloc _).alloc _) ⟨W1.heap.size + 1, 0, none⟩ 3 3 [.int .u8 ((c + t.last.1 + 1) / 65536), .int .u8 ((c + t.last.1 + 1) / 256 % 256), .int .u8 ((c + t.last.1 + 1) % 256)] rfl rfl ?c1 ?c2 ?c3 ?c4 ?c5 ?_; (case c1 => have := cell_three_new (W1.alloc (.cells #[.int .i64 (c + t.last.1 + 1), .int .i64 1, .int .i64 1] 44)) (.int .u8 ((c + t.last.1 + 1) / 65536)) (.int .u8 ((c + t.last.1 + 1) / 256 % 256)) (.int .u8 ((c + t.last.1 + 1) % 256)) 5; rw [World.size_alloc] at this; exact this); (case c2 => intro y hy; simp at hy; rcases hy with rfl | rfl | rfl <;> rfl); (case c3 => unfold maxLen; omega); (case c4 => omega); (case c5 => simp; have := hAi.size; omega); intro v2 w3 hown3 hgrow3 hnil3; obtain ⟨g2, cp2, hv2⟩ := ownsRow_slice hown3 (by omega); have hX := hAi.app (((Below.refl _ _).alloc (Nat.le_refl _) _).alloc (by simp) _) hown3 hgrow3; rw [hv2] at hX ⊢; obtain ⟨hx1, hx2, hx3, hx4, hx5, hx6⟩ := hX; have hx4' := Lib.hid hx4; have hx5' := Lib.hid hx5; have hx6' := Lib.hid hx6; clear hx1 hx4 hx5 hx6 hown3 hgrow3 hnil3 hv2)
        have hit3 := (hx6'.out W.heap.size hitlt (by omega) (ownsRow_ne_iter hAi.own hit2)).trans hit2
        go_roundw
        case rel => exact ⟨pos + k, fuel, _, _, hit3, hx4'.out, hBi.trans hx5'.out, (by show _ = _; rw [← HS.out, hS0.out, levelOf_cons, hlv'.out, List.append_assoc]), by omega, by simp; omega⟩
        case measure => rw [iterPos_of hit3, hpos0]; omega
    · have hnx : ∀ ty, (Instr.next (.pointer (some ⟨W.heap.size, 0, none⟩)) true ty).run Tryd.prog wr = _ := fun ty => Lib.run_next_end_at wr W.heap.size s pos ty hit hp
      have e : Hid (acc' = acc ++ levelOf t 0 (runesOf s)) := by
        show _ = _
        rw [← HS.out]
        cases fuel <;> simp [runesFrom, hp, levelOf]
      go_wp2_with fail
      go_end0
      exact ⟨rfl, v', by rw [← e.out]; exact hA, hB⟩

set_option maxRecDepth 100000 in
set_option maxHeartbeats 1000000 in
theorem level1_calls (W : World) (sb tb ob b B : Nat) (s : ByteArray) (t : CT) (v : Value) (acc : List Int) (h : Around W sb tb ob b B s t v acc) (hl0 : 0 ≤ t.last.1) (hl1 : t.last.1 ≤ 1000000) (hss : s.size ≤ 4294967296) (hacc : acc.length ≤ 1000000000000) :
    Calls Tryd.prog 42 #[.int .i64 1, .pointer (some ⟨sb, 0, none⟩), .pointer (some ⟨tb, 0, none⟩), .pointer (some ⟨ob, 0, none⟩)] W fun e w' => e = .returned (.tuple #[]) ∧ ∃ v', Around w' sb tb ob b B s t v' (acc ++ levelOf t 1 (runesOf s)) ∧ But B ob W w' := by
  obtain ⟨i0, hi, hz0, hz1, hz2⟩ := info_parts info_byte
  have hstr := h.str
  go_enter Tryd.func42, Tryd.ntmps42
  go_wp2_with fail
  clear hstr
  go_loopw [6] (fun _ wr => ∃ (pos fuel : Nat) (v' : Value) (acc' : List Int), wr.heap[W.heap.size]? = some (.stringIter s pos) ∧ Around wr sb tb ob b B s t v' acc' ∧ But B ob W wr ∧ Hid (acc' ++ levelOf t 1 (runesFrom s fuel pos) = acc ++ levelOf t 1 (runesOf s)) ∧ s.size ≤ pos + fuel ∧ acc'.length ≤ acc.length + 3 * pos) (fun _ wr => s.size - wr.iterPos W.heap.size)
  case atStart =>
    have hal : Below W.heap.size W (W.iter s 0) := (Below.refl _ _).alloc (Nat.le_refl _) _
    have hob := h.o_lt
    have hsz := h.size
    have hBut : But B ob W (W.iter s 0) := But.of_below (hal.mono h.size)
    exact ⟨0, s.size, v, acc, World.iter_heap W s 0, h.step hBut ((hal.block ob (by omega)).trans h.out) (ownsRow_below h.own hal), hBut, rfl, by omega, by omega⟩
  case round =>
    obtain ⟨pos, fuel, v', acc', hit, hA, hB, HS, hb, hlen⟩ := hrel
    have hpos0 := iterPos_of hit
    by_cases hp : pos < s.size
    · have hnx : ∀ ty, (Instr.next (.pointer (some ⟨W.heap.size, 0, none⟩)) true ty).run Tryd.prog wr = _ := fun ty => Lib.run_next_any_at wr W.heap.size s pos ty hit hp
      have hwd := Lib.decode_width_pos s pos hp
      have hwl := width_le s pos hp
      obtain ⟨fuel, rfl⟩ : ∃ f', fuel = f' + 1 := ⟨fuel - 1, by omega⟩
      have hit2 := Lib.iterAt_heap wr W.heap.size s pos (pos + (Utf8.decode s pos).2) hit
      have hmx := decode_max s pos
      have hBit : B ≤ W.heap.size := h.size
      have hbi : Below B wr (wr.iterAt W.heap.size s (pos + (Utf8.decode s pos).2)) := Lib.below_iterAt (Below.refl _ _) hBit s _
      have hBi : But B ob W (wr.iterAt W.heap.size s (pos + (Utf8.decode s pos).2)) := hB.trans (But.of_below hbi)
      have hAi : Around (wr.iterAt W.heap.size s (pos + (Utf8.decode s pos).2)) sb tb ob b B s t v' acc' :=
        hA.step (But.of_below hbi) ((hbi.block ob h.o_lt).trans hA.out) (ownsRow_iter hA.own hit _)
      obtain ⟨W1, hW1⟩ : ∃ W1, W1 = wr.iterAt W.heap.size s (pos + (Utf8.decode s pos).2) := ⟨_, rfl⟩
      obtain ⟨c, hcd⟩ : ∃ c, c = ((Utf8.decode s pos).1 : Int) := ⟨_, rfl⟩
      obtain ⟨k, hkd⟩ : ∃ k, k = (Utf8.decode s pos).2 := ⟨_, rfl⟩
      have hS0 : Hid (runesFrom s (fuel + 1) pos = c :: runesFrom s fuel (pos + k)) := by show _ = _; rw [runesFrom, if_pos hp, ← hcd, ← hkd]
      rw [← hW1] at hnx hAi hBi hit2
      rw [← hcd] at hnx
      rw [← hkd] at hwd hwl hit2
      have hc0 : 0 ≤ c := by omega
      have hc1 : c ≤ 1114111 := by omega
      clear hW1 hcd hkd hbi hA hB hit hmx
      obtain ⟨mo, hm0, hlk0⟩ := hAi.tab.look
      have hlk := hlk0 c (wf_rune ⟨hc0, hc1⟩)
      unfold wv at hlk
      obtain ⟨hl, -⟩ := hAi.tab.cells
      have hptr := hAi.ptr
      have hbs : b < W1.heap.size := Nat.lt_of_lt_of_le hAi.tab.lt hAi.tab.size
      have hos : ob < W1.heap.size := Nat.lt_of_lt_of_le hAi.o_lt hAi.size
      have hts : tb < W1.heap.size := Nat.lt_trans hAi.t_lt hos
      have hp1 : ∀ ob, (W1.alloc ob).cell? ⟨tb, 0, none⟩ = some (.pointer (some ⟨b, 0, none⟩)) := fun ob => (World.cell?_alloc_past _ _ _ hts).trans hptr
      have hl1' : ∀ ob, (W1.alloc ob).cell? ⟨b, 1, none⟩ = some (.int .i64 t.last.1) := fun ob => (World.cell?_alloc_past _ _ _ hbs).trans hl
      have hoc : W1.cell? ⟨ob, 0, none⟩ = some v' := by simp [World.cell?, hAi.out]
      have hof : W1.frozen? ⟨ob, 0, none⟩ = false := by simp [World.frozen?, hAi.out]
      have hoc1 : ∀ oo, (W1.alloc oo).cell? ⟨ob, 0, none⟩ = some v' := fun oo => (World.cell?_alloc_past _ _ _ hos).trans hoc
      have hown := hAi.own
      have hitlt : W.heap.size < W1.heap.size := (Array.getElem?_eq_some_iff.1 hit2).1
      have hoB := hAi.o_lt
      clear hlk0
      cases hin : inM t.M c with
      | true =>
        rw [hin] at hlk
        obtain ⟨n, hn⟩ : ∃ n, n = (getW t.M c (0, 0, 0)).2.1 := ⟨_, rfl⟩
        rw [← hn] at hlk
        have hcw : comp (weightOf t c) 1 = n := by simp [weightOf, hin, comp, hn]
        have hcw' := Lib.hid hcw
        clear hn hcw
        by_cases hnp : 0 < n
        · have hlv : lev1 t 1 c = [n / 65536 % 256, n / 256 % 256, n % 256] := by simp [lev1, hcw'.out, hnp, three]
          have hlv' := Lib.hid hlv
          clear hlv
          go_wp2_with (at_builtin; refine wpList_append_own _ rfl _ _ 35 rfl B 5 i0 (.int .u8 0) 1 1 Tryd.underlying35 hi hz0 hz1 hz2 rfl (by decide) _ _ _ rfl ((hown.alloc _).alloc _) ⟨W1.heap.size + 1, 0, none⟩ 3 3 [.int .u8 (n / 65536 % 256), .int .u8 (n / 256 % 256), .int .u8 (n % 256)] rfl rfl ?c1 ?c2 ?c3 ?c4 ?c5 ?_; (case c1 => have := cell_three_new (W1.alloc (.cells #[.int .i64 (getW t.M c (0, 0, 0)).1, .int .i64 n, .int .i64 (getW t.M c (0, 0, 0)).2.2] 44)) (.int .u8 (n / 65536 % 256)) (.int .u8 (n / 256 % 256)) (.int .u8 (n % 256)) 5; rw [World.size_alloc] at this; exact this); (case c2 => intro y hy; simp at hy; rcases hy with rfl | rfl | rfl <;> rfl); (case c3 => unfold maxLen; omega); (case c4 => omega); (case c5 => simp; have := hAi.size; omega); intro v2 w3 hown3 hgrow3 hnil3; obtain ⟨g2, cp2, hv2⟩ := ownsRow_slice hown3 (by omega); have hX := hAi.app (((Below.refl _ _).alloc (Nat.le_refl _) _).alloc (by simp) _) hown3 hgrow3; rw [hv2] at hX ⊢; obtain ⟨hx1, hx2, hx3, hx4, hx5, hx6⟩ := hX; have hx4' := Lib.hid hx4; have hx5' := Lib.hid hx5; have hx6' := Lib.hid hx6; clear hx1 hx4 hx5 hx6 hown3 hgrow3 hnil3 hv2)
          have hit3 := (hx6'.out W.heap.size hitlt (by omega) (ownsRow_ne_iter hAi.own hit2)).trans hit2
          go_roundw
          case rel => exact ⟨pos + k, fuel, _, _, hit3, hx4'.out, hBi.trans hx5'.out, (by show _ = _; rw [← HS.out, hS0.out, levelOf_cons, hlv'.out, List.append_assoc]), by omega, by simp; omega⟩
          case measure => rw [iterPos_of hit3, hpos0]; omega
        · have hlv : lev1 t 1 c = [] := by simp [lev1, hcw'.out, hnp]
          have hlv' := Lib.hid hlv
          have hnn : n ≤ 0 := by omega
          clear hlv hnp
          go_wp2_with fail
          go_roundw
          case rel =>
            have hal : ∀ oo, Below W1.heap.size W1 (W1.alloc oo) := fun oo => (Below.refl _ _).alloc (Nat.le_refl _) oo
            refine ⟨pos + k, fuel, v', acc', (by rw [Below.heap_alloc _ _ _ hitlt]; exact hit2), hAi.step (But.of_below ((hal _).mono hAi.size)) (by rw [Below.heap_alloc _ _ _ hos]; exact hAi.out) (hAi.own.alloc _), hBi.trans (But.of_below ((hal _).mono hAi.size)), (by show _ = _; rw [← HS.out, hS0.out, levelOf_cons, hlv'.out, List.nil_append]), by omega, by omega⟩
          case measure =>
            have hit3 : ∀ oo, (W1.alloc oo).heap[W.heap.size]? = some (.stringIter s (pos + k)) := fun oo => by rw [Below.heap_alloc _ _ _ hitlt]; exact hit2
            rw [iterPos_of (hit3 _), hpos0]; omega
      | false =>
        rw [hin] at hlk
        have hlv : lev1 t 1 c = [0, 0, 1] := by simp [lev1, weightOf, hin, comp, three]
        have hlv' := Lib.hid hlv
        clear hlv
        go_wp2_with (at_builtin; refine wpList_append_own _ rfl _ _ 35 rfl B 5 i0 (.int .u8 0) 1 1 Tryd.underlying35 hi hz0 hz1 hz2 rfl (by decide) _ _ _ rfl ((hown.alloc _).alloc _) ⟨W1.heap.size + 1, 0, none⟩ 3 3 [.int .u8 0, .int .u8 0, .int .u8 1] rfl rfl ?c1 ?c2 ?c3 ?c4 ?c5 ?_; (case c1 => have := cell_three_new (W1.alloc (.cells #[.int .i64 (c + t.last.1 + 1), .int .i64 1, .int .i64 1] 44)) (.int .u8 0) (.int .u8 0) (.int .u8 1) 5; rw [World.size_alloc] at this; exact this); (case c2 => intro y hy; simp at hy; rcases hy with rfl | rfl | rfl <;> rfl); (case c3 => unfold maxLen; omega); (case c4 => omega); (case c5 => simp; have := hAi.size; omega); intro v2 w3 hown3 hgrow3 hnil3; obtain ⟨g2, cp2, hv2⟩ := ownsRow_slice hown3 (by omega); have hX := hAi.app (((Below.refl _ _).alloc (Nat.le_refl _) _).alloc (by simp) _) hown3 hgrow3; rw [hv2] at hX ⊢; obtain ⟨hx1, hx2, hx3, hx4, hx5, hx6⟩ := hX; have hx4' := Lib.hid hx4; have hx5' := Lib.hid hx5; have hx6' := Lib.hid hx6; clear hx1 hx4 hx5 hx6 hown3 hgrow3 hnil3 hv2)
        have hit3 := (hx6'.out W.heap.size hitlt (by omega) (ownsRow_ne_iter hAi.own hit2)).trans hit2
        go_roundw
        case rel => exact ⟨pos + k, fuel, _, _, hit3, hx4'.out, hBi.trans hx5'.out, (by show _ = _; rw [← HS.out, hS0.out, levelOf_cons, hlv'.out, List.append_assoc]), by omega, by simp; omega⟩
        case measure => rw [iterPos_of hit3, hpos0]; omega
    · have hnx : ∀ ty, (Instr.next (.pointer (some ⟨W.heap.size, 0, none⟩)) true ty).run Tryd.prog wr = _ := fun ty => Lib.run_next_end_at wr W.heap.size s pos ty hit hp
      have e : Hid (acc' = acc ++ levelOf t 1 (runesOf s)) := by
        show _ = _
        rw [← HS.out]
        cases fuel <;> simp [runesFrom, hp, levelOf]
      go_wp2_with fail
      go_end0
      exact ⟨rfl, v', by rw [← e.out]; exact hA, hB⟩

set_option maxRecDepth 100000 in
set_option maxHeartbeats 1000000 in
theorem level2_calls (W : World) (sb tb ob b B : Nat) (s : ByteArray) (t : CT) (v : Value) (acc : List Int) (h : Around W sb tb ob b B s t v acc) (hl0 : 0 ≤ t.last.1) (hl1 : t.last.1 ≤ 1000000) (hss : s.size ≤ 4294967296) (hacc : acc.length ≤ 1000000000000) :
    Calls Tryd.prog 42 #[.int .i64 2, .pointer (some ⟨sb, 0, none⟩), .pointer (some ⟨tb, 0, none⟩), .pointer (some ⟨ob, 0, none⟩)] W fun e w' => e = .returned (.tuple #[]) ∧ ∃ v', Around w' sb tb ob b B s t v' (acc ++ levelOf t 2 (runesOf s)) ∧ But B ob W w' := by
  obtain ⟨i0, hi, hz0, hz1, hz2⟩ := info_parts info_byte
  have hstr := h.str
  go_enter Tryd.func42, Tryd.ntmps42
  go_wp2_with fail
  clear hstr
  go_loopw [6] (fun _ wr => ∃ (pos fuel : Nat) (v' : Value) (acc' : List Int), wr.heap[W.heap.size]? = some (.stringIter s pos) ∧ Around wr sb tb ob b B s t v' acc' ∧ But B ob W wr ∧ Hid (acc' ++ levelOf t 2 (runesFrom s fuel pos) = acc ++ levelOf t 2 (runesOf s)) ∧ s.size ≤ pos + fuel ∧ acc'.length ≤ acc.length + 3 * pos) (fun _ wr => s.size - wr.iterPos W.heap.size)
  case atStart =>
    have hal : Below W.heap.size W (W.iter s 0) := (Below.refl _ _).alloc (Nat.le_refl _) _
    have hob := h.o_lt
    have hsz := h.size
    have hBut : But B ob W (W.iter s 0) := But.of_below (hal.mono h.size)
    exact ⟨0, s.size, v, acc, World.iter_heap W s 0, h.step hBut ((hal.block ob (by omega)).trans h.out) (ownsRow_below h.own hal), hBut, rfl, by omega, by omega⟩
  case round =>
    obtain ⟨pos, fuel, v', acc', hit, hA, hB, HS, hb, hlen⟩ := hrel
    have hpos0 := iterPos_of hit
    by_cases hp : pos < s.size
    · have hnx : ∀ ty, (Instr.next (.pointer (some ⟨W.heap.size, 0, none⟩)) true ty).run Tryd.prog wr = _ := fun ty => Lib.run_next_any_at wr W.heap.size s pos ty hit hp
      have hwd := Lib.decode_width_pos s pos hp
      have hwl := width_le s pos hp
      obtain ⟨fuel, rfl⟩ : ∃ f', fuel = f' + 1 := ⟨fuel - 1, by omega⟩
      have hit2 := Lib.iterAt_heap wr W.heap.size s pos (pos + (Utf8.decode s pos).2) hit
      have hmx := decode_max s pos
      have hBit : B ≤ W.heap.size := h.size
      have hbi : Below B wr (wr.iterAt W.heap.size s (pos + (Utf8.decode s pos).2)) := Lib.below_iterAt (Below.refl _ _) hBit s _
      have hBi : But B ob W (wr.iterAt W.heap.size s (pos + (Utf8.decode s pos).2)) := hB.trans (But.of_below hbi)
      have hAi : Around (wr.iterAt W.heap.size s (pos + (Utf8.decode s pos).2)) sb tb ob b B s t v' acc' :=
        hA.step (But.of_below hbi) ((hbi.block ob h.o_lt).trans hA.out) (ownsRow_iter hA.own hit _)
      obtain ⟨W1, hW1⟩ : ∃ W1, W1 = wr.iterAt W.heap.size s (pos + (Utf8.decode s pos).2) := ⟨_, rfl⟩
      obtain ⟨c, hcd⟩ : ∃ c, c = ((Utf8.decode s pos).1 : Int) := ⟨_, rfl⟩
      obtain ⟨k, hkd⟩ : ∃ k, k = (Utf8.decode s pos).2 := ⟨_, rfl⟩
      have hS0 : Hid (runesFrom s (fuel + 1) pos = c :: runesFrom s fuel (pos + k)) := by show _ = _; rw [runesFrom, if_pos hp, ← hcd, ← hkd]
      rw [← hW1] at hnx hAi hBi hit2
      rw [← hcd] at hnx
      rw [← hkd] at hwd hwl hit2
      have hc0 : 0 ≤ c := by omega
      have hc1 : c ≤ 1114111 := by omega
      clear hW1 hcd hkd hbi hA hB hit hmx
      obtain ⟨mo, hm0, hlk0⟩ := hAi.tab.look
      have hlk := hlk0 c (wf_rune ⟨hc0, hc1⟩)
      unfold wv at hlk
      obtain ⟨hl, -⟩ := hAi.tab.cells
      have hptr := hAi.ptr
      have hbs : b < W1.heap.size := Nat.lt_of_lt_of_le hAi.tab.lt hAi.tab.size
      have hos : ob < W1.heap.size := Nat.lt_of_lt_of_le hAi.o_lt hAi.size
      have hts : tb < W1.heap.size := Nat.lt_trans hAi.t_lt hos
      have hp1 : ∀ ob, (W1.alloc ob).cell? ⟨tb, 0, none⟩ = some (.pointer (some ⟨b, 0, none⟩)) := fun ob => (World.cell?_alloc_past _ _ _ hts).trans hptr
      have hl1' : ∀ ob, (W1.alloc ob).cell? ⟨b, 1, none⟩ = some (.int .i64 t.last.1) := fun ob => (World.cell?_alloc_past _ _ _ hbs).trans hl
      have hoc : W1.cell? ⟨ob, 0, none⟩ = some v' := by simp [World.cell?, hAi.out]
      have hof : W1.frozen? ⟨ob, 0, none⟩ = false := by simp [World.frozen?, hAi.out]
      have hoc1 : ∀ oo, (W1.alloc oo).cell? ⟨ob, 0, none⟩ = some v' := fun oo => (World.cell?_alloc_past _ _ _ hos).trans hoc
      have hown := hAi.own
      have hitlt : W.heap.size < W1.heap.size := (Array.getElem?_eq_some_iff.1 hit2).1
      have hoB := hAi.o_lt
      clear hlk0
      cases hin : inM t.M c with
      | true =>
        rw [hin] at hlk
        obtain ⟨n, hn⟩ : ∃ n, n = (getW t.M c (0, 0, 0)).2.2 := ⟨_, rfl⟩
        rw [← hn] at hlk
        have hcw : comp (weightOf t c) 2 = n := by simp [weightOf, hin, comp, hn]
        have hcw' := Lib.hid hcw
        clear hn hcw
        by_cases hnp : 0 < n
        · have hlv : lev1 t 2 c = [n / 65536 % 256, n / 256 % 256, n % 256] := by simp [lev1, hcw'.out, hnp, three]
          have hlv' := Lib.hid hlv
          clear hlv
          go_wp2_with (at_builtin; refine wpList_append_own _ rfl _ _ 35 rfl B 5 i0 (.int .u8 0) 1 1 Tryd.underlying35 hi hz0 hz1 hz2 rfl (by decide) _ _ _ rfl ((hown.alloc _).alloc _) ⟨W1.heap.size + 1, 0, none⟩ 3 3 [.int .u8 (n / 65536 % 256), .int .u8 (n / 256 % 256), .int .u8 (n % 256)] rfl rfl ?c1 ?c2 ?c3 ?c4 ?c5 ?_; (case c1 => have := cell_three_new (W1.alloc (.cells #[.int .i64 (getW t.M c (0, 0, 0)).1, .int .i64 (getW t.M c (0, 0, 0)).2.1, .int .i64 n] 44)) (.int .u8 (n / 65536 % 256)) (.int .u8 (n / 256 % 256)) (.int .u8 (n % 256)) 5; rw [World.size_alloc] at this; exact this); (case c2 => intro y hy; simp at hy; rcases hy with rfl | rfl | rfl <;> rfl); (case c3 => unfold maxLen; omega); (case c4 => omega); (case c5 => simp; have := hAi.size; omega); intro v2 w3 hown3 hgrow3 hnil3; obtain ⟨g2, cp2, hv2⟩ := ownsRow_slice hown3 (by omega); have hX := hAi.app (((Below.refl _ _).alloc (Nat.le_refl _) _).alloc (by simp) _) hown3 hgrow3; rw [hv2] at hX ⊢; obtain ⟨hx1, hx2, hx3, hx4, hx5, hx6⟩ := hX; have hx4' := Lib.hid hx4; have hx5' := Lib.hid hx5; have hx6' := Lib.hid hx6; clear hx1 hx4 hx5 hx6 hown3 hgrow3 hnil3 hv2)
          have hit3 := (hx6'.out W.heap.size hitlt (by omega) (ownsRow_ne_iter hAi.own hit2)).trans hit2
          go_roundw
          case rel => exact ⟨pos + k, fuel, _, _, hit3, hx4'.out, hBi.trans hx5'.out, (by show _ = _; rw [← HS.out, hS0.out, levelOf_cons, hlv'.out, List.append_assoc]), by omega, by simp; omega⟩
          case measure => rw [iterPos_of hit3, hpos0]; omega
        · have hlv : lev1 t 2 c = [] := by simp [lev1, hcw'.out, hnp]
          have hlv' := Lib.hid hlv
          have hnn : n ≤ 0 := by omega
          clear hlv hnp
          go_wp2_with fail
          go_roundw
          case rel =>
            have hal : ∀ oo, Below W1.heap.size W1 (W1.alloc oo) := fun oo => (Below.refl _ _).alloc (Nat.le_refl _) oo
            refine ⟨pos + k, fuel, v', acc', (by rw [Below.heap_alloc _ _ _ hitlt]; exact hit2), hAi.step (But.of_below ((hal _).mono hAi.size)) (by rw [Below.heap_alloc _ _ _ hos]; exact hAi.out) (hAi.own.alloc _), hBi.trans (But.of_below ((hal _).mono hAi.size)), (by show _ = _; rw [← HS.out, hS0.out, levelOf_cons, hlv'.out, List.nil_append]), by omega, by omega⟩
          case measure =>
            have hit3 : ∀ oo, (W1.alloc oo).heap[W.heap.size]? = some (.stringIter s (pos + k)) := fun oo => by rw [Below.heap_alloc _ _ _ hitlt]; exact hit2
            rw [iterPos_of (hit3 _), hpos0]; omega
      | false =>
        rw [hin] at hlk
        have hlv : lev1 t 2 c = [0, 0, 1] := by simp [lev1, weightOf, hin, comp, three]
        have hlv' := Lib.hid hlv
        clear hlv
        go_wp2_with (at_builtin; refine wpList_append_own _ rfl _ _ 35 rfl B 5 i0 (.int .u8 0) 1 1 Tryd.underlying35 hi hz0 hz1 hz2 rfl (by decide) _ _ _ rfl ((hown.alloc _).alloc _) ⟨W1.heap.size + 1, 0, none⟩ 3 3 [.int .u8 0, .int .u8 0, .int .u8 1] rfl rfl ?c1 ?c2 ?c3 ?c4 ?c5 ?_; (case c1 => have := cell_three_new (W1.alloc (.cells #[.int .i64 (c + t.last.1 + 1), .int .i64 1, .int .i64 1] 44)) (.int .u8 0) (.int .u8 0) (.int .u8 1) 5; rw [World.size_alloc] at this; exact this); (case c2 => intro y hy; simp at hy; rcases hy with rfl | rfl | rfl <;> rfl); (case c3 => unfold maxLen; omega); (case c4 => omega); (case c5 => simp; have := hAi.size; omega); intro v2 w3 hown3 hgrow3 hnil3; obtain ⟨g2, cp2, hv2⟩ := ownsRow_slice hown3 (by omega); have hX := hAi.app (((Below.refl _ _).alloc (Nat.le_refl _) _).alloc (by simp) _) hown3 hgrow3; rw [hv2] at hX ⊢; obtain ⟨hx1, hx2, hx3, hx4, hx5, hx6⟩ := hX; have hx4' := Lib.hid hx4; have hx5' := Lib.hid hx5; have hx6' := Lib.hid hx6; clear hx1 hx4 hx5 hx6 hown3 hgrow3 hnil3 hv2)
        have hit3 := (hx6'.out W.heap.size hitlt (by omega) (ownsRow_ne_iter hAi.own hit2)).trans hit2
        go_roundw
        case rel => exact ⟨pos + k, fuel, _, _, hit3, hx4'.out, hBi.trans hx5'.out, (by show _ = _; rw [← HS.out, hS0.out, levelOf_cons, hlv'.out, List.append_assoc]), by omega, by simp; omega⟩
        case measure => rw [iterPos_of hit3, hpos0]; omega
    · have hnx : ∀ ty, (Instr.next (.pointer (some ⟨W.heap.size, 0, none⟩)) true ty).run Tryd.prog wr = _ := fun ty => Lib.run_next_end_at wr W.heap.size s pos ty hit hp
      have e : Hid (acc' = acc ++ levelOf t 2 (runesOf s)) := by
        show _ = _
        rw [← HS.out]
        cases fuel <;> simp [runesFrom, hp, levelOf]
      go_wp2_with fail
      go_end0
      exact ⟨rfl, v', by rw [← e.out]; exact hA, hB⟩

end Go.Proofs.YtibhifjehbajnaaDoor

namespace Go.Proofs.YtibhifjehbajnaaDoor
open Go.RowKit Go.Maps
set_option linter.unusedVariables false

theorem three_len (n : Int) : (three n).length = 3 := rfl
theorem lev1_len (t : CT) (k : Nat) (c : Int) : (lev1 t k c).length ≤ 3 := by
  unfold lev1
  split
  · rw [three_len]; exact Nat.le_refl _
  · simp
theorem levelOf_len (t : CT) (k : Nat) : ∀ cs : List Int, (levelOf t k cs).length ≤ 3 * cs.length
  | [] => by simp [levelOf]
  | c :: cs => by
    rw [levelOf_cons]
    have := lev1_len t k c
    have := levelOf_len t k cs
    simp; omega
theorem runesFrom_len (s : ByteArray) : ∀ (f pos : Nat), (runesFrom s f pos).length ≤ f
  | 0, pos => by simp [runesFrom]
  | f + 1, pos => by
    unfold runesFrom
    split
    · have := runesFrom_len s f (pos + (Utf8.decode s pos).2)
      simp; omega
    · simp
theorem runesOf_len (s : ByteArray) : (runesOf s).length ≤ s.size := runesFrom_len s s.size 0

/-- The bytes of the levels below k. -/
def keyK (t : CT) (cs : List Int) (k : Nat) : List Int :=
  (levelOf t 0 cs ++ (if 2 ≤ k then [0, 0, 0] ++ levelOf t 1 cs else [])) ++ (if 3 ≤ k then [0, 0, 0] ++ levelOf t 2 cs else [])
def keyP (t : CT) (s : ByteArray) : List Int := if isText s then keyK t (runesOf s) (if t.st ≤ 1 then 1 else if t.st = 2 then 2 else 3) else []
theorem keyK_len (t : CT) (cs : List Int) (k : Nat) : (keyK t cs k).length ≤ 9 * cs.length + 6 := by
  have h0 := levelOf_len t 0 cs
  have h1 := levelOf_len t 1 cs
  have h2 := levelOf_len t 2 cs
  unfold keyK
  split <;> split <;> simp <;> omega
theorem keyK_one (t : CT) (cs : List Int) : keyK t cs 1 = levelOf t 0 cs := by simp [keyK]
theorem keyK_two (t : CT) (cs : List Int) : keyK t cs 2 = (keyK t cs 1 ++ [0, 0, 0]) ++ levelOf t 1 cs := by simp [keyK]
theorem keyK_three (t : CT) (cs : List Int) : keyK t cs 3 = (keyK t cs 2 ++ [0, 0, 0]) ++ levelOf t 2 cs := by simp [keyK]

/-- What Key leaves: new bytes. -/
def KeyPost (W : World) (xs : List Int) (e : Ending) (w' : World) : Prop :=
  ∃ v, e = .returned v ∧ w'.ownsRow W.heap.size 5 1 v xs.length (byteVs xs) ∧ Below W.heap.size W w'

set_option maxRecDepth 100000 in
set_option maxHeartbeats 2000000 in
theorem Key_none (W : World) (p : Option Addr) (s : ByteArray) (ht : isText s = false) :
    Calls Tryd.prog 18 #[.pointer p, .string s] W (KeyPost W []) := by
  go_enter Tryd.func18, Tryd.ntmps18
  go_wp2_with (go_at_call 24; refine (IsText_calls _ _).mono ?_; rintro e w1 ⟨rfl, hb1⟩; rw [ht])
  go_ret
  have hb0 : Below W.heap.size W ((W.alloc (.cells #[.pointer p] 24)).alloc (.cells #[.string s] 9)) := ((Below.refl _ _).alloc (Nat.le_refl _) _).alloc (by simp) _
  exact ⟨.slice none 0 0, rfl, World.ownsRow_nil _ _ _ _, hb0.trans (hb1.mono hb0.size)⟩

theorem _root_.Go.World.ownsRow.base {w : World} {base base' : Nat} {e : TypeId} {size : Nat} {v : Value} {n : Nat} {xs : List Value} (h : w.ownsRow base e size v n xs) (hb : base' ≤ base) : w.ownsRow base' e size v n xs := by
  obtain ⟨h1, h2⟩ := h
  refine ⟨h1, ?_⟩
  rcases h2 with h2 | ⟨g, cap, cur, a, b, r⟩
  · exact .inl h2
  · exact .inr ⟨g, cap, cur, a, by omega, r⟩

set_option maxRecDepth 100000 in
set_option maxHeartbeats 4000000 in
theorem Key_some (W : World) (b : Nat) (t : CT) (h : TabRd W b t W.heap.size) (s : ByteArray) (ht : isText s = true) (hl0 : 0 ≤ t.last.1) (hl1 : t.last.1 ≤ 1000000) (hst3 : t.st ≤ 3) (hss : s.size ≤ 4294967296) :
    Calls Tryd.prog 18 #[.pointer (some ⟨b, 0, none⟩), .string s] W (KeyPost W (keyP t s)) := by
  have hmf : ∀ (fn : Fn) (first cap : Array Value) (w : World), (Instr.makeFunc fn first cap).run Tryd.prog w = .ok (.func fn first cap) w := fun _ _ _ _ => rfl
  obtain ⟨i0, hi, hz0, hz1, hz2⟩ := info_parts info_byte
  have hb0 : Below W.heap.size W ((W.alloc (.cells #[.pointer (some ⟨b, 0, none⟩)] 24)).alloc (.cells #[.string s] 9)) := ((Below.refl _ _).alloc (Nat.le_refl _) _).alloc (by simp) _
  have hc0 : ((W.alloc (.cells #[.pointer (some ⟨b, 0, none⟩)] 24)).alloc (.cells #[.string s] 9)).cell? ⟨W.heap.size, 0, none⟩ = some (.pointer (some ⟨b, 0, none⟩)) := by
    rw [World.cell?_alloc_past _ _ _ (by simp), World.cell?_alloc_at _ _ _ _ rfl]; rfl
  have hc1 : ((W.alloc (.cells #[.pointer (some ⟨b, 0, none⟩)] 24)).alloc (.cells #[.string s] 9)).cell? ⟨W.heap.size + 1, 0, none⟩ = some (.string s) := by
    rw [World.cell?_alloc_at _ _ _ _ (by simp)]; rfl
  go_enter Tryd.func18, Tryd.ntmps18
  go_wp2_with (go_at_call 24; refine (IsText_calls _ _).mono ?_; rintro e w1 ⟨rfl, hb1⟩; rw [ht]; have hct : w1.cell? ⟨W.heap.size, 0, none⟩ = some (.pointer (some ⟨b, 0, none⟩)) := (hb1.cell (p := ⟨W.heap.size, 0, none⟩) (by simp; omega)).trans hc0; have hcs : w1.cell? ⟨W.heap.size + 1, 0, none⟩ = some (.string s) := (hb1.cell (p := ⟨W.heap.size + 1, 0, none⟩) (by simp)).trans hc1; have hbW : Below W.heap.size W w1 := hb0.trans (hb1.mono hb0.size); have hs1 : W.heap.size + 2 ≤ w1.heap.size := by have := hb1.size; simpa using this)
  obtain ⟨W4, hW4⟩ : ∃ W4, W4 = w1.alloc (.cells #[.slice none 0 0] 35) := ⟨_, rfl⟩
  obtain ⟨ob, hob⟩ : ∃ ob, ob = w1.heap.size := ⟨_, rfl⟩
  have hb4 : Below W.heap.size W W4 := by rw [hW4]; exact hbW.alloc hbW.size _
  have hct4 : W4.cell? ⟨W.heap.size, 0, none⟩ = some (.pointer (some ⟨b, 0, none⟩)) := by rw [hW4]; exact (World.cell?_alloc_past _ _ _ (by show _ < w1.heap.size; omega)).trans hct
  have hcs4 : W4.cell? ⟨W.heap.size + 1, 0, none⟩ = some (.string s) := by rw [hW4]; exact (World.cell?_alloc_past _ _ _ (by show _ < w1.heap.size; omega)).trans hcs
  have hT4 : TabRd W4 b t ob := ⟨Nat.lt_of_lt_of_le h.lt (by omega), by rw [hW4, hob]; simp, by
    obtain ⟨mo, q1, q2⟩ := (h.below hb4).blk
    refine ⟨mo, q1, ?_⟩
    rcases q2 with q2 | ⟨m, D, q3, q4, q5⟩
    · exact .inl q2
    · exact .inr ⟨m, D, q3, by omega, q5⟩⟩
  have hout4 : W4.heap[ob]? = some (.cells #[.slice none 0 0] 35 (0, 0)) := by rw [hW4, hob]; exact (MapKept.heap_alloc _ _).1
  have hob1 : W.heap.size + 1 < ob := by omega
  have hob0 : W.heap.size < ob := by omega
  have hob3 : ob + 1 ≤ W4.heap.size := by rw [hW4, hob]; simp
  rw [← hW4, ← hob]
  clear hW4 hob hct hcs hbW hs1 hc0 hc1 hb0 hb1
  have hno : W4.ownsRow (ob + 1) 5 1 (.slice none 0 0) ([] : List Int).length (byteVs []) := World.ownsRow_nil _ _ _ _
  have hr := runesOf_len s
  have hoB : ob + 1 ≤ W4.heap.size := hob3
  have hA4 : Around W4 (W.heap.size + 1) W.heap.size ob b (ob + 1) s t (.slice none 0 0) [] :=
    ⟨hob1, hob0, Nat.lt_succ_self _, hob3, hcs4, hct4, hT4, hout4, hno⟩
  refine (level0_calls W4 (W.heap.size + 1) W.heap.size ob b (ob + 1) s t _ [] hA4 hl0 hl1 hss (by simp)).mono ?_
  rintro e w5 ⟨rfl, v5, hA5, hB5⟩
  rw [List.nil_append] at hA5
  have hB5' : Below W.heap.size W w5 := hb4.trans (hB5.below (by omega) (by omega))
  have hE5 : Hid (levelOf t 0 (runesOf s) = keyK t (runesOf s) 1) := (keyK_one _ _).symm
  clear hA4 hcs4 hct4 hT4 hout4 hno

  go_wp2_with fail
  go_loopw [7] (fun i wr => ∃ (k : Nat) (v : Value), 1 ≤ k ∧ k ≤ 3 ∧ i = .int .i64 k ∧ Around wr (W.heap.size + 1) W.heap.size ob b (ob + 1) s t v (keyK t (runesOf s) k) ∧ Below W.heap.size W wr ∧ Hid (k ≤ 1 ∨ (k : Int) ≤ t.st)) (fun i _ => 3 - (intOf i).toNat)
  case atStart => exact ⟨1, v5, Nat.le_refl _, by omega, rfl, by rw [← hE5.out]; exact hA5, hB5', Or.inl (Nat.le_refl _)⟩
  case round =>
    obtain ⟨k, v, hk1, hk3, rfl, hA, hb, hkk⟩ := hrel
    have hptr := hA.ptr
    obtain ⟨-, hst⟩ := hA.tab.cells
    have hkl := keyK_len t (runesOf s) k
    by_cases hlt : (k : Int) < t.st
    · have hk12 : k = 1 ∨ k = 2 := by omega
      have hoc : wr.cell? ⟨ob, 0, none⟩ = some v := by simp [World.cell?, hA.out]
      have hos : ob < wr.heap.size := Nat.lt_of_lt_of_le hA.o_lt hA.size
      have hown := hA.own
      generalize hacc : keyK t (runesOf s) k = acc at hA hown hkl
      have hacc' := Lib.hid hacc
      clear hacc
      have hcl : Hid (wr.heap.size + 1 ≠ 0) := by show _ ≠ _; omega
      rcases hk12 with rfl | rfl
      · go_wp2_with (at_builtin; refine wpList_append_own _ rfl _ _ 35 rfl (ob + 1) 5 i0 (.int .u8 0) 1 1 Tryd.underlying35 hi hz0 hz1 hz2 rfl (by decide) _ _ _ rfl (hown.alloc _) ⟨wr.heap.size, 0, none⟩ 3 3 [.int .u8 0, .int .u8 0, .int .u8 0] rfl rfl ?c1 ?c2 ?c3 ?c4 ?c5 ?_; (case c1 => exact cell_three_new wr (.int .u8 0) (.int .u8 0) (.int .u8 0) 5); (case c2 => intro y hy; simp at hy; subst hy; rfl); (case c3 => unfold maxLen; omega); (case c4 => omega); (case c5 => simp; have := hA.size; omega); intro v2 w3 hown3 hgrow3 hnil3; obtain ⟨g2, cp2, hv2⟩ := ownsRow_slice hown3 (by omega); have hX := hA.app ((Below.refl _ _).alloc (Nat.le_refl _) _) hown3 hgrow3; rw [hv2] at hX ⊢; obtain ⟨hx1, hx2, hx3, hx4, hx5, hx6⟩ := hX; have hx4' := Lib.hid hx4; have hx5' := Lib.hid hx5; clear hx1 hx4 hx5 hx6 hown3 hgrow3 hnil3 hv2)
        refine (level1_calls _ (W.heap.size + 1) W.heap.size ob b (ob + 1) s t _ (acc ++ [0, 0, 0]) hx4'.out hl0 hl1 hss (by simp; omega)).mono ?_
        rintro e w6 ⟨rfl, v6, hA6, hB6⟩
        have hb6 : Below W.heap.size W w6 := hb.trans ((hx5'.out.trans hB6).below (by omega) (by omega))
        have hE6 : Hid (acc ++ [0, 0, 0] ++ levelOf t 1 (runesOf s) = keyK t (runesOf s) (1 + 1)) := by
          show _ = _
          rw [← hacc'.out]
          exact (keyK_two _ _).symm

        go_wp2_with fail
        go_roundw
        case rel => exact ⟨1 + 1, v6, by omega, by omega, by go_num, by rw [← hE6.out]; exact hA6, hb6, Or.inr (by omega)⟩
        case measure => simp [intOf]
      · go_wp2_with (at_builtin; refine wpList_append_own _ rfl _ _ 35 rfl (ob + 1) 5 i0 (.int .u8 0) 1 1 Tryd.underlying35 hi hz0 hz1 hz2 rfl (by decide) _ _ _ rfl (hown.alloc _) ⟨wr.heap.size, 0, none⟩ 3 3 [.int .u8 0, .int .u8 0, .int .u8 0] rfl rfl ?c1 ?c2 ?c3 ?c4 ?c5 ?_; (case c1 => exact cell_three_new wr (.int .u8 0) (.int .u8 0) (.int .u8 0) 5); (case c2 => intro y hy; simp at hy; subst hy; rfl); (case c3 => unfold maxLen; omega); (case c4 => omega); (case c5 => simp; have := hA.size; omega); intro v2 w3 hown3 hgrow3 hnil3; obtain ⟨g2, cp2, hv2⟩ := ownsRow_slice hown3 (by omega); have hX := hA.app ((Below.refl _ _).alloc (Nat.le_refl _) _) hown3 hgrow3; rw [hv2] at hX ⊢; obtain ⟨hx1, hx2, hx3, hx4, hx5, hx6⟩ := hX; have hx4' := Lib.hid hx4; have hx5' := Lib.hid hx5; clear hx1 hx4 hx5 hx6 hown3 hgrow3 hnil3 hv2)
        refine (level2_calls _ (W.heap.size + 1) W.heap.size ob b (ob + 1) s t _ (acc ++ [0, 0, 0]) hx4'.out hl0 hl1 hss (by simp; omega)).mono ?_
        rintro e w6 ⟨rfl, v6, hA6, hB6⟩
        have hb6 : Below W.heap.size W w6 := hb.trans ((hx5'.out.trans hB6).below (by omega) (by omega))
        have hE6 : Hid (acc ++ [0, 0, 0] ++ levelOf t 2 (runesOf s) = keyK t (runesOf s) (2 + 1)) := by
          show _ = _
          rw [← hacc'.out]
          exact (keyK_three _ _).symm

        go_wp2_with fail
        go_roundw
        case rel => exact ⟨2 + 1, v6, by omega, by omega, by go_num, by rw [← hE6.out]; exact hA6, hb6, Or.inr (by omega)⟩
        case measure => simp [intOf]
    · have hoc : wr.cell? ⟨ob, 0, none⟩ = some v := by simp [World.cell?, hA.out]
      go_wp2_with fail
      go_ret
      have e : keyP t s = keyK t (runesOf s) k := by
        unfold keyP
        rw [if_pos ht]
        rcases hkk.out with h1 | h1
        · have hk : k = 1 := by omega
          subst hk
          rw [if_pos (by omega)]
        · by_cases hk : k = 1
          · subst hk
            rw [if_pos (by omega)]
          · rw [if_neg (by omega)]
            by_cases hk2 : k = 2
            · subst hk2
              rw [if_pos (by omega)]
            · have hk : k = 3 := by omega
              subst hk
              rw [if_neg (by omega)]
      exact ⟨v, rfl, by rw [e]; exact (hA.own).base (by omega), hb⟩

set_option maxRecDepth 100000 in
set_option maxHeartbeats 4000000 in
theorem Key_nil (W : World) (s : ByteArray) (ht : isText s = true) (hss : s.size ≤ 4294967296) :
    Calls Tryd.prog 18 #[.pointer none, .string s] W (KeyPost W (keyP t0 s)) := by
  have hmf : ∀ (fn : Fn) (first cap : Array Value) (w : World), (Instr.makeFunc fn first cap).run Tryd.prog w = .ok (.func fn first cap) w := fun _ _ _ _ => rfl
  obtain ⟨i0, hi, hz0, hz1, hz2⟩ := info_parts info_byte
  have hb0 : Below W.heap.size W ((W.alloc (.cells #[.pointer none] 24)).alloc (.cells #[.string s] 9)) := ((Below.refl _ _).alloc (Nat.le_refl _) _).alloc (by simp) _
  have hc0 : ((W.alloc (.cells #[.pointer none] 24)).alloc (.cells #[.string s] 9)).cell? ⟨W.heap.size, 0, none⟩ = some (.pointer none) := by
    rw [World.cell?_alloc_past _ _ _ (by simp), World.cell?_alloc_at _ _ _ _ rfl]; rfl
  have hc1 : ((W.alloc (.cells #[.pointer none] 24)).alloc (.cells #[.string s] 9)).cell? ⟨W.heap.size + 1, 0, none⟩ = some (.string s) := by
    rw [World.cell?_alloc_at _ _ _ _ (by simp)]; rfl
  have hl0 : 0 ≤ t0.last.1 := by decide
  have hl1 : t0.last.1 ≤ 1000000 := by decide
  have hst3 : t0.st ≤ 3 := by decide
  obtain ⟨t, htt⟩ : ∃ t, t = t0 := ⟨_, rfl⟩
  rw [← htt] at hl0 hl1 hst3 ⊢
  have htt' := Lib.hid htt
  clear htt
  go_enter Tryd.func18, Tryd.ntmps18
  go_wp2_with (go_at_call 24; refine (IsText_calls _ _).mono ?_; rintro e w1 ⟨rfl, hb1⟩; rw [ht]; have hH : w1.heap[W.heap.size]? = some (.cells #[.pointer none] 24 (0, 0)) := (hb1.block W.heap.size (by simp; omega)).trans (by rw [Below.heap_alloc _ _ _ (by simp)]; exact (MapKept.heap_alloc _ _).1); have hca : ∀ oo, (w1.alloc oo).cell? ⟨W.heap.size, 0, none⟩ = some (.pointer none) := (fun oo => by rw [World.cell?_alloc_past _ _ _ (Array.getElem?_eq_some_iff.1 hH).1]; simp [World.cell?, hH]); have hfa : ∀ oo, (w1.alloc oo).frozen? ⟨W.heap.size, 0, none⟩ = false := (fun oo => by rw [World.frozen?_alloc_old _ _ _ (by have := (Array.getElem?_eq_some_iff.1 hH).1; simp; omega)]; simp [World.frozen?, hH]); have hct : w1.cell? ⟨W.heap.size, 0, none⟩ = some (.pointer none) := (hb1.cell (p := ⟨W.heap.size, 0, none⟩) (by simp; omega)).trans hc0; have hcs : w1.cell? ⟨W.heap.size + 1, 0, none⟩ = some (.string s) := (hb1.cell (p := ⟨W.heap.size + 1, 0, none⟩) (by simp)).trans hc1; have hbW : Below W.heap.size W w1 := hb0.trans (hb1.mono hb0.size); have hs1 : W.heap.size + 2 ≤ w1.heap.size := by have := hb1.size; simpa using this)
  obtain ⟨W4, hW4⟩ : ∃ W4, W4 = (((w1.alloc (.cells #[.map none, .int .i64 0, .int .i64 0, .int .i64 0, .int .i64 0] 46)).setCell ⟨W.heap.size, 0, none⟩ (.pointer (some ⟨w1.heap.size, 0, none⟩))).alloc (.cells #[.slice none 0 0] 35)) := ⟨_, rfl⟩
  obtain ⟨b, hbb⟩ : ∃ b, b = w1.heap.size := ⟨_, rfl⟩
  obtain ⟨ob, hob⟩ : ∃ ob, ob = b + 1 := ⟨_, rfl⟩
  have hsz2 : ((w1.alloc (.cells #[.map none, .int .i64 0, .int .i64 0, .int .i64 0, .int .i64 0] 46)).setCell ⟨W.heap.size, 0, none⟩ (.pointer (some ⟨w1.heap.size, 0, none⟩))).heap.size = ob := by rw [hob, hbb]; simp [World.setCell]
  have hb4 : Below W.heap.size W W4 := by rw [hW4]; exact ((hbW.alloc hbW.size _).setCell (Nat.le_refl _) _).alloc (by rw [hsz2]; omega) _
  have hct4 : W4.cell? ⟨W.heap.size, 0, none⟩ = some (.pointer (some ⟨b, 0, none⟩)) := by
    have hx : ((w1.alloc (.cells #[.map none, .int .i64 0, .int .i64 0, .int .i64 0, .int .i64 0] 46)).setCell ⟨W.heap.size, 0, none⟩ (.pointer (some ⟨w1.heap.size, 0, none⟩))).heap[W.heap.size]? = some (.cells #[.pointer (some ⟨w1.heap.size, 0, none⟩)] 24 (0, 0)) := by
      have hq : (w1.alloc (.cells #[.map none, .int .i64 0, .int .i64 0, .int .i64 0, .int .i64 0] 46)).heap[W.heap.size]? = some (.cells #[.pointer none] 24 (0, 0)) := by rw [Below.heap_alloc _ _ _ (by omega)]; exact hH
      simp [World.setCell, Array.getElem?_modify, hq]
    rw [hW4, World.cell?_alloc_past _ _ _ (by show _ < _; rw [hsz2]; omega)]
    simp [World.cell?, hx, hbb]
  have hcs4 : W4.cell? ⟨W.heap.size + 1, 0, none⟩ = some (.string s) := by
    have hx : ((w1.alloc (.cells #[.map none, .int .i64 0, .int .i64 0, .int .i64 0, .int .i64 0] 46)).setCell ⟨W.heap.size, 0, none⟩ (.pointer (some ⟨w1.heap.size, 0, none⟩))).heap[W.heap.size + 1]? = w1.heap[W.heap.size + 1]? := by
      rw [Below.heap_setCell _ _ _ _ (by simp), Below.heap_alloc _ _ _ (by omega)]
    rw [hW4, World.cell?_alloc_past _ _ _ (by show _ < _; rw [hsz2]; omega), ← hcs]
    simp [World.cell?, hx]
  have hT4 : TabRd W4 b t ob := ⟨by omega, by rw [hW4]; simp [hsz2], none, by
    rw [hW4, Below.heap_alloc _ _ _ (by rw [hsz2]; omega), Below.heap_setCell _ _ _ _ (by show b ≠ W.heap.size; omega), hbb, htt'.out]
    exact (MapKept.heap_alloc _ _).1, .inl ⟨rfl, by rw [htt'.out]; rfl⟩⟩
  have hout4 : W4.heap[ob]? = some (.cells #[.slice none 0 0] 35 (0, 0)) := by rw [hW4, ← hsz2]; exact (MapKept.heap_alloc _ _).1
  have hob1 : W.heap.size + 1 < ob := by omega
  have hob0 : W.heap.size < ob := by omega
  have hob3 : ob + 1 ≤ W4.heap.size := by rw [hW4]; simp [hsz2]
  rw [← hW4, ← hbb, ← hob]
  clear hW4 hob hbb hct hcs hbW hs1 hc0 hc1 hb0 hb1 hsz2 hH hfa hca
  have hno : W4.ownsRow (ob + 1) 5 1 (.slice none 0 0) ([] : List Int).length (byteVs []) := World.ownsRow_nil _ _ _ _
  have hr := runesOf_len s
  have hoB : ob + 1 ≤ W4.heap.size := hob3
  have hA4 : Around W4 (W.heap.size + 1) W.heap.size ob b (ob + 1) s t (.slice none 0 0) [] :=
    ⟨hob1, hob0, Nat.lt_succ_self _, hob3, hcs4, hct4, hT4, hout4, hno⟩
  refine (level0_calls W4 (W.heap.size + 1) W.heap.size ob b (ob + 1) s t _ [] hA4 hl0 hl1 hss (by simp)).mono ?_
  rintro e w5 ⟨rfl, v5, hA5, hB5⟩
  rw [List.nil_append] at hA5
  have hB5' : Below W.heap.size W w5 := hb4.trans (hB5.below (by omega) (by omega))
  have hE5 : Hid (levelOf t 0 (runesOf s) = keyK t (runesOf s) 1) := (keyK_one _ _).symm
  clear hA4 hcs4 hct4 hT4 hout4 hno

  go_wp2_with fail
  go_loopw [7] (fun i wr => ∃ (k : Nat) (v : Value), 1 ≤ k ∧ k ≤ 3 ∧ i = .int .i64 k ∧ Around wr (W.heap.size + 1) W.heap.size ob b (ob + 1) s t v (keyK t (runesOf s) k) ∧ Below W.heap.size W wr ∧ Hid (k ≤ 1 ∨ (k : Int) ≤ t.st)) (fun i _ => 3 - (intOf i).toNat)
  case atStart => exact ⟨1, v5, Nat.le_refl _, by omega, rfl, by rw [← hE5.out]; exact hA5, hB5', Or.inl (Nat.le_refl _)⟩
  case round =>
    obtain ⟨k, v, hk1, hk3, rfl, hA, hb, hkk⟩ := hrel
    have hptr := hA.ptr
    obtain ⟨-, hst⟩ := hA.tab.cells
    have hkl := keyK_len t (runesOf s) k
    by_cases hlt : (k : Int) < t.st
    · have hk12 : k = 1 ∨ k = 2 := by omega
      have hoc : wr.cell? ⟨ob, 0, none⟩ = some v := by simp [World.cell?, hA.out]
      have hos : ob < wr.heap.size := Nat.lt_of_lt_of_le hA.o_lt hA.size
      have hown := hA.own
      generalize hacc : keyK t (runesOf s) k = acc at hA hown hkl
      have hacc' := Lib.hid hacc
      clear hacc
      have hcl : Hid (wr.heap.size + 1 ≠ 0) := by show _ ≠ _; omega
      rcases hk12 with rfl | rfl
      · go_wp2_with (at_builtin; refine wpList_append_own _ rfl _ _ 35 rfl (ob + 1) 5 i0 (.int .u8 0) 1 1 Tryd.underlying35 hi hz0 hz1 hz2 rfl (by decide) _ _ _ rfl (hown.alloc _) ⟨wr.heap.size, 0, none⟩ 3 3 [.int .u8 0, .int .u8 0, .int .u8 0] rfl rfl ?c1 ?c2 ?c3 ?c4 ?c5 ?_; (case c1 => exact cell_three_new wr (.int .u8 0) (.int .u8 0) (.int .u8 0) 5); (case c2 => intro y hy; simp at hy; subst hy; rfl); (case c3 => unfold maxLen; omega); (case c4 => omega); (case c5 => simp; have := hA.size; omega); intro v2 w3 hown3 hgrow3 hnil3; obtain ⟨g2, cp2, hv2⟩ := ownsRow_slice hown3 (by omega); have hX := hA.app ((Below.refl _ _).alloc (Nat.le_refl _) _) hown3 hgrow3; rw [hv2] at hX ⊢; obtain ⟨hx1, hx2, hx3, hx4, hx5, hx6⟩ := hX; have hx4' := Lib.hid hx4; have hx5' := Lib.hid hx5; clear hx1 hx4 hx5 hx6 hown3 hgrow3 hnil3 hv2)
        refine (level1_calls _ (W.heap.size + 1) W.heap.size ob b (ob + 1) s t _ (acc ++ [0, 0, 0]) hx4'.out hl0 hl1 hss (by simp; omega)).mono ?_
        rintro e w6 ⟨rfl, v6, hA6, hB6⟩
        have hb6 : Below W.heap.size W w6 := hb.trans ((hx5'.out.trans hB6).below (by omega) (by omega))
        have hE6 : Hid (acc ++ [0, 0, 0] ++ levelOf t 1 (runesOf s) = keyK t (runesOf s) (1 + 1)) := by
          show _ = _
          rw [← hacc'.out]
          exact (keyK_two _ _).symm

        go_wp2_with fail
        go_roundw
        case rel => exact ⟨1 + 1, v6, by omega, by omega, by go_num, by rw [← hE6.out]; exact hA6, hb6, Or.inr (by omega)⟩
        case measure => simp [intOf]
      · go_wp2_with (at_builtin; refine wpList_append_own _ rfl _ _ 35 rfl (ob + 1) 5 i0 (.int .u8 0) 1 1 Tryd.underlying35 hi hz0 hz1 hz2 rfl (by decide) _ _ _ rfl (hown.alloc _) ⟨wr.heap.size, 0, none⟩ 3 3 [.int .u8 0, .int .u8 0, .int .u8 0] rfl rfl ?c1 ?c2 ?c3 ?c4 ?c5 ?_; (case c1 => exact cell_three_new wr (.int .u8 0) (.int .u8 0) (.int .u8 0) 5); (case c2 => intro y hy; simp at hy; subst hy; rfl); (case c3 => unfold maxLen; omega); (case c4 => omega); (case c5 => simp; have := hA.size; omega); intro v2 w3 hown3 hgrow3 hnil3; obtain ⟨g2, cp2, hv2⟩ := ownsRow_slice hown3 (by omega); have hX := hA.app ((Below.refl _ _).alloc (Nat.le_refl _) _) hown3 hgrow3; rw [hv2] at hX ⊢; obtain ⟨hx1, hx2, hx3, hx4, hx5, hx6⟩ := hX; have hx4' := Lib.hid hx4; have hx5' := Lib.hid hx5; clear hx1 hx4 hx5 hx6 hown3 hgrow3 hnil3 hv2)
        refine (level2_calls _ (W.heap.size + 1) W.heap.size ob b (ob + 1) s t _ (acc ++ [0, 0, 0]) hx4'.out hl0 hl1 hss (by simp; omega)).mono ?_
        rintro e w6 ⟨rfl, v6, hA6, hB6⟩
        have hb6 : Below W.heap.size W w6 := hb.trans ((hx5'.out.trans hB6).below (by omega) (by omega))
        have hE6 : Hid (acc ++ [0, 0, 0] ++ levelOf t 2 (runesOf s) = keyK t (runesOf s) (2 + 1)) := by
          show _ = _
          rw [← hacc'.out]
          exact (keyK_three _ _).symm

        go_wp2_with fail
        go_roundw
        case rel => exact ⟨2 + 1, v6, by omega, by omega, by go_num, by rw [← hE6.out]; exact hA6, hb6, Or.inr (by omega)⟩
        case measure => simp [intOf]
    · have hoc : wr.cell? ⟨ob, 0, none⟩ = some v := by simp [World.cell?, hA.out]
      go_wp2_with fail
      go_ret
      have e : keyP t s = keyK t (runesOf s) k := by
        unfold keyP
        rw [if_pos ht]
        rcases hkk.out with h1 | h1
        · have hk : k = 1 := by omega
          subst hk
          rw [if_pos (by omega)]
        · by_cases hk : k = 1
          · subst hk
            rw [if_pos (by omega)]
          · rw [if_neg (by omega)]
            by_cases hk2 : k = 2
            · subst hk2
              rw [if_pos (by omega)]
            · have hk : k = 3 := by omega
              subst hk
              rw [if_neg (by omega)]
      exact ⟨v, rfl, by rw [e]; exact (hA.own).base (by omega), hb⟩

end Go.Proofs.YtibhifjehbajnaaDoor

namespace Go.Proofs.YtibhifjehbajnaaDoor
open Go.RowKit Go.Maps
set_option linter.unusedVariables false

/-- Key, asked of a table in every later world, gives the key. -/
def KeyGives (W : World) (p : Option Addr) (t : CT) : Prop :=
  ∀ W', Below W.heap.size W W' → ∀ s : ByteArray, s.size ≤ 4294967296 → Calls Tryd.prog 18 #[.pointer p, .string s] W' (KeyPost W' (keyP t s))
theorem keyP_none {t : CT} {s : ByteArray} (h : isText s = false) : keyP t s = [] := by simp [keyP, h]
theorem gives_some {W : World} {b : Nat} {t : CT} (h : TabRd W b t W.heap.size) (hl0 : 0 ≤ t.last.1) (hl1 : t.last.1 ≤ 1000000) (hst3 : t.st ≤ 3) : KeyGives W (some ⟨b, 0, none⟩) t := fun W' hb s hs => by
  cases ht : isText s with
  | false => rw [keyP_none ht]; exact Key_none W' _ s ht
  | true =>
    have h' := h.below hb
    have h2 : TabRd W' b t W'.heap.size := ⟨Nat.lt_of_lt_of_le h.lt hb.size, Nat.le_refl _, by
      obtain ⟨mo, q1, q2⟩ := h'.blk
      refine ⟨mo, q1, ?_⟩
      rcases q2 with q2 | ⟨m, D, q3, q4, q5⟩
      · exact .inl q2
      · exact .inr ⟨m, D, q3, Nat.lt_of_lt_of_le q4 hb.size, q5⟩⟩
    exact Key_some W' b t h2 s ht hl0 hl1 hst3 hs
theorem gives_nil (W : World) : KeyGives W none t0 := fun W' hb s hs => by
  cases ht : isText s with
  | false => rw [keyP_none ht]; exact Key_none W' _ s ht
  | true => exact Key_nil W' s ht hs
theorem KeyGives.later {W W1 : World} {p : Option Addr} {t : CT} (h : KeyGives W p t) (hb : Below W.heap.size W W1) : KeyGives W1 p t := fun W' hb' s hs => h W' (hb.trans (hb'.mono hb.size)) s hs

/-- The bytes that a slice leads to. -/
def BytesRd (w : World) (v : Value) (xs : List Int) : Prop := ∃ p n c, v = .slice p n c ∧ n = xs.length ∧ Lib.BytesIn w p n xs
theorem bytesRd_of {w : World} {base : Nat} {v : Value} {xs : List Int} (h : w.ownsRow base 5 1 v xs.length (byteVs xs)) : BytesRd w v xs := by
  rcases h.2 with ⟨rfl, hn⟩ | ⟨g, cap, cur, rfl, _⟩
  · have : xs = [] := List.eq_nil_of_length_eq_zero hn
    subst this
    exact ⟨none, 0, 0, rfl, rfl, Lib.BytesIn.nil _ _ _⟩
  · refine ⟨_, _, _, rfl, rfl, Lib.BytesIn.of_cells (fun i hi => ?_)⟩
    have := h.cells (g := g) rfl i (.int .u8 xs[i]) (by simp [byteVs, hi])
    rw [this]
    simp [List.getD, hi]
theorem BytesRd.below {w w' : World} {v : Value} {xs : List Int} (h : BytesRd w v xs) (hb : Below w.heap.size w w') : BytesRd w' v xs := by
  obtain ⟨p, n, c, rfl, hn, hx⟩ := h
  refine ⟨p, n, c, rfl, hn, fun hp => ?_⟩
  obtain ⟨b, o, hp', hc⟩ := hx hp
  refine ⟨b, o, hp', fun i hi => ?_⟩
  have h1 := hc i hi
  rw [← h1]
  exact hb.cell (p := ⟨b, o + i, none⟩) (World.block_lt_of_cell? w ⟨b, o + i, none⟩ h1)

/-- How two rows of bytes compare. -/
def cmpB (xs ys : List Int) : Int := Lib.compareBytes (Lib.bytesOf xs) (Lib.bytesOf ys)
def cmpP (t : CT) (a b : ByteArray) : Int := cmpB (keyP t a) (keyP t b)

theorem run_bytesOf {w : World} {v : Value} {xs : List Int} (h : BytesRd w v xs) : (Extern.Bytes.bytesOf v).run Tryd.prog w = .ok ⟨(Lib.bytesOf xs).toArray⟩ w := by
  obtain ⟨p, n, c, rfl, rfl, hx⟩ := h
  cases xs with
  | nil =>
    cases p with
    | none => rfl
    | some a => simp [Extern.Bytes.bytesOf, Extern.Bytes.loadBytes, Lib.bytesOf]; rfl
  | cons x xs =>
    obtain ⟨b, o, rfl, hc⟩ := hx (by simp)
    have hl := Lib.run_loadBytesX (P := Tryd.prog) w (x :: xs) ⟨b, o, none⟩ .empty (fun j y hj => by
      have hjl : j < (x :: xs).length := (List.getElem?_eq_some_iff.1 hj).1
      have e : (⟨b, o, none⟩ : Addr).add j = ⟨b, o + j, none⟩ := by unfold Addr.add; split <;> simp_all
      rw [e, hc j hjl, List.getD_eq_getElem?_getD, hj]
      rfl)
    have he : (⟨ByteArray.empty.data ++ (Lib.bytesOf (x :: xs)).toArray⟩ : ByteArray) = ⟨(Lib.bytesOf (x :: xs)).toArray⟩ := by
      apply ByteArray.ext
      show (#[] : Array UInt8) ++ (Lib.bytesOf (x :: xs)).toArray = (Lib.bytesOf (x :: xs)).toArray
      simp
    rw [he] at hl
    simpa [Extern.Bytes.bytesOf] using hl

set_option maxRecDepth 100000 in
theorem Compare_bytes (w : World) (v1 v2 : Value) (xs ys : List Int) (h1 : BytesRd w v1 xs) (h2 : BytesRd w v2 ys) :
    Calls Tryd.prog 23 #[v1, v2] w fun e w' => e = .returned (.int .i64 (cmpB xs ys)) ∧ w = w' := by
  have hrun : (Extern.BytealgCompare.compare #[v1, v2]).run Tryd.prog w = .ok (.int .i64 (cmpB xs ys)) w := by
    change Sem.run Tryd.prog (do pure (goInt (Extern.BytealgCompare.cmp (← Extern.Bytes.bytesOf v1) (← Extern.Bytes.bytesOf v2)))) w = _
    simp only [Sem.run_bind, Sem.run_pure, Result.andThen, run_bytesOf h1, run_bytesOf h2]
    rw [Lib.cmp_eq]
    rfl
  go_enter Tryd.func23, Tryd.ntmps23
  go_wp2
  rw [run_callFunc_extern Tryd.func46 (by kernel_rfl) (by kernel_rfl) (by kernel_rfl) (e := Extern.BytealgCompare.compare) (by kernel_rfl), hrun]
  simp only [Result.andThen]
  rw [Oper.upon_value]
  go_wp2
  go_ret
  exact ⟨rfl, rfl⟩

set_option maxRecDepth 100000 in
theorem Compare_calls (W : World) (p : Option Addr) (t : CT) (h : KeyGives W p t) (a b : ByteArray) (ha : a.size ≤ 4294967296) (hb : b.size ≤ 4294967296) :
    Calls Tryd.prog 21 #[.pointer p, .string a, .string b] W fun e w' => e = .returned (.int .i64 (cmpP t a b)) ∧ Below W.heap.size W w' := by
  go_enter Tryd.func21, Tryd.ntmps21
  go_wp2_with fail
  refine (h W (Below.refl _ _) a ha).mono ?_
  rintro e w1 ⟨v1, rfl, ho1, hb1⟩
  have hr1 := Lib.hid (bytesRd_of ho1)
  clear ho1
  go_wp2_with fail
  refine (h w1 hb1 b hb).mono ?_
  rintro e w2 ⟨v2, rfl, ho2, hb2⟩
  have hr2 := Lib.hid (bytesRd_of ho2)
  clear ho2
  go_wp2_with fail
  refine (Compare_bytes w2 v1 v2 _ _ (hr1.out.below hb2) hr2.out).mono ?_
  rintro e w3 ⟨rfl, rfl⟩
  go_wp2_with fail
  go_ret
  exact ⟨rfl, hb1.trans (hb2.mono hb1.size)⟩

theorem Equal_bytes (w : World) (v1 v2 : Value) (xs ys : List Int) (h1 : BytesRd w v1 xs) (h2 : BytesRd w v2 ys) :
    Calls Tryd.prog 20 #[v1, v2] w fun e w' => e = .returned (.bool (Lib.bytesOf xs == Lib.bytesOf ys)) ∧ w = w' := by
  obtain ⟨p1, n1, c1, rfl, rfl, hx1⟩ := h1
  obtain ⟨p2, n2, c2, rfl, rfl, hx2⟩ := h2
  refine (Tryd.bytes_Equal_all p1 p2 _ c1 _ c2 xs ys w rfl rfl hx1 hx2).mono ?_
  rintro e w' ⟨rfl, rfl⟩
  exact ⟨rfl, rfl⟩
end Go.Proofs.YtibhifjehbajnaaDoor

namespace Go.Proofs.YtibhifjehbajnaaDoor
open Go.RowKit Go.Maps
set_option linter.unusedVariables false

def chapterB : ByteArray := ⟨#[105, 103, 110, 111, 114, 101, 32, 45, 10, 97, 32, 44, 32, 65, 32, 60, 32, 98, 32, 60, 32, 99, 32, 59, 32, 85, 43, 69, 55, 32, 44, 32, 67]⟩
def chapT : CT := (parseP chapterB).2.2
theorem chap_line : (parseP chapterB).1 = 0 := by decide +kernel
theorem chap_err : (parseP chapterB).2.1 = 0 := by decide +kernel
def wantK : List Int := [0, 0, 2, 0, 0, 1, 0, 0, 0, 0, 0, 1, 0, 0, 2, 0, 0, 0, 0, 0, 1, 0, 0, 1]
theorem chap_key : keyP chapT ⟨#[45, 98, 65]⟩ = wantK := by decide +kernel
theorem chap_c1 : cmpP chapT ⟨#[97, 98]⟩ ⟨#[65, 97]⟩ = 1 := by decide +kernel
theorem chap_c2 : cmpP chapT ⟨#[97]⟩ ⟨#[65]⟩ = -1 := by decide +kernel
theorem chap_c3 : cmpP chapT ⟨#[97, 45, 98]⟩ ⟨#[97, 98]⟩ = 0 := by decide +kernel
theorem chap_l0 : 0 ≤ chapT.last.1 := by decide +kernel
theorem chap_l1 : chapT.last.1 ≤ 1000000 := by decide +kernel
theorem chap_st : chapT.st ≤ 3 := by decide +kernel

set_option maxRecDepth 100000 in
set_option maxHeartbeats 2000000 in
theorem works_calls (W : World) (hL : LaidW W) : Calls Tryd.prog 15 #[] W fun e w' => e = .returned (.bool true) ∧ Below W.heap.size W w' := by
  go_enter Tryd.func15, Tryd.ntmps15
  go_wp2_with fail
  refine (Parse_calls chapterB W hL (by decide)).mono ?_
  rintro e w1 ⟨hb1, h | h⟩
  rotate_left
  · exact absurd chap_err h.1
  obtain ⟨-, b, m, rfl, hb, hm, hT⟩ := h
  have hRd : TabRd w1 b chapT w1.heap.size := TabAt.rd (t := chapT) hT hT.mapLt.2.1 hT.mapLt.1 (Nat.le_refl _)
  have hG := Lib.hid (gives_some hRd chap_l0 chap_l1 chap_st)
  clear hRd hT hb hm
  go_wp2_with fail
  generalize hW2 : w1.alloc _ = W2
  have hb2 : Below w1.heap.size w1 W2 := by rw [← hW2]; exact (Below.refl _ _).alloc (Nat.le_refl _) _
  have hwant : Hid (BytesRd W2 (.slice (some ⟨w1.heap.size, 0, none⟩) 24 24) wantK) := by
    refine ⟨_, _, _, rfl, rfl, Lib.BytesIn.of_cells (fun i hi => ?_)⟩
    have e : ((⟨w1.heap.size, 0, none⟩ : Addr).add i) = ⟨w1.heap.size, 0 + i, none⟩ := by unfold Addr.add; split <;> simp_all
    have hA : W2 = w1.alloc (.cells (wantK.map (Value.int .u8)).toArray 5) := hW2.symm
    rw [e, hA, World.cell?_alloc_at _ _ _ _ rfl, Nat.zero_add]
    have hi' : i < wantK.length := hi
    simp [List.getD, hi']
  clear hW2
  have hlt2 := hb2.size
  refine (hG.out _ hb2 ⟨#[45, 98, 65]⟩ (by decide)).mono ?_
  rintro e w3 ⟨v3, rfl, ho3, hb3⟩
  rw [chap_key] at ho3
  have hr3 := Lib.hid (bytesRd_of ho3)
  have hw3 := Lib.hid (hwant.out.below hb3)
  have hb13 : Below w1.heap.size w1 w3 := hb2.trans (hb3.mono hb2.size)
  clear ho3 hwant hb2 hb3
  go_wp2_with fail
  refine (Equal_bytes w3 _ _ _ _ hr3.out hw3.out).mono ?_
  rintro e w4 ⟨rfl, rfl⟩
  have he : (Lib.bytesOf wantK == Lib.bytesOf wantK) = true := by simp
  rw [he]
  go_wp2_with fail
  refine (Compare_calls w3 _ _ (hG.out.later hb13) ⟨#[97, 98]⟩ ⟨#[65, 97]⟩ (by decide) (by decide)).mono ?_
  rintro e w4 ⟨rfl, hb4⟩
  rw [chap_c1]
  go_wp2_with fail
  refine (Compare_calls w4 _ _ ((hG.out.later hb13).later hb4) ⟨#[97]⟩ ⟨#[65]⟩ (by decide) (by decide)).mono ?_
  rintro e w5 ⟨rfl, hb5⟩
  rw [chap_c2]
  go_wp2_with fail
  refine (Compare_calls w5 _ _ (((hG.out.later hb13).later hb4).later hb5) ⟨#[97, 45, 98]⟩ ⟨#[97, 98]⟩ (by decide) (by decide)).mono ?_
  rintro e w6 ⟨rfl, hb6⟩
  rw [chap_c3]
  go_wp2_with fail
  go_ret
  exact ⟨rfl, ((((hb1.trans (hb13.mono hb1.size)).trans (hb4.mono (by have := hb1.size; have := hb13.size; omega))).trans (hb5.mono (by have := hb1.size; have := hb13.size; have := hb4.size; omega))).trans (hb6.mono (by have := hb1.size; have := hb13.size; have := hb4.size; have := hb5.size; omega)))⟩
end Go.Proofs.YtibhifjehbajnaaDoor

namespace Go.Proofs.YtibhifjehbajnaaDoor
open Go.RowKit Go.Maps
set_option linter.unusedVariables false

theorem listPut_st {ws : List ByteArray} : ∀ {l : List Int} {i : Nat} {t t' : CT}, listPut ws i l t = some t' → t'.st = t.st
  | [], i, t, t', h => by simp [listPut] at h; subst h; rfl
  | c :: l, i, t, t', h => by
    simp only [listPut] at h
    split at h
    · cases h
    · exact (listPut_st h).trans rfl
def stOk (t : CT) : Prop := 0 ≤ t.st ∧ t.st ≤ 3
theorem levelP_st {t : CT} {ws : List ByteArray} (h : stOk t) : stOk (levelP t ws).1 := by
  unfold levelP
  split
  · split
    · exact h
    · rename_i n hn
      split
      · exact h
      · unfold strengthOf at hn
        split at hn
        · injection hn with hn; subst hn; exact (show (0:Int) ≤ 1 ∧ (1:Int) ≤ 3 by decide)
        · split at hn
          · injection hn with hn; subst hn; exact (show (0:Int) ≤ 2 ∧ (2:Int) ≤ 3 by decide)
          · split at hn
            · injection hn with hn; subst hn; exact (show (0:Int) ≤ 3 ∧ (3:Int) ≤ 3 by decide)
            · cases hn
  · exact h
theorem ignoreP_st {t : CT} {ws : List ByteArray} (h : stOk t) : stOk (ignoreP t ws).1 := by
  unfold ignoreP
  repeat' split
  all_goals exact h
theorem listP_st {t : CT} {ws : List ByteArray} (h : stOk t) : stOk (listP t ws).1 := by
  unfold listP
  repeat' split
  all_goals first | exact h | (rename_i hx; unfold stOk; rw [listPut_st hx]; exact h)
theorem addP_st {t : CT} {ws : List ByteArray} (h : stOk t) : stOk (addP t ws).1 := by
  unfold addP
  split
  · exact h
  · split
    · exact h
    · split
      · exact levelP_st h
      · split
        · exact ignoreP_st h
        · exact listP_st h
theorem parseL_inv : ∀ (ls : List ByteArray) (i : Nat) (t : CT), t.ok → t.M.length ≤ 4096 → stOk t → (parseL i t ls).2.1 = 0 → (parseL i t ls).2.2.ok ∧ (parseL i t ls).2.2.M.length ≤ 4096 ∧ stOk (parseL i t ls).2.2
  | [], i, t, h1, h2, h3, _ => ⟨h1, h2, h3⟩
  | l :: ls, i, t, h1, h2, h3, he => by
    rw [parseL] at he ⊢
    by_cases hc : (addP t (wordsOf l)).2 = 0
    · rw [if_pos hc] at he ⊢
      have := addP_ok hc h1 h2
      exact parseL_inv ls _ _ this.1 this.2 (addP_st h3) he
    · rw [if_neg hc] at he
      exact absurd he hc
theorem parseP_inv (s : ByteArray) (he : (parseP s).2.1 = 0) : (parseP s).2.2.ok ∧ (parseP s).2.2.M.length ≤ 4096 ∧ stOk (parseP s).2.2 := by
  unfold parseP at he ⊢
  split
  · rename_i h; rw [if_pos h] at he; cases he
  · rename_i h
    rw [if_neg h] at he
    split
    · rename_i h2; rw [if_pos h2] at he; cases he
    · rename_i h2
      rw [if_neg h2] at he
      have := parseL_inv (linesOf s) 0 t0 (by simp [CT.ok, t0]) (by simp [t0]) ⟨by decide, by decide⟩ he
      refine ⟨this.1, this.2.1, ?_⟩
      have h3 := this.2.2
      unfold stOk at h3 ⊢
      dsimp only
      split <;> omega

/-- The table that a description makes: that of a nil Table, if it is none. -/
def tabOf (s : ByteArray) : CT := if (parseP s).2.1 = 0 then (parseP s).2.2 else t0

def GivesPost (W : World) (s : ByteArray) (e : Ending) (w' : World) : Prop :=
  ∃ p, e = .returned (.tuple #[.pointer p, .int .i64 (parseP s).1, .int .i64 (parseP s).2.1]) ∧ (p = none ↔ (parseP s).2.1 ≠ 0) ∧ Below W.heap.size W w' ∧ KeyGives w' p (tabOf s)

theorem parseL_line : ∀ (ls : List ByteArray) (i : Nat) (t : CT), (parseL i t ls).2.1 = 0 → (parseL i t ls).1 = 0
  | [], i, t, _ => rfl
  | l :: ls, i, t, he => by
    rw [parseL] at he ⊢
    by_cases hc : (addP t (wordsOf l)).2 = 0
    · rw [if_pos hc] at he ⊢
      exact parseL_line ls _ _ he
    · rw [if_neg hc] at he
      exact absurd he hc
theorem parseP_line (s : ByteArray) (he : (parseP s).2.1 = 0) : (parseP s).1 = 0 := by
  unfold parseP at he ⊢
  split
  · rfl
  · rename_i h
    rw [if_neg h] at he
    split
    · rfl
    · rename_i h2
      rw [if_neg h2] at he
      exact parseL_line _ _ _ he

theorem Parse_gives (s : ByteArray) (W : World) (hL : LaidW W) (hs : s.size ≤ 140737488351232) : Calls Tryd.prog 16 #[.string s] W (GivesPost W s) := by
  refine (Parse_calls s W hL hs).mono ?_
  rintro e w1 ⟨hb1, h | h⟩
  · obtain ⟨he, b, m, rfl, hb, hm, hT⟩ := h
    have hi := parseP_inv s he
    have hRd : TabRd w1 b (parseP s).2.2 w1.heap.size := TabAt.rd hT hT.mapLt.2.1 hT.mapLt.1 (Nat.le_refl _)
    refine ⟨some ⟨b, 0, none⟩, by rw [he, parseP_line s he], by simp [he], hb1, ?_⟩
    unfold tabOf
    rw [if_pos he]
    exact gives_some hRd hi.1.1 (by have := hi.1.2.1; have := hi.2.1; omega) hi.2.2.2
  · obtain ⟨he, rfl⟩ := h
    refine ⟨none, rfl, by simp [he], hb1, ?_⟩
    unfold tabOf
    rw [if_neg he]
    exact gives_nil w1

def lightB (text : ByteArray) (ws : List ByteArray) : Bool := ws.all (fun s => decide (s.size ≤ 200)) && decide (text.size ≤ 2000)

end Go.Proofs.YtibhifjehbajnaaDoor

namespace Go.Proofs.YtibhifjehbajnaaDoor
open Go.RowKit Go.Maps
set_option linter.unusedVariables false

set_option maxHeartbeats 1000000 in
set_option maxRecDepth 100000 in
theorem light_calls (text : ByteArray) (ws : List ByteArray) (A : Nat) (W : World) (hw : StrsAt W A 0 ws) (hn : ws.length ≤ 1000) :
    Calls Tryd.prog 14 #[.string text, .slice (some ⟨A, 0, none⟩) ws.length ws.length] W fun e w' => e = .returned (.bool (lightB text ws)) ∧ W = w' := by
  go_enter Tryd.func14, Tryd.ntmps14
  go_wp2
  go_loop [9] (fun i => ∃ k : Nat, i = .int .i64 k ∧ k ≤ ws.length ∧ Hid (∀ j (h : j < ws.length), j < k → (ws[j]'h).size ≤ 200)) (fun i => ws.length - (intOf i).toNat)
  case atStart => exact ⟨0, rfl, Nat.zero_le _, fun j h hj => by omega⟩
  case round =>
    obtain ⟨k, rfl, hk, hh⟩ := hrel
    by_cases hlt : k < ws.length
    · have hc := hw.at_ k hlt
      rw [Nat.zero_add] at hc
      obtain ⟨x, hx⟩ : ∃ x, x = ws[k] := ⟨_, rfl⟩
      rw [← hx] at hc
      by_cases hz : x.size ≤ 200
      · have hh2 : Hid (∀ j (h : j < ws.length), j < k + 1 → (ws[j]'h).size ≤ 200) := fun j h hj => by
          rcases Nat.lt_or_ge j k with h1 | h1
          · exact hh.out j h h1
          · obtain rfl : j = k := by omega
            rw [← hx]; exact hz
        clear hx
        go_wp2
        refine ⟨⟨k + 1, by go_num, by omega, hh2⟩, by simp [intOf]; omega⟩
      · have hf : Hid (lightB text ws = false) := by
          show _ = _
          unfold lightB
          rw [Bool.and_eq_false_iff]
          left
          rw [List.all_eq_false]
          exact ⟨x, by rw [hx]; exact List.getElem_mem _, by simpa using hz⟩
        clear hx
        go_wp2
        go_ret
        exact ⟨ret_bool hf.out.symm, rfl⟩
    · have hf : Hid (lightB text ws = decide (text.size ≤ 2000)) := by
        show _ = _
        unfold lightB
        rw [List.all_eq_true.2 (fun x hx => ?_), Bool.true_and]
        obtain ⟨j, hj, rfl⟩ := List.getElem_of_mem hx
        simpa using hh.out j hj (by omega)
      go_wp2
      go_ret
      exact ⟨ret_bool (by rw [hf.out]; exact decide_eq_decide.2 (by omega)), rfl⟩
end Go.Proofs.YtibhifjehbajnaaDoor
