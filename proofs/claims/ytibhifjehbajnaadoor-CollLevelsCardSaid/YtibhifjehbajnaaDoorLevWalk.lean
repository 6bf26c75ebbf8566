/- CollLevels: the walk of the statement. -/
import Derived.Test.YtibhifjehbajnaaDoorLevels
import Derived.Test.YtibhifjehbajnaaDoorOrder
import Derived.Test.YtibhifjehbajnaaDoorShelf2
import Derived.Deep.RegionHeld3
import Derived.Deep.DeepCutAuto
namespace Go.Proofs.YtibhifjehbajnaaDoor
open Go.RowKit Go.Maps
set_option linter.unusedVariables false

/-- What the statement knows of the three tables and the description's own. -/
structure LevFacts (text a b : ByteArray) (T0 T1 T2 : CT) (x y z : Int) : Prop where
  x_ : cmpP T0 a b = x
  y_ : cmpP T1 a b = y
  z_ : cmpP T2 a b = z
  own : cmpP (tabOf text) a b = z
  err : (parseP text).2.1 = 0
  xy : x = 0 ∨ x = y
  yz : y = 0 ∨ y = z
  rng : (x = -1 ∨ x = 0 ∨ x = 1) ∧ (y = -1 ∨ y = 0 ∨ y = 1) ∧ (z = -1 ∨ z = 0 ∨ z = 1)
  p01 : ∃ r, keyP T1 a = keyP T0 a ++ r
  p12 : ∃ r, keyP T2 a = keyP T1 a ++ r

theorem HasPrefix_bytes (w : World) (v1 v2 : Value) (xs ys : List Int) (h1 : BytesRd w v1 xs) (h2 : BytesRd w v2 ys) (hc : ∀ p n c, v1 = .slice p n c → n ≤ c) :
    Calls Tryd.prog 26 #[v1, v2] w fun e w' => e = .returned (.bool (Lib.hasPrefix (Lib.bytesOf xs) (Lib.bytesOf ys))) ∧ w = w' := by
  obtain ⟨p1, n1, c1, rfl, rfl, hx1⟩ := h1
  obtain ⟨p2, n2, c2, rfl, rfl, hx2⟩ := h2
  refine (Tryd.bytes_HasPrefix_all p1 p2 _ c1 _ c2 xs ys w rfl rfl (hc _ _ _ rfl) hx1 hx2).mono ?_
  rintro e w' ⟨rfl, rfl⟩
  exact ⟨rfl, rfl⟩
theorem hasPrefix_app : ∀ (p r : List UInt8), Lib.hasPrefix (p ++ r) p = true
  | [], r => by simp [Lib.hasPrefix]
  | a :: p, r => by
    have := hasPrefix_app p r
    simp [Lib.hasPrefix] at this ⊢
/-- A key that a call has made: its bytes, its capacity. -/
structure KeyAt (w : World) (v : Value) (xs : List Int) : Prop where
  rd : BytesRd w v xs
  cap : ∀ p n c, v = .slice p n c → n ≤ c
theorem keyAt_of {w : World} {base : Nat} {v : Value} {xs : List Int} (h : w.ownsRow base 5 1 v xs.length (byteVs xs)) : KeyAt w v xs := by
  refine ⟨bytesRd_of h, fun p n c e => ?_⟩
  rcases h.2 with ⟨rfl, hn⟩ | ⟨g, cap, cur, rfl, hg⟩
  · cases e; omega
  · cases e
    exact hg.2.2.1
theorem KeyAt.below {w w' : World} {v : Value} {xs : List Int} (h : KeyAt w v xs) (hb : Below w.heap.size w w') : KeyAt w' v xs := ⟨h.rd.below hb, h.cap⟩
theorem held_out {W4 w : World} {B : Nat} {p0 p1 p2 : Option Addr} (h : w.cell? ⟨B, 0, none⟩ = some (.pointer p0) ∧ w.cell? ⟨B, 1, none⟩ = some (.pointer p1) ∧ w.cell? ⟨B, 2, none⟩ = some (.pointer p2) ∧ Hid (Below W4.heap.size W4 w)) : Below W4.heap.size W4 w := h.2.2.2
structure HeldL (W4 : World) (B : Nat) (p0 p1 p2 : Option Addr) (w' : World) : Prop where
  below : Below W4.heap.size W4 w'
  c0 : w'.cell? ⟨B, 0, none⟩ = some (.pointer p0)
  c1 : w'.cell? ⟨B, 1, none⟩ = some (.pointer p1)
  c2 : w'.cell? ⟨B, 2, none⟩ = some (.pointer p2)
theorem held_later {W4 : World} {B : Nat} {p0 p1 p2 : Option Addr} {w w' : World} (hB : Hid (B < W4.heap.size)) (h : w.cell? ⟨B, 0, none⟩ = some (.pointer p0) ∧ w.cell? ⟨B, 1, none⟩ = some (.pointer p1) ∧ w.cell? ⟨B, 2, none⟩ = some (.pointer p2) ∧ Hid (Below W4.heap.size W4 w)) (hb : Below w.heap.size w w') :
    w'.cell? ⟨B, 0, none⟩ = some (.pointer p0) ∧ w'.cell? ⟨B, 1, none⟩ = some (.pointer p1) ∧ w'.cell? ⟨B, 2, none⟩ = some (.pointer p2) ∧ Hid (Below W4.heap.size W4 w') := by
  obtain ⟨c0, c1, c2, h⟩ := h
  have hz := h.out.size
  have hB' := hB.out
  refine ⟨(hb.cell (p := ⟨B, 0, none⟩) (by show B < _; omega)).trans c0, (hb.cell (p := ⟨B, 1, none⟩) (by show B < _; omega)).trans c1, (hb.cell (p := ⟨B, 2, none⟩) (by show B < _; omega)).trans c2, ?_⟩
  exact h.out.trans (hb.mono hz)

set_option maxHeartbeats 8000000 in
set_option maxRecDepth 100000 in
theorem levels_law (text a b : ByteArray) (W : World) (T0 T1 T2 : CT) (hL : LaidW W) (hl : lightB text [a, b] = true)
    (hLev : Hid (∀ W', LaidW W' → Calls Tryd.prog 25 #[.string text] W' (LevPost W' text T0 T1 T2)))
    (hF : Hid (errB text 0 = true → errB text 1 = true → errB text 2 = true → ∃ x y z, LevFacts text a b T0 T1 T2 x y z)) :
    Calls Tryd.prog 10 #[.string text, .string a, .string b] W fun e w' => e = .returned (.bool true) ∧ Below W.heap.size W w' := by
  have hlc : Calls Tryd.prog 14 #[.string text, .slice (some ⟨W.heap.size, 0, none⟩) 2 2] (W.alloc (.cells #[.string a, .string b] 9)) fun e w' => e = .returned (.bool true) ∧ (W.alloc (.cells #[.string a, .string b] 9)) = w' := by
    have := light_calls text [a, b] W.heap.size _ (strs_of W [a, b]) (by simp)
    rw [hl] at this
    exact this
  have hz : (a.size ≤ 200 ∧ b.size ≤ 200) ∧ text.size ≤ 2000 := by simpa [lightB] using hl
  obtain ⟨⟨ha, hb⟩, ht⟩ := hz
  clear hl
  have hb1 : Below W.heap.size W (W.alloc (.cells #[.string a, .string b] 9)) := (Below.refl _ _).alloc (Nat.le_refl _) _
  have hL1 := hL.below hb1 hL.size
  go_enter Tryd.func10, Tryd.ntmps10
  go_wp2_with (go_at_call 14; refine hlc.mono ?_; rintro e w1 ⟨rfl, rfl⟩)
  obtain ⟨W1, hW1⟩ : ∃ W1, W1 = W.alloc (.cells #[.string a, .string b] 9) := ⟨_, rfl⟩
  rw [← hW1] at hb1 hL1 ⊢
  clear hW1 hlc
  have hL1h := Lib.hid hL1
  refine (hLev.out W1 hL1).mono ?_
  rintro e w2 ⟨hb2, ⟨p0, p1, p2, rfl, e0, e1, e2, g0, g1, g2⟩ | ⟨p0, p1, p2, rfl⟩⟩
  · obtain ⟨x, y, z, hX⟩ := hF.out e0 e1 e2
    clear e0 e1 e2
    have hX := Lib.hid hX
    have g0 := Lib.hid g0
    have g1 := Lib.hid g1
    have g2 := Lib.hid g2
    have hL2 := Lib.hid (hL1h.out.below hb2 hL1h.out.size)
    have hb02 := Lib.hid (hb1.trans (hb2.mono hb1.size))
    clear hb1 hb2 hL1 hL1h
    obtain ⟨W4, hW4⟩ : ∃ W4, W4 = w2.alloc (.cells #[.pointer p0, .pointer p1, .pointer p2] 50) := ⟨_, rfl⟩
    have hb4 : Below w2.heap.size w2 W4 := by rw [hW4]; exact (Below.refl _ _).alloc (Nat.le_refl _) _
    obtain ⟨B, hB⟩ : ∃ B, B = w2.heap.size := ⟨_, rfl⟩
    have hblk : W4.heap[B]? = some (.cells #[.pointer p0, .pointer p1, .pointer p2] 50 (0, 0)) := by rw [hW4, hB]; exact (MapKept.heap_alloc _ _).1
    have hBl : B < W4.heap.size := (Array.getElem?_eq_some_iff.1 hblk).1
    have c0 : W4.cell? ⟨B, 0, none⟩ = some (.pointer p0) := by rw [Lib.cell_of_heap hblk]; rfl
    have c1 : W4.cell? ⟨B, 1, none⟩ = some (.pointer p1) := by rw [Lib.cell_of_heap hblk]; rfl
    have c2 : W4.cell? ⟨B, 2, none⟩ = some (.pointer p2) := by rw [Lib.cell_of_heap hblk]; rfl
    have g0 := Lib.hid (g0.out.later hb4)
    have g1 := Lib.hid (g1.out.later hb4)
    have g2 := Lib.hid (g2.out.later hb4)
    have hL4 := Lib.hid (hL2.out.below hb4 hL2.out.size)
    have hb04 := Lib.hid (hb02.out.trans (hb4.mono hb02.out.size))
    go_wp2_with fail
    rw [← hW4, ← hB]
    clear hW4 hB hb4 hb02 hL2 hblk
    have hBl := Lib.hid hBl
    have hS : HeldL W4 B p0 p1 p2 W4.drew := ⟨(Below.refl _ _).drew, c0, c1, c2⟩
    have hS := Lib.hid hS
    clear c0 c1 c2
    go_region_held3 (fun w' => w'.cell? ⟨B, 0, none⟩ = some (.pointer p0) ∧ w'.cell? ⟨B, 1, none⟩ = some (.pointer p1) ∧ w'.cell? ⟨B, 2, none⟩ = some (.pointer p2) ∧ Hid (Below W4.heap.size W4 w'))
      (first | exact ⟨hS.out.c0, hS.out.c1, hS.out.c2, hS.out.below⟩ | exact held_later hBl (by assumption) (by assumption))
      (first
        | (go_at_call_of 21 (Value.pointer p0); refine (Compare_calls _ p0 T0 (by exact g0.out.later (held_out (by assumption))) a b (by omega) (by omega)).mono ?_; rintro e w' ⟨rfl, hbb⟩)
        | (go_at_call_of 21 (Value.pointer p1); refine (Compare_calls _ p1 T1 (by exact g1.out.later (held_out (by assumption))) a b (by omega) (by omega)).mono ?_; rintro e w' ⟨rfl, hbb⟩)
        | (go_at_call_of 21 (Value.pointer p2); refine (Compare_calls _ p2 T2 (by exact g2.out.later (held_out (by assumption))) a b (by omega) (by omega)).mono ?_; rintro e w' ⟨rfl, hbb⟩))
    rename_i hH6
    obtain ⟨c0, c1, c2, hb46⟩ := hH6
    clear hbb hS
    have hL6 := Lib.hid (hL4.out.below hb46.out hL4.out.size)
    have hb06 := Lib.hid (hb04.out.trans (hb46.out.mono hb04.out.size))
    have hB6 : Hid (B < w'.heap.size) := Nat.lt_of_lt_of_le hBl.out hb46.out.size
    have g0 := Lib.hid (g0.out.later hb46.out)
    have g1 := Lib.hid (g1.out.later hb46.out)
    have g2 := Lib.hid (g2.out.later hb46.out)
    obtain ⟨w6, hw6⟩ : ∃ w6, w6 = w' := ⟨_, rfl⟩
    rw [hX.out.x_, hX.out.y_, hX.out.z_, ← hw6]
    rw [← hw6] at c0 c1 c2 hL6 hb06 hB6 g0 g1 g2
    clear hw6 hb46 hb04 hL4 hBl
    have c0 := Lib.hid c0
    have c1 := Lib.hid c1
    have c2 := Lib.hid c2
    go_wp2_with fail
    refine (Parse_gives text w6 hL6.out (by omega)).mono ?_
    rintro e w7 ⟨p, rfl, hp, hb7, hG⟩
    have hG := Lib.hid hG
    have hL7 := Lib.hid (hL6.out.below hb7 hL6.out.size)
    have hb07 := Lib.hid (hb06.out.trans (hb7.mono hb06.out.size))
    have hB7 : Hid (B < w7.heap.size) := Nat.lt_of_lt_of_le hB6.out hb7.size
    have c0 := Lib.hid ((hb7.cell (p := ⟨B, 0, none⟩) (by show B < _; exact hB6.out)).trans c0.out)
    have c1 := Lib.hid ((hb7.cell (p := ⟨B, 1, none⟩) (by show B < _; exact hB6.out)).trans c1.out)
    have c2 := Lib.hid ((hb7.cell (p := ⟨B, 2, none⟩) (by show B < _; exact hB6.out)).trans c2.out)
    have g0 := Lib.hid (g0.out.later hb7)
    have g1 := Lib.hid (g1.out.later hb7)
    have g2 := Lib.hid (g2.out.later hb7)
    rw [hX.out.err]
    clear hp hb7 hb06 hL6 hB6
    go_wp2_with fail
    refine (Compare_calls w7 p _ hG.out a b (by omega) (by omega)).mono ?_
    rintro e w8 ⟨rfl, hb8⟩
    rw [hX.out.own]
    have hL8 := Lib.hid (hL7.out.below hb8 hL7.out.size)
    have hb08 := Lib.hid (hb07.out.trans (hb8.mono hb07.out.size))
    have hB8 : Hid (B < w8.heap.size) := Nat.lt_of_lt_of_le hB7.out hb8.size
    have c0 := Lib.hid ((hb8.cell (p := ⟨B, 0, none⟩) (by show B < _; exact hB7.out)).trans c0.out)
    have c1 := Lib.hid ((hb8.cell (p := ⟨B, 1, none⟩) (by show B < _; exact hB7.out)).trans c1.out)
    have c2 := Lib.hid ((hb8.cell (p := ⟨B, 2, none⟩) (by show B < _; exact hB7.out)).trans c2.out)
    have g0 := Lib.hid (g0.out.later hb8)
    have g1 := Lib.hid (g1.out.later hb8)
    have g2 := Lib.hid (g2.out.later hb8)
    have hS : HeldL w8 B p0 p1 p2 w8.drew := ⟨(Below.refl _ _).drew, c0.out, c1.out, c2.out⟩
    have hS := Lib.hid hS
    clear hb8 hb07 hL7 hB7 hG c0 c1 c2
    rcases (show (x = y ∧ y = z ∧ (z != 0) = true) ∨ (x = 0 ∧ y = z ∧ (z != 0) = true) ∨ (x = 0 ∧ y = 0) by
      rcases hX.out.xy with h | h <;> rcases hX.out.yz with k | k <;> by_cases h0 : z = 0 <;> simp_all) with ⟨rfl, rfl, hne⟩ | ⟨rfl, rfl, hne⟩ | ⟨rfl, rfl⟩
    all_goals
      go_wp2_with fail
      obtain ⟨r01, q01⟩ := hX.out.p01
      obtain ⟨r12, q12⟩ := hX.out.p12
      have q01 := Lib.hid q01
      have q12 := Lib.hid q12
      go_region_held3 (fun w' => w'.cell? ⟨B, 0, none⟩ = some (.pointer p0) ∧ w'.cell? ⟨B, 1, none⟩ = some (.pointer p1) ∧ w'.cell? ⟨B, 2, none⟩ = some (.pointer p2) ∧ Hid (Below w8.heap.size w8 w'))
        (first | exact ⟨hS.out.c0, hS.out.c1, hS.out.c2, hS.out.below⟩ | exact held_later hB8 (by assumption) (by assumption) | assumption)
        (first
          | (go_at_call_of 18 (Value.pointer p1); refine (g1.out _ (by exact held_out (by assumption)) a (by omega)).mono ?_; rintro e w' ⟨k1, rfl, ho, hbb⟩; have hk1 := Lib.hid (keyAt_of ho); clear ho; try have hk2 := Lib.hid (hk2.out.below hbb))
          | (go_at_call_of 18 (Value.pointer p0); refine (g0.out _ (by exact held_out (by assumption)) a (by omega)).mono ?_; rintro e w' ⟨k0, rfl, ho, hbb⟩; have hk0 := Lib.hid (keyAt_of ho); clear ho; have hk1 := Lib.hid (hk1.out.below hbb))
          | (go_at_call_of 18 (Value.pointer p2); refine (g2.out _ (by exact held_out (by assumption)) a (by omega)).mono ?_; rintro e w' ⟨k2, rfl, ho, hbb⟩; have hk2 := Lib.hid (keyAt_of ho); clear ho)
          | (go_at_call_of 26 k2; refine (HasPrefix_bytes _ k2 k1 _ _ hk2.out.rd hk1.out.rd hk2.out.cap).mono ?_; rintro e w' ⟨rfl, rfl⟩; rw [q12.out, bytes_app', hasPrefix_app])
          | (go_at_call_of 26 k1; refine (HasPrefix_bytes _ k1 k0 _ _ hk1.out.rd hk0.out.rd hk1.out.cap).mono ?_; rintro e w' ⟨rfl, rfl⟩; rw [q01.out, bytes_app', hasPrefix_app])
          | (go_at_call 15; refine (works_calls _ (by exact hL8.out.below (held_out (by assumption)) hL8.out.size)).mono ?_; rintro e w' ⟨rfl, hbb⟩))
      go_wp2_with fail
      go_ret
      rename_i hH
      exact ⟨rfl, hb08.out.trans (hH.2.2.2.out.mono hb08.out.size)⟩
  · have hb12 := hb1.trans (hb2.mono hb1.size)
    have hbA : Below W.heap.size W (w2.alloc (.cells #[.pointer p0, .pointer p1, .pointer p2] 50)) := hb12.alloc hb12.size _
    have hLA := Lib.hid (hL.below hbA hL.size)
    go_wp2_with fail
    refine (works_calls _ hLA.out).mono ?_
    rintro e w3 ⟨rfl, hb3⟩
    go_wp2_with fail
    go_ret
    exact ⟨rfl, hbA.trans (hb3.mono hbA.size)⟩
theorem cb_nil (l : List UInt8) : Lib.compareBytes [] l = if l = [] then 0 else -1 := by cases l <;> rfl
theorem cb_nil' (l : List UInt8) : Lib.compareBytes l [] = if l = [] then 0 else 1 := by cases l <;> rfl
theorem key_pre1 (t : CT) (cs : List Int) : ∃ r, keyK t cs 2 = keyK t cs 1 ++ r := ⟨[0, 0, 0] ++ levelOf t 1 cs, by simp [keyK]⟩
theorem key_pre2 (t : CT) (cs : List Int) : ∃ r, keyK t cs 3 = keyK t cs 2 ++ r := ⟨[0, 0, 0] ++ levelOf t 2 cs, by simp [keyK]⟩
theorem key_st (t : CT) (n : Int) (cs : List Int) (k : Nat) : keyK { t with st := n } cs k = keyK t cs k := rfl
theorem keyP1 (t : CT) (s : ByteArray) : keyP { t with st := 1 } s = if isText s then keyK t (runesOf s) 1 else [] := by
  unfold keyP; rw [key_st]; rfl
theorem keyP2 (t : CT) (s : ByteArray) : keyP { t with st := 2 } s = if isText s then keyK t (runesOf s) 2 else [] := by
  unfold keyP; rw [key_st]; rfl
theorem keyP3 (t : CT) (s : ByteArray) : keyP { t with st := 3 } s = if isText s then keyK t (runesOf s) 3 else [] := by
  unfold keyP; rw [key_st]; rfl
theorem nil_left (u v : List Int) (h : ∃ r, v = u ++ r) : Lib.compareBytes [] (Lib.bytesOf u) = 0 ∨ Lib.compareBytes [] (Lib.bytesOf u) = Lib.compareBytes [] (Lib.bytesOf v) := by
  obtain ⟨r, rfl⟩ := h
  cases u with
  | nil => exact .inl rfl
  | cons a u => exact .inr rfl
theorem nil_right (u v : List Int) (h : ∃ r, v = u ++ r) : Lib.compareBytes (Lib.bytesOf u) [] = 0 ∨ Lib.compareBytes (Lib.bytesOf u) [] = Lib.compareBytes (Lib.bytesOf v) [] := by
  obtain ⟨r, rfl⟩ := h
  cases u with
  | nil => exact .inl rfl
  | cons a u => exact .inr rfl
theorem lev_cmp {t : CT} (h : Fine t) (a b : ByteArray) :
    (cmpP { t with st := 1 } a b = 0 ∨ cmpP { t with st := 1 } a b = cmpP { t with st := 2 } a b) ∧ (cmpP { t with st := 2 } a b = 0 ∨ cmpP { t with st := 2 } a b = cmpP { t with st := 3 } a b) := by
  unfold cmpP cmpB
  rw [keyP1, keyP1, keyP2, keyP2, keyP3, keyP3]
  cases hta : isText a with
  | true =>
    cases htb : isText b with
    | true =>
      have := key_levels h (runesOf a) (runesOf b) (runesFrom_max a _ _) (runesFrom_max b _ _)
      unfold cmpB at this
      simp only [if_true]
      constructor
      · by_cases h0 : Lib.compareBytes (Lib.bytesOf (keyK t (runesOf a) 1)) (Lib.bytesOf (keyK t (runesOf b) 1)) = 0
        · exact .inl h0
        · exact .inr (this.1 h0).symm
      · by_cases h0 : Lib.compareBytes (Lib.bytesOf (keyK t (runesOf a) 2)) (Lib.bytesOf (keyK t (runesOf b) 2)) = 0
        · exact .inl h0
        · exact .inr (this.2 h0).symm
    | false =>
      simp only [if_true, if_neg Bool.false_ne_true]
      exact ⟨nil_right _ _ (key_pre1 t _), nil_right _ _ (key_pre2 t _)⟩
  | false =>
    cases htb : isText b with
    | true =>
      simp only [if_true, if_neg Bool.false_ne_true]
      exact ⟨nil_left _ _ (key_pre1 t _), nil_left _ _ (key_pre2 t _)⟩
    | false => exact ⟨.inl rfl, .inl rfl⟩
theorem lev_facts (text a b : ByteArray) (hs : text.size ≤ 2000) (e0 : errB text 0 = true) (e1 : errB text 1 = true) (e2 : errB text 2 = true) :
    ∃ x y z, LevFacts text a b (tabOf (ext text (dig 0))) (tabOf (ext text (dig 1))) (tabOf (ext text (dig 2))) x y z := by
  have h0 := ext_parse text 49 1 hs (by decide) add_s1 (by decide) (beq_iff_eq.1 e0)
  have h1 := ext_parse text 50 2 hs (by decide) add_s2 (by decide) (beq_iff_eq.1 e1)
  have h2 := ext_parse text 51 3 hs (by decide) add_s3 (by decide) (beq_iff_eq.1 e2)
  have t0 : tabOf (ext text (dig 0)) = { tabOf text with st := 1 } := h0.2.1
  have t1 : tabOf (ext text (dig 1)) = { tabOf text with st := 2 } := h1.2.1
  have t2 : tabOf (ext text (dig 2)) = { tabOf text with st := 3 } := h2.2.1
  have t3 : tabOf text = { tabOf text with st := 3 } := by
    have := h0.2.2
    generalize tabOf text = t at this
    cases t
    simp only at this
    rw [this]
  have hF := fine_tabOf text
  have hc := lev_cmp hF a b
  rw [t0, t1, t2]
  refine ⟨_, _, _, rfl, rfl, rfl, by rw [← t3], h0.1, hc.1, hc.2, ⟨cb_range _ _, cb_range _ _, cb_range _ _⟩, ?_, ?_⟩
  · rw [keyP1, keyP2]
    split
    · exact key_pre1 _ _
    · exact ⟨[], rfl⟩
  · rw [keyP2, keyP3]
    split
    · exact key_pre2 _ _
    · exact ⟨[], rfl⟩
theorem levels_all (text a b : ByteArray) (W : World) (hL : LaidW W) (h0 : text.size ≤ maxLen) (h1 : a.size ≤ maxLen) (h2 : b.size ≤ maxLen) :
    Calls Tryd.prog 10 #[.string text, .string a, .string b] W fun e w' => e = .returned (.bool true) ∧ Below W.heap.size W w' := by
  cases hl : lightB text [a, b] with
  | true =>
    have hs : text.size ≤ 2000 := by
      have : (a.size ≤ 200 ∧ b.size ≤ 200) ∧ text.size ≤ 2000 := by simpa [lightB] using hl
      exact this.2
    exact levels_law text a b W _ _ _ hL hl (fun W' hL' => levels_calls text W' hL' hs) (fun e0 e1 e2 => lev_facts text a b hs e0 e1 e2)
  | false =>
    have hlc : Calls Tryd.prog 14 #[.string text, .slice (some ⟨W.heap.size, 0, none⟩) 2 2] (W.alloc (.cells #[.string a, .string b] 9)) fun e w' => e = .returned (.bool false) ∧ (W.alloc (.cells #[.string a, .string b] 9)) = w' := by
      have := light_calls text [a, b] W.heap.size _ (strs_of W [a, b]) (by simp)
      rw [hl] at this
      exact this
    have hb1 : Below W.heap.size W (W.alloc (.cells #[.string a, .string b] 9)) := (Below.refl _ _).alloc (Nat.le_refl _) _
    have hL1 := hL.below hb1 hL.size
    go_enter Tryd.func10, Tryd.ntmps10
    go_wp2_with (first | (go_at_call 14; refine hlc.mono ?_; rintro e w1 ⟨rfl, rfl⟩) | (go_at_call 15; refine (works_calls _ hL1).mono ?_; rintro e w2 ⟨rfl, hb2⟩))
    go_ret
    exact ⟨rfl, hb1.trans (hb2.mono hb1.size)⟩
end Go.Proofs.YtibhifjehbajnaaDoor
