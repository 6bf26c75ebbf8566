/- Words that write characters: the function char of package coll, walked; what the walks of collations ask of memory. -/
import Derived.Test.YtibhifjehbajnaaDoorCollPure
import Derived.Test.YtibhifjehbajnaaDoorBuilder
import Derived.Test.YtibhifjehbajnaaDoorHex
namespace Go.Proofs.YtibhifjehbajnaaDoor
open Go.RowKit Go.Maps
set_option linter.unusedVariables false

/-- w' is w but for blocks b and m, and new ones. -/
structure Only (w w' : World) (b m : Nat) : Prop where
  os : w'.os = w.os
  tape : w'.tape = w.tape
  output : w'.output = w.output
  size : w.heap.size ≤ w'.heap.size
  block : ∀ k, k < w.heap.size → k ≠ b → k ≠ m → w'.heap[k]? = w.heap[k]?
theorem Only.refl (w : World) (b m : Nat) : Only w w b m := ⟨rfl, rfl, rfl, Nat.le_refl _, fun _ _ _ _ => rfl⟩
theorem Only.trans {w w1 w2 : World} {b m : Nat} (h : Only w w1 b m) (k : Only w1 w2 b m) : Only w w2 b m :=
  ⟨k.os.trans h.os, k.tape.trans h.tape, k.output.trans h.output, Nat.le_trans h.size k.size, fun i hi h1 h2 => (k.block i (Nat.lt_of_lt_of_le hi h.size) h1 h2).trans (h.block i hi h1 h2)⟩
theorem Only.of_below {w w' : World} (b m : Nat) (h : Below w.heap.size w w') : Only w w' b m := ⟨h.os, h.tape, h.output, h.size, fun k hk _ _ => h.block k hk⟩
theorem Only.of_grown {w w' : World} {b m : Nat} (h : w.grownBy w' (some m)) : Only w w' b m := ⟨h.os, h.tape, h.output, h.size, fun k hk _ h2 => h.block k hk (by simpa using h2)⟩
theorem Only.drewN {w w' : World} {b m : Nat} (h : Only w w' b m) (n : Nat) : Only w (w'.drewN n) b m := ⟨h.os, h.tape, h.output, h.size, h.block⟩
theorem Only.alloc {w w' : World} {b m : Nat} (h : Only w w' b m) (o : Obj) : Only w (w'.alloc o) b m := h.trans (Only.of_below b m ((Below.refl _ _).alloc (Nat.le_refl _) o))
theorem Only.below {w w' : World} {b m B : Nat} (h : Only w w' b m) (hb : B ≤ b) (hm : B ≤ m) (hB : B ≤ w.heap.size) : Below B w w' :=
  ⟨h.os, h.tape, h.output, h.size, fun k hk => h.block k (by omega) (by omega) (by omega)⟩

/-- What the library's tables and variables hold, as far as the walks ask. -/
structure LaidW (w : World) : Prop where
  size : 8 ≤ w.heap.size
  maxlen : ∃ n, w.cell? ⟨0, 0, none⟩ = some (.int .i64 n)
  syn : ∃ ev, w.cell? ⟨3, 0, none⟩ = some ev ∧ (ev = .nilIface ∨ ∃ te pe, ev = .iface te pe)
theorem LaidW.below {w w' : World} (h : LaidW w) {B : Nat} (hb : Below B w w') (hB : 8 ≤ B) : LaidW w' := by
  obtain ⟨h1, h2, h3⟩ := h
  have e1 : w'.cell? ⟨0, 0, none⟩ = w.cell? ⟨0, 0, none⟩ := hb.cell (p := ⟨0, 0, none⟩) (show (0:Nat) < B by omega)
  have e2 : w'.cell? ⟨3, 0, none⟩ = w.cell? ⟨3, 0, none⟩ := hb.cell (p := ⟨3, 0, none⟩) (show (3:Nat) < B by omega)
  exact ⟨Nat.le_trans h1 hb.size, by rw [e1]; exact h2, by rw [e2]; exact h3⟩

/-- Strings from place o of block A on. -/
structure StrsAt (w : World) (A o : Nat) (ws : List ByteArray) : Prop where
  lt : A < w.heap.size
  at_ : ∀ (j : Nat) (h : j < ws.length), w.cell? ⟨A, o + j, none⟩ = some (.string (ws[j]'h))
theorem StrsAt.only {w w' : World} {A o b m : Nat} {ws : List ByteArray} (h : StrsAt w A o ws) (k : Only w w' b m) (h1 : A ≠ b) (h2 : A ≠ m) : StrsAt w' A o ws := by
  have e := k.block A h.lt h1 h2
  refine ⟨Nat.lt_of_lt_of_le h.lt k.size, fun j hj => ?_⟩
  rw [← h.at_ j hj]
  simp only [World.cell?, e]
theorem StrsAt.below {w w' : World} {A o : Nat} {ws : List ByteArray} (h : StrsAt w A o ws) (k : Below w.heap.size w w') : StrsAt w' A o ws := by
  have e := k.block A h.lt
  refine ⟨Nat.lt_of_lt_of_le h.lt k.size, fun j hj => ?_⟩
  rw [← h.at_ j hj]
  simp only [World.cell?, e]

theorem sign_calls (w : ByteArray) (W : World) : Calls Tryd.prog 87 #[.string w] W fun e w' => e = .returned (.bool (signB w)) ∧ W = w' := by
  go_enter Tryd.func87, Tryd.ntmps87
  go_wp2_with fail
  all_goals go_ret
  all_goals exact ⟨ret_bool (by simp_all [signB]), rfl⟩

theorem decode_max (s : ByteArray) (pos : Nat) : (Utf8.decode s pos).1 ≤ 1114111 := by
  have hb : ∀ k, (s.get! (pos + k)).toNat < 256 := fun k => (s.get! (pos + k)).toNat_lt
  have h0 := hb 0; have h1 := hb 1; have h2 := hb 2; have h3 := hb 3
  simp only [Utf8.decode]
  repeat' split
  all_goals simp_all [Utf8.runeError, Utf8.valid]
  all_goals omega

theorem bytes_below (w : World) (t : ByteArray) : Below w.heap.size w (Lib.bytesWorld w 5 t) :=
  ⟨rfl, rfl, rfl, by rw [Lib.bytesWorld_size]; omega, fun k hk => Lib.bytesWorld_at_old w 5 t k hk⟩

set_option maxHeartbeats 4000000 in
set_option maxRecDepth 100000 in
theorem PU_some (t : ByteArray) (h1 : t.size ≠ 0) (h6 : t.size ≤ 6) (W : World) (n : Nat) (h : hexFrom 0 t.data.toList = some n) :
    Calls Tryd.prog 99 #[.string t, .int .i64 16, .int .i64 32] W fun e w' => e = .returned (.tuple #[.int .u64 n, .nilIface]) ∧ Below W.heap.size W w' := by
  go_enter Tryd.func99, Tryd.ntmps99
  go_wp2_with (go_at_call 105; refine (hex_calls t h1 h6 _).mono ?_; rintro e w1 ⟨rfl, rfl⟩; rw [h]; simp only [hexV])
  go_ret2
  exact ⟨rfl, bytes_below W t⟩

set_option maxHeartbeats 4000000 in
set_option maxRecDepth 100000 in
theorem PU_none (t : ByteArray) (h1 : t.size ≠ 0) (h6 : t.size ≤ 6) (W : World) (hL : LaidW W) (h : hexFrom 0 t.data.toList = none) :
    Calls Tryd.prog 99 #[.string t, .int .i64 16, .int .i64 32] W fun e w' => (∃ N, e = .returned (.tuple #[.int .u64 0, .iface 143 (.pointer (some ⟨N, 0, none⟩))])) ∧ Below W.heap.size W w' := by
  have hLB := hL.below (bytes_below W t) hL.size
  obtain ⟨ev, hev1, hev2⟩ := hLB.syn
  have hbb := bytes_below W t
  have hx := hex_calls t h1 h6 W
  obtain ⟨WB, hWB⟩ : ∃ WB, WB = Lib.bytesWorld W 5 t := ⟨_, rfl⟩
  rw [← hWB] at hLB hev1 hbb
  rw [← hWB, h] at hx
  simp only [hexV] at hx
  clear hWB
  go_enter Tryd.func99, Tryd.ntmps99
  go_wp2_with (first | (go_at_call 105; refine hx.mono ?_; rintro e w1 ⟨rfl, rfl⟩) | (go_at_call 106; go_loud (refine (Tryd.strconv_toError_syntax _ t _ _ ev _ (by omega) hev1 hev2).mono ?_); rintro e w2 ⟨N, rfl, _, _, hb2⟩))
  go_ret2
  exact ⟨⟨N, rfl⟩, hbb.trans (hb2.mono hbb.size)⟩

theorem hexFrom_lt : ∀ (l : List UInt8) (a n : Nat), hexFrom a l = some n → n < (a + 1) * 16 ^ l.length
  | [], a, n, h => by simp [hexFrom] at h; simp; omega
  | c :: l, a, n, h => by
    simp only [hexFrom] at h
    split at h
    · rename_i d hd
      have := hexFrom_lt l _ _ h
      have hd' := hexDigit_lt hd
      rw [List.length_cons, Nat.pow_succ]
      have h2 : (16 * a + d + 1) * 16 ^ l.length ≤ (16 * a + 16) * 16 ^ l.length := Nat.mul_le_mul_right _ (by omega)
      have h3 : (a + 1) * (16 ^ l.length * 16) = (16 * a + 16) * 16 ^ l.length := by rw [Nat.mul_comm (16 ^ l.length), ← Nat.mul_assoc]; congr 1; omega
      omega
    · cases h

theorem alloc_lt (w : World) (o : Obj) : w.heap.size < (w.alloc o).heap.size := by simp
theorem alloc_cell0 (w : World) (v : Value) (T : TypeId) : (w.alloc (.cells #[v] T)).cell? ⟨w.heap.size, 0, none⟩ = some v := by simp [World.cell?, World.alloc, -World.alloc_eq]

theorem isCharB_max {c : Int} (h : isCharB c = true) : 0 ≤ c ∧ c ≤ 1114111 := by
  simp [isCharB] at h; omega

theorem okRune_nat (n : Nat) : okRune (n : Int) = isCharB (n : Int) := by
  rcases hch : isCharB (n : Int) with _ | _
  · simp [okRune, hch]
  · have := isCharB_max hch
    simp [okRune, hch]; omega

set_option maxHeartbeats 4000000 in
set_option maxRecDepth 100000 in
theorem char_hex (w t : ByteArray) (W : World) (hL : LaidW W) (h1 : 1 ≤ t.size) (h6 : t.size ≤ 6) (hcut : (⟨(Lib.trimPrefix w.data.toList [85, 43]).toArray⟩ : ByteArray) = t) (hpre : Lib.hasPrefix w.data.toList [85, 43] = true) :
    Calls Tryd.prog 84 #[.string w] W fun e w' => (∃ r b, e = .returned (.tuple #[.int .i32 r, .bool b]) ∧ (match hexFrom 0 t.data.toList with | some n => if isCharB n then b = true ∧ r = n else b = false | none => b = false)) ∧ Below W.heap.size W w' := by
  have hcp : Calls Tryd.prog 98 #[.string w, .string ⟨#[85, 43]⟩] W fun e w' => e = .returned (.tuple #[.string t, .bool true]) ∧ W = w' := by
    have := Tryd.strings_CutPrefix w ⟨#[85, 43]⟩ W
    rw [show (⟨#[85, 43]⟩ : ByteArray).data.toList = [85, 43] from rfl, hcut, hpre] at this
    exact this.mono (fun e w' h => ⟨h.1, h.2.symm⟩)
  rcases hx : hexFrom 0 t.data.toList with _ | n
  · go_enter Tryd.func84, Tryd.ntmps84
    go_wp2_with (first | (go_at_call 98; refine hcp.mono ?_; rintro e w1 ⟨rfl, rfl⟩) | (go_at_call 99; refine (PU_none t (by omega) h6 _ hL hx).mono ?_; rintro e w2 ⟨⟨N, rfl⟩, hb2⟩))
    go_ret2
    exact ⟨⟨_, _, rfl, rfl⟩, hb2⟩
  · have hn : n < 16777216 := by
      have h3 := hexFrom_lt _ _ _ hx
      have h4 : 16 ^ t.data.toList.length ≤ 16 ^ 6 := Nat.pow_le_pow_right (by omega) (by rw [← Lib.size_eq]; omega)
      omega
    have hwn : IntKind.i64.wrap (n : Int) = n := by rw [IntKind.wrap_i64]; omega
    have hwn2 : IntKind.i32.wrap (n : Int) = n := by rw [IntKind.wrap_i32]; omega
    go_enter Tryd.func84, Tryd.ntmps84
    go_wp2_with (first | (go_at_call 98; refine hcp.mono ?_; rintro e w1 ⟨rfl, rfl⟩) | (go_at_call 99; refine (PU_some t (by omega) h6 _ n hx).mono ?_; rintro e w2 ⟨rfl, hb2⟩) | (go_at_call 100; go_loud (refine (From_calls (n : Int) w2.heap.size _ (by omega) (by omega) (alloc_lt _ _) (alloc_cell0 _ _ _)).mono ?_); go_loud (rintro e w3 ⟨⟨s, rfl⟩, hb3⟩); go_loud (have hb4 : Below W.heap.size W w3 := (hb2.alloc hb2.size _).trans (hb3.mono (by have := hb2.size; simp; omega))); clear hb3; clear hx; go_loud (have hok : okRune (n : Int) = isCharB (n : Int) := okRune_nat n); go_loud (simp only [fromE, hok]); rcases hch : isCharB (n : Int) with _ | _))
    all_goals go_ret2
    all_goals first | exact ⟨rfl, hb4⟩ | exact ⟨⟨_, rfl⟩, hb4⟩ | exact ⟨⟨_, _, rfl, rfl⟩, hb4⟩ | exact ⟨⟨_, _, rfl, rfl, rfl⟩, hb4⟩

/-- The first rune that a conversion of a string to runes writes. -/
theorem runesFrom_keeps (s : ByteArray) : ∀ (f i : Nat) (acc : Array Value) (v : Value), acc[0]? = some v → (Conv.runesFrom s f i acc)[0]? = some v
  | 0, _, _, _, h => h
  | f + 1, i, acc, v, h => by
    simp only [Conv.runesFrom]
    split
    · apply runesFrom_keeps
      rw [Array.getElem?_push]
      have : acc.size ≠ 0 := by intro h0; simp [Array.getElem?_eq_none (show acc.size ≤ 0 by omega)] at h
      rw [if_neg (by omega)]; exact h
    · exact h
theorem runesFrom_first (s : ByteArray) (h : s.size ≠ 0) : (Conv.runesFrom s s.size 0 #[])[0]? = some (.int .i32 (rune0 s)) := by
  obtain ⟨n, hn⟩ : ∃ n, s.size = n + 1 := ⟨s.size - 1, by omega⟩
  rw [hn]
  simp only [Conv.runesFrom]
  rw [if_pos (by omega)]
  exact runesFrom_keeps _ _ _ _ _ rfl

theorem lenOf_zero (w : ByteArray) (h : w.size = 0) : lenOf w = 0 := by
  have : w = ByteArray.empty := by
    apply ByteArray.ext
    apply Array.eq_empty_of_size_eq_zero
    exact h
  subst this
  decide

theorem runes_conv (s : ByteArray) (W : World) (h : s.size ≠ 0) (hs : s.size ≤ 1048576) : ∃ (m : Nat) (cap : Nat) (W' : World),
    (convert 9 54 (.string s)).run Tryd.prog W = .ok (.slice (some ⟨W.heap.size, 0, none⟩) m cap) W' ∧ W'.cell? ⟨W.heap.size, 0, none⟩ = some (.int .i32 (rune0 s)) ∧ 1 ≤ m ∧ Below W.heap.size W W' := by
  have hz := size_runesFrom s s.size 0 #[]
  have hf := runesFrom_first s h
  have hz0 : (Conv.runesFrom s s.size 0 #[]).size ≠ 0 := by
    intro h0; rw [Array.getElem?_eq_none (by omega)] at hf; cases hf
  refine ⟨_, _, _, run_runes_of_string W 9 54 21 s Tryd.underlying9 Tryd.underlying54 Tryd.underlying21 (by simp at hz; omega), ?_, by omega, ((Below.refl _ W).drew).alloc (by simp) _⟩
  have e : (W.drew.alloc (.cells (Conv.runesFrom s s.size 0 #[] ++ Array.replicate (grownCap W (Conv.runesFrom s s.size 0 #[]).size 0 21 - (Conv.runesFrom s s.size 0 #[]).size) (.int .i32 0)) 21)).heap[W.heap.size]? = some (.cells (Conv.runesFrom s s.size 0 #[] ++ Array.replicate (grownCap W (Conv.runesFrom s s.size 0 #[]).size 0 21 - (Conv.runesFrom s s.size 0 #[]).size) (.int .i32 0)) 21 (0, 0)) := by
    simp [World.alloc, World.drew, -World.alloc_eq, -World.drew_eq]
  rw [Lib.cell_of_heap e, Array.getElem?_append_left (by omega)]
  exact hf

set_option maxHeartbeats 4000000 in
set_option maxRecDepth 100000 in
theorem char_plain (w t : ByteArray) (f : Bool) (W : World) (hs : w.size ≤ 1048576) (hts : t.size ≤ 1048576) (hcut : (⟨(Lib.trimPrefix w.data.toList [85, 43]).toArray⟩ : ByteArray) = t) (hpre : Lib.hasPrefix w.data.toList [85, 43] = f) (hno : ¬ (f = true ∧ 1 ≤ t.size ∧ t.size ≤ 6)) :
    Calls Tryd.prog 84 #[.string w] W fun e w' => (∃ r b, e = .returned (.tuple #[.int .i32 r, .bool b]) ∧ (if lenOf w == 1 && !signB w then b = true ∧ r = rune0 w else b = false)) ∧ Below W.heap.size W w' := by
  have hcp : Calls Tryd.prog 98 #[.string w, .string ⟨#[85, 43]⟩] W fun e w' => e = .returned (.tuple #[.string t, .bool f]) ∧ W = w' := by
    have := Tryd.strings_CutPrefix w ⟨#[85, 43]⟩ W
    rw [show (⟨#[85, 43]⟩ : ByteArray).data.toList = [85, 43] from rfl, hcut, hpre] at this
    exact this.mono (fun e w' h => ⟨h.1, h.2.symm⟩)
  clear hcut hpre
  have hcase : f = false ∨ (f = true ∧ t.size = 0) ∨ (f = true ∧ 1 ≤ t.size ∧ 6 < t.size) := by
    cases f
    · exact .inl rfl
    · have : ¬ (1 ≤ t.size ∧ t.size ≤ 6) := fun h => hno ⟨rfl, h⟩
      by_cases h0 : t.size = 0
      · exact .inr (.inl ⟨rfl, h0⟩)
      · exact .inr (.inr ⟨rfl, by omega, by omega⟩)
  clear hno
  have hlen := Len_calls w W (by omega)
  by_cases hl : lenOf w = 1
  · have hne : w.size ≠ 0 := fun h => by rw [lenOf_zero w h] at hl; cases hl
    rw [hl] at hlen
    simp only [hl]
    rcases hsg : signB w with _ | _
    · rcases hcase with rfl | ⟨rfl, h0⟩ | ⟨rfl, h0, h1⟩
      all_goals
        go_enter Tryd.func84, Tryd.ntmps84
        go_wp2_with (first | (go_at_call 98; refine hcp.mono ?_; rintro e w1 ⟨rfl, rfl⟩) | (go_at_call 27; refine hlen.mono ?_; rintro e w2 ⟨rfl, hb2⟩; obtain ⟨m, cap, W3, hcv, hcell, hm, hb3⟩ := runes_conv w w2 hne hs) | (go_at_call 87; refine (sign_calls w _).mono ?_; rw [hsg]; rintro e w' ⟨rfl, rfl⟩))
        all_goals go_ret2
        all_goals first | exact ⟨⟨_, _, rfl, rfl, rfl⟩, hb2.trans (hb3.mono hb2.size)⟩ | exact ⟨rfl, hb2.trans (hb3.mono hb2.size)⟩ | exact ⟨⟨_, rfl⟩, hb2.trans (hb3.mono hb2.size)⟩
    · rcases hcase with rfl | ⟨rfl, h0⟩ | ⟨rfl, h0, h1⟩
      all_goals
        go_enter Tryd.func84, Tryd.ntmps84
        go_wp2_with (first | (go_at_call 98; refine hcp.mono ?_; rintro e w1 ⟨rfl, rfl⟩) | (go_at_call 27; refine hlen.mono ?_; rintro e w2 ⟨rfl, hb2⟩) | (go_at_call 87; refine (sign_calls w _).mono ?_; rw [hsg]; rintro e w' ⟨rfl, rfl⟩))
        all_goals go_ret2
        all_goals first | exact ⟨⟨_, _, rfl, rfl⟩, hb2⟩ | exact ⟨⟨_, rfl⟩, hb2⟩ 
  · have hl' : (lenOf w == 1) = false := by simpa using hl
    simp only [hl', Bool.false_and]
    rcases hcase with rfl | ⟨rfl, h0⟩ | ⟨rfl, h0, h1⟩
    all_goals
      go_enter Tryd.func84, Tryd.ntmps84
      go_wp2_with (first | (go_at_call 98; refine hcp.mono ?_; rintro e w1 ⟨rfl, rfl⟩) | (go_at_call 27; refine hlen.mono ?_; rintro e w2 ⟨rfl, hb2⟩))
      all_goals go_ret2
      all_goals first | exact ⟨⟨_, _, rfl, rfl⟩, hb2⟩ | exact ⟨⟨_, rfl⟩, hb2⟩ 

theorem char_calls (w : ByteArray) (W : World) (hL : LaidW W) (hs : w.size ≤ 1048576) :
    Calls Tryd.prog 84 #[.string w] W fun e w' => (∃ r b, e = .returned (.tuple #[.int .i32 r, .bool b]) ∧ (match charOf w with | some c => b = true ∧ r = c | none => b = false)) ∧ Below W.heap.size W w' := by
  have hsz : w.data.toList.length = w.size := by rw [Lib.size_eq]
  obtain ⟨t, ht⟩ : ∃ t : ByteArray, t = ⟨(Lib.trimPrefix w.data.toList [85, 43]).toArray⟩ := ⟨_, rfl⟩
  have htz : t.size = (Lib.trimPrefix w.data.toList [85, 43]).length := by rw [ht, Lib.size_eq]
  have htl : t.data.toList = Lib.trimPrefix w.data.toList [85, 43] := by rw [ht]
  rcases hp : Lib.hasPrefix w.data.toList [85, 43] with _ | _
  · have e : charOf w = if lenOf w == 1 && !signB w then some (rune0 w) else none := by
      unfold charOf
      have hp' : [85, 43].isPrefixOf w.data.toList = false := hp
      simp only [hp', Bool.false_and]
      rfl
    refine (char_plain w t false W hs (by rw [htz]; have := Lib.trimPrefix_le w.data.toList [85, 43]; omega) ht.symm hp (by simp)).mono ?_
    rintro e' w' ⟨⟨r, b, rfl, hb⟩, hbel⟩
    refine ⟨⟨r, b, rfl, ?_⟩, hbel⟩
    rw [e]
    by_cases hc : (lenOf w == 1 && !signB w) = true
    · simpa [hc] using hb
    · simpa [hc] using hb
  · have htd : Lib.trimPrefix w.data.toList [85, 43] = w.data.toList.drop 2 := by unfold Lib.trimPrefix; rw [if_pos hp]; rfl
    have hp' : [85, 43].isPrefixOf w.data.toList = true := hp
    have hpl := Lib.hasPrefix_le hp
    simp only [List.length_cons, List.length_nil] at hpl
    have htz2 : t.size = w.size - 2 := by rw [htz, htd, List.length_drop, hsz]
    by_cases hr : 1 ≤ t.size ∧ t.size ≤ 6
    · have e : charOf w = match hexFrom 0 (w.data.toList.drop 2) with | some n => if isCharB n then some (n : Int) else none | none => none := by
        unfold charOf
        have h3 : decide (3 ≤ w.data.toList.length) = true := by simp; omega
        have h8 : decide (w.data.toList.length ≤ 8) = true := by simp; omega
        simp only [hp', h3, h8]
        rfl
      refine (char_hex w t W hL hr.1 hr.2 ht.symm hp).mono ?_
      rintro e' w' ⟨⟨r, b, rfl, hb⟩, hbel⟩
      refine ⟨⟨r, b, rfl, ?_⟩, hbel⟩
      rw [e]
      rw [htl, htd] at hb
      generalize hexFrom 0 (w.data.toList.drop 2) = hx at hb
      rcases hx with _ | n
      · exact hb
      · by_cases hc : isCharB (n : Int) = true
        · simpa [hc] using hb
        · simpa [hc] using hb
    · have e : charOf w = if lenOf w == 1 && !signB w then some (rune0 w) else none := by
        unfold charOf
        have h38 : (decide (3 ≤ w.data.toList.length) && decide (w.data.toList.length ≤ 8)) = false := by
          rw [Bool.and_eq_false_iff]; simp only [decide_eq_false_iff_not]; omega
        simp only [hp', Bool.true_and, h38]
        rfl
      refine (char_plain w t true W hs (by omega) ht.symm hp (fun h => hr h.2)).mono ?_
      rintro e' w' ⟨⟨r, b, rfl, hb⟩, hbel⟩
      refine ⟨⟨r, b, rfl, ?_⟩, hbel⟩
      rw [e]
      by_cases hc : (lenOf w == 1 && !signB w) = true
      · simpa [hc] using hb
      · simpa [hc] using hb

theorem char_yes (w : ByteArray) (W : World) (hL : LaidW W) (hs : w.size ≤ 1048576) (c : Int) (h : charOf w = some c) :
    Calls Tryd.prog 84 #[.string w] W fun e w' => e = .returned (.tuple #[.int .i32 c, .bool true]) ∧ Below W.heap.size W w' := by
  refine (char_calls w W hL hs).mono ?_
  rintro e w' ⟨⟨r, b, rfl, hb⟩, hbel⟩
  rw [h] at hb
  obtain ⟨rfl, rfl⟩ := hb
  exact ⟨rfl, hbel⟩
theorem char_no (w : ByteArray) (W : World) (hL : LaidW W) (hs : w.size ≤ 1048576) (h : charOf w = none) :
    Calls Tryd.prog 84 #[.string w] W fun e w' => (∃ r, e = .returned (.tuple #[.int .i32 r, .bool false])) ∧ Below W.heap.size W w' := by
  refine (char_calls w W hL hs).mono ?_
  rintro e w' ⟨⟨r, b, rfl, hb⟩, hbel⟩
  rw [h] at hb
  subst hb
  exact ⟨⟨_, rfl⟩, hbel⟩
end Go.Proofs.YtibhifjehbajnaaDoor
