/- cmp.Compare of strings, and strings.ContainsAny at the characters a and -, walked. -/
import Derived.Test.YtibhifjehbajnaaDoorPts
import Derived.Test.YtibhifjehbajnaaDoorShelf2
import Derived.Laws.Cover1
import Derived.Laws.Runes
import Derived.LoopN
namespace Go.Proofs.YtibhifjehbajnaaDoor
open Go.RowKit Go.Maps
set_option linter.unusedVariables false

theorem bl_iff : ∀ x y : List UInt8, Op.bytesLess x y = true ↔ Lib.compareBytes x y = -1
  | [], [] => by simp [Op.bytesLess, Lib.compareBytes]
  | [], _ :: _ => by simp [Op.bytesLess, Lib.compareBytes]
  | _ :: _, [] => by simp [Op.bytesLess, Lib.compareBytes]
  | a :: x, b :: y => by
    have ih := bl_iff x y
    rw [cb_cons]
    unfold Op.bytesLess
    rw [Bool.or_eq_true, decide_eq_true_eq, Bool.and_eq_true, beq_iff_eq, ih]
    have e1 : a < b ↔ a.toNat < b.toNat := Iff.rfl
    have e2 : a = b ↔ a.toNat = b.toNat := UInt8.toNat_inj.symm
    rw [e1, e2]
    by_cases h1 : a.toNat < b.toNat
    · simp [h1]
    · by_cases h2 : b.toNat < a.toNat
      · simp [h1, h2]; omega
      · simp [h1, h2]
        intro _; omega

set_option maxRecDepth 100000 in
theorem cmpString_calls (a b : ByteArray) (W : World) : Calls Tryd.prog 34 #[.string a, .string b] W fun e w' => e = .returned (.int .i64 (Lib.compareBytes a.data.toList b.data.toList)) ∧ W = w' := by
  have nan : ∀ (s : ByteArray) (w : World), Calls Tryd.prog 57 #[.string s] w fun e w' => e = .returned (.bool false) ∧ w = w' := fun s w => by
    go_enter Tryd.func57, Tryd.ntmps57
    go_wp2
    go_ret
    exact ⟨ret_bool (by simp), rfl⟩
  have hb := bl_iff a.data.toList b.data.toList
  rw [← Lib.toList_data, ← Lib.toList_data] at hb ⊢
  rcases cb_range a.toList b.toList with h | h | h
  · have h1 : Op.bytesLess a.toList b.toList = true := hb.2 h
    rw [h]
    clear hb h
    go_enter Tryd.func34, Tryd.ntmps34
    go_wp2_with (go_at_call 57; refine (nan _ _).mono ?_; rintro e w' ⟨rfl, rfl⟩)
    go_ret
    exact ⟨rfl, rfl⟩
  · have h1 : Op.bytesLess a.toList b.toList = false := by
      cases hc : Op.bytesLess a.toList b.toList with
      | false => rfl
      | true => have := hb.1 hc; omega
    have h2 : (a.toList == b.toList) = true := by rw [beq_iff_eq]; exact cb_eq _ _ h
    rw [h]
    clear hb h
    go_enter Tryd.func34, Tryd.ntmps34
    go_wp2_with (go_at_call 57; refine (nan _ _).mono ?_; rintro e w' ⟨rfl, rfl⟩)
    go_ret
    exact ⟨rfl, rfl⟩
  · have h1 : Op.bytesLess a.toList b.toList = false := by
      cases hc : Op.bytesLess a.toList b.toList with
      | false => rfl
      | true => have := hb.1 hc; omega
    have h2 : (a.toList == b.toList) = false := by
      rw [beq_eq_false_iff_ne]
      intro e
      rw [e, cb_self] at h; omega
    rw [h]
    clear hb h
    go_enter Tryd.func34, Tryd.ntmps34
    go_wp2_with (go_at_call 57; refine (nan _ _).mono ?_; rintro e w' ⟨rfl, rfl⟩)
    go_ret
    exact ⟨rfl, rfl⟩

def aDash : ByteArray := ⟨#[97, 45]⟩
def AnyPost (s : ByteArray) (W : World) (e : Ending) (w' : World) : Prop := ∃ i : Int, e = .returned (.int .i64 i) ∧ (i < 0 → (97 : UInt8) ∉ s.data.toList ∧ (45 : UInt8) ∉ s.data.toList) ∧ Below W.heap.size W w'
theorem two_bytes {E : ByteArray} (h : E.size = 2) : ∃ x y : UInt8, E = ⟨#[x, y]⟩ := by
  obtain ⟨⟨l⟩⟩ := E
  have h : l.length = 2 := h
  match l, h with
  | [x, y], _ => exact ⟨x, y, rfl⟩
theorem idx_none (y : UInt8) (w : World) : Calls Tryd.prog 94 #[.string (ByteArray.extract ⟨#[97, 45]⟩ 2 2), .int .u8 y.toNat] w fun e w' => e = .returned (.int .i64 (-1)) ∧ w' = w := by
  have h := Tryd.strings_IndexByte (ByteArray.extract ⟨#[97, 45]⟩ 2 2) (y.toNat : Int) w
  have e : (ByteArray.extract ⟨#[97, 45]⟩ 2 2).data.toList = [] := by decide
  rw [e] at h
  exact h
set_option maxRecDepth 100000 in
set_option maxHeartbeats 2000000 in
theorem indexRune_no (c : Int) (hc : isCharB c = true) (h1 : 128 ≤ c) (h2 : c ≠ 65533) (W : World) :
    Calls Tryd.prog 79 #[.string aDash, .int .i32 c] W fun e w' => e = .returned (.int .i64 (-1)) ∧ Below W.heap.size W w' := by
  have hr := isCharB_cases hc
  have hv : Lib.validRune c = true := by
    unfold Lib.validRune
    simp; omega
  have hv2 : Utf8.valid c = true := by rw [validRune_eq]; unfold validRune; simp; omega
  obtain ⟨hs2, hs4, hb⟩ := encode_facts c hv2 h1
  have z1 : (c == 65533) = false := beq_eq_false_iff_ne.2 h2
  have hb := Lib.hid hb
  clear hv2
  go_enter Tryd.func79, Tryd.ntmps79
  unfold aDash
  go_wp2_with (go_at_call 95; refine (Tryd.utf8_ValidRune _ _).mono ?_; rintro e w1 ⟨rfl, rfl⟩; rw [hv])
  go_step3
  go_wp2_with fail
  obtain ⟨E, hE⟩ : ∃ E, E = Utf8.encode c := ⟨_, rfl⟩
  rw [← hE] at hs2 hs4 hb ⊢
  clear hE hr hv z1 h2
  by_cases h2 : E.size = 2
  · obtain ⟨x, y, rfl⟩ := two_bytes h2
    have hy : 128 ≤ y.toNat := hb.out (show 2 - 1 < 2 by decide)
    have e1 : ((⟨#[x, y]⟩ : ByteArray).size : Int) - 1 = 1 := rfl
    rw [e1]
    clear e1 hb hs2 hs4 h2
    have z3 : ((45 : Int) != (y.toNat : Int)) = true := by rw [bne_iff_ne]; omega
    have z2 : ((((⟨#[97, 45]⟩ : ByteArray)[1]'(by decide)).toNat : Int) != (((⟨#[x, y]⟩ : ByteArray)[1]'(by show 1 < 2; decide)).toNat : Int)) = true := z3
    clear z3
    refine wp_loop_rounds 1 ?_
    rw [rounds_succ]
    go_wp2_with fail
    go_step3
    go_wp2_with fail
    go_quiet (fail)
    rename_i nq
    obtain ⟨w2, hw2⟩ : ∃ w2, w2 = w1.drewN nq := ⟨_, rfl⟩
    have hb2 : Below w1.heap.size w1 w2 := by rw [hw2]; exact below_drewN (Below.refl _ _) _
    rw [← hw2]
    clear hw2
    go_wp2_with fail
    go_quiet ((go_at_call 94; exact Calls.quiet_of_same (idx_none y _)))
    go_wp2_with fail
    rw [Exit.noGoto_ret]
    go_wp2_with fail
    rw [Exit.noGoto_ret]
    go_ret
    exact ⟨rfl, below_drewN hb2 _⟩
  · have h3 : 3 ≤ E.size := by omega
    refine wp_loop_rounds 1 ?_
    rw [rounds_succ]
    go_wp2_with fail
    rw [Exit.noGoto_ret]
    go_ret
    exact ⟨rfl, Below.refl _ _⟩

set_option maxRecDepth 100000 in
theorem indexRune_err (W : World) :
    Calls Tryd.prog 79 #[.string aDash, .int .i32 65533] W fun e w' => e = .returned (.int .i64 (-1)) ∧ Below W.heap.size W w' := by
  have d0 : Utf8.decode ⟨#[97, 45]⟩ 0 = (97, 1) := by decide
  have d1 : Utf8.decode ⟨#[97, 45]⟩ 1 = (45, 1) := by decide
  have d0 := Lib.hid d0
  have d1 := Lib.hid d1
  go_enter Tryd.func79, Tryd.ntmps79
  unfold aDash
  go_wp2_with fail
  go_loopw [5, 6] (fun _ _ wr => ∃ pos : Nat, pos ≤ 2 ∧ wr.heap[W.heap.size]? = some (.stringIter ⟨#[97, 45]⟩ pos) ∧ Hid (Below W.heap.size W wr)) (fun _ _ wr => 2 - wr.iterPos W.heap.size)
  case atStart => exact ⟨0, by omega, World.iter_heap W _ 0, (Below.refl _ _).alloc (Nat.le_refl _) _⟩
  case round =>
    obtain ⟨pos, hp2, hit, hbw⟩ := hrel
    have hpos0 := iterPos_of hit
    rcases (show pos = 0 ∨ pos = 1 ∨ pos = 2 by omega) with rfl | rfl | rfl
    · have hnx : ∀ ty, (Instr.next (.pointer (some ⟨W.heap.size, 0, none⟩)) true ty).run Tryd.prog wr = _ := fun ty => Lib.run_next_any_at wr W.heap.size _ 0 ty hit (by decide)
      have hit2 := Lib.iterAt_heap wr W.heap.size _ 0 (0 + (Utf8.decode ⟨#[97, 45]⟩ 0).2) hit
      have hbw2 := Lib.hid (Lib.below_iterAt hbw.out (k := W.heap.size) (Nat.le_refl _) ⟨#[97, 45]⟩ (0 + (Utf8.decode ⟨#[97, 45]⟩ 0).2))
      rw [d0.out] at hnx hit2 hbw2
      clear hit hbw
      go_wp2_with fail
      go_roundw
      case rel => exact ⟨1, by omega, hit2, hbw2⟩
      case measure =>
        have hq : (wr.iterAt W.heap.size ⟨#[97, 45]⟩ 1).iterPos W.heap.size = 1 := iterPos_of hit2
        rw [hq, hpos0]; decide
    · have hnx : ∀ ty, (Instr.next (.pointer (some ⟨W.heap.size, 0, none⟩)) true ty).run Tryd.prog wr = _ := fun ty => Lib.run_next_any_at wr W.heap.size _ 1 ty hit (by decide)
      have hit2 := Lib.iterAt_heap wr W.heap.size _ 1 (1 + (Utf8.decode ⟨#[97, 45]⟩ 1).2) hit
      have hbw2 := Lib.hid (Lib.below_iterAt hbw.out (k := W.heap.size) (Nat.le_refl _) ⟨#[97, 45]⟩ (1 + (Utf8.decode ⟨#[97, 45]⟩ 1).2))
      rw [d1.out] at hnx hit2 hbw2
      clear hit hbw
      go_wp2_with fail
      go_roundw
      case rel => exact ⟨2, by omega, hit2, hbw2⟩
      case measure =>
        have hq : (wr.iterAt W.heap.size ⟨#[97, 45]⟩ 2).iterPos W.heap.size = 2 := iterPos_of hit2
        rw [hq, hpos0]; decide
    · have hnx : ∀ ty, (Instr.next (.pointer (some ⟨W.heap.size, 0, none⟩)) true ty).run Tryd.prog wr = _ := fun ty => Lib.run_next_end_at wr W.heap.size _ 2 ty hit (by decide)
      go_wp2_with fail
      go_ret
      exact ⟨rfl, hbw.out⟩

/-- One character looked for among a and -. -/
theorem indexRune_pts (c : Int) (hc : isCharB c = true) (W : World) :
    Calls Tryd.prog 79 #[.string aDash, .int .i32 c] W fun e w' => (∃ i : Int, e = .returned (.int .i64 i) ∧ (i < 0 → c ≠ 97 ∧ c ≠ 45)) ∧ Below W.heap.size W w' := by
  have hr := isCharB_cases hc
  by_cases h1 : c < 128
  · refine (Tryd.strings_IndexRune_ascii aDash c W (by omega) h1).mono ?_
    rintro e w' ⟨rfl, rfl⟩
    refine ⟨⟨_, rfl, fun hi => ⟨fun e => ?_, fun e => ?_⟩⟩, Below.refl _ _⟩
    · subst e; exact absurd hi (by decide)
    · subst e; exact absurd hi (by decide)
  · by_cases h2 : c = 65533
    · subst h2
      refine (indexRune_err W).mono ?_
      rintro e w' ⟨rfl, hb⟩
      exact ⟨⟨_, rfl, fun _ => by decide⟩, hb⟩
    · refine (indexRune_no c hc (by omega) h2 W).mono ?_
      rintro e w' ⟨rfl, hb⟩
      exact ⟨⟨_, rfl, fun _ => by omega⟩, hb⟩

/-- No character a and no - from place p on. -/
def noPts (rs : List Int) : Prop := ∀ c ∈ rs, c ≠ 97 ∧ c ≠ 45
theorem enc_high {c : Int} (h : isCharB c = true) (h1 : 128 ≤ c) : ∀ b ∈ Lib.encodeRune c, 128 ≤ b.toNat := by
  intro b hb
  rcases enc_shape h with ⟨k, b0, e, h0⟩ | ⟨k1, k2, b0, b1, e, h0, h1⟩ | ⟨k1, k2, k3, b0, b1, b2, e, h0, h1, h2⟩ | ⟨k1, k2, b0, b1, b2, b3, e, h0, h1, h2, h3⟩
  · omega
  · rw [e] at hb; simp at hb; rcases hb with rfl | rfl <;> omega
  · rw [e] at hb; simp at hb; rcases hb with rfl | rfl | rfl <;> omega
  · rw [e] at hb; simp at hb; rcases hb with rfl | rfl | rfl | rfl <;> omega
theorem no_pts_bytes {rs : List Int} (hc : Chars rs) (h : noPts rs) : (97 : UInt8) ∉ encA rs ∧ (45 : UInt8) ∉ encA rs := by
  have key : ∀ b ∈ encA rs, b ≠ 97 ∧ b ≠ 45 := by
    intro b hb
    unfold encA at hb
    obtain ⟨l, hl, hbl⟩ := List.mem_flatten.1 hb
    obtain ⟨c, hcr, rfl⟩ := List.mem_map.1 hl
    have h1 := hc c hcr
    have h2 := h c hcr
    have h3 := isCharB_cases h1
    by_cases h4 : 128 ≤ c
    · have := enc_high h1 h4 b hbl
      refine ⟨fun e => ?_, fun e => ?_⟩ <;> (subst e; exact absurd this (by decide))
    · rw [enc_byte (by omega) (by omega)] at hbl
      have hb2 := List.mem_singleton.1 hbl
      have hz := u8_of c (by omega) (by omega)
      rw [← hb2] at hz
      refine ⟨fun e => ?_, fun e => ?_⟩
      · subst e; have : ((97 : UInt8).toNat : Int) = 97 := by decide
        omega
      · subst e; have : ((45 : UInt8).toNat : Int) = 45 := by decide
        omega
  exact ⟨fun h => (key _ h).1 rfl, fun h => (key _ h).2 rfl⟩

def AnyP (s : ByteArray) (W : World) (e : Ending) (w' : World) : Prop := (∃ i : Int, e = .returned (.int .i64 i) ∧ (i < 0 → (97 : UInt8) ∉ s.data.toList ∧ (45 : UInt8) ∉ s.data.toList)) ∧ Below W.heap.size W w'
theorem idx_no : ∀ l : List UInt8, Lib.indexAny l [97, 45] < 0 → (97 : UInt8) ∉ l ∧ (45 : UInt8) ∉ l
  | [], _ => by simp
  | b :: l, h => by
    rw [Lib.indexAny] at h
    by_cases hb : ([97, 45] : List UInt8).contains b = true
    · rw [if_pos hb] at h; omega
    · rw [if_neg hb] at h
      have hge := Lib.indexAny_ge [97, 45] l
      by_cases h2 : (Lib.indexAny l [97, 45] == -1) = true
      · have h3 := beq_iff_eq.1 h2
        have ih := idx_no l (by omega)
        simp only [List.contains_cons, Bool.or_eq_true, beq_iff_eq] at hb
        simp only [List.mem_cons, not_or]
        refine ⟨⟨fun e => hb (.inl e.symm), ih.1⟩, fun e => hb (.inr (.inl e.symm)), ih.2⟩
      · rw [if_neg h2] at h
        have h3 : Lib.indexAny l [97, 45] ≠ -1 := fun e => h2 (beq_iff_eq.2 e)
        omega
theorem aDash_ascii : ∀ (j : Nat) (b : UInt8), aDash.data.toList[j]? = some b → b.toNat < 128 := fun j b h => by
  have : b ∈ ([97, 45] : List UInt8) := List.mem_of_getElem? h
  simp at this
  rcases this with rfl | rfl <;> decide
/-- What has been gone over holds none. -/
def Gone (s : ByteArray) (fuel pos : Nat) : Prop := ∃ pre, runesOf s = pre ++ runesFrom s fuel pos ∧ noPts pre
theorem Gone.step {s : ByteArray} {f pos : Nat} (h : Gone s (f + 1) pos) (hp : pos < s.size) (hn : ((Utf8.decode s pos).1 : Int) ≠ 97 ∧ ((Utf8.decode s pos).1 : Int) ≠ 45) : Gone s f (pos + (Utf8.decode s pos).2) := by
  obtain ⟨pre, h1, h2⟩ := h
  refine ⟨pre ++ [((Utf8.decode s pos).1 : Int)], ?_, ?_⟩
  · rw [h1, runesFrom, if_pos hp, List.append_assoc]; rfl
  · intro c hc
    rcases List.mem_append.1 hc with hc | hc
    · exact h2 c hc
    · rw [List.mem_singleton.1 hc]; exact hn
theorem Gone.mem {s : ByteArray} {f pos : Nat} (h : Gone s (f + 1) pos) (hp : pos < s.size) (ht : isText s = true) : isCharB ((Utf8.decode s pos).1 : Int) = true := by
  obtain ⟨pre, h1, h2⟩ := h
  refine (text_enc ht).2 _ ?_
  rw [h1, runesFrom, if_pos hp]
  exact List.mem_append_right _ (List.mem_cons_self ..)
theorem Gone.end_ {s : ByteArray} {f pos : Nat} (h : Gone s f pos) (hp : ¬ pos < s.size) (ht : isText s = true) : (97 : UInt8) ∉ s.data.toList ∧ (45 : UInt8) ∉ s.data.toList := by
  obtain ⟨pre, h1, h2⟩ := h
  have : runesFrom s f pos = [] := by cases f with
    | zero => rfl
    | succ f => rw [runesFrom, if_neg hp]
  rw [this, List.append_nil] at h1
  have he := text_enc ht
  rw [he.1]
  rw [← h1] at h2
  exact no_pts_bytes he.2 h2
set_option maxRecDepth 100000 in
set_option maxHeartbeats 2000000 in
theorem indexAny_pts (s : ByteArray) (ht : isText s = true) (hs : s.size ≤ 1000) (W : World) : Calls Tryd.prog 56 #[.string s, .string aDash] W (AnyP s W) := by
  by_cases h8 : 8 < s.size
  · refine (Tryd.strings_IndexAny_long (fun w => by kernel_rfl) s aDash W (by decide) h8 (by omega) (by decide) aDash_ascii).mono ?_
    rintro e w' ⟨rfl, rfl⟩
    exact ⟨⟨_, rfl, fun h => idx_no _ h⟩, ((Below.refl _ _).alloc (Nat.le_refl _) _).alloc (by simp) _⟩
  · have ht := Lib.hid ht
    have hse : ∀ w : World, Calls Tryd.prog 80 #[.int .i64 s.size] w fun e w' => e = .returned (.bool false) ∧ w = w' := fun w => by
      go_enter Tryd.func80, Tryd.ntmps80
      go_wp2
      go_ret
      exact ⟨ret_bool (by simp; omega), rfl⟩
    have hir : Hid (∀ (c : Int), isCharB c = true → ∀ w : World, Calls Tryd.prog 79 #[.string ⟨#[97, 45]⟩, .int .i32 c] w fun e w' => (∃ i : Int, e = .returned (.int .i64 i) ∧ (i < 0 → c ≠ 97 ∧ c ≠ 45)) ∧ Below w.heap.size w w') := fun c hc w => indexRune_pts c hc w
    go_enter Tryd.func56, Tryd.ntmps56
    unfold aDash
    go_wp2_with (go_at_call 80; refine (hse _).mono ?_; rintro e w1 ⟨rfl, rfl⟩)
    clear hse
    go_loopw [9, 10] (fun _ _ wr => ∃ (pos fuel : Nat), wr.heap[W.heap.size]? = some (.stringIter s pos) ∧ Hid (Below W.heap.size W wr) ∧ Hid (Gone s fuel pos) ∧ s.size ≤ pos + fuel ∧ W.heap.size < wr.heap.size) (fun _ _ wr => s.size - wr.iterPos W.heap.size)
    case atStart => exact ⟨0, s.size, World.iter_heap W s 0, (Below.refl _ _).alloc (Nat.le_refl _) _, ⟨[], rfl, fun c hc => by cases hc⟩, by omega, by simp [World.iter]⟩
    case round =>
      obtain ⟨pos, fuel, hit, hbw, HG, hb, hlt⟩ := hrel
      have hpos0 := iterPos_of hit
      by_cases hp : pos < s.size
      · have hnx : ∀ ty, (Instr.next (.pointer (some ⟨W.heap.size, 0, none⟩)) true ty).run Tryd.prog wr = _ := fun ty => Lib.run_next_any_at wr W.heap.size s pos ty hit hp
        have hwd := Lib.decode_width_pos s pos hp
        obtain ⟨fuel, rfl⟩ : ∃ f', fuel = f' + 1 := ⟨fuel - 1, by omega⟩
        have hit2 := Lib.iterAt_heap wr W.heap.size s pos (pos + (Utf8.decode s pos).2) hit
        have hbw2 := Lib.below_iterAt hbw.out (k := W.heap.size) (Nat.le_refl _) s (pos + (Utf8.decode s pos).2)
        have hlt2 : W.heap.size < (wr.iterAt W.heap.size s (pos + (Utf8.decode s pos).2)).heap.size := by
          have := (Array.getElem?_eq_some_iff.1 hit2).1
          exact this
        obtain ⟨W1, hW1⟩ : ∃ W1, W1 = wr.iterAt W.heap.size s (pos + (Utf8.decode s pos).2) := ⟨_, rfl⟩
        rw [← hW1] at hnx hit2 hbw2 hlt2
        clear hW1 hit hbw
        have hcc := Lib.hid (Gone.mem HG.out hp ht.out)
        have hst : Hid (((Utf8.decode s pos).1 : Int) ≠ 97 ∧ ((Utf8.decode s pos).1 : Int) ≠ 45 → Gone s fuel (pos + (Utf8.decode s pos).2)) := fun h => Gone.step HG.out hp h
        obtain ⟨c, hcd⟩ : ∃ c, c = ((Utf8.decode s pos).1 : Int) := ⟨_, rfl⟩
        obtain ⟨k, hkd⟩ : ∃ k, k = (Utf8.decode s pos).2 := ⟨_, rfl⟩
        rw [← hcd] at hnx hst hcc
        rw [← hkd] at hwd hit2 hst
        have hbw2 := Lib.hid hbw2
        clear hcd hkd HG
        go_wp2_with fail
        refine (hir.out c hcc.out W1).mono ?_
        rintro e w2 ⟨⟨i, rfl, hi⟩, hb2⟩
        have hi := Lib.hid hi
        have hb3 := Lib.hid (hbw2.out.trans (hb2.mono hbw2.out.size))
        have hit3 : w2.heap[W.heap.size]? = some (.stringIter s (pos + k)) := (hb2.block W.heap.size hlt2).trans hit2
        have hz2 := hb2.size
        clear hb2
        by_cases hineg : i < 0
        · go_wp2_with fail
          go_roundw
          case rel => exact ⟨pos + k, fuel, hit3, hb3, hst.out (hi.out hineg), by omega, by omega⟩
          case measure =>
            have hq : w2.iterPos W.heap.size = pos + k := iterPos_of hit3
            rw [hq, hpos0]; omega
        · go_wp2_with fail
          go_ret
          exact ⟨⟨_, rfl, fun h => by omega⟩, hb3.out⟩
      · have hnx : ∀ ty, (Instr.next (.pointer (some ⟨W.heap.size, 0, none⟩)) true ty).run Tryd.prog wr = _ := fun ty => Lib.run_next_end_at wr W.heap.size s pos ty hit hp
        have he := Lib.hid (Gone.end_ HG.out hp ht.out)
        go_wp2_with fail
        go_ret
        exact ⟨⟨_, rfl, fun _ => he.out⟩, hbw.out⟩
theorem containsAny_pts (s : ByteArray) (ht : isText s = true) (hs : s.size ≤ 1000) (W : World) : Calls Tryd.prog 33 #[.string s, .string aDash] W fun e w' =>
    (∃ r : Bool, e = .returned (.bool r) ∧ (r = false → (97 : UInt8) ∉ s.data.toList ∧ (45 : UInt8) ∉ s.data.toList)) ∧ Below W.heap.size W w' := by
  go_enter Tryd.func33, Tryd.ntmps33
  go_wp2_with fail
  refine (indexAny_pts s ht hs W).mono ?_
  rintro e w1 ⟨⟨i, rfl, hi⟩, hb1⟩
  have hi := Lib.hid hi
  go_wp2_with fail
  go_ret
  refine ⟨⟨_, rfl, fun h => hi.out ?_⟩, hb1⟩
  have := of_decide_eq_false h
  omega
end Go.Proofs.YtibhifjehbajnaaDoor
