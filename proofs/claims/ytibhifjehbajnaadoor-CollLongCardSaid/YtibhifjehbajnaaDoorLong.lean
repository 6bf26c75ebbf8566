/- CollLong, the plain law: what Parse makes of a description with so many listed and ignored characters, and of a long remark. -/
import Derived.Test.YtibhifjehbajnaaDoorIgn
namespace Go.Proofs.YtibhifjehbajnaaDoor
open Go.RowKit Go.Maps
set_option linter.unusedVariables false

def rng (b : Int) : Nat → Nat → List Int
  | _, 0 => []
  | i, k + 1 => (b + i) :: rng b (i + 1) k
theorem rng_len (b : Int) : ∀ i k, (rng b i k).length = k
  | _, 0 => rfl
  | i, k + 1 => by simp [rng, rng_len b (i + 1) k]
theorem rng_mem (b : Int) : ∀ (i k : Nat) (c : Int), c ∈ rng b i k → b + i ≤ c ∧ c < b + i + k
  | _, 0, c, h => by cases h
  | i, k + 1, c, h => by
    rcases List.mem_cons.1 h with rfl | h
    · omega
    · have := rng_mem b (i + 1) k c h
      push_cast at this ⊢
      omega
theorem rng_nodup (b : Int) : ∀ (i k : Nat), (rng b i k).Nodup
  | _, 0 => List.nodup_nil
  | i, k + 1 => by
    rw [rng, List.nodup_cons]
    refine ⟨fun h => ?_, rng_nodup b (i + 1) k⟩
    have := rng_mem b (i + 1) k _ h
    push_cast at this
    omega

/-! the texts of the lines -/
def tail1 : Nat → Nat → List Int
  | _, 0 => []
  | i, k + 1 => 32 :: 60 :: 32 :: (19968 + (i : Int)) :: tail1 (i + 1) k
def tail2 : Nat → Nat → List Int
  | _, 0 => []
  | i, k + 1 => 32 :: (28160 + (i : Int)) :: tail2 (i + 1) k
def line1 : Nat → List Int
  | 0 => []
  | k + 1 => 19968 :: tail1 1 k
def igW : List Int := [105, 103, 110, 111, 114, 101]
def line2 : Nat → List Int
  | 0 => []
  | k + 1 => igW ++ tail2 0 (k + 1)
theorem tail1_snoc : ∀ i k, tail1 i (k + 1) = tail1 i k ++ [32, 60, 32, 19968 + ((i + k : Nat) : Int)]
  | i, 0 => rfl
  | i, k + 1 => by
    rw [tail1, tail1_snoc (i + 1) k, tail1]
    simp only [List.cons_append]
    rw [show i + 1 + k = i + (k + 1) by omega]
theorem tail2_snoc : ∀ i k, tail2 i (k + 1) = tail2 i k ++ [32, 28160 + ((i + k : Nat) : Int)]
  | i, 0 => rfl
  | i, k + 1 => by
    rw [tail2, tail2_snoc (i + 1) k, tail2]
    simp only [List.cons_append]
    rw [show i + 1 + k = i + (k + 1) by omega]
theorem line1_succ (k : Nat) : line1 (k + 1) = line1 k ++ (if k = 0 then [] else [32, 60, 32]) ++ [19968 + (k : Int)] := by
  cases k with
  | zero => rfl
  | succ k =>
    rw [line1, line1, tail1_snoc, if_neg (by omega)]
    simp only [List.cons_append, List.append_assoc, List.nil_append]
    rw [show 1 + k = k + 1 by omega]
theorem line2_succ (k : Nat) : line2 (k + 1) = line2 k ++ (if k = 0 then igW else []) ++ [32, 28160 + (k : Int)] := by
  cases k with
  | zero => rfl
  | succ k =>
    rw [line2, line2, tail2_snoc 0 (k + 1), if_neg (by omega)]
    simp only [List.append_assoc, List.nil_append]
    rw [show 0 + (k + 1) = k + 1 by omega]
def hdR : List Int := [35, 32, 99, 104, 97, 114, 97, 99, 116, 101, 114, 115]
def descR (n m : Nat) : List Int := hdR ++ 10 :: (line1 n ++ 10 :: line2 m)

theorem char_big {c : Int} (h0 : 19968 ≤ c) (h1 : c < 40000) : isCharB c = true := by
  simp [isCharB]; omega
theorem tail1_chars : ∀ (i k : Nat), i + k ≤ 5000 → ∀ c ∈ tail1 i k, isCharB c = true ∧ c ≠ 10
  | _, 0, _, c, h => by cases h
  | i, k + 1, hk, c, h => by
    simp only [tail1, List.mem_cons] at h
    rcases h with rfl | rfl | rfl | rfl | h
    · decide
    · decide
    · decide
    · exact ⟨char_big (by omega) (by omega), by omega⟩
    · exact tail1_chars (i + 1) k (by omega) c h
theorem tail2_chars : ∀ (i k : Nat), i + k ≤ 5000 → ∀ c ∈ tail2 i k, isCharB c = true ∧ c ≠ 10
  | _, 0, _, c, h => by cases h
  | i, k + 1, hk, c, h => by
    simp only [tail2, List.mem_cons] at h
    rcases h with rfl | rfl | h
    · decide
    · exact ⟨char_big (by omega) (by omega), by omega⟩
    · exact tail2_chars (i + 1) k (by omega) c h
theorem line1_chars (n : Nat) (h : n ≤ 4100) : ∀ c ∈ line1 n, isCharB c = true ∧ c ≠ 10 := by
  intro c hc
  cases n with
  | zero => cases hc
  | succ k =>
    rcases List.mem_cons.1 hc with rfl | hc
    · decide
    · exact tail1_chars 1 k (by omega) c hc
theorem line2_chars (n : Nat) (h : n ≤ 4100) : ∀ c ∈ line2 n, isCharB c = true ∧ c ≠ 10 := by
  intro c hc
  cases n with
  | zero => cases hc
  | succ k =>
    rcases List.mem_append.1 hc with hc | hc
    · have key : ∀ c ∈ igW, isCharB c = true ∧ c ≠ 10 := by decide
      exact key c hc
    · exact tail2_chars 0 (k + 1) (by omega) c hc
theorem desc_chars (n m : Nat) (hn : n ≤ 4100) (hm : m ≤ 4100) : Chars (descR n m) := by
  intro c hc
  rcases List.mem_append.1 hc with hc | hc
  · have key : ∀ c ∈ hdR, isCharB c = true := by decide
    exact key c hc
  · rcases List.mem_cons.1 hc with rfl | hc
    · decide
    · rcases List.mem_append.1 hc with hc | hc
      · exact (line1_chars n hn c hc).1
      · rcases List.mem_cons.1 hc with rfl | hc
        · decide
        · exact (line2_chars m hm c hc).1
theorem no_nl {rs : List Int} (h : ∀ c ∈ rs, isCharB c = true ∧ c ≠ 10) : (10 : UInt8) ∉ encA rs := by
  intro hm
  obtain ⟨x, hx, hxm⟩ : ∃ x ∈ rs, (10 : UInt8) ∈ Lib.encodeRune x := by
    unfold encA at hm
    obtain ⟨l, hl1, hl2⟩ := List.mem_flatten.1 hm
    obtain ⟨x, hx, rfl⟩ := List.mem_map.1 hl1
    exact ⟨x, hx, hl2⟩
  have hxc := (h x hx).1
  have hx10 := (h x hx).2
  have hxb := isCharB_cases hxc
  rcases enc_shape hxc with ⟨k, b0, e, h0⟩ | ⟨k1, k2, b0, b1, e, h0, h1⟩ | ⟨k1, k2, k3, b0, b1, b2, e, h0, h1, h2⟩ | ⟨k1, k2, b0, b1, b2, b3, e, h0, h1, h2, h3⟩ <;> rw [e] at hxm <;> simp only [List.mem_cons, List.not_mem_nil, or_false] at hxm
  all_goals
    have ht : ((10 : UInt8).toNat : Int) = 10 := by decide
    first
      | (subst hxm; omega)
      | (rcases hxm with rfl | rfl <;> omega)
      | (rcases hxm with rfl | rfl | rfl <;> omega)
      | (rcases hxm with rfl | rfl | rfl | rfl <;> omega)
theorem enc_len_le : ∀ rs : List Int, (encA rs).length ≤ 4 * rs.length
  | [] => Nat.le_refl _
  | c :: rs => by
    have ih := enc_len_le rs
    have h1 := (Lib.encodeRuneZ_length c).2
    have h2 : (Lib.encodeRune c).length = (Lib.encodeRuneZ c).length := by simp [Lib.encodeRune]
    rw [encA_cons, List.length_append, List.length_cons]
    omega
theorem tail1_len : ∀ i k, (tail1 i k).length = 4 * k
  | _, 0 => rfl
  | i, k + 1 => by simp only [tail1, List.length_cons, tail1_len (i + 1) k]; omega
theorem tail2_len : ∀ i k, (tail2 i k).length = 2 * k
  | _, 0 => rfl
  | i, k + 1 => by simp only [tail2, List.length_cons, tail2_len (i + 1) k]; omega
theorem line1_len (n : Nat) : (line1 n).length ≤ 4 * n := by
  cases n with
  | zero => exact Nat.le_refl _
  | succ k => rw [line1, List.length_cons, tail1_len]; omega
theorem line2_len (n : Nat) : (line2 n).length ≤ 2 * n + 6 := by
  cases n with
  | zero => simp [line2]
  | succ k => rw [line2, List.length_append, tail2_len]; simp [igW]; omega

/-! words -/
theorem fR_tail1 : ∀ (i k : Nat) (w : List Int), fR (some w) (tail1 i k) = w :: (rng 19968 i k).flatMap fun c => [[60], [c]]
  | _, 0, w => rfl
  | i, k + 1, w => by
    have h : ¬ ((19968 : Int) + (i : Int) = 32) := by omega
    simp only [tail1, fR, if_true, if_neg h, if_neg (show ¬ ((60 : Int) = 32) by decide), rng, List.flatMap_cons, List.cons_append, List.nil_append]
    rw [fR_tail1 (i + 1) k]
theorem fR_tail2 : ∀ (i k : Nat) (w : List Int), fR (some w) (tail2 i k) = w :: (rng 28160 i k).map fun c => [c]
  | _, 0, w => rfl
  | i, k + 1, w => by
    have h : ¬ ((28160 : Int) + (i : Int) = 32) := by omega
    simp only [tail2, fR, if_true, if_neg h, rng, List.map_cons]
    rw [fR_tail2 (i + 1) k]
theorem enc_hi {c : Int} (h : isCharB c = true) (h1 : 128 ≤ c) : ∀ b ∈ Lib.encodeRune c, 128 ≤ b.toNat := by
  intro b hb
  rcases enc_shape h with ⟨k, b0, e, h0⟩ | ⟨k1, k2, b0, b1, e, h0, h1⟩ | ⟨k1, k2, k3, b0, b1, b2, e, h0, h1, h2⟩ | ⟨k1, k2, b0, b1, b2, b3, e, h0, h1, h2, h3⟩
  · omega
  · rw [e] at hb; simp at hb; rcases hb with rfl | rfl <;> omega
  · rw [e] at hb; simp at hb; rcases hb with rfl | rfl | rfl <;> omega
  · rw [e] at hb; simp at hb; rcases hb with rfl | rfl | rfl | rfl <;> omega
theorem charOf_one {c : Int} (hc : isCharB c = true) (h : 128 ≤ c) : charOf (mkB [c]) = some c := by
  have hd : (mkB [c]).data.toList = Lib.encodeRune c := by rw [mkB_data]; simp [encA]
  have ht := enc_text (s := mkB [c]) (rs := [c]) (fun x hx => by rw [List.mem_singleton.1 hx]; exact hc) (mkB_data _)
  have hlen : ∀ (w : ByteArray) (f p : Nat), (runesFrom w f p).length = Lib.runeCountFrom w f p := fun w f => by
    induction f with
    | zero => intro p; rfl
    | succ f ih =>
      intro p
      rw [runesFrom, Lib.runeCountFrom]
      by_cases hp : p < w.size
      · rw [if_pos hp, if_pos hp, List.length_cons, ih]; omega
      · rw [if_neg hp, if_neg hp]; rfl
  have hl1 : lenOf (mkB [c]) = 1 := by
    rw [lenOf_text ht.1]
    have h1 : Lib.runeCount (mkB [c]) = (runesOf (mkB [c])).length := (hlen _ _ _).symm
    rw [h1, ht.2]; rfl
  have hhi := enc_hi hc h
  have hpre : ([85, 43] : List UInt8).isPrefixOf (mkB [c]).data.toList = false := by
    rw [hd]
    cases he : Lib.encodeRune c with
    | nil => exact absurd he enc_ne
    | cons b l =>
      have := hhi b (by rw [he]; exact List.mem_cons_self ..)
      simp only [List.isPrefixOf]
      have hb : ((85 : UInt8) == b) = false := by
        rw [beq_eq_false_iff_ne]
        rintro rfl
        exact absurd this (by decide)
      rw [hb]; rfl
  have hsg : signB (mkB [c]) = false := by
    have key : ∀ x : UInt8, x.toNat < 128 → (mkB [c]).toList ≠ [x] := fun x hx e => by
      rw [Lib.toList_data, hd] at e
      have := hhi x (by rw [e]; exact List.mem_singleton.2 rfl)
      omega
    simp only [signB, Bool.or_eq_false_iff, beq_eq_false_iff_ne]
    exact ⟨⟨key 60 (by decide), key 44 (by decide)⟩, key 59 (by decide)⟩
  unfold charOf
  simp only [hpre, Bool.false_and, Bool.false_eq_true, if_false, hl1, hsg]
  rw [rune0_of hc hd]
  rfl
theorem sign60 : signB (mkB [60]) = true := by decide +kernel
theorem form_tail : ∀ (i k : Nat), i + k ≤ 5000 → formL true (((rng 19968 i k).flatMap fun c => [[60], [c]]).map mkB) = some (rng 19968 i k)
  | _, 0, _ => rfl
  | i, k + 1, h => by
    have ih := form_tail (i + 1) k (by omega)
    have hc := charOf_one (c := 19968 + (i : Int)) (char_big (by omega) (by omega)) (by omega)
    simp only [rng, List.flatMap_cons, List.cons_append, List.nil_append, List.map_cons, formL, sign60, if_true, hc, ih]
theorem charsOf_rng : ∀ (i k : Nat), i + k ≤ 5000 → charsOf (((rng 28160 i k).map fun c => [c]).map mkB) = some (rng 28160 i k)
  | _, 0, _ => rfl
  | i, k + 1, h => by
    have ih := charsOf_rng (i + 1) k (by omega)
    have hc := charOf_one (c := 28160 + (i : Int)) (char_big (by omega) (by omega)) (by omega)
    simp only [rng, List.map_cons, charsOf, hc, ih]
theorem inM_fst (M : List (Int × W3)) (c : Int) : inM M c = true ↔ c ∈ M.map (·.1) := by
  simp only [inM, List.any_eq_true, beq_iff_eq, List.mem_map]
theorem listPut_new (ws : List ByteArray) : ∀ (cs : List Int) (i : Nat) (t : CT), cs.Nodup → (∀ c ∈ cs, c ∉ t.M.map (·.1)) → ∃ t', listPut ws i cs t = some t' ∧ t'.M.map (·.1) = t.M.map (·.1) ++ cs
  | [], i, t, _, _ => ⟨t, rfl, by simp⟩
  | c :: cs, i, t, hn, hd => by
    rw [List.nodup_cons] at hn
    have h1 : ¬ (inM t.M c = true) := fun h => hd c (List.mem_cons_self ..) ((inM_fst _ _).1 h)
    simp only [listPut, if_neg h1]
    obtain ⟨t', q1, q2⟩ := listPut_new ws cs (i + 1) { t with last := afterW t.last (signAt ws i), M := t.M ++ [(c, afterW t.last (signAt ws i))] } hn.2 (fun d hdm => by
      simp only [List.map_append, List.map_cons, List.map_nil, List.mem_append, List.mem_singleton, not_or]
      exact ⟨hd d (List.mem_cons_of_mem _ hdm), fun e => hn.1 (e ▸ hdm)⟩)
    exact ⟨t', q1, by rw [q2]; simp⟩
theorem putAll_new : ∀ (cs : List Int) (M : List (Int × W3)), cs.Nodup → (∀ c ∈ cs, c ∉ M.map (·.1)) → ∃ M', putAll M (cs.map fun c => (c, (0, 0, 0))) = some M' ∧ M'.map (·.1) = M.map (·.1) ++ cs
  | [], M, _, _ => ⟨M, rfl, by simp⟩
  | c :: cs, M, hn, hd => by
    rw [List.nodup_cons] at hn
    have h1 : ¬ (inM M c = true) := fun h => hd c (List.mem_cons_self ..) ((inM_fst _ _).1 h)
    simp only [List.map_cons, putAll, if_neg h1]
    obtain ⟨M', q1, q2⟩ := putAll_new cs (M ++ [(c, (0, 0, 0))]) hn.2 (fun d hdm => by
      simp only [List.map_append, List.map_cons, List.map_nil, List.mem_append, List.mem_singleton, not_or]
      exact ⟨hd d (List.mem_cons_of_mem _ hdm), fun e => hn.1 (e ▸ hdm)⟩)
    exact ⟨M', q1, by rw [q2]; simp⟩

/-- The line with the listed characters. -/
theorem add_line1 (n : Nat) (hn : n ≤ 4100) {s : ByteArray} (hs : s.data.toList = encA (line1 n)) : (addP t0 (wordsOf s)).2 = fullE n ∧ (n ≤ 4096 → (addP t0 (wordsOf s)).1.M.map (·.1) = rng 19968 0 n) := by
  rw [words_enc (fun c hc => (line1_chars n hn c hc).1) hs]
  cases n with
  | zero => exact ⟨rfl, fun _ => rfl⟩
  | succ k =>
    have hw : fR none (line1 (k + 1)) = [19968] :: (rng 19968 1 k).flatMap fun c => [[60], [c]] := by
      rw [line1]
      simp only [fR, if_neg (show ¬ ((19968 : Int) = 32) by decide)]
      exact fR_tail1 1 k [19968]
    rw [hw, List.map_cons]
    have h1 : ¬ ((mkB [19968]).data.toList.head? = some 35) := by decide +kernel
    have h2 : ¬ ((mkB [19968]).toList = [115, 116, 114, 101, 110, 103, 116, 104]) := by decide +kernel
    have h3 : ¬ ((mkB [19968]).toList = [105, 103, 110, 111, 114, 101]) := by decide +kernel
    have hf := form_tail 1 k (by omega)
    have hc0 := charOf_one (c := 19968) (by decide) (by decide)
    obtain ⟨tl, htl⟩ : ∃ tl, tl = ((rng 19968 1 k).flatMap fun c => [[60], [c]]).map mkB := ⟨_, rfl⟩
    rw [← htl] at hf ⊢
    have hlen : tl.length = 2 * k := by
      rw [htl, List.length_map, List.length_flatMap]
      have : ∀ l : List Int, (l.map fun c => ([[60], [c]] : List (List Int)).length).sum = 2 * l.length := fun l => by
        induction l with
        | nil => rfl
        | cons a l ih => rw [List.map_cons, List.sum_cons, ih, List.length_cons]; simp; omega
      rw [this, rng_len]
    have hform : formL false (mkB [19968] :: tl) = some (rng 19968 0 (k + 1)) := by
      simp only [formL, hc0, hf]; rfl
    have hadd : addP t0 (mkB [19968] :: tl) = listP t0 (mkB [19968] :: tl) := by
      simp only [addP, if_neg h1, if_neg h2, if_neg h3]
    obtain ⟨t', q1, q2⟩ := listPut_new (mkB [19968] :: tl) (rng 19968 0 (k + 1)) 0 t0 (rng_nodup _ _ _) (fun c _ h => by cases h)
    have hpar : ¬ ((mkB [19968] :: tl).length % 2 = 0) := by rw [List.length_cons, hlen]; omega
    have hM : t'.M.length = k + 1 := by
      have := congrArg List.length q2
      simpa [t0, rng_len] using this
    rw [hadd]
    simp only [listP, hform, if_neg hpar, q1, hM]
    exact ⟨trivial, fun _ => by rw [q2]; rfl⟩
/-- The line with the ignored ones, behind it. -/
theorem add_line2 (n m : Nat) (hn : n ≤ 4096) (hm : m ≤ 4100) (t : CT) (ht : t.M.map (·.1) = rng 19968 0 n) {s : ByteArray} (hs : s.data.toList = encA (line2 m)) : (addP t (wordsOf s)).2 = fullE (n + m) := by
  have hlen : t.M.length = n := by
    have := congrArg List.length ht
    simpa [rng_len] using this
  rw [words_enc (fun c hc => (line2_chars m hm c hc).1) hs]
  cases m with
  | zero =>
    show (0 : Int) = fullE (n + 0)
    unfold fullE
    rw [if_neg (by omega)]
  | succ k =>
    have hw : fR none (line2 (k + 1)) = igW :: (rng 28160 0 (k + 1)).map fun c => [c] := by
      rw [line2]
      exact fR_tail2 0 (k + 1) igW
    have hig : mkB igW = igB := igB_enc
    rw [hw, List.map_cons, hig, addP_ig]
    have hc := charsOf_rng 0 (k + 1) (by omega)
    obtain ⟨M', q1, q2⟩ := putAll_new (rng 28160 0 (k + 1)) t.M (rng_nodup _ _ _) (fun c hc h => by
      rw [ht] at h
      have h1 := rng_mem _ _ _ _ hc
      have h2 := rng_mem _ _ _ _ h
      omega)
    have hM : M'.length = n + (k + 1) := by
      have := congrArg List.length q2
      simpa [hlen, rng_len] using this
    unfold ignoreP
    rw [hc]
    simp only [rng]
    have hq : putAll t.M (((28160 + ((0 : Nat) : Int)) :: rng 28160 (0 + 1) k).map fun c => (c, ((0, 0, 0) : W3))) = some M' := q1
    rw [hq]
    simp only [hM]

/-- What Parse makes of the description. -/
theorem desc_parse (n m : Nat) (hn : n ≤ 4100) (hm : m ≤ 4100) {s : ByteArray} (hs : s.data.toList = encA (descR n m)) :
    (parseP s).1 = (if 4096 < n then 2 else if 4096 < n + m then 3 else 0) ∧ (parseP s).2.1 = (if 4096 < n + m then 2 else 0) := by
  have hz : s.size ≤ 100000 := by
    rw [Lib.size_eq, hs]
    have h1 := enc_len_le (descR n m)
    have h2 := line1_len n
    have h3 := line2_len m
    have h4 : (descR n m).length = 12 + (1 + ((line1 n).length + (1 + (line2 m).length))) := by
      simp [descR, hdR]; omega
    omega
  have ht := (enc_text (desc_chars n m hn hm) hs).1
  have hl : linesOf s = [mkB hdR, mkB (line1 n), mkB (line2 m)] := by
    have e : s = mkB hdR ++ (nl ++ (mkB (line1 n) ++ (nl ++ mkB (line2 m)))) := data_inj (by
      rw [hs, descR, encA_app, encA_cons, encA_app, encA_cons]
      have : Lib.encodeRune 10 = [10] := by decide
      rw [this]
      simp [mkB, nl])
    rw [e, lines_app, lines_app, lines_one (by rw [mkB_data]; decide +kernel), lines_one (by rw [mkB_data]; exact no_nl (line1_chars n hn)), lines_one (by rw [mkB_data]; exact no_nl (line2_chars m hm))]
    rfl
  have hp : parseP s = ((parseL 0 t0 [mkB hdR, mkB (line1 n), mkB (line2 m)]).1, (parseL 0 t0 [mkB hdR, mkB (line1 n), mkB (line2 m)]).2.1, { (parseL 0 t0 [mkB hdR, mkB (line1 n), mkB (line2 m)]).2.2 with st := if (parseL 0 t0 [mkB hdR, mkB (line1 n), mkB (line2 m)]).2.2.st = 0 then 3 else (parseL 0 t0 [mkB hdR, mkB (line1 n), mkB (line2 m)]).2.2.st }) := by
    unfold parseP
    rw [if_neg (by omega), if_neg (by rw [ht]; decide), hl]
  have h0 : addP t0 (wordsOf (mkB hdR)) = (t0, 0) := by
    have : wordsOf (mkB hdR) = [mkB [35], mkB [99, 104, 97, 114, 97, 99, 116, 101, 114, 115]] := by decide +kernel
    rw [this]
    have h1 : (mkB [35]).data.toList.head? = some 35 := by decide +kernel
    simp only [addP, if_pos h1]
  have h1 := add_line1 n hn (mkB_data (line1 n))
  rw [hp]
  simp only [parseL, h0, if_true]
  by_cases hn1 : 4096 < n
  · have hf : fullE n = 2 := by unfold fullE; rw [if_pos hn1]
    rw [hf] at h1
    rw [h1.1, if_neg (by decide), if_pos hn1, if_pos (by omega)]
    exact ⟨rfl, rfl⟩
  · have hf : fullE n = 0 := by unfold fullE; rw [if_neg hn1]
    rw [hf] at h1
    rw [h1.1, if_pos rfl]
    have h2 := add_line2 n m (by omega) hm _ (h1.2 (by omega)) (mkB_data (line2 m))
    rw [if_neg hn1]
    by_cases hm1 : 4096 < n + m
    · have hf2 : fullE (n + m) = 2 := by unfold fullE; rw [if_pos hm1]
      rw [h2, hf2, if_neg (by decide), if_pos hm1, if_pos hm1]
      exact ⟨rfl, rfl⟩
    · have hf2 : fullE (n + m) = 0 := by unfold fullE; rw [if_neg hm1]
      rw [h2, hf2, if_pos rfl, if_neg hm1, if_neg hm1]
      exact ⟨rfl, rfl⟩

/-! a long remark -/
theorem fR_word (w : List Int) : ∀ rs : List Int, (∀ c ∈ rs, c ≠ 32) → fR (some w) rs = [w ++ rs]
  | [], _ => by simp [fR]
  | c :: rs, h => by
    rw [fR, if_neg (h c (List.mem_cons_self ..)), fR_word (w ++ [c]) rs (fun x hx => h x (List.mem_cons_of_mem _ hx))]
    simp
theorem remark_parse (k : Nat) {s : ByteArray} (hs : s.data.toList = encA (35 :: List.replicate k 120)) (hz : s.size ≤ 1048576) : (parseP s).1 = 0 ∧ (parseP s).2.1 = 0 := by
  have hc : ∀ c ∈ ((35 : Int) :: List.replicate k 120), isCharB c = true ∧ c ≠ 10 := fun c h => by
    rcases List.mem_cons.1 h with rfl | h
    · decide
    · rw [List.eq_of_mem_replicate h]; decide
  have ht := (enc_text (fun c h => (hc c h).1) hs).1
  have hl : linesOf s = [s] := lines_one (by rw [hs]; exact no_nl hc)
  have hw : wordsOf s = [s] := by
    rw [words_enc (fun c h => (hc c h).1) hs]
    have e : fR none ((35 : Int) :: List.replicate k 120) = [35 :: List.replicate k 120] := by
      rw [fR, if_neg (by decide), fR_word [35] _ (fun c h => by rw [List.eq_of_mem_replicate h]; decide)]; rfl
    rw [e]
    simp only [List.map_cons, List.map_nil]
    rw [← mkB_of hs]
  have hh : s.data.toList.head? = some 35 := by
    rw [hs, encA_cons]
    have : Lib.encodeRune 35 = [35] := by decide
    rw [this]; rfl
  have h0 : addP t0 [s] = (t0, 0) := by simp only [addP, if_pos hh]
  unfold parseP
  rw [if_neg (by omega), if_neg (by rw [ht]; decide), hl]
  simp only [parseL, hw, h0, if_true]
  exact ⟨trivial, trivial⟩
theorem remark_long {s : ByteArray} (hz : 1048576 < s.size) : (parseP s).1 = 0 ∧ (parseP s).2.1 = 2 := by
  unfold parseP
  rw [if_pos hz]
  exact ⟨rfl, rfl⟩
end Go.Proofs.YtibhifjehbajnaaDoor
