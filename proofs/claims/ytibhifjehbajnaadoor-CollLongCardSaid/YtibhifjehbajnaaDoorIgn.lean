/- CollIgnored, the plain law: words of a line by its characters; a description with one more line that ignores a character; keys without it; all instances of a character taken out of a text. -/
import Derived.Test.YtibhifjehbajnaaDoorUtf
import Derived.Test.YtibhifjehbajnaaDoorLev
import Derived.Lib.ReplaceLaws
namespace Go.Proofs.YtibhifjehbajnaaDoor
open Go.RowKit Go.Maps
set_option linter.unusedVariables false

def mkB (rs : List Int) : ByteArray := ⟨(encA rs).toArray⟩
theorem mkB_data (rs : List Int) : (mkB rs).data.toList = encA rs := by simp [mkB]
theorem mkB_of {s : ByteArray} {rs : List Int} (h : s.data.toList = encA rs) : s = mkB rs := data_inj (by rw [h, mkB_data])

/-! words -/
def fR : Option (List Int) → List Int → List (List Int)
  | none, [] => []
  | some w, [] => [w]
  | none, c :: rs => if c = 32 then fR none rs else fR (some [c]) rs
  | some w, c :: rs => if c = 32 then w :: fR none rs else fR (some (w ++ [c])) rs
def closed (s : ByteArray) (x : List (Nat × Nat) × Option Nat) : List ByteArray := (Lib.closeSpans s x).map fun x => s.extract x.1 x.2
theorem ext_data (s : ByteArray) (a p : Nat) (h : a ≤ p) (hp : p ≤ s.size) : (s.extract a p).data.toList = (s.data.toList.drop a).take (p - a) := by simp [ByteArray.data_extract, Array.toList_extract]
theorem drop_step {s : ByteArray} {p : Nat} {c : Int} {rs : List Int} (hd : s.data.toList.drop p = encA (c :: rs)) : s.data.toList.drop (p + (Lib.encodeRune c).length) = encA rs := by
  rw [← List.drop_drop, hd, encA_cons, List.drop_left]
theorem ext_step {s : ByteArray} {a p : Nat} {c : Int} {w rs : List Int} (ha : a ≤ p) (hw : (s.data.toList.drop a).take (p - a) = encA w) (hd : s.data.toList.drop p = encA (c :: rs)) :
    (s.data.toList.drop a).take (p + (Lib.encodeRune c).length - a) = encA (w ++ [c]) := by
  have e : p + (Lib.encodeRune c).length - a = (p - a) + (Lib.encodeRune c).length := by omega
  rw [e, List.take_add, hw, List.drop_drop, show a + (p - a) = p by omega, hd, encA_cons, List.take_left, encA_app]
  simp [encA]
theorem words_from (s : ByteArray) : ∀ (rs : List Int) (f p : Nat) (acc : List (Nat × Nat)), Chars rs → s.data.toList.drop p = encA rs → p ≤ s.size → s.size ≤ p + f →
    closed s (Lib.spansFromP (fun r => r == 32) s f p none acc) = acc.map (fun x => s.extract x.1 x.2) ++ (fR none rs).map mkB ∧
    ∀ a w, a ≤ p → (s.data.toList.drop a).take (p - a) = encA w → closed s (Lib.spansFromP (fun r => r == 32) s f p (some a) acc) = acc.map (fun x => s.extract x.1 x.2) ++ (fR (some w) rs).map mkB
  | [], f, p, acc, _, hd, hp, hf => by
    have hl : (s.data.toList.drop p).length = 0 := by rw [hd]; rfl
    rw [List.length_drop, ← Lib.size_eq] at hl
    have hlt : ¬ p < s.size := by omega
    refine ⟨?_, fun a w ha hw => ?_⟩
    · rw [Lib.spansFromP_end _ _ _ _ _ _ hlt]
      simp [closed, Lib.closeSpans, fR]
    · rw [Lib.spansFromP_end _ _ _ _ _ _ hlt]
      have e : s.extract a s.size = mkB w := mkB_of (by rw [ext_data _ _ _ (by omega) (Nat.le_refl _), ← hw, show p = s.size by omega])
      simp [closed, Lib.closeSpans, fR, e]
  | c :: rs, f, p, acc, hc, hd, hp, hf => by
    have h1 := hc c (List.mem_cons_self ..)
    have hn := isCharB_cases h1
    have hw0 : 0 < (Lib.encodeRune c).length := List.length_pos_iff.2 enc_ne
    have hl := congrArg List.length hd
    rw [List.length_drop, ← Lib.size_eq, encA_cons, List.length_append] at hl
    have hlt : p < s.size := by omega
    obtain ⟨g, rfl⟩ : ∃ g, f = g + 1 := ⟨f - 1, by omega⟩
    have hdec : Utf8.decode s p = (c.toNat, (Lib.encodeRune c).length) := by
      rw [← Lib.decodeL_drop, hd, encA_cons, decode_encode h1]
    have hd2 := drop_step hd
    have hcs : Chars rs := fun x hx => hc x (List.mem_cons_of_mem _ hx)
    have hs : (c.toNat == 32) = true ↔ c = 32 := by rw [beq_iff_eq]; omega
    refine ⟨?_, fun a w ha hw => ?_⟩
    · simp only [Lib.spansFromP, if_pos hlt, hdec, fR]
      by_cases h32 : c = 32
      · rw [if_pos (hs.2 h32), if_pos h32]
        exact (words_from s rs g _ acc hcs hd2 (by omega) (by omega)).1
      · rw [if_neg (fun h => h32 (hs.1 h)), if_neg h32]
        refine (words_from s rs g _ acc hcs hd2 (by omega) (by omega)).2 p [c] (by omega) ?_
        rw [hd, encA_cons, show p + (Lib.encodeRune c).length - p = (Lib.encodeRune c).length by omega, List.take_left]
        simp [encA]
    · simp only [Lib.spansFromP, if_pos hlt, hdec, fR]
      by_cases h32 : c = 32
      · rw [if_pos (hs.2 h32), if_pos h32]
        rw [(words_from s rs g _ (acc ++ [(a, p)]) hcs hd2 (by omega) (by omega)).1]
        have e : s.extract a p = mkB w := mkB_of (by rw [ext_data _ _ _ ha hp, hw])
        simp [e]
      · rw [if_neg (fun h => h32 (hs.1 h)), if_neg h32]
        exact (words_from s rs g _ acc hcs hd2 (by omega) (by omega)).2 a (w ++ [c]) (by omega) (ext_step ha hw hd)
/-- The words of a line, by its characters. -/
theorem words_enc {s : ByteArray} {rs : List Int} (hc : Chars rs) (h : s.data.toList = encA rs) : wordsOf s = (fR none rs).map mkB := by
  have := (words_from s rs s.size 0 [] hc (by simpa using h) (Nat.zero_le _) (by omega)).1
  simpa [wordsOf, Lib.goFieldsP, Lib.spansOfP, closed] using this

/-! one line more -/
theorem cut1_none (c : UInt8) : ∀ l : List UInt8, c ∉ l → cut1 c l = [l]
  | [], _ => rfl
  | b :: l, h => by
    rw [List.mem_cons, not_or] at h
    rw [cut1, if_neg (fun e => h.1 e.symm), cut1_none c l h.2]
theorem lines_one {v : ByteArray} (h : (10 : UInt8) ∉ v.data.toList) : linesOf v = [v] := by
  apply map_data_inj
  rw [lines_data, cut1_none 10 _ h]; rfl
def igB : ByteArray := ⟨#[105, 103, 110, 111, 114, 101]⟩
def igS : ByteArray := ⟨#[105, 103, 110, 111, 114, 101, 32]⟩
def igR : List Int := [105, 103, 110, 111, 114, 101, 32]
theorem igR_chars : Chars igR := by decide
theorem igS_enc : igS.data.toList = encA igR := by decide +kernel
theorem igB_enc : mkB [105, 103, 110, 111, 114, 101] = igB := by decide +kernel
theorem lenOf_one {w : ByteArray} (h : lenOf w = 1) : isText w = true ∧ ∃ c, runesOf w = [c] ∧ isCharB c = true ∧ w.data.toList = Lib.encodeRune c := by
  have ht : isText w = true := by
    cases hc : isText w with
    | true => rfl
    | false => rw [lenOf_none hc] at h; omega
  refine ⟨ht, ?_⟩
  have hlen : ∀ (f p : Nat), (runesFrom w f p).length = Lib.runeCountFrom w f p := fun f => by
    induction f with
    | zero => intro p; rfl
    | succ f ih =>
      intro p
      rw [runesFrom, Lib.runeCountFrom]
      by_cases hp : p < w.size
      · rw [if_pos hp, if_pos hp, List.length_cons, ih]; omega
      · rw [if_neg hp, if_neg hp]; rfl
  have hr := hlen w.size 0
  rw [lenOf_text ht] at h
  have h1 : (runesOf w).length = 1 := by
    show (runesFrom w w.size 0).length = 1
    rw [hr]
    have : Lib.runeCount w = Lib.runeCountFrom w w.size 0 := rfl
    omega
  obtain ⟨c, hc⟩ := List.length_eq_one_iff.1 h1
  have he := text_enc ht
  rw [hc] at he
  exact ⟨c, hc, he.2 c (List.mem_singleton.2 rfl), by rw [he.1]; simp [encA]⟩
theorem rune0_of {w : ByteArray} {c : Int} (hc : isCharB c = true) (h : w.data.toList = Lib.encodeRune c) : rune0 w = c := by
  have hn := isCharB_cases hc
  unfold rune0
  rw [← Lib.decodeL_drop, List.drop_zero, h, ← List.append_nil (Lib.encodeRune c), decode_encode hc]
  show ((c.toNat : Nat) : Int) = c
  omega
theorem addP_ig (t : CT) (r : List ByteArray) : addP t (igB :: r) = ignoreP t r := by
  have h1 : ¬ (igB.data.toList.head? = some 35) := by decide
  have h2 : ¬ (igB.toList = [115, 116, 114, 101, 110, 103, 116, 104]) := by decide +kernel
  have h3 : igB.toList = [105, 103, 110, 111, 114, 101] := by decide +kernel
  simp only [addP, if_neg h1, if_neg h2, if_pos h3]
/-- The words of the line. -/
theorem ig_words {w : ByteArray} {c : Int} (hc : isCharB c = true) (h : w.data.toList = Lib.encodeRune c) : wordsOf (igS ++ w) = if c = 32 then [igB] else [igB, w] := by
  have hd : (igS ++ w).data.toList = encA (igR ++ [c]) := by
    rw [encA_app, ← igS_enc]
    simp [encA, h]
  rw [words_enc (rs := igR ++ [c]) (fun x hx => (List.mem_append.1 hx).elim (igR_chars x) (fun hx => by rw [List.mem_singleton.1 hx]; exact hc)) hd]
  have hw : w = mkB [c] := mkB_of (by rw [h]; simp [encA])
  by_cases h32 : c = 32
  · rw [if_pos h32, h32]
    simp [igR, fR, igB_enc]
  · rw [if_neg h32]
    simp [igR, fR, h32, igB_enc, ← hw]
theorem inM_app (M : List (Int × W3)) (c d : Int) (x : W3) : inM (M ++ [(c, x)]) d = (inM M d || c == d) := by simp [inM]
theorem getW_new {M : List (Int × W3)} {c : Int} (h : inM M c = false) (x z : W3) : getW (M ++ [(c, x)]) c z = x := by
  unfold getW
  have : M.find? (fun p => p.1 == c) = none := by
    rw [List.find?_eq_none]
    intro p hp
    have := List.any_eq_false.1 h p hp
    simpa using this
  rw [List.find?_append, this]
  simp
/-- A description with one more line that ignores a character: its weights are none. -/
theorem ig_weight (a w : ByteArray) (c : Int) (ha : a.size ≤ 2000) (hc : isCharB c = true) (hw : w.data.toList = Lib.encodeRune c) (hl : lenOf w = 1) (he : (parseP (a ++ (nl ++ (igS ++ w)))).2.1 = 0) :
    weightOf (tabOf (a ++ (nl ++ (igS ++ w)))) c = (0, 0, 0) := by
  have hP := he
  unfold parseP at hP
  by_cases hb : 1048576 < (a ++ (nl ++ (igS ++ w))).size
  · rw [if_pos hb] at hP; exact absurd hP (by decide)
  · rw [if_neg hb] at hP
    by_cases ht : isText (a ++ (nl ++ (igS ++ w))) = false
    · rw [if_pos ht] at hP; exact absurd hP (by decide)
    · rw [if_neg ht, lines_app] at hP
      have hT : tabOf (a ++ (nl ++ (igS ++ w))) = { (parseL 0 t0 (linesOf a ++ linesOf (igS ++ w))).2.2 with st := if (parseL 0 t0 (linesOf a ++ linesOf (igS ++ w))).2.2.st = 0 then 3 else (parseL 0 t0 (linesOf a ++ linesOf (igS ++ w))).2.2.st } := by
        unfold tabOf
        rw [if_pos he]
        unfold parseP
        rw [if_neg hb, if_neg ht, lines_app]
      have he2 : (parseL 0 t0 (linesOf a ++ linesOf (igS ++ w))).2.1 = 0 := hP
      obtain ⟨q1, q2⟩ := parseL_app (linesOf a) 0 t0 (linesOf (igS ++ w)) he2
      rw [q2] at hT he2
      generalize parseL 0 t0 (linesOf a) = T at *
      by_cases h10 : c = 10
      · exfalso
        have hw10 : w = nl := data_inj (by rw [hw, h10]; decide)
        have e1 : igS ++ w = igS ++ (nl ++ ByteArray.empty) := by rw [hw10]; rfl
        have e2 : linesOf igS = [igS] := by decide +kernel
        have e3 : wordsOf igS = [igB] := by decide +kernel
        rw [e1, lines_app, e2, List.singleton_append, parseL, e3, addP_ig] at he2
        have e4 : (ignoreP T.2.2 []).2 = 5 := rfl
        rw [e4] at he2
        rw [if_neg (by decide)] at he2
        exact absurd (show (5 : Int) = 0 from he2) (by decide)
      · have hno : (10 : UInt8) ∉ (igS ++ w).data.toList := by
          have e1 : (igS ++ w).data.toList = encA (igR ++ [c]) := by rw [encA_app, ← igS_enc]; simp [encA, hw]
          rw [e1]
          intro hm
          rcases (show ∃ x ∈ igR ++ [c], (10 : UInt8) ∈ Lib.encodeRune x by
            unfold encA at hm
            obtain ⟨l, hl1, hl2⟩ := List.mem_flatten.1 hm
            obtain ⟨x, hx, rfl⟩ := List.mem_map.1 hl1
            exact ⟨x, hx, hl2⟩) with ⟨x, hx, hxm⟩
          have hxc : isCharB x = true := (List.mem_append.1 hx).elim (igR_chars x) (fun hx => by rw [List.mem_singleton.1 hx]; exact hc)
          have hx10 : x ≠ 10 := by
            rcases List.mem_append.1 hx with h | h
            · revert h; simp only [igR, List.mem_cons, List.not_mem_nil, or_false]; omega
            · rw [List.mem_singleton.1 h]; exact h10
          have hxb := isCharB_cases hxc
          rcases enc_shape hxc with ⟨k, b0, e, h0⟩ | ⟨k1, k2, b0, b1, e, h0, h1⟩ | ⟨k1, k2, k3, b0, b1, b2, e, h0, h1, h2⟩ | ⟨k1, k2, b0, b1, b2, b3, e, h0, h1, h2, h3⟩ <;> rw [e] at hxm <;> simp only [List.mem_cons, List.not_mem_nil, or_false] at hxm
          all_goals
            have ht : ((10 : UInt8).toNat : Int) = 10 := by decide
            first
              | (subst hxm; omega)
              | (rcases hxm with rfl | rfl <;> omega)
              | (rcases hxm with rfl | rfl | rfl <;> omega)
              | (rcases hxm with rfl | rfl | rfl | rfl <;> omega)
        rw [lines_one hno] at hT he2
        rw [parseL, ig_words hc hw] at hT he2
        by_cases h32 : c = 32
        · exfalso
          rw [if_pos h32, addP_ig] at he2
          have e4 : (ignoreP T.2.2 []).2 = 5 := rfl
          rw [e4, if_neg (by decide)] at he2
          exact absurd (show (5 : Int) = 0 from he2) (by decide)
        · rw [if_neg h32, addP_ig] at hT he2
          by_cases hz : (ignoreP T.2.2 [w]).2 = 0
          · rw [if_pos hz] at hT
            simp only [parseL] at hT
            cases hch : charOf w with
            | none =>
              exfalso
              have e5 : (ignoreP T.2.2 [w]).2 = 5 := by simp [ignoreP, charsOf, hch]
              rw [e5] at hz; exact absurd hz (by decide)
            | some c' =>
              have hcc : c' = c := by
                unfold charOf at hch
                simp only at hch
                split at hch
                · rename_i hpre
                  exfalso
                  simp only [Bool.and_eq_true, decide_eq_true_eq] at hpre
                  have hp1 := hpre.1.1
                  have hlen3 := hpre.1.2
                  rw [hw] at hp1 hlen3
                  rcases enc_shape hc with ⟨k, b0, e, h0⟩ | ⟨k1, k2, b0, b1, e, h0, h1⟩ | ⟨k1, k2, k3, b0, b1, b2, e, h0, h1, h2⟩ | ⟨k1, k2, b0, b1, b2, b3, e, h0, h1, h2, h3⟩
                  all_goals
                    rw [e] at hp1 hlen3
                    simp [List.isPrefixOf] at hp1 hlen3
                  · obtain ⟨g1, g2⟩ := hp1
                    rw [← g1] at h0
                    have : ((85 : UInt8).toNat : Int) = 85 := by decide
                    omega
                  · obtain ⟨g1, g2⟩ := hp1
                    rw [← g1] at h0
                    have : ((85 : UInt8).toNat : Int) = 85 := by decide
                    omega
                · split at hch
                  · injection hch with hch
                    rw [← hch]; exact rune0_of hc hw
                  · cases hch
              rw [hcc] at hch
              cases hin : inM T.2.2.M c with
              | true =>
                exfalso
                have e5 : (ignoreP T.2.2 [w]).2 = 4 := by simp [ignoreP, charsOf, hch, putAll, hin]
                rw [e5] at hz; exact absurd hz (by decide)
              | false =>
                have e6 : (ignoreP T.2.2 [w]).1.M = T.2.2.M ++ [(c, (0, 0, 0))] := by simp [ignoreP, charsOf, hch, putAll, hin]
                unfold weightOf
                rw [hT]
                dsimp only
                rw [e6, inM_app, getW_new hin]
                simp
          · exfalso
            rw [if_neg hz] at he2
            exact hz he2

/-! keys -/
theorem lev1_ig {t : CT} {c : Int} (h : weightOf t c = (0, 0, 0)) (k : Nat) : lev1 t k c = [] := by
  unfold lev1
  rw [h]
  have : comp (0, 0, 0) k = 0 := by unfold comp; split <;> rfl
  rw [this]; rfl
theorem level_ig {t : CT} {c : Int} (h : weightOf t c = (0, 0, 0)) (k : Nat) (x y : List Int) : levelOf t k (x ++ c :: y) = levelOf t k (x ++ y) := by
  rw [level_app, level_app, levelOf_cons, lev1_ig h, List.nil_append]
theorem level_out {t : CT} {c : Int} (h : weightOf t c = (0, 0, 0)) (k : Nat) : ∀ x : List Int, levelOf t k (x.filter (· != c)) = levelOf t k x
  | [] => rfl
  | a :: x => by
    by_cases e : a = c
    · subst e
      rw [List.filter_cons_of_neg (by simp), levelOf_cons, lev1_ig h, List.nil_append, level_out h k x]
    · rw [List.filter_cons_of_pos (by simpa using e), levelOf_cons, levelOf_cons, level_out h k x]
theorem key_of_levels {t : CT} {a b : ByteArray} (ha : isText a = true) (hb : isText b = true) (h : ∀ k, levelOf t k (runesOf a) = levelOf t k (runesOf b)) : keyP t a = keyP t b := by
  unfold keyP keyK
  rw [if_pos ha, if_pos hb, h, h, h]

/-! all instances taken out -/
theorem enc_lead {c : Int} (hc : isCharB c = true) : ∃ b l, Lib.encodeRune c = b :: l ∧ (b.toNat < 128 ∨ 192 ≤ b.toNat) ∧ ∀ x ∈ l, 128 ≤ x.toNat ∧ x.toNat < 192 := by
  have hb := isCharB_cases hc
  rcases enc_shape hc with ⟨k, b0, e, h0⟩ | ⟨k1, k2, b0, b1, e, h0, h1⟩ | ⟨k1, k2, k3, b0, b1, b2, e, h0, h1, h2⟩ | ⟨k1, k2, b0, b1, b2, b3, e, h0, h1, h2, h3⟩
  · exact ⟨b0, [], e, by omega, fun x hx => by cases hx⟩
  · exact ⟨b0, [b1], e, by omega, fun x hx => by rw [List.mem_singleton.1 hx]; omega⟩
  · exact ⟨b0, [b1, b2], e, by omega, fun x hx => by
      simp only [List.mem_cons, List.not_mem_nil, or_false] at hx
      rcases hx with rfl | rfl <;> omega⟩
  · exact ⟨b0, [b1, b2, b3], e, by omega, fun x hx => by
      simp only [List.mem_cons, List.not_mem_nil, or_false] at hx
      rcases hx with rfl | rfl | rfl <;> omega⟩
/-- No instance begins behind a lead byte. -/
theorem no_cont {w : List UInt8} {b : UInt8} {r : List UInt8} (hw : w = b :: r) (hb : b.toNat < 128 ∨ 192 ≤ b.toNat) : ∀ (l X : List UInt8), (∀ x ∈ l, 128 ≤ x.toNat ∧ x.toNat < 192) →
    Lib.index (l ++ X) w = if Lib.index X w = -1 then -1 else (l.length : Int) + Lib.index X w
  | [], X, _ => by
    have := Lib.index_ge X w
    split
    · assumption
    · simp
  | x :: l, X, h => by
    have hx := h x (List.mem_cons_self ..)
    have ih := no_cont hw hb l X (fun y hy => h y (List.mem_cons_of_mem _ hy))
    have hge := Lib.index_ge X w
    have hp : w.isPrefixOf (x :: (l ++ X)) = false := by
      rw [hw]
      simp only [List.isPrefixOf]
      have : (b == x) = false := by
        rw [beq_eq_false_iff_ne]
        rintro rfl
        omega
      rw [this]; rfl
    rw [List.cons_append, Lib.index, hp, ih]
    simp only [Bool.false_eq_true, if_false]
    by_cases h0 : Lib.index X w = -1
    · simp [h0]
    · rw [if_neg h0, if_neg h0]
      have : (((l.length : Int) + Lib.index X w) == -1) = false := by rw [beq_eq_false_iff_ne]; omega
      rw [this]
      simp only [Bool.false_eq_true, if_false, List.length_cons]
      push_cast; omega
theorem enc_prefix {c d : Int} (hc : isCharB c = true) (hd : isCharB d = true) (X : List UInt8) (h : (Lib.encodeRune c).isPrefixOf (Lib.encodeRune d ++ X) = true) : c = d := by
  obtain ⟨Y, hY⟩ := List.isPrefixOf_iff_prefix.1 h
  have h1 := decode_encode hc Y
  have h2 := decode_encode hd X
  rw [hY, h2] at h1
  have := congrArg Prod.fst h1
  have n1 := isCharB_cases hc
  have n2 := isCharB_cases hd
  simp only at this
  omega
theorem index_skip {c d : Int} (hc : isCharB c = true) (hd : isCharB d = true) (hne : d ≠ c) (X : List UInt8) :
    Lib.index (Lib.encodeRune d ++ X) (Lib.encodeRune c) = if Lib.index X (Lib.encodeRune c) = -1 then -1 else ((Lib.encodeRune d).length : Int) + Lib.index X (Lib.encodeRune c) := by
  obtain ⟨b, r, hw, hb, _⟩ := enc_lead hc
  obtain ⟨b', l, hw', _, hl⟩ := enc_lead hd
  have hge := Lib.index_ge X (Lib.encodeRune c)
  have hnp : (Lib.encodeRune c).isPrefixOf (Lib.encodeRune d ++ X) = false := by
    cases hcs : (Lib.encodeRune c).isPrefixOf (Lib.encodeRune d ++ X) with
    | false => rfl
    | true => exact absurd (enc_prefix hc hd X hcs).symm hne
  rw [hw', List.cons_append] at hnp ⊢
  rw [Lib.index, hnp, no_cont hw hb l X hl]
  simp only [Bool.false_eq_true, if_false]
  by_cases h0 : Lib.index X (Lib.encodeRune c) = -1
  · simp [h0]
  · rw [if_neg h0, if_neg h0]
    have : (((l.length : Int) + Lib.index X (Lib.encodeRune c)) == -1) = false := by rw [beq_eq_false_iff_ne]; omega
    rw [this]
    simp only [Bool.false_eq_true, if_false, List.length_cons]
    push_cast; omega
theorem index_hit {c : Int} (X : List UInt8) : Lib.index (Lib.encodeRune c ++ X) (Lib.encodeRune c) = 0 := by
  cases h : Lib.encodeRune c with
  | nil => exact absurd h enc_ne
  | cons b l =>
    have : (b :: l).isPrefixOf (b :: (l ++ X)) = true := by
      rw [List.isPrefixOf_iff_prefix]
      exact ⟨X, by simp⟩
    rw [List.cons_append, Lib.index, this]; rfl
/-- The first instance of a character, or none. -/
theorem index_enc {c : Int} (hc : isCharB c = true) : ∀ rs : List Int, Chars rs → (c ∉ rs ∧ Lib.index (encA rs) (Lib.encodeRune c) = -1) ∨ ∃ x y, rs = x ++ c :: y ∧ c ∉ x ∧ Lib.index (encA rs) (Lib.encodeRune c) = ((encA x).length : Int)
  | [], _ => .inl ⟨by simp, by
      cases h : Lib.encodeRune c with
      | nil => exact absurd h enc_ne
      | cons b l => rfl⟩
  | d :: rs, hrs => by
    have hd := hrs d (List.mem_cons_self ..)
    rw [encA_cons]
    by_cases e : d = c
    · subst e
      exact .inr ⟨[], rs, rfl, by simp, by rw [index_hit]; rfl⟩
    · rcases index_enc hc rs (fun x hx => hrs x (List.mem_cons_of_mem _ hx)) with ⟨h1, h2⟩ | ⟨x, y, h1, h2, h3⟩
      · refine .inl ⟨?_, ?_⟩
        · rw [List.mem_cons, not_or]; exact ⟨fun e' => e e'.symm, h1⟩
        · rw [index_skip hc hd e, if_pos h2]
      · refine .inr ⟨d :: x, y, by rw [h1]; rfl, ?_, ?_⟩
        · rw [List.mem_cons, not_or]; exact ⟨fun e' => e e'.symm, h2⟩
        · rw [index_skip hc hd e, if_neg (by omega), h3, encA_cons, List.length_append]
          push_cast; rfl
theorem filter_none {c : Int} {x : List Int} (h : c ∉ x) : x.filter (· != c) = x := by
  rw [List.filter_eq_self]
  intro a ha
  have : a ≠ c := fun e => h (e ▸ ha)
  simpa using this
theorem replace_enc {c : Int} (hc : isCharB c = true) : ∀ (k : Nat) (rs : List Int), Chars rs → Lib.count (encA rs) (Lib.encodeRune c) ≤ k → Lib.replaceK (Lib.encodeRune c) [] k (encA rs) = encA (rs.filter (· != c))
  | 0, rs, hrs, hk => by
    rcases index_enc hc rs hrs with ⟨h1, h2⟩ | ⟨x, y, h1, h2, h3⟩
    · rw [filter_none h1]; rfl
    · exfalso
      have := Lib.count_hit enc_ne h3
      omega
  | k + 1, rs, hrs, hk => by
    rcases index_enc hc rs hrs with ⟨h1, h2⟩ | ⟨x, y, h1, h2, h3⟩
    · rw [Lib.replaceK, h2, filter_none h1]; rfl
    · rw [Lib.replaceK_hit _ _ _ _ _ h3]
      have hcnt := Lib.count_hit enc_ne h3
      have e1 : encA rs = encA x ++ (Lib.encodeRune c ++ encA y) := by rw [h1, encA_app, encA_cons]
      have e2 : (encA rs).take (encA x).length = encA x := by rw [e1, List.take_left]
      have e3 : (encA rs).drop ((encA x).length + (Lib.encodeRune c).length) = encA y := by rw [e1, ← List.drop_drop, List.drop_left, List.drop_left]
      rw [e3] at hcnt ⊢
      rw [e2, replace_enc hc k y (fun a ha => hrs a (by rw [h1]; exact List.mem_append_right _ (List.mem_cons_of_mem _ ha))) (by omega), List.append_nil, ← encA_app]
      congr 1
      rw [h1, List.filter_append, filter_none h2, List.filter_cons_of_neg (by simp)]
theorem replaceAll_enc {c : Int} (hc : isCharB c = true) {rs : List Int} (hrs : Chars rs) : Lib.replaceAll (encA rs) (Lib.encodeRune c) [] = encA (rs.filter (· != c)) := by
  unfold Lib.replaceAll Lib.replace
  have hne : (Lib.encodeRune c == ([] : List UInt8)) = false := by rw [beq_eq_false_iff_ne]; exact enc_ne
  rw [hne]
  simp only [Bool.false_eq_true, if_false]
  unfold Lib.replaceNum
  rw [if_pos (.inl (by decide))]
  exact replace_enc hc _ rs hrs (Nat.le_refl _)
end Go.Proofs.YtibhifjehbajnaaDoor
