/- CollPrefixes, the plain law: weights are small; the key of a text with further characters is not below. -/
import Derived.Test.YtibhifjehbajnaaDoorPre
namespace Go.Proofs.YtibhifjehbajnaaDoor
open Go.RowKit Go.Maps
set_option linter.unusedVariables false

/-- The weights in a table are at most as many as its characters. -/
def wOk (t : CT) : Prop := ∀ x ∈ t.M, x.2.1 ≤ t.M.length ∧ x.2.2.1 ≤ t.M.length ∧ x.2.2.2 ≤ t.M.length
theorem wOk_mono {t : CT} {M : List (Int × W3)} (h : wOk t) (hl : t.M.length ≤ M.length) (hM : ∀ x ∈ M, x ∈ t.M ∨ (x.2.1 ≤ M.length ∧ x.2.2.1 ≤ M.length ∧ x.2.2.2 ≤ M.length)) : ∀ x ∈ M, x.2.1 ≤ M.length ∧ x.2.2.1 ≤ M.length ∧ x.2.2.2 ≤ M.length := by
  intro x hx
  rcases hM x hx with h1 | h1
  · have := h x h1; omega
  · exact h1
theorem putAll_mem : ∀ {M : List (Int × W3)} {l M' : List (Int × W3)}, putAll M l = some M' → (∀ x ∈ l, x.2 = (0, 0, 0)) → ∀ x ∈ M', x ∈ M ∨ x.2 = (0, 0, 0)
  | M, [], M', h, _ => by simp [putAll] at h; subst h; exact fun x hx => .inl hx
  | M, y :: l, M', h, hz => by
    simp only [putAll] at h
    split at h
    · cases h
    · intro x hx
      rcases putAll_mem h (fun z hz' => hz z (List.mem_cons_of_mem _ hz')) x hx with h1 | h1
      · rcases List.mem_append.1 h1 with h2 | h2
        · exact .inl h2
        · have : x = y := by simpa using h2
          subst this
          exact .inr (hz x (List.mem_cons_self ..))
      · exact .inr h1
theorem listPut_w {ws : List ByteArray} : ∀ {l : List Int} {i : Nat} {t t' : CT}, listPut ws i l t = some t' → t.ok → wOk t → wOk t'
  | [], i, t, t', h, ho, hw => by simp [listPut] at h; subst h; exact hw
  | c :: l, i, t, t', h, ho, hw => by
    simp only [listPut] at h
    split at h
    · cases h
    · have hk := CT.ok_after ho (signAt ws i) c
      refine listPut_w h hk ?_
      refine wOk_mono (t := t) (M := t.M ++ [(c, afterW t.last (signAt ws i))]) hw (by simp) (fun x hx => ?_)
      rcases List.mem_append.1 hx with h2 | h2
      · exact .inl h2
      · have : x = (c, afterW t.last (signAt ws i)) := by simpa using h2
        subst this
        obtain ⟨k1, k2, k3, k4, k5, k6⟩ := hk
        exact .inr ⟨k2, k4, k6⟩
theorem addP_w {t : CT} {ws : List ByteArray} (ho : t.ok) (hw : wOk t) : wOk (addP t ws).1 := by
  unfold addP
  split
  · exact hw
  · split
    · exact hw
    · split
      · unfold levelP
        repeat' split
        all_goals exact hw
      · split
        · unfold ignoreP
          split
          · exact hw
          · exact hw
          · split
            · exact hw
            · rename_i M hM
              have hl := putAll_ok hM
              refine wOk_mono (t := t) (M := M) hw hl (fun x hx => ?_)
              rcases putAll_mem hM (fun y hy => by obtain ⟨z, _, rfl⟩ := List.mem_map.1 hy; rfl) x hx with h1 | h1
              · exact .inl h1
              · rw [h1]; exact .inr ⟨by simp, by simp, by simp⟩
        · unfold listP
          split
          · exact hw
          · split
            · exact hw
            · split
              · exact hw
              · rename_i t' ht
                exact listPut_w ht ho hw
theorem parseL_w : ∀ (ls : List ByteArray) (i : Nat) (t : CT), t.ok → t.M.length ≤ 4096 → wOk t → (parseL i t ls).2.1 = 0 → wOk (parseL i t ls).2.2
  | [], i, t, h1, h2, h3, _ => h3
  | l :: ls, i, t, h1, h2, h3, he => by
    rw [parseL] at he ⊢
    by_cases hc : (addP t (wordsOf l)).2 = 0
    · rw [if_pos hc] at he ⊢
      have := addP_ok hc h1 h2
      exact parseL_w ls _ _ this.1 this.2 (addP_w h1 h3) he
    · rw [if_neg hc] at he
      exact absurd he hc
theorem wOk_t0 : wOk t0 := fun x hx => by cases hx
theorem parseP_w (s : ByteArray) (he : (parseP s).2.1 = 0) : wOk (parseP s).2.2 := by
  unfold parseP at he ⊢
  split
  · exact wOk_t0
  · rename_i h
    rw [if_neg h] at he
    split
    · exact wOk_t0
    · rename_i h2
      rw [if_neg h2] at he
      exact parseL_w (linesOf s) 0 t0 (by simp [CT.ok, t0]) (by simp [t0]) wOk_t0 he

/-- What the law asks of a table. -/
structure Fine (t : CT) : Prop where
  ok : t.ok
  len : t.M.length ≤ 4096
  st : stOk t
  w : wOk t
theorem fine_tabOf (s : ByteArray) : Fine (tabOf s) := by
  unfold tabOf
  split
  · rename_i he
    have := parseP_inv s he
    exact ⟨this.1, this.2.1, this.2.2, parseP_w s he⟩
  · exact ⟨by simp [CT.ok, t0], by simp [t0], ⟨by decide, by decide⟩, wOk_t0⟩

theorem getW_mem : ∀ (M : List (Int × W3)) (c : Int) (d : W3), getW M c d = d ∨ ∃ x ∈ M, x.2 = getW M c d := by
  intro M c d
  unfold getW
  split
  · rename_i p hp
    exact .inr ⟨p, List.mem_of_find?_eq_some hp, rfl⟩
  · exact .inl rfl
theorem weight_lt {t : CT} (h : Fine t) (k : Nat) (c : Int) (hc : c ≤ 1114111) : comp (weightOf t c) k < 16777216 := by
  obtain ⟨h1, h2, _⟩ := h.ok
  have hl := h.len
  have hcase : (weightOf t c).1 < 16777216 ∧ (weightOf t c).2.1 < 16777216 ∧ (weightOf t c).2.2 < 16777216 := by
    unfold weightOf
    split
    · rcases getW_mem t.M c (0, 0, 0) with e | ⟨x, hx, e⟩
      · rw [e]; decide
      · rw [← e]
        have := h.w x hx
        omega
    · exact ⟨by show c + t.last.1 + 1 < 16777216; omega, by show (1 : Int) < 16777216; decide, by show (1 : Int) < 16777216; decide⟩
  unfold comp
  split
  · exact hcase.1
  · exact hcase.2.1
  · exact hcase.2.2

theorem cb_app : ∀ (p x y : List UInt8), Lib.compareBytes (p ++ x) (p ++ y) = Lib.compareBytes x y
  | [], _, _ => rfl
  | a :: p, x, y => by
    rw [List.cons_append, List.cons_append, cb_cons, if_neg (by omega), if_neg (by omega)]
    exact cb_app p x y
theorem cb_pre : ∀ (x y : List UInt8), Lib.compareBytes x (x ++ y) ≤ 0
  | [], [] => by decide
  | [], _ :: _ => by show (-1 : Int) ≤ 0; decide
  | a :: x, y => by
    rw [List.cons_append, cb_cons, if_neg (by omega), if_neg (by omega)]
    exact cb_pre x y
theorem bytes_app (x y : List Int) : Lib.bytesOf (x ++ y) = Lib.bytesOf x ++ Lib.bytesOf y := by simp [Lib.bytesOf]
theorem cb_zero (n : Int) (h0 : 0 < n) (h1 : n < 16777216) (u v : List Int) : Lib.compareBytes (Lib.bytesOf ([0, 0, 0] ++ u)) (Lib.bytesOf (three n ++ v)) = -1 := by
  have e : three n = [n / 65536 % 256, n / 256 % 256, n % 256] := rfl
  rw [e]
  simp only [Lib.bytesOf, List.map_cons, List.cons_append, List.nil_append, cb_cons]
  have z : (UInt8.ofNat (Int.toNat 0)).toNat = 0 := rfl
  have f : ∀ m : Int, 0 ≤ m → m < 256 → (UInt8.ofNat m.toNat).toNat = m.toNat := fun m a b => by
    rw [UInt8.toNat_ofNat']; omega
  rw [z, f _ (by omega) (by omega), f _ (by omega) (by omega), f _ (by omega) (by omega)]
  by_cases c1 : 0 < (n / 65536 % 256).toNat
  · rw [if_pos c1]
  · rw [if_neg c1, if_neg (by omega)]
    by_cases c2 : 0 < (n / 256 % 256).toNat
    · rw [if_pos c2]
    · rw [if_neg c2, if_neg (by omega)]
      rw [if_pos (by omega)]
theorem level_first {t : CT} (h : Fine t) (k : Nat) : ∀ cs : List Int, (∀ c ∈ cs, c ≤ 1114111) → levelOf t k cs = [] ∨ ∃ n rest, levelOf t k cs = three n ++ rest ∧ 0 < n ∧ n < 16777216
  | [], _ => .inl rfl
  | c :: cs, hc => by
    rw [levelOf_cons]
    by_cases hp : 0 < comp (weightOf t c) k
    · have : lev1 t k c = three (comp (weightOf t c) k) := if_pos hp
      rw [this]
      exact .inr ⟨_, _, rfl, hp, weight_lt h k c (hc c (List.mem_cons_self ..))⟩
    · have : lev1 t k c = [] := if_neg hp
      rw [this, List.nil_append]
      exact level_first h k cs (fun x hx => hc x (List.mem_cons_of_mem _ hx))
theorem level_app (t : CT) (k : Nat) (x y : List Int) : levelOf t k (x ++ y) = levelOf t k x ++ levelOf t k y := by simp [levelOf]

/-- Behind a shared front: one more level. -/
theorem more (front L0a L0b u v : List Int) (hf : L0b = [] ∨ ∃ n rest, L0b = three n ++ rest ∧ 0 < n ∧ n < 16777216) (h : Lib.compareBytes (Lib.bytesOf u) (Lib.bytesOf v) ≤ 0) :
    Lib.compareBytes (Lib.bytesOf (front ++ (L0a ++ ([0, 0, 0] ++ u)))) (Lib.bytesOf (front ++ ((L0a ++ L0b) ++ ([0, 0, 0] ++ v)))) ≤ 0 := by
  rw [bytes_app, bytes_app front, cb_app, List.append_assoc, bytes_app, bytes_app L0a, cb_app]
  rcases hf with rfl | ⟨n, rest, rfl, h0, h1⟩
  · rw [List.nil_append, bytes_app, bytes_app [0, 0, 0], cb_app]; exact h
  · rw [List.append_assoc, cb_zero n h0 h1]; decide

theorem key_pre {t : CT} (h : Fine t) (ra rb : List Int) (hb : ∀ c ∈ rb, c ≤ 1114111) (k : Nat) : cmpB (keyK t ra k) (keyK t (ra ++ rb) k) ≤ 0 := by
  unfold cmpB keyK
  rw [level_app, level_app, level_app]
  have f0 := level_first h 0 rb hb
  have f1 := level_first h 1 rb hb
  by_cases h2 : 2 ≤ k
  · by_cases h3 : 3 ≤ k
    · rw [if_pos h2, if_pos h3, if_pos h2, if_pos h3]
      have e : ∀ a b c d : List Int, (a ++ ([0, 0, 0] ++ b)) ++ ([0, 0, 0] ++ c) = [] ++ (a ++ ([0, 0, 0] ++ (b ++ ([0, 0, 0] ++ c)))) := by intros; simp
      rw [e _ _ _ [], e _ _ _ []]
      refine more _ _ _ _ _ f0 ?_
      have := more [] (levelOf t 1 ra) (levelOf t 1 rb) (levelOf t 2 ra) (levelOf t 2 ra ++ levelOf t 2 rb) f1 (by rw [bytes_app]; exact cb_pre _ _)
      simpa using this
    · rw [if_pos h2, if_neg h3, if_pos h2, if_neg h3]
      have := more [] (levelOf t 0 ra) (levelOf t 0 rb) (levelOf t 1 ra) (levelOf t 1 ra ++ levelOf t 1 rb) f0 (by rw [bytes_app]; exact cb_pre _ _)
      simpa using this
  · rw [if_neg h2, if_neg (by omega), if_neg h2, if_neg (by omega)]
    simp only [List.append_nil]
    rw [bytes_app]
    exact cb_pre _ _

theorem runesFrom_max (s : ByteArray) : ∀ (f p : Nat), ∀ c ∈ runesFrom s f p, c ≤ 1114111
  | 0, p, c, h => by simp [runesFrom] at h
  | f + 1, p, c, h => by
    rw [runesFrom] at h
    split at h
    · rcases List.mem_cons.1 h with rfl | h
      · have := decode_max s p; omega
      · exact runesFrom_max s f _ c h
    · cases h
theorem cmp_pre (d a b : ByteArray) (ha : isText a = true) (hab : isText (a ++ b) = true) : cmpP (tabOf d) a (a ++ b) ≤ 0 := by
  obtain ⟨rb, hr⟩ := runesOf_app a b ha
  unfold cmpP keyP
  rw [if_pos ha, if_pos hab, hr]
  refine key_pre (fine_tabOf d) _ _ (fun c hc => runesFrom_max (a ++ b) _ _ c (show c ∈ runesOf (a ++ b) from ?_)) _
  rw [hr]
  exact List.mem_append_right _ hc
end Go.Proofs.YtibhifjehbajnaaDoor
