/- CollLevels, the plain law: a description with one more line that states the strength; rows of triples compare level by level. -/
import Derived.Test.YtibhifjehbajnaaDoorPre2
import Derived.Lib.SplitLaws
namespace Go.Proofs.YtibhifjehbajnaaDoor
open Go.RowKit Go.Maps
set_option linter.unusedVariables false

def cut1 (c : UInt8) : List UInt8 → List (List UInt8)
  | [] => [[]]
  | b :: l => if b = c then [] :: cut1 c l else match cut1 c l with
    | [] => [[b]]
    | h :: r => (b :: h) :: r
theorem cut1_ne (c : UInt8) : ∀ l, cut1 c l ≠ []
  | [] => by simp [cut1]
  | b :: l => by
    rw [cut1]
    split
    · simp
    · split <;> simp
theorem cut1_app (c : UInt8) (y : List UInt8) : ∀ x, cut1 c (x ++ c :: y) = cut1 c x ++ cut1 c y
  | [] => by simp [cut1]
  | b :: l => by
    rw [List.cons_append, cut1, cut1, cut1_app c y l]
    split
    · simp
    · have := cut1_ne c l
      cases h : cut1 c l with
      | nil => exact absurd h this
      | cons z r => simp
theorem index_eq1 (c : UInt8) (l : List UInt8) : Lib.index (c :: l) [c] = 0 := by rw [Lib.index]; simp [List.isPrefixOf]
theorem index_ne1 (b c : UInt8) (l : List UInt8) (h : b ≠ c) : Lib.index (b :: l) [c] = if Lib.index l [c] == -1 then -1 else Lib.index l [c] + 1 := by
  have hp : ([c] : List UInt8).isPrefixOf (b :: l) = false := by simp [List.isPrefixOf, Ne.symm h]
  rw [Lib.index, hp]; simp
theorem split_cut (c : UInt8) : ∀ l : List UInt8, Lib.splitK [c] 0 (Lib.count l [c]) l = cut1 c l
  | [] => by rw [Lib.count_one]; rfl
  | b :: l => by
    have ih := split_cut c l
    by_cases hb : b = c
    · subst hb
      rw [Lib.count_cons_eq, Nat.add_comm, Lib.splitK, index_eq1, cut1, if_pos rfl, ← ih]
      simp
    · rw [Lib.count_cons_ne b c l hb, cut1, if_neg hb]
      rw [← ih]
      cases hk : Lib.count l [c] with
      | zero => simp [Lib.splitK]
      | succ k =>
        by_cases hm : Lib.index l [c] = -1
        · rw [Lib.splitK, Lib.splitK, index_ne1 b c l hb, hm]
          simp
        · have hge := Lib.index_ge l [c]
          obtain ⟨j, hj⟩ : ∃ j : Nat, Lib.index l [c] = j := ⟨(Lib.index l [c]).toNat, by omega⟩
          have h1 : ((j : Int) == -1) = false := by rw [beq_eq_false_iff_ne]; omega
          have h2 : ((j : Int) + 1 == -1) = false := by rw [beq_eq_false_iff_ne]; omega
          have h3 : ((j : Int) + 1).toNat = j + 1 := by omega
          rw [Lib.splitK, Lib.splitK, index_ne1 b c l hb, hj]
          simp [h1, h2, h3]
theorem lines_data (s : ByteArray) : (linesOf s).map (·.data.toList) = cut1 10 s.data.toList := by
  unfold linesOf
  rw [Lib.splitB_data]
  have : Lib.countB s nl = Lib.count s.data.toList [10] := by
    first | rfl | simp [Lib.countB, nl]
  rw [this]
  exact split_cut 10 _
theorem data_inj {a b : ByteArray} (h : a.data.toList = b.data.toList) : a = b := by
  apply ByteArray.ext
  exact Array.toList_inj.1 h
theorem map_data_inj : ∀ {x y : List ByteArray}, x.map (·.data.toList) = y.map (·.data.toList) → x = y
  | [], [], _ => rfl
  | [], _ :: _, h => by simp at h
  | _ :: _, [], h => by simp at h
  | a :: x, b :: y, h => by
    simp only [List.map_cons, List.cons.injEq] at h
    rw [data_inj h.1, map_data_inj h.2]
theorem lines_app (a v : ByteArray) : linesOf (a ++ (nl ++ v)) = linesOf a ++ linesOf v := by
  apply map_data_inj
  rw [List.map_append, lines_data, lines_data, lines_data]
  have : (a ++ (nl ++ v)).data.toList = a.data.toList ++ 10 :: v.data.toList := by simp [nl]
  rw [this]
  exact cut1_app 10 _ _

theorem parseL_app : ∀ (ls : List ByteArray) (i : Nat) (t : CT) (r : List ByteArray), (parseL i t (ls ++ r)).2.1 = 0 → (parseL i t ls).2.1 = 0 ∧ parseL i t (ls ++ r) = parseL (i + ls.length) (parseL i t ls).2.2 r
  | [], i, t, r, _ => ⟨rfl, rfl⟩
  | l :: ls, i, t, r, h => by
    simp only [List.cons_append, parseL] at h ⊢
    by_cases hc : (addP t (wordsOf l)).2 = 0
    · simp only [if_pos hc] at h ⊢
      have := parseL_app ls _ _ r h
      refine ⟨this.1, ?_⟩
      rw [this.2, List.length_cons, Nat.add_right_comm, Nat.add_assoc]
    · simp only [if_neg hc] at h
      exact absurd h hc

theorem decodeN_nl (n n' b0 b1 b2 b3 c1 c2 c3 : Nat) (h0 : 1 ≤ n) (hn : n < n') (h1 : 1 < n → c1 = b1) (k1 : n = 1 → c1 = 10) (h2 : 2 < n → c2 = b2) (k2 : n = 2 → c2 = 10) (h3 : 3 < n → c3 = b3) (k3 : n = 3 → c3 = 10) : Lib.decodeN n' b0 c1 c2 c3 = Lib.decodeN n b0 b1 b2 b3 := by
  rcases (show n = 1 ∨ n = 2 ∨ n = 3 ∨ 4 ≤ n by omega) with rfl | rfl | rfl | h4
  · obtain rfl := k1 rfl
    simp [Lib.decodeN]
  · obtain rfl := h1 (by omega)
    obtain rfl := k2 rfl
    have e1 : 1 < n' := by omega
    simp [Lib.decodeN, e1]
  · obtain rfl := h1 (by omega)
    obtain rfl := h2 (by omega)
    obtain rfl := k3 rfl
    have e1 : 1 < n' := by omega
    have e2 : 2 < n' := by omega
    simp [Lib.decodeN, e1, e2]
  · obtain rfl := h1 (by omega)
    obtain rfl := h2 (by omega)
    obtain rfl := h3 (by omega)
    have e1 : 1 < n' := by omega
    have e2 : 2 < n' := by omega
    have e3 : 3 < n' := by omega
    have g1 : 1 < n := by omega
    have g2 : 2 < n := by omega
    have g3 : 3 < n := by omega
    simp [Lib.decodeN, e1, e2, e3, g1, g2, g3]
theorem get_end (a v : ByteArray) : ((a ++ (nl ++ v)).get! a.size).toNat = 10 := by
  have e : (a ++ (nl ++ v)).data = a.data ++ (nl.data ++ v.data) := by simp
  show ((a ++ (nl ++ v)).data[a.size]!).toNat = 10
  rw [e, getElem!_pos (a.data ++ (nl.data ++ v.data)) a.size (by have : a.data.size = a.size := rfl; simp [nl]; omega)]
  rw [Array.getElem_append_right (by exact Nat.le_refl _)]
  simp [nl]
theorem decode_nl (a v : ByteArray) (p : Nat) (hp : p < a.size) : Utf8.decode (a ++ (nl ++ v)) p = Utf8.decode a p := by
  rw [Lib.decode_at, Lib.decode_at, get_app a _ p hp]
  have hs : (a ++ (nl ++ v)).size = a.size + (1 + v.size) := by rw [size_app, size_app]; rfl
  rw [hs]
  refine decodeN_nl _ _ _ _ _ _ _ _ _ (by omega) (by omega) (fun h => ?_) (fun h => ?_) (fun h => ?_) (fun h => ?_) (fun h => ?_) (fun h => ?_)
  · rw [get_app a _ _ (by omega)]
  · rw [show p + 1 = a.size by omega]; exact get_end a v
  · rw [get_app a _ _ (by omega)]
  · rw [show p + 2 = a.size by omega]; exact get_end a v
  · rw [get_app a _ _ (by omega)]
  · rw [show p + 3 = a.size by omega]; exact get_end a v
theorem pre_nl (x v : List UInt8) (h : ([239, 191, 189] : List UInt8).isPrefixOf (x ++ 10 :: v) = true) : ([239, 191, 189] : List UInt8).isPrefixOf x = true := by
  match x with
  | [] => simp [List.isPrefixOf] at h
  | [x0] => simp [List.isPrefixOf] at h
  | [x0, x1] => simp [List.isPrefixOf] at h
  | x0 :: x1 :: x2 :: r => simpa [List.isPrefixOf] using h
theorem extract_all (a : ByteArray) (p : Nat) (hp : p ≤ a.size) : (a.extract p a.size).data.toList = a.data.toList.drop p := by
  have h0 : (a.data.toList.drop p).length = a.size - p := by rw [List.length_drop, ← Lib.size_eq]
  have h1 : (a.extract p a.size).data.toList = (a.data.toList.drop p).take (a.size - p) := by simp [ByteArray.data_extract, Array.toList_extract]
  rw [h1, List.take_of_length_le (by omega)]
theorem good_nl (a v : ByteArray) (p : Nat) (c : Int) (hp : p < a.size) (h : goodAt (a ++ (nl ++ v)) p c = true) : goodAt a p c = true := by
  have hs : (a ++ (nl ++ v)).size = a.size + (1 + v.size) := by rw [size_app, size_app]; rfl
  unfold goodAt at h ⊢
  rw [Bool.and_eq_true] at h ⊢
  refine ⟨h.1, ?_⟩
  have h2 := h.2
  rw [extract_all _ _ (by omega)] at h2 ⊢
  have hd : (a ++ (nl ++ v)).data.toList.drop p = a.data.toList.drop p ++ 10 :: v.data.toList := by
    have : (a ++ (nl ++ v)).data.toList = a.data.toList ++ 10 :: v.data.toList := by simp [nl]
    rw [this, List.drop_append_of_le_length (by rw [← Lib.size_eq]; omega)]
  rw [hd] at h2
  cases hc : c == 65533 with
  | false => rfl
  | true =>
    rw [hc] at h2
    cases hq : ([239, 191, 189] : List UInt8).isPrefixOf (a.data.toList.drop p ++ 10 :: v.data.toList) with
    | false => rw [hq] at h2; exact absurd h2 (by decide)
    | true => rw [pre_nl _ _ hq]; rfl
theorem text_nl (a v : ByteArray) : ∀ (f f' p : Nat), a.size ≤ p + f → a.size < p + f' + 1 → textFrom (a ++ (nl ++ v)) f' p = true → textFrom a f p = true
  | 0, f', p, _, _, _ => rfl
  | f + 1, f', p, h1, h2, ht => by
    by_cases hp : p < a.size
    · obtain ⟨g, rfl⟩ : ∃ g, f' = g + 1 := ⟨f' - 1, by omega⟩
      have hs : (a ++ (nl ++ v)).size = a.size + (1 + v.size) := by rw [size_app, size_app]; rfl
      rw [textFrom, if_pos (by omega), Bool.and_eq_true, decode_nl a v p hp] at ht
      have hk := Lib.decode_width_pos a p hp
      rw [textFrom, if_pos hp, Bool.and_eq_true]
      exact ⟨good_nl a v p _ hp ht.1, text_nl a v f g _ (by omega) (by omega) ht.2⟩
    · rw [textFrom, if_neg hp]
theorem isText_nl (a v : ByteArray) (h : isText (a ++ (nl ++ v)) = true) : isText a = true := by
  have hs : (a ++ (nl ++ v)).size = a.size + (1 + v.size) := by rw [size_app, size_app]; rfl
  exact text_nl a v a.size _ 0 (by omega) (by omega) h

def strLine (d : UInt8) : ByteArray := ⟨#[115, 116, 114, 101, 110, 103, 116, 104, 32, d]⟩
theorem line_one (d : UInt8) (h : d ≠ 10) : linesOf (strLine d) = [strLine d] := by
  apply map_data_inj
  rw [lines_data]
  simp [strLine, cut1, h]
/-- A description with one more line that states its strength. -/
theorem ext_parse (a : ByteArray) (d : UInt8) (n : Int) (ha : a.size ≤ 2000) (hd : d ≠ 10) (hw : ∀ t : CT, addP t (wordsOf (strLine d)) = if 0 < t.st then (t, 4) else ({ t with st := n }, 0)) (h1 : 1 ≤ n) (he : (parseP (a ++ (nl ++ strLine d))).2.1 = 0) :
    (parseP a).2.1 = 0 ∧ tabOf (a ++ (nl ++ strLine d)) = { tabOf a with st := n } ∧ (tabOf a).st = 3 := by
  have hs : (a ++ (nl ++ strLine d)).size = a.size + (1 + 10) := by rw [size_app, size_app]; rfl
  have hP : parseP (a ++ (nl ++ strLine d)) = (if isText (a ++ (nl ++ strLine d)) = false then (0, 10, t0) else
    let r := parseL 0 t0 (linesOf a ++ [strLine d])
    (r.1, r.2.1, { r.2.2 with st := if r.2.2.st = 0 then 3 else r.2.2.st })) := by
    unfold parseP
    rw [if_neg (by omega), lines_app, line_one d hd]
  have hA : parseP a = (if isText a = false then (0, 10, t0) else
    let r := parseL 0 t0 (linesOf a)
    (r.1, r.2.1, { r.2.2 with st := if r.2.2.st = 0 then 3 else r.2.2.st })) := by
    unfold parseP
    rw [if_neg (by omega)]
  cases ht : isText (a ++ (nl ++ strLine d)) with
  | false => rw [hP, if_pos ht] at he; exact absurd he (by decide)
  | true =>
    have hta := isText_nl a (strLine d) ht
    rw [if_neg (by rw [ht]; decide)] at hP
    rw [if_neg (by rw [hta]; decide)] at hA
    have he2 : (parseL 0 t0 (linesOf a ++ [strLine d])).2.1 = 0 := by rw [hP] at he; exact he
    obtain ⟨q1, q2⟩ := parseL_app (linesOf a) 0 t0 [strLine d] he2
    rw [q2] at hP he2
    generalize hT : parseL 0 t0 (linesOf a) = T at q1 hP hA he2
    simp only [parseL, hw] at hP he2
    by_cases hst : 0 < T.2.2.st
    · simp [hst] at he2
    · have hinv := parseL_inv (linesOf a) 0 t0 (by simp [CT.ok, t0]) (by simp [t0]) ⟨by decide, by decide⟩ (by rw [hT]; exact q1)
      rw [hT] at hinv
      have h0 : T.2.2.st = 0 := by have := hinv.2.2.1; omega
      simp only [if_neg hst] at hP
      have e1 : (parseP a).2.1 = 0 := by rw [hA]; exact q1
      have e2 : (parseP (a ++ (nl ++ strLine d))).2.1 = 0 := by rw [hP]; rfl
      refine ⟨e1, ?_, ?_⟩
      · unfold tabOf
        rw [if_pos e1, if_pos e2, hA, hP]
        simp [show n ≠ 0 by omega]
      · unfold tabOf
        rw [if_pos e1, hA]
        simp [h0]
theorem add_s1 (t : CT) : addP t (wordsOf (strLine 49)) = if 0 < t.st then (t, 4) else ({ t with st := 1 }, 0) := by
  have h : wordsOf (strLine 49) = [⟨#[115, 116, 114, 101, 110, 103, 116, 104]⟩, ⟨#[49]⟩] := by decide +kernel
  have h1 : ¬ ((⟨#[115, 116, 114, 101, 110, 103, 116, 104]⟩ : ByteArray).data.toList.head? = some 35) := by decide
  have h2 : (⟨#[115, 116, 114, 101, 110, 103, 116, 104]⟩ : ByteArray).toList = [115, 116, 114, 101, 110, 103, 116, 104] := by decide +kernel
  have h3 : strengthOf ⟨#[49]⟩ = some 1 := by decide +kernel
  rw [h]
  simp only [addP, if_neg h1, if_pos h2, levelP, h3]
theorem add_s2 (t : CT) : addP t (wordsOf (strLine 50)) = if 0 < t.st then (t, 4) else ({ t with st := 2 }, 0) := by
  have h : wordsOf (strLine 50) = [⟨#[115, 116, 114, 101, 110, 103, 116, 104]⟩, ⟨#[50]⟩] := by decide +kernel
  have h1 : ¬ ((⟨#[115, 116, 114, 101, 110, 103, 116, 104]⟩ : ByteArray).data.toList.head? = some 35) := by decide
  have h2 : (⟨#[115, 116, 114, 101, 110, 103, 116, 104]⟩ : ByteArray).toList = [115, 116, 114, 101, 110, 103, 116, 104] := by decide +kernel
  have h3 : strengthOf ⟨#[50]⟩ = some 2 := by decide +kernel
  rw [h]
  simp only [addP, if_neg h1, if_pos h2, levelP, h3]
theorem add_s3 (t : CT) : addP t (wordsOf (strLine 51)) = if 0 < t.st then (t, 4) else ({ t with st := 3 }, 0) := by
  have h : wordsOf (strLine 51) = [⟨#[115, 116, 114, 101, 110, 103, 116, 104]⟩, ⟨#[51]⟩] := by decide +kernel
  have h1 : ¬ ((⟨#[115, 116, 114, 101, 110, 103, 116, 104]⟩ : ByteArray).data.toList.head? = some 35) := by decide
  have h2 : (⟨#[115, 116, 114, 101, 110, 103, 116, 104]⟩ : ByteArray).toList = [115, 116, 114, 101, 110, 103, 116, 104] := by decide +kernel
  have h3 : strengthOf ⟨#[51]⟩ = some 3 := by decide +kernel
  rw [h]
  simp only [addP, if_neg h1, if_pos h2, levelP, h3]

theorem bytes_app' (x y : List Int) : Lib.bytesOf (x ++ y) = Lib.bytesOf x ++ Lib.bytesOf y := by simp [Lib.bytesOf]
theorem cb_same : ∀ (p q x y : List UInt8), p.length = q.length → Lib.compareBytes (p ++ x) (q ++ y) = if Lib.compareBytes p q = 0 then Lib.compareBytes x y else Lib.compareBytes p q
  | [], [], x, y, _ => by
    rw [show Lib.compareBytes ([] : List UInt8) [] = 0 from rfl, if_pos rfl]; rfl
  | [], _ :: _, _, _, h => by simp at h
  | _ :: _, [], _, _, h => by simp at h
  | a :: p, b :: q, x, y, h => by
    rw [List.cons_append, List.cons_append, cb_cons, cb_cons]
    have ih := cb_same p q x y (by simpa using h)
    by_cases h1 : a.toNat < b.toNat
    · rw [if_pos h1, if_pos h1]; rfl
    · by_cases h2 : b.toNat < a.toNat
      · rw [if_neg h1, if_pos h2, if_neg h1, if_pos h2]; rfl
      · rw [if_neg h1, if_neg h2, if_neg h1, if_neg h2]; exact ih
def T (ns : List Int) : List Int := (ns.map three).flatten
def inR (ns : List Int) : Prop := ∀ n ∈ ns, 0 < n ∧ n < 16777216
theorem T_cons (n : Int) (ns : List Int) : T (n :: ns) = three n ++ T ns := by simp [T]
theorem bytes_len (x : List Int) : (Lib.bytesOf x).length = x.length := by simp [Lib.bytesOf]
theorem trip : ∀ (ns ms u v : List Int), inR ns → inR ms → (∀ n, 0 < n → n < 16777216 → ∀ u v, Lib.compareBytes (Lib.bytesOf ([0, 0, 0] ++ u)) (Lib.bytesOf (three n ++ v)) = -1) →
    Lib.compareBytes (Lib.bytesOf (T ns ++ ([0, 0, 0] ++ u))) (Lib.bytesOf (T ms ++ ([0, 0, 0] ++ v))) = if Lib.compareBytes (Lib.bytesOf (T ns)) (Lib.bytesOf (T ms)) = 0 then Lib.compareBytes (Lib.bytesOf u) (Lib.bytesOf v) else Lib.compareBytes (Lib.bytesOf (T ns)) (Lib.bytesOf (T ms))
  | [], [], u, v, _, _, _ => by
    show Lib.compareBytes (Lib.bytesOf ([0, 0, 0] ++ u)) (Lib.bytesOf ([0, 0, 0] ++ v)) = _
    rw [bytes_app', bytes_app' [0, 0, 0], cb_same _ _ _ _ rfl, if_pos (cb_self _), show Lib.compareBytes (Lib.bytesOf (T [])) (Lib.bytesOf (T [])) = 0 from rfl, if_pos rfl]
  | [], m :: ms, u, v, _, hm, hz => by
    have h := hm m (List.mem_cons_self ..)
    rw [T_cons, List.append_assoc]
    have := hz m h.1 h.2 u (T ms ++ ([0, 0, 0] ++ v))
    show Lib.compareBytes (Lib.bytesOf ([0, 0, 0] ++ u)) _ = _
    rw [this]
    rfl
  | n :: ns, [], u, v, hn, _, hz => by
    have h := hn n (List.mem_cons_self ..)
    rw [T_cons, List.append_assoc]
    have := hz n h.1 h.2 v (T ns ++ ([0, 0, 0] ++ u))
    have h2 := cb_anti (Lib.bytesOf ([0, 0, 0] ++ v)) (Lib.bytesOf (three n ++ (T ns ++ ([0, 0, 0] ++ u))))
    rw [this] at h2
    show Lib.compareBytes _ (Lib.bytesOf ([0, 0, 0] ++ v)) = _
    rw [h2]
    rfl
  | n :: ns, m :: ms, u, v, hn, hm, hz => by
    have ih := trip ns ms u v (fun x hx => hn x (List.mem_cons_of_mem _ hx)) (fun x hx => hm x (List.mem_cons_of_mem _ hx)) hz
    have hl : (Lib.bytesOf (three n)).length = (Lib.bytesOf (three m)).length := rfl
    rw [T_cons, T_cons, List.append_assoc, List.append_assoc, bytes_app' (three n), bytes_app' (three m), bytes_app' (three n), bytes_app' (three m), cb_same _ _ _ _ hl, cb_same _ _ _ _ hl, ih]
    by_cases h0 : Lib.compareBytes (Lib.bytesOf (three n)) (Lib.bytesOf (three m)) = 0
    · simp only [if_pos h0]
    · simp only [if_neg h0]


theorem level_trip {t : CT} (h : Fine t) (k : Nat) : ∀ cs : List Int, (∀ c ∈ cs, c ≤ 1114111) → ∃ ns, levelOf t k cs = T ns ∧ inR ns
  | [], _ => ⟨[], rfl, fun x hx => by cases hx⟩
  | c :: cs, hc => by
    obtain ⟨ns, e, hr⟩ := level_trip h k cs (fun x hx => hc x (List.mem_cons_of_mem _ hx))
    rw [levelOf_cons]
    by_cases hp : 0 < comp (weightOf t c) k
    · refine ⟨comp (weightOf t c) k :: ns, ?_, ?_⟩
      · rw [T_cons, ← e]
        have : lev1 t k c = three (comp (weightOf t c) k) := if_pos hp
        rw [this]
      · intro x hx
        rcases List.mem_cons.1 hx with rfl | hx
        · exact ⟨hp, weight_lt h k c (hc c (List.mem_cons_self ..))⟩
        · exact hr x hx
    · have : lev1 t k c = [] := if_neg hp
      rw [this, List.nil_append]
      exact ⟨ns, e, hr⟩

/-- How the keys of two texts compare by one, two and three levels. -/
theorem key_levels {t : CT} (h : Fine t) (ra rb : List Int) (ha : ∀ c ∈ ra, c ≤ 1114111) (hb : ∀ c ∈ rb, c ≤ 1114111) :
    (cmpB (keyK t ra 1) (keyK t rb 1) ≠ 0 → cmpB (keyK t ra 2) (keyK t rb 2) = cmpB (keyK t ra 1) (keyK t rb 1)) ∧
    (cmpB (keyK t ra 2) (keyK t rb 2) ≠ 0 → cmpB (keyK t ra 3) (keyK t rb 3) = cmpB (keyK t ra 2) (keyK t rb 2)) := by
  obtain ⟨n0, e0, r0⟩ := level_trip h 0 ra ha
  obtain ⟨n1, e1, r1⟩ := level_trip h 1 ra ha
  obtain ⟨m0, f0, s0⟩ := level_trip h 0 rb hb
  obtain ⟨m1, f1, s1⟩ := level_trip h 1 rb hb
  have hz : ∀ n, 0 < n → n < 16777216 → ∀ u v, Lib.compareBytes (Lib.bytesOf ([0, 0, 0] ++ u)) (Lib.bytesOf (three n ++ v)) = -1 := fun n h0 h1 u v => cb_zero n h0 h1 u v
  have k1 : ∀ cs, keyK t cs 1 = levelOf t 0 cs := keyK_one t
  have k2 : ∀ cs, keyK t cs 2 = levelOf t 0 cs ++ ([0, 0, 0] ++ levelOf t 1 cs) := fun cs => by simp [keyK]
  have k3 : ∀ cs, keyK t cs 3 = levelOf t 0 cs ++ ([0, 0, 0] ++ (levelOf t 1 cs ++ ([0, 0, 0] ++ levelOf t 2 cs))) := fun cs => by simp [keyK]
  unfold cmpB
  rw [k1, k1, k2, k2, k3, k3, e0, e1, f0, f1, trip n0 m0 _ _ r0 s0 hz, trip n0 m0 _ _ r0 s0 hz, trip n1 m1 _ _ r1 s1 hz]
  constructor
  · intro hx; rw [if_neg hx]
  · intro hy
    by_cases hx : Lib.compareBytes (Lib.bytesOf (T n0)) (Lib.bytesOf (T m0)) = 0
    · simp only [if_pos hx] at hy ⊢
      rw [if_neg hy]
    · simp only [if_neg hx]
end Go.Proofs.YtibhifjehbajnaaDoor
