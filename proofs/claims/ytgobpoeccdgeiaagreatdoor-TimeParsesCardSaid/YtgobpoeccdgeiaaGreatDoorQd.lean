/- parse of package num. parse of package num: one of its ways. parse of package num: one of its ways. parse of package num: one of its ways. parse of package num: one of its ways. -/
import Derived.Test.YtgobpoeccdgeiaaGreatDoorQc
import Derived.Deep.RegionWith

namespace Go.Proofs.YtgobpoeccdgeiaaGreatDoor
open Go.RowKit NumP Go.Proofs.YtgobpoeccdgeiaaGreatDoorW.PrintWords
set_option linter.unusedVariables false

/-- What is known of the library's variables. -/
structure LaidW (w : World) : Prop where
  size : 8 ≤ w.heap.size
  maxlen : ∃ n, w.cell? ⟨1, 0, none⟩ = some (.int .i64 n)
theorem LaidW.below {w w' : World} (h : LaidW w) {B : Nat} (hb : Below B w w') (hB : 8 ≤ B) : LaidW w' := by
  obtain ⟨h1, h2⟩ := h
  have e1 : w'.cell? ⟨1, 0, none⟩ = w.cell? ⟨1, 0, none⟩ := hb.cell (p := ⟨1, 0, none⟩) (show (1 : Nat) < B by omega)
  exact ⟨Nat.le_trans h1 hb.size, by rw [e1]; exact h2⟩
theorem below_drewN {B : Nat} {a w : World} (h : Below B a w) (n : Nat) : Below B a (w.drewN n) := h.trans ⟨rfl, rfl, rfl, Nat.le_refl _, fun _ _ => rfl⟩
/-- The string without its sign. -/
def restB (s : ByteArray) : ByteArray := ⟨(unsigned s.data.toList).toArray⟩
theorem restB_data (s : ByteArray) : (restB s).data.toList = unsigned s.data.toList := by simp [restB]
theorem trim_one (l : List UInt8) (c : UInt8) : Lib.trimPrefix l [c] = if l.head? = some c then l.drop 1 else l := by
  unfold Lib.trimPrefix Lib.hasPrefix
  cases l with
  | nil => simp
  | cons b l => 
    by_cases h : b = c
    · subst h; simp
    · have h2 : ¬ c = b := fun e => h e.symm
      simp [h, h2]
theorem mk_data (s : ByteArray) : (⟨s.data.toList.toArray⟩ : ByteArray) = s := data_inj (by simp)
theorem size_app (a b : ByteArray) : (a ++ b).size = a.size + b.size := ByteArray.size_append
/-- The three ways a sign is read. -/
theorem sign_cases (s : ByteArray) :
    (s.data.toList.head? = some 45 ∧ Lib.trimPrefix s.data.toList [45] = unsigned s.data.toList ∧ unsigned s.data.toList ≠ s.data.toList) ∨
    (s.data.toList.head? ≠ some 45 ∧ Lib.trimPrefix s.data.toList [45] = s.data.toList ∧ Lib.trimPrefix s.data.toList [43] = unsigned s.data.toList) := by
  rw [trim_one, trim_one]
  cases h : s.data.toList with
  | nil => right; simp [unsigned]
  | cons b l =>
    by_cases h1 : b = 45
    · subst h1
      left
      refine ⟨rfl, rfl, fun e => ?_⟩
      have := congrArg List.length e
      simp [unsigned] at this
    · right
      refine ⟨by simpa using h1, by simp [h1], ?_⟩
      by_cases h2 : b = 43
      · subst h2; simp [unsigned]
      · simp only [List.head?_cons, Option.some.injEq, h2, if_false]
        unfold unsigned
        split
        · rename_i r e; injection e with e _; exact absurd e h1
        · rename_i r e; injection e with e _; exact absurd e h2
        · rfl
theorem unsigned_len (l : List UInt8) : (unsigned l).length ≤ l.length := by
  unfold unsigned
  split <;> simp
/-- Two cells of block q, that the second may be written, and what lies below, stay. -/
def Held2 (W4 : World) (q : Nat) (a b : Value) (w : World) : Prop := w.cell? ⟨q, 0, none⟩ = some a ∧ w.cell? ⟨q, 1, none⟩ = some b ∧ w.frozen? ⟨q, 1, none⟩ = false ∧ Hid (Below W4.heap.size W4 w)
theorem three_out {W4 w : World} {q : Nat} {a b : Value} (h : w.cell? ⟨q, 0, none⟩ = some a ∧ w.cell? ⟨q, 1, none⟩ = some b ∧ w.frozen? ⟨q, 1, none⟩ = false ∧ Hid (Below W4.heap.size W4 w)) : Below W4.heap.size W4 w := h.2.2.2.out
theorem three_later {W4 : World} {q : Nat} {a b : Value} {w w' : World} (hq : Hid (q < W4.heap.size)) (h : w.cell? ⟨q, 0, none⟩ = some a ∧ w.cell? ⟨q, 1, none⟩ = some b ∧ w.frozen? ⟨q, 1, none⟩ = false ∧ Hid (Below W4.heap.size W4 w)) (hb : Below w.heap.size w w') :
    w'.cell? ⟨q, 0, none⟩ = some a ∧ w'.cell? ⟨q, 1, none⟩ = some b ∧ w'.frozen? ⟨q, 1, none⟩ = false ∧ Hid (Below W4.heap.size W4 w') := by
  obtain ⟨c0, c1, f1, h⟩ := h
  have hz := h.out.size
  have hq' := hq.out
  exact ⟨(hb.cell (p := ⟨q, 0, none⟩) (by show q < _; omega)).trans c0, (hb.cell (p := ⟨q, 1, none⟩) (by show q < _; omega)).trans c1, (hb.frozen (p := ⟨q, 1, none⟩) (by show q < _; omega)).trans f1, Lib.hid (h.out.trans (hb.mono h.out.size))⟩
theorem BPost.slice {W : World} {k : Nat} {e : Ending} {w' : World} (h : BPost W (wordsN k) e w') : ∃ A c, e = .returned (.slice A (wordsN k).length c) ∧ BN w' (.slice A (wordsN k).length c) k ∧ Below W.heap.size W w' := by
  obtain ⟨v, rfl, hB, hb⟩ := h
  obtain ⟨A, c, rfl⟩ := BAt.form hB
  exact ⟨A, c, rfl, hB, hb⟩
theorem BAt_put {w w' : World} {v : Value} {xs : List Int} {q : Nat} {b : Bool} {A : Option Addr} {n c : Nat} {T : TypeId} (h : BAt w v xs) (hq : w.heap[q]? = some (.cells #[.bool b, .slice A n c] T (0, 0))) (hk : ∀ k, k ≠ q → w'.heap[k]? = w.heap[k]?) : BAt w' v xs := by
  obtain ⟨A', c', e, h1, h2, h3⟩ := h.at_
  refine ⟨A', c', e, h1, h2, fun h0 => ?_⟩
  obtain ⟨ad, ea, hc⟩ := h3 h0
  refine ⟨ad, ea, fun i hi => ?_⟩
  have hci := hc i hi
  rw [← hci]
  refine World.cell?_of_block (hk _ fun e => ?_)
  unfold World.cell? at hci
  rw [e, hq] at hci
  generalize (Addr.add ad i).off = o at hci
  cases o with
  | zero => simp at hci
  | succ o => cases o with
    | zero => simp at hci
    | succ o => simp at hci
theorem w10 {N k : Nat} (h : N < 10 ^ (9 * k)) : (wordsN N).length ≤ k := words_len (by rw [Nat.pow_mul] at h; exact h)
theorem w10_le {N k m : Nat} (h : N < 10 ^ m) (hm : m ≤ 9 * k) : (wordsN N).length ≤ k := w10 (Nat.lt_of_lt_of_le h (Nat.pow_le_pow_right (by decide) hm))
set_option maxHeartbeats 1000000 in
set_option maxRecDepth 100000 in
theorem parse_long (s : ByteArray) (W : World) (hs : 200 < s.size) (hm : s.size ≤ maxLen) : Calls Tryz.prog 68 #[.string s] W (NumPost W (parseN s.data.toList)) := by
  unfold maxLen at hm
  have hR : Hid (parseN s.data.toList = .error 2) := Lib.hid (by unfold parseN; rw [if_pos (by rw [list_len]; exact hs)])
  go_enter Tryz.func68, Tryz.ntmps68
  go_wp2_with fail
  refine bodyPost_ret (v := .tuple #[.agg #[.bool false, .slice none 0 0], .int .i64 2]) ?ret rfl ?post
  case ret => rw [res_two rfl]; go_simp
  case post => exact ⟨(Below.refl _ _).alloc (Nat.le_refl _) _, by rw [hR.out]⟩
end Go.Proofs.YtgobpoeccdgeiaaGreatDoor

namespace Go.Proofs.YtgobpoeccdgeiaaGreatDoor
open Go.RowKit NumP Go.Proofs.YtgobpoeccdgeiaaGreatDoorW.PrintWords
set_option linter.unusedVariables false

set_option maxHeartbeats 1000000 in
set_option maxRecDepth 100000 in
theorem parse_neg_form (s : ByteArray) (W : World) (hL : LaidW W) (hs : s.size ≤ 200) (hsg : s.data.toList.head? = some 45 ∧ Lib.trimPrefix s.data.toList [45] = unsigned s.data.toList ∧ unsigned s.data.toList ≠ s.data.toList) (hx : before 46 (unsigned s.data.toList) ++ behind 46 (unsigned s.data.toList) = [] ∨ (before 46 (unsigned s.data.toList) ++ behind 46 (unsigned s.data.toList)).all isDig = false) : Calls Tryz.prog 68 #[.string s] W (NumPost W (parseN s.data.toList)) := by
  obtain ⟨h1, h2, h3⟩ := hsg
  replace hx := Lib.hid hx
  obtain ⟨R, hR⟩ : ∃ R, R = restB s := ⟨_, rfl⟩
  have hRd : R.data.toList = unsigned s.data.toList := by rw [hR]; exact restB_data s
  have hRs : R.size ≤ 200 := by
    rw [← list_len, hRd]
    have := unsigned_len s.data.toList
    rw [list_len] at this; omega
  obtain ⟨ng, hng⟩ : ∃ ng, ng = (s.data.toList.head? == some 45) := ⟨_, rfl⟩
  obtain ⟨W1, hW1⟩ : ∃ W1, W1 = W.alloc (.cells #[.bool false, .slice none 0 0] 87) := ⟨_, rfl⟩
  obtain ⟨q, hq⟩ : ∃ q, q = W.heap.size := ⟨_, rfl⟩
  have hb1 : Below W.heap.size W W1 := by rw [hW1]; exact (Below.refl _ _).alloc (Nat.le_refl _) _
  have hres : W1.heap[q]? = some (.cells #[.bool false, .slice none 0 0] 87 (0, 0)) := by rw [hW1, hq]; exact (MapKept.heap_alloc _ _).1
  have hW2 := Lib.heap_setCell_same (i := 0) hres (.bool ng)
  have hb2 : Below W.heap.size W (W1.setCell ⟨q, 0, none⟩ (.bool ng)) := hb1.setCell (p := ⟨q, 0, none⟩) (by rw [hq]; exact Nat.le_refl _) _
  obtain ⟨W2, hW2e⟩ : ∃ W2, W2 = W1.setCell ⟨q, 0, none⟩ (.bool ng) := ⟨_, rfl⟩
  rw [← hW2e] at hW2 hb2
  have hres2 : Hid (W2.heap[q]? = some (.cells #[.bool ng, .slice none 0 0] 87 (0, 0))) := Lib.hid hW2
  obtain ⟨⟨c0, c1⟩, f⟩ := cells2 hres
  have f0 := f 0
  have t1 := (Tryz.strings_TrimPrefix s ⟨#[45]⟩ W1).mono (fun e w' h => (⟨h.1, h.2.symm⟩ : _ ∧ W1 = w'))
  have t2 := (Tryz.strings_TrimPrefix s ⟨#[43]⟩ W2).mono (fun e w' h => (⟨h.1, h.2.symm⟩ : _ ∧ W2 = w'))
  have hmem : (⟨#[45]⟩ : ByteArray).data.toList = [45] := rfl
  have hmem2 : (⟨#[43]⟩ : ByteArray).data.toList = [43] := rfl
  rw [hmem] at t1
  rw [hmem2] at t2
  clear f hmem hmem2
  have hLW2 : Hid (LaidW W2) := Lib.hid (hL.below hb2 hL.size)
  obtain ⟨mlen, hml⟩ := (hLW2.out).maxlen
  replace hml := Lib.hid hml
  replace hb2 := Lib.hid hb2
  replace hres := Lib.hid hres
  clear hW2 hb1
  have hn : ng = true := by rw [hng, h1]; rfl
  rw [h2, ← hRd, mk_data] at t1
  have hne : (R.toList == s.toList) = false := by
    rw [beq_eq_false_iff_ne, Lib.toList_data, Lib.toList_data, hRd]; exact h3
  subst hn
  replace h1 := Lib.hid h1
  clear h2 h3 t2 hng hR
  replace hRd := Lib.hid hRd
  go_enter Tryz.func68, Tryz.ntmps68
  go_wp2_with fail
  rw [← hW1, ← hq]
  clear hW1
  replace hq := Lib.hid hq
  replace hW2e := Lib.hid hW2e
  refine t1.mono ?_
  rintro e w' ⟨rfl, rfl⟩
  clear t1
  go_wp2_with fail
  rw [← hW2e.out]
  clear hW2e c0 c1 f0 hne hres
  have hng0 : Hid (true = (s.data.toList.head? == some 45)) := Lib.hid (by rw [h1.out]; rfl)
  have hcut := Tryz.strings_Cut R ⟨#[46]⟩ mlen W2 (by omega) hml.out
  rw [show (⟨#[46]⟩ : ByteArray).data.toList = [46] from rfl, (cut_point R.data.toList).1, (cut_point R.data.toList).2] at hcut
  obtain ⟨A, hA⟩ : ∃ A : ByteArray, A = ⟨(before 46 R.data.toList).toArray⟩ := ⟨_, rfl⟩
  obtain ⟨F, hF⟩ : ∃ F : ByteArray, F = ⟨(behind 46 R.data.toList).toArray⟩ := ⟨_, rfl⟩
  rw [← hA, ← hF] at hcut
  have hAd : Hid (A.data.toList = before 46 (unsigned s.data.toList)) := Lib.hid (by rw [hA, ← hRd.out])
  have hFd : Hid (F.data.toList = behind 46 (unsigned s.data.toList)) := Lib.hid (by rw [hF, ← hRd.out])
  have hAl : A.size ≤ 200 := by
    rw [← list_len, hA]
    refine Nat.le_trans (List.takeWhile_prefix _).length_le ?_
    rw [list_len]; omega
  have hFl : F.size ≤ 200 := by
    rw [← list_len, hF]
    show (List.drop 1 _).length ≤ 200
    rw [List.length_drop]
    refine Nat.le_trans (Nat.sub_le _ _) (Nat.le_trans (List.dropWhile_suffix _).length_le ?_)
    rw [list_len]; omega
  obtain ⟨G, hG⟩ : ∃ G, G = A ++ F := ⟨_, rfl⟩
  have hGd : Hid (G.data.toList = before 46 (unsigned s.data.toList) ++ behind 46 (unsigned s.data.toList)) := Lib.hid (by rw [hG, ← hAd.out, ← hFd.out]; simp)
  have hGl : G.size ≤ 400 := by rw [hG, size_app]; omega
  have hcat : A ++ F = G := hG.symm
  have n1 : (9223372036854775807 < A.size + F.size) = False := eq_false (by omega)
  have hP : Hid (parseN s.data.toList = if G.data.toList = [] ∨ G.data.toList.all isDig = false then .error 5 else checkedN ⟨true, if F.size ≤ 20 then valD G.data.toList * 10 ^ (20 - F.size) else cutN .even true (valD G.data.toList) (10 ^ (F.size - 20))⟩) := Lib.hid (by
    unfold parseN
    rw [if_neg (by rw [list_len]; omega)]
    simp only
    rw [← hGd.out, ← hng0.out, ← hFd.out, list_len])
  clear hA hF hG
  refine hcut.mono ?_
  rintro e w3 ⟨rfl, nq, hw3⟩
  clear hcut
  have hb3 : Hid (Below W.heap.size W w3) := Lib.hid (by rw [hw3]; exact below_drewN hb2.out nq)
  have hres3 : Hid (w3.heap[q]? = some (.cells #[.bool true, .slice none 0 0] 87 (0, 0))) := Lib.hid (by rw [hw3]; exact hres2.out)
  clear hw3
  have hx2 := hx.out
  rw [← hGd.out] at hx2
  rcases hx2 with hGe | ha
  · have hR5 : Hid (parseN s.data.toList = .error 5) := Lib.hid (by rw [hP.out, if_pos (.inl hGe)])
    have hG0 : G = ⟨#[]⟩ := data_inj hGe
    subst hG0
    obtain ⟨⟨r0, r1⟩, fr⟩ := cells2 hres3.out
    have f0 := fr 0
    have f1 := fr 1
    clear fr hGe
    go_wp2_with fail
    obtain ⟨W5, hW5, h5, hb5, hk5⟩ := put2 hres3.out (.bool false) (.slice none 0 0) (B := W.heap.size) (by rw [hq.out]; exact Nat.le_refl _)
    rw [← hW5]
    clear hW5 f0 f1 r0 r1
    obtain ⟨⟨y0, y1⟩, -⟩ := cells2 h5
    replace h5 := Lib.hid h5
    refine bodyPost_ret (v := .tuple #[.agg #[.bool false, .slice none 0 0], .int .i64 5]) ?ret rfl ?post
    case ret => rw [res_two rfl]; go_simp
    case post => exact ⟨hb3.out.trans hb5, by rw [hR5.out]⟩
  · have hR5 : Hid (parseN s.data.toList = .error 5) := Lib.hid (by rw [hP.out, if_pos (.inr ha)])
    by_cases hGe : G.data.toList = []
    · rw [hGe] at ha; cases ha
    have q1 : (G.toList == []) = false := beq_eq_false_iff_ne.2 (by rw [Lib.toList_data]; exact hGe)
    have hix := index_b G w3
    obtain ⟨hi0⟩ : Nonempty (0 ≤ Lib.idxFunc notDig true G) := by
      rcases idx_all G with ⟨hb, _⟩ | ⟨_, hb⟩
      · rw [hb] at ha; cases ha
      · exact ⟨hb⟩
    obtain ⟨i0, hi0e⟩ : ∃ i0, i0 = Lib.idxFunc notDig true G := ⟨_, rfl⟩
    rw [← hi0e] at hix hi0
    clear hi0e ha hGe
    go_wp2_with fail
    refine hix.mono ?_
    rintro e w4 ⟨rfl, hb4⟩
    clear hix
    have hb04 : Hid (Below W.heap.size W w4) := Lib.hid (hb3.out.trans (hb4.mono hb3.out.size))
    have hres4 : Hid (w4.heap[q]? = some (.cells #[.bool true, .slice none 0 0] 87 (0, 0))) := Lib.hid (by rw [hb4.block q (heap_lt hres3.out)]; exact hres3.out)
    clear hb4
    have hge : i0 ≥ 0 := hi0
    obtain ⟨⟨r0, r1⟩, fr⟩ := cells2 hres4.out
    have f0 := fr 0
    have f1 := fr 1
    clear fr
    go_wp2_with fail
    obtain ⟨W5, hW5, h5, hb5, hk5⟩ := put2 hres4.out (.bool false) (.slice none 0 0) (B := W.heap.size) (by rw [hq.out]; exact Nat.le_refl _)
    rw [← hW5]
    clear hW5 f0 f1 r0 r1
    obtain ⟨⟨y0, y1⟩, -⟩ := cells2 h5
    replace h5 := Lib.hid h5
    refine bodyPost_ret (v := .tuple #[.agg #[.bool false, .slice none 0 0], .int .i64 5]) ?ret rfl ?post
    case ret => rw [res_two rfl]; go_simp
    case post => exact ⟨hb04.out.trans hb5, by rw [hR5.out]⟩
end Go.Proofs.YtgobpoeccdgeiaaGreatDoor

namespace Go.Proofs.YtgobpoeccdgeiaaGreatDoor
open Go.RowKit NumP Go.Proofs.YtgobpoeccdgeiaaGreatDoorW.PrintWords
set_option linter.unusedVariables false

set_option maxHeartbeats 1000000 in
set_option maxRecDepth 100000 in
theorem parse_pos_form (s : ByteArray) (W : World) (hL : LaidW W) (hs : s.size ≤ 200) (hsg : s.data.toList.head? ≠ some 45 ∧ Lib.trimPrefix s.data.toList [45] = s.data.toList ∧ Lib.trimPrefix s.data.toList [43] = unsigned s.data.toList) (hx : before 46 (unsigned s.data.toList) ++ behind 46 (unsigned s.data.toList) = [] ∨ (before 46 (unsigned s.data.toList) ++ behind 46 (unsigned s.data.toList)).all isDig = false) : Calls Tryz.prog 68 #[.string s] W (NumPost W (parseN s.data.toList)) := by
  obtain ⟨h1, h2, h3⟩ := hsg
  replace hx := Lib.hid hx
  obtain ⟨R, hR⟩ : ∃ R, R = restB s := ⟨_, rfl⟩
  have hRd : R.data.toList = unsigned s.data.toList := by rw [hR]; exact restB_data s
  have hRs : R.size ≤ 200 := by
    rw [← list_len, hRd]
    have := unsigned_len s.data.toList
    rw [list_len] at this; omega
  obtain ⟨ng, hng⟩ : ∃ ng, ng = (s.data.toList.head? == some 45) := ⟨_, rfl⟩
  obtain ⟨W1, hW1⟩ : ∃ W1, W1 = W.alloc (.cells #[.bool false, .slice none 0 0] 87) := ⟨_, rfl⟩
  obtain ⟨q, hq⟩ : ∃ q, q = W.heap.size := ⟨_, rfl⟩
  have hb1 : Below W.heap.size W W1 := by rw [hW1]; exact (Below.refl _ _).alloc (Nat.le_refl _) _
  have hres : W1.heap[q]? = some (.cells #[.bool false, .slice none 0 0] 87 (0, 0)) := by rw [hW1, hq]; exact (MapKept.heap_alloc _ _).1
  have hW2 := Lib.heap_setCell_same (i := 0) hres (.bool ng)
  have hb2 : Below W.heap.size W (W1.setCell ⟨q, 0, none⟩ (.bool ng)) := hb1.setCell (p := ⟨q, 0, none⟩) (by rw [hq]; exact Nat.le_refl _) _
  obtain ⟨W2, hW2e⟩ : ∃ W2, W2 = W1.setCell ⟨q, 0, none⟩ (.bool ng) := ⟨_, rfl⟩
  rw [← hW2e] at hW2 hb2
  have hres2 : Hid (W2.heap[q]? = some (.cells #[.bool ng, .slice none 0 0] 87 (0, 0))) := Lib.hid hW2
  obtain ⟨⟨c0, c1⟩, f⟩ := cells2 hres
  have f0 := f 0
  have t1 := (Tryz.strings_TrimPrefix s ⟨#[45]⟩ W1).mono (fun e w' h => (⟨h.1, h.2.symm⟩ : _ ∧ W1 = w'))
  have t2 := (Tryz.strings_TrimPrefix s ⟨#[43]⟩ W2).mono (fun e w' h => (⟨h.1, h.2.symm⟩ : _ ∧ W2 = w'))
  have hmem : (⟨#[45]⟩ : ByteArray).data.toList = [45] := rfl
  have hmem2 : (⟨#[43]⟩ : ByteArray).data.toList = [43] := rfl
  rw [hmem] at t1
  rw [hmem2] at t2
  clear f hmem hmem2
  have hLW2 : Hid (LaidW W2) := Lib.hid (hL.below hb2 hL.size)
  obtain ⟨mlen, hml⟩ := (hLW2.out).maxlen
  replace hml := Lib.hid hml
  replace hb2 := Lib.hid hb2
  replace hres := Lib.hid hres
  clear hW2 hb1
  have hn : ng = false := by
    rw [hng]
    cases hh : (s.data.toList.head? == some 45) with
    | false => rfl
    | true => exact absurd (by simpa using hh) h1
  rw [h2, mk_data] at t1
  rw [h3, ← hRd, mk_data] at t2
  subst hn
  replace h1 := Lib.hid h1
  clear h2 h3 hng hR
  replace hRd := Lib.hid hRd
  go_enter Tryz.func68, Tryz.ntmps68
  go_wp2_with fail
  rw [← hW1, ← hq]
  clear hW1
  replace hq := Lib.hid hq
  replace hW2e := Lib.hid hW2e
  refine t1.mono ?_
  rintro e w' ⟨rfl, rfl⟩
  clear t1
  go_wp2_with fail
  rw [← hW2e.out]
  clear hW2e c0 c1 f0 hres
  refine t2.mono ?_
  rintro e w' ⟨rfl, rfl⟩
  clear t2
  go_wp2_with fail
  have hng0 : Hid (false = (s.data.toList.head? == some 45)) := Lib.hid (by
    cases hh : (s.data.toList.head? == some 45) with
    | false => rfl
    | true => exact absurd (by simpa using hh) h1.out)
  have hcut := Tryz.strings_Cut R ⟨#[46]⟩ mlen W2 (by omega) hml.out
  rw [show (⟨#[46]⟩ : ByteArray).data.toList = [46] from rfl, (cut_point R.data.toList).1, (cut_point R.data.toList).2] at hcut
  obtain ⟨A, hA⟩ : ∃ A : ByteArray, A = ⟨(before 46 R.data.toList).toArray⟩ := ⟨_, rfl⟩
  obtain ⟨F, hF⟩ : ∃ F : ByteArray, F = ⟨(behind 46 R.data.toList).toArray⟩ := ⟨_, rfl⟩
  rw [← hA, ← hF] at hcut
  have hAd : Hid (A.data.toList = before 46 (unsigned s.data.toList)) := Lib.hid (by rw [hA, ← hRd.out])
  have hFd : Hid (F.data.toList = behind 46 (unsigned s.data.toList)) := Lib.hid (by rw [hF, ← hRd.out])
  have hAl : A.size ≤ 200 := by
    rw [← list_len, hA]
    refine Nat.le_trans (List.takeWhile_prefix _).length_le ?_
    rw [list_len]; omega
  have hFl : F.size ≤ 200 := by
    rw [← list_len, hF]
    show (List.drop 1 _).length ≤ 200
    rw [List.length_drop]
    refine Nat.le_trans (Nat.sub_le _ _) (Nat.le_trans (List.dropWhile_suffix _).length_le ?_)
    rw [list_len]; omega
  obtain ⟨G, hG⟩ : ∃ G, G = A ++ F := ⟨_, rfl⟩
  have hGd : Hid (G.data.toList = before 46 (unsigned s.data.toList) ++ behind 46 (unsigned s.data.toList)) := Lib.hid (by rw [hG, ← hAd.out, ← hFd.out]; simp)
  have hGl : G.size ≤ 400 := by rw [hG, size_app]; omega
  have hcat : A ++ F = G := hG.symm
  have n1 : (9223372036854775807 < A.size + F.size) = False := eq_false (by omega)
  have hP : Hid (parseN s.data.toList = if G.data.toList = [] ∨ G.data.toList.all isDig = false then .error 5 else checkedN ⟨false, if F.size ≤ 20 then valD G.data.toList * 10 ^ (20 - F.size) else cutN .even false (valD G.data.toList) (10 ^ (F.size - 20))⟩) := Lib.hid (by
    unfold parseN
    rw [if_neg (by rw [list_len]; omega)]
    simp only
    rw [← hGd.out, ← hng0.out, ← hFd.out, list_len])
  clear hA hF hG
  refine hcut.mono ?_
  rintro e w3 ⟨rfl, nq, hw3⟩
  clear hcut
  have hb3 : Hid (Below W.heap.size W w3) := Lib.hid (by rw [hw3]; exact below_drewN hb2.out nq)
  have hres3 : Hid (w3.heap[q]? = some (.cells #[.bool false, .slice none 0 0] 87 (0, 0))) := Lib.hid (by rw [hw3]; exact hres2.out)
  clear hw3
  have hx2 := hx.out
  rw [← hGd.out] at hx2
  rcases hx2 with hGe | ha
  · have hR5 : Hid (parseN s.data.toList = .error 5) := Lib.hid (by rw [hP.out, if_pos (.inl hGe)])
    have hG0 : G = ⟨#[]⟩ := data_inj hGe
    subst hG0
    obtain ⟨⟨r0, r1⟩, fr⟩ := cells2 hres3.out
    have f0 := fr 0
    have f1 := fr 1
    clear fr hGe
    go_wp2_with fail
    obtain ⟨W5, hW5, h5, hb5, hk5⟩ := put2 hres3.out (.bool false) (.slice none 0 0) (B := W.heap.size) (by rw [hq.out]; exact Nat.le_refl _)
    rw [← hW5]
    clear hW5 f0 f1 r0 r1
    obtain ⟨⟨y0, y1⟩, -⟩ := cells2 h5
    replace h5 := Lib.hid h5
    refine bodyPost_ret (v := .tuple #[.agg #[.bool false, .slice none 0 0], .int .i64 5]) ?ret rfl ?post
    case ret => rw [res_two rfl]; go_simp
    case post => exact ⟨hb3.out.trans hb5, by rw [hR5.out]⟩
  · have hR5 : Hid (parseN s.data.toList = .error 5) := Lib.hid (by rw [hP.out, if_pos (.inr ha)])
    by_cases hGe : G.data.toList = []
    · rw [hGe] at ha; cases ha
    have q1 : (G.toList == []) = false := beq_eq_false_iff_ne.2 (by rw [Lib.toList_data]; exact hGe)
    have hix := index_b G w3
    obtain ⟨hi0⟩ : Nonempty (0 ≤ Lib.idxFunc notDig true G) := by
      rcases idx_all G with ⟨hb, _⟩ | ⟨_, hb⟩
      · rw [hb] at ha; cases ha
      · exact ⟨hb⟩
    obtain ⟨i0, hi0e⟩ : ∃ i0, i0 = Lib.idxFunc notDig true G := ⟨_, rfl⟩
    rw [← hi0e] at hix hi0
    clear hi0e ha hGe
    go_wp2_with fail
    refine hix.mono ?_
    rintro e w4 ⟨rfl, hb4⟩
    clear hix
    have hb04 : Hid (Below W.heap.size W w4) := Lib.hid (hb3.out.trans (hb4.mono hb3.out.size))
    have hres4 : Hid (w4.heap[q]? = some (.cells #[.bool false, .slice none 0 0] 87 (0, 0))) := Lib.hid (by rw [hb4.block q (heap_lt hres3.out)]; exact hres3.out)
    clear hb4
    have hge : i0 ≥ 0 := hi0
    obtain ⟨⟨r0, r1⟩, fr⟩ := cells2 hres4.out
    have f0 := fr 0
    have f1 := fr 1
    clear fr
    go_wp2_with fail
    obtain ⟨W5, hW5, h5, hb5, hk5⟩ := put2 hres4.out (.bool false) (.slice none 0 0) (B := W.heap.size) (by rw [hq.out]; exact Nat.le_refl _)
    rw [← hW5]
    clear hW5 f0 f1 r0 r1
    obtain ⟨⟨y0, y1⟩, -⟩ := cells2 h5
    replace h5 := Lib.hid h5
    refine bodyPost_ret (v := .tuple #[.agg #[.bool false, .slice none 0 0], .int .i64 5]) ?ret rfl ?post
    case ret => rw [res_two rfl]; go_simp
    case post => exact ⟨hb04.out.trans hb5, by rw [hR5.out]⟩
end Go.Proofs.YtgobpoeccdgeiaaGreatDoor

namespace Go.Proofs.YtgobpoeccdgeiaaGreatDoor
open Go.RowKit NumP Go.Proofs.YtgobpoeccdgeiaaGreatDoorW.PrintWords
set_option linter.unusedVariables false

set_option maxHeartbeats 4000000 in
set_option maxRecDepth 100000 in
theorem parse_neg_small (s : ByteArray) (W : World) (hL : LaidW W) (hs : s.size ≤ 200) (hsg : s.data.toList.head? = some 45 ∧ Lib.trimPrefix s.data.toList [45] = unsigned s.data.toList ∧ unsigned s.data.toList ≠ s.data.toList) (hx : ¬ (before 46 (unsigned s.data.toList) ++ behind 46 (unsigned s.data.toList) = [] ∨ (before 46 (unsigned s.data.toList) ++ behind 46 (unsigned s.data.toList)).all isDig = false)) (hlen : (behind 46 (unsigned s.data.toList)).length ≤ 20) : Calls Tryz.prog 68 #[.string s] W (NumPost W (parseN s.data.toList)) := by
  obtain ⟨h1, h2, h3⟩ := hsg
  replace hx := Lib.hid hx
  replace hlen := Lib.hid hlen
  obtain ⟨R, hR⟩ : ∃ R, R = restB s := ⟨_, rfl⟩
  have hRd : R.data.toList = unsigned s.data.toList := by rw [hR]; exact restB_data s
  have hRs : R.size ≤ 200 := by
    rw [← list_len, hRd]
    have := unsigned_len s.data.toList
    rw [list_len] at this; omega
  obtain ⟨ng, hng⟩ : ∃ ng, ng = (s.data.toList.head? == some 45) := ⟨_, rfl⟩
  obtain ⟨W1, hW1⟩ : ∃ W1, W1 = W.alloc (.cells #[.bool false, .slice none 0 0] 87) := ⟨_, rfl⟩
  obtain ⟨q, hq⟩ : ∃ q, q = W.heap.size := ⟨_, rfl⟩
  have hb1 : Below W.heap.size W W1 := by rw [hW1]; exact (Below.refl _ _).alloc (Nat.le_refl _) _
  have hres : W1.heap[q]? = some (.cells #[.bool false, .slice none 0 0] 87 (0, 0)) := by rw [hW1, hq]; exact (MapKept.heap_alloc _ _).1
  have hW2 := Lib.heap_setCell_same (i := 0) hres (.bool ng)
  have hb2 : Below W.heap.size W (W1.setCell ⟨q, 0, none⟩ (.bool ng)) := hb1.setCell (p := ⟨q, 0, none⟩) (by rw [hq]; exact Nat.le_refl _) _
  obtain ⟨W2, hW2e⟩ : ∃ W2, W2 = W1.setCell ⟨q, 0, none⟩ (.bool ng) := ⟨_, rfl⟩
  rw [← hW2e] at hW2 hb2
  have hres2 : Hid (W2.heap[q]? = some (.cells #[.bool ng, .slice none 0 0] 87 (0, 0))) := Lib.hid hW2
  obtain ⟨⟨c0, c1⟩, f⟩ := cells2 hres
  have f0 := f 0
  have t1 := (Tryz.strings_TrimPrefix s ⟨#[45]⟩ W1).mono (fun e w' h => (⟨h.1, h.2.symm⟩ : _ ∧ W1 = w'))
  have t2 := (Tryz.strings_TrimPrefix s ⟨#[43]⟩ W2).mono (fun e w' h => (⟨h.1, h.2.symm⟩ : _ ∧ W2 = w'))
  have hmem : (⟨#[45]⟩ : ByteArray).data.toList = [45] := rfl
  have hmem2 : (⟨#[43]⟩ : ByteArray).data.toList = [43] := rfl
  rw [hmem] at t1
  rw [hmem2] at t2
  clear f hmem hmem2
  have hLW2 : Hid (LaidW W2) := Lib.hid (hL.below hb2 hL.size)
  obtain ⟨mlen, hml⟩ := (hLW2.out).maxlen
  replace hml := Lib.hid hml
  replace hb2 := Lib.hid hb2
  replace hres := Lib.hid hres
  clear hW2 hb1
  have hn : ng = true := by rw [hng, h1]; rfl
  rw [h2, ← hRd, mk_data] at t1
  have hne : (R.toList == s.toList) = false := by
    rw [beq_eq_false_iff_ne, Lib.toList_data, Lib.toList_data, hRd]; exact h3
  subst hn
  replace h1 := Lib.hid h1
  clear h2 h3 t2 hng hR
  replace hRd := Lib.hid hRd
  go_enter Tryz.func68, Tryz.ntmps68
  go_wp2_with fail
  rw [← hW1, ← hq]
  clear hW1
  replace hq := Lib.hid hq
  replace hW2e := Lib.hid hW2e
  refine t1.mono ?_
  rintro e w' ⟨rfl, rfl⟩
  clear t1
  go_wp2_with fail
  rw [← hW2e.out]
  clear hW2e c0 c1 f0 hne hres
  have hng0 : Hid (true = (s.data.toList.head? == some 45)) := Lib.hid (by rw [h1.out]; rfl)
  have hcut := Tryz.strings_Cut R ⟨#[46]⟩ mlen W2 (by omega) hml.out
  rw [show (⟨#[46]⟩ : ByteArray).data.toList = [46] from rfl, (cut_point R.data.toList).1, (cut_point R.data.toList).2] at hcut
  obtain ⟨A, hA⟩ : ∃ A : ByteArray, A = ⟨(before 46 R.data.toList).toArray⟩ := ⟨_, rfl⟩
  obtain ⟨F, hF⟩ : ∃ F : ByteArray, F = ⟨(behind 46 R.data.toList).toArray⟩ := ⟨_, rfl⟩
  rw [← hA, ← hF] at hcut
  have hAd : Hid (A.data.toList = before 46 (unsigned s.data.toList)) := Lib.hid (by rw [hA, ← hRd.out])
  have hFd : Hid (F.data.toList = behind 46 (unsigned s.data.toList)) := Lib.hid (by rw [hF, ← hRd.out])
  have hAl : A.size ≤ 200 := by
    rw [← list_len, hA]
    refine Nat.le_trans (List.takeWhile_prefix _).length_le ?_
    rw [list_len]; omega
  have hFl : F.size ≤ 200 := by
    rw [← list_len, hF]
    show (List.drop 1 _).length ≤ 200
    rw [List.length_drop]
    refine Nat.le_trans (Nat.sub_le _ _) (Nat.le_trans (List.dropWhile_suffix _).length_le ?_)
    rw [list_len]; omega
  obtain ⟨G, hG⟩ : ∃ G, G = A ++ F := ⟨_, rfl⟩
  have hGd : Hid (G.data.toList = before 46 (unsigned s.data.toList) ++ behind 46 (unsigned s.data.toList)) := Lib.hid (by rw [hG, ← hAd.out, ← hFd.out]; simp)
  have hGl : G.size ≤ 400 := by rw [hG, size_app]; omega
  have hcat : A ++ F = G := hG.symm
  have n1 : (9223372036854775807 < A.size + F.size) = False := eq_false (by omega)
  have hP : Hid (parseN s.data.toList = if G.data.toList = [] ∨ G.data.toList.all isDig = false then .error 5 else checkedN ⟨true, if F.size ≤ 20 then valD G.data.toList * 10 ^ (20 - F.size) else cutN .even true (valD G.data.toList) (10 ^ (F.size - 20))⟩) := Lib.hid (by
    unfold parseN
    rw [if_neg (by rw [list_len]; omega)]
    simp only
    rw [← hGd.out, ← hng0.out, ← hFd.out, list_len])
  clear hA hF hG
  refine hcut.mono ?_
  rintro e w3 ⟨rfl, nq, hw3⟩
  clear hcut
  have hb3 : Hid (Below W.heap.size W w3) := Lib.hid (by rw [hw3]; exact below_drewN hb2.out nq)
  have hres3 : Hid (w3.heap[q]? = some (.cells #[.bool true, .slice none 0 0] 87 (0, 0))) := Lib.hid (by rw [hw3]; exact hres2.out)
  clear hw3
  have hx2n := hx.out
  rw [← hGd.out] at hx2n
  have hGe : ¬ G.data.toList = [] := fun h => hx2n (.inl h)
  have q1 : (G.toList == []) = false := beq_eq_false_iff_ne.2 (by rw [Lib.toList_data]; exact hGe)
  have hix := index_b G w3
  obtain ⟨ha, hi⟩ : G.data.toList.all isDig = true ∧ Lib.idxFunc notDig true G = -1 := by
    rcases idx_all G with h | ⟨h, _⟩
    · exact h
    · exact absurd (.inr h) hx2n
  rw [hi] at hix
  have hdig : Hid (∀ c ∈ G.data.toList, isDig c = true) := Lib.hid (List.all_eq_true.1 ha)
  replace hP : Hid (parseN s.data.toList = checkedN ⟨true, if F.size ≤ 20 then valD G.data.toList * 10 ^ (20 - F.size) else cutN .even true (valD G.data.toList) (10 ^ (F.size - 20))⟩) := Lib.hid (by
    rw [hP.out, if_neg]
    rintro (h | h)
    · exact hGe h
    · rw [ha] at h; cases h)
  clear hi ha hGe hx2n
  go_wp2_with fail
  refine hix.mono ?_
  rintro e w4 ⟨rfl, hb4⟩
  clear hix
  have hfr := from_b G w4 (by omega) hdig.out
  obtain ⟨N, hN⟩ : ∃ N, N = valD G.data.toList := ⟨_, rfl⟩
  have hNw : (wordsN N).length ≤ 45 := w10_le (k := 45) (by rw [hN]; exact valD_lt _ hdig.out) (by rw [list_len]; omega)
  rw [← hN] at hfr hP
  replace hN := Lib.hid hN
  have hb04 : Hid (Below W.heap.size W w4) := Lib.hid (hb3.out.trans (hb4.mono hb3.out.size))
  have hres4 : Hid (w4.heap[q]? = some (.cells #[.bool true, .slice none 0 0] 87 (0, 0))) := Lib.hid (by rw [hb4.block q (heap_lt hres3.out)]; exact hres3.out)
  clear hb4
  go_wp2_with fail
  refine hfr.mono ?_
  rintro e w5 ⟨v5, rfl, hB5, hb5⟩
  clear hfr
  obtain ⟨A5, c5, rfl⟩ := BAt.form hB5
  have hres5 : w5.heap[q]? = some (.cells #[.bool true, .slice none 0 0] 87 (0, 0)) := by rw [hb5.block q (heap_lt hres4.out)]; exact hres4.out
  obtain ⟨⟨r0, r1⟩, fr⟩ := cells2 hres5
  have f1 := fr 1
  obtain ⟨n5, hn5⟩ : ∃ n5, n5 = (wordsN N).length := ⟨_, rfl⟩
  rw [← hn5] at hB5 ⊢
  have hres6 := Lib.heap_setCell_same (i := 1) hres5 (.slice A5 n5 c5)
  have hb05 := hb04.out.trans (hb5.mono hb04.out.size)
  have hb06 : Below W.heap.size W (w5.setCell ⟨q, 1, none⟩ (.slice A5 n5 c5)) := hb05.setCell (p := ⟨q, 1, none⟩) (by rw [hq.out]; exact Nat.le_refl _) _
  obtain ⟨w6, hw6⟩ : ∃ w6, w6 = w5.setCell ⟨q, 1, none⟩ (.slice A5 n5 c5) := ⟨_, rfl⟩
  rw [← hw6] at hres6 hb06
  have hB6 : Hid (BN w6 (.slice A5 n5 c5) N) := Lib.hid (BAt_put (w' := w6) hB5 hres5 (fun k hk => by rw [hw6, Below.heap_setCell _ _ _ _ hk]))
  replace hres6 : Hid (w6.heap[q]? = some (.cells #[.bool true, .slice A5 n5 c5] 87 (0, 0))) := Lib.hid hres6
  replace hw6 := Lib.hid hw6
  replace hn5 := Lib.hid hn5
  replace hb06 := Lib.hid hb06
  clear hb5 hb05 hres5 r0
  have hF20 : F.size ≤ 20 := by rw [← list_len, hFd.out]; exact hlen.out
  have g1 : ((20 : Int) - (F.size : Int)) ≥ 0 := by omega
  obtain ⟨K, hK⟩ : ∃ K, K = 20 - F.size := ⟨_, rfl⟩
  obtain ⟨T, hT⟩ : ∃ T, T = 10 ^ K := ⟨_, rfl⟩
  have hpow : ∀ w, Calls Tryz.prog 72 #[.int .i64 (20 - (F.size : Int))] w (BPost w (wordsN T)) := fun w => by
    have := pow10_b w K (by omega)
    rw [show ((K : Nat) : Int) = 20 - (F.size : Int) by omega, ← hT] at this
    exact this
  have hPD : Hid (parseN s.data.toList = checkedN ⟨true, N * T⟩) := Lib.hid (by rw [hP.out, if_pos hF20, hT, hK])
  have hDl : Hid ((wordsN (N * T)).length ≤ 50) := Lib.hid (by
    have h1 := (wordsN_is N).lt
    have h2 : T < 10 ^ (9 * 3) := by rw [hT]; exact Nat.pow_lt_pow_right (by decide) (by omega)
    refine words_len (Nat.lt_of_lt_of_le (Nat.mul_lt_mul'' h1 (by rw [Nat.pow_mul] at h2; exact h2)) ?_)
    rw [show ((10 : Nat) ^ 9) ^ 3 = 1000000000 ^ 3 by rfl, ← Nat.pow_add]
    exact Nat.pow_le_pow_right (by decide) (by omega))
  have hTs : Hid (Small T) := Lib.hid (by
    have : (wordsN T).length ≤ 3 := w10 (by rw [hT]; exact Nat.pow_lt_pow_right (by decide) (by omega))
    unfold Small; omega)
  have hNs : Hid (Small N) := Lib.hid (by unfold Small; omega)
  replace hK := Lib.hid hK
  replace hT := Lib.hid hT
  replace hpow := Lib.hid hpow
  go_wp2_with fail
  rw [← hw6.out]
  clear hw6 r1 f1
  have hql : Hid (q < w6.heap.size) := Lib.hid (heap_lt hres6.out)
  obtain ⟨⟨b0, b1⟩, fb⟩ := cells2 hres6.out
  have fb1 := fb 1
  have hS : Held2 w6 q (.bool true) (.slice A5 n5 c5) w6.drew := ⟨b0, b1, fb1, Lib.hid (Below.refl _ _).drew⟩
  go_region_with (first
      | (go_at_call 72; refine (hpow.out _).mono ?_; rintro e w' ⟨v6, rfl, hv6, hbb⟩; have hS' : Held2 w6 q (.bool true) (.slice A5 n5 c5) w' := three_later hql hS hbb; have hS2 := hS'; obtain ⟨-, b1', fb1', -⟩ := hS2)
      | (go_at_call 74; refine ((times_b _ _ _ N T (hB6.out.below (three_out hS')) hv6 hNs.out hTs.out).mono (fun e w' h => BPost.slice h)).mono ?_; rintro e w7 ⟨A7, c7, rfl, hv7, hbb7⟩; obtain ⟨-, b1'', fb1'', hB7⟩ := three_later hql hS' hbb7))
  all_goals
    obtain ⟨n7, hn7⟩ : ∃ n7, n7 = (wordsN (N * T)).length := ⟨_, rfl⟩
    rw [← hn7] at hv7 ⊢
    have hr7 : w7.heap[q]? = some (.cells #[.bool true, .slice A5 n5 c5] 87 (0, 0)) := by rw [hB7.out.block q hql.out]; exact hres6.out
    have hr8 := Lib.heap_setCell_same (i := 1) hr7 (.slice A7 n7 c7)
    obtain ⟨w8, hw8⟩ : ∃ w8, w8 = w7.setCell ⟨q, 1, none⟩ (.slice A7 n7 c7) := ⟨_, rfl⟩
    have hB8 : BN w8 (.slice A7 n7 c7) (N * T) := BAt_put (w' := w8) hv7 hr7 (fun k hk => by rw [hw8, Below.heap_setCell _ _ _ _ hk])
    have hb08 : Hid (Below W.heap.size W w8) := Lib.hid (by rw [hw8]; exact (hb06.out.trans (hB7.out.mono hb06.out.size)).setCell (p := ⟨q, 1, none⟩) (by rw [hq.out]; exact Nat.le_refl _) _)
    rw [← hw8] at hr8 ⊢
    obtain ⟨⟨y0, y1⟩, -⟩ := cells2 hr8
    have hck := checked_b w8 true A7 n7 c7 (N * T) hB8 (by have := hDl.out; omega)
    rw [← hPD.out] at hck
    replace hr8 := Lib.hid hr8
    clear hw8 hr7 hv7 hbb7 hn7 hB8
    go_wp2_with fail
    refine hck.mono ?_
    intro e w9 hnp
    clear hck
    obtain ⟨hb9, hres⟩ := hnp
    have hr9 : Hid (w9.heap[q]? = some (.cells #[.bool true, .slice A7 n7 c7] 87 (0, 0))) := Lib.hid (by rw [hb9.block q (heap_lt hr8.out)]; exact hr8.out)
    have hb09 : Hid (Below W.heap.size W w9) := Lib.hid (hb08.out.trans (hb9.mono hb08.out.size))
    obtain ⟨⟨u0, u1⟩, fu⟩ := cells2 hr9.out
    have fu0 := fu 0
    have fu1 := fu 1
    clear fu hb9 y0 y1
    cases hpr : parseN s.data.toList with
    | ok x =>
      rw [hpr] at hres
      obtain ⟨A9, n9, c9, rfl, hB9, hn9⟩ := hres
      replace hpr := Lib.hid hpr
      replace hn9 := Lib.hid hn9
      obtain ⟨xn, xd⟩ := x
      go_wp2_with fail
      obtain ⟨W5, hW5, h5, hb5, hk5⟩ := put2 hr9.out (.bool xn) (.slice A9 n9 c9) (B := W.heap.size) (by rw [hq.out]; exact Nat.le_refl _)
      rw [← hW5]
      clear hW5 fu0 fu1 u0 u1
      obtain ⟨⟨y0, y1⟩, -⟩ := cells2 h5
      replace h5 := Lib.hid h5
      refine bodyPost_ret (v := .tuple #[.agg #[.bool xn, .slice A9 n9 c9], .int .i64 0]) ?ret rfl ?post
      case ret => rw [res_two rfl]; go_simp
      case post => exact ⟨hb09.out.trans hb5, by rw [hpr.out]; exact ⟨A9, n9, c9, rfl, BAt_put (w' := W5) hB9 hr9.out hk5, hn9.out⟩⟩
    | error k =>
      rw [hpr] at hres
      replace hpr := Lib.hid hpr
      have hres : e = .returned (.tuple #[.agg #[.bool false, .slice none 0 0], .int .i64 k]) := hres
      subst hres
      go_wp2_with fail
      obtain ⟨W5, hW5, h5, hb5, hk5⟩ := put2 hr9.out (.bool false) (.slice none 0 0) (B := W.heap.size) (by rw [hq.out]; exact Nat.le_refl _)
      rw [← hW5]
      clear hW5 fu0 fu1 u0 u1
      obtain ⟨⟨y0, y1⟩, -⟩ := cells2 h5
      replace h5 := Lib.hid h5
      refine bodyPost_ret (v := .tuple #[.agg #[.bool false, .slice none 0 0], .int .i64 k]) ?ret rfl ?post
      case ret => rw [res_two rfl]; go_simp
      case post => exact ⟨hb09.out.trans hb5, by rw [hpr.out]⟩
end Go.Proofs.YtgobpoeccdgeiaaGreatDoor

namespace Go.Proofs.YtgobpoeccdgeiaaGreatDoor
open Go.RowKit NumP Go.Proofs.YtgobpoeccdgeiaaGreatDoorW.PrintWords
set_option linter.unusedVariables false

set_option maxHeartbeats 4000000 in
set_option maxRecDepth 100000 in
theorem parse_pos_small (s : ByteArray) (W : World) (hL : LaidW W) (hs : s.size ≤ 200) (hsg : s.data.toList.head? ≠ some 45 ∧ Lib.trimPrefix s.data.toList [45] = s.data.toList ∧ Lib.trimPrefix s.data.toList [43] = unsigned s.data.toList) (hx : ¬ (before 46 (unsigned s.data.toList) ++ behind 46 (unsigned s.data.toList) = [] ∨ (before 46 (unsigned s.data.toList) ++ behind 46 (unsigned s.data.toList)).all isDig = false)) (hlen : (behind 46 (unsigned s.data.toList)).length ≤ 20) : Calls Tryz.prog 68 #[.string s] W (NumPost W (parseN s.data.toList)) := by
  obtain ⟨h1, h2, h3⟩ := hsg
  replace hx := Lib.hid hx
  replace hlen := Lib.hid hlen
  obtain ⟨R, hR⟩ : ∃ R, R = restB s := ⟨_, rfl⟩
  have hRd : R.data.toList = unsigned s.data.toList := by rw [hR]; exact restB_data s
  have hRs : R.size ≤ 200 := by
    rw [← list_len, hRd]
    have := unsigned_len s.data.toList
    rw [list_len] at this; omega
  obtain ⟨ng, hng⟩ : ∃ ng, ng = (s.data.toList.head? == some 45) := ⟨_, rfl⟩
  obtain ⟨W1, hW1⟩ : ∃ W1, W1 = W.alloc (.cells #[.bool false, .slice none 0 0] 87) := ⟨_, rfl⟩
  obtain ⟨q, hq⟩ : ∃ q, q = W.heap.size := ⟨_, rfl⟩
  have hb1 : Below W.heap.size W W1 := by rw [hW1]; exact (Below.refl _ _).alloc (Nat.le_refl _) _
  have hres : W1.heap[q]? = some (.cells #[.bool false, .slice none 0 0] 87 (0, 0)) := by rw [hW1, hq]; exact (MapKept.heap_alloc _ _).1
  have hW2 := Lib.heap_setCell_same (i := 0) hres (.bool ng)
  have hb2 : Below W.heap.size W (W1.setCell ⟨q, 0, none⟩ (.bool ng)) := hb1.setCell (p := ⟨q, 0, none⟩) (by rw [hq]; exact Nat.le_refl _) _
  obtain ⟨W2, hW2e⟩ : ∃ W2, W2 = W1.setCell ⟨q, 0, none⟩ (.bool ng) := ⟨_, rfl⟩
  rw [← hW2e] at hW2 hb2
  have hres2 : Hid (W2.heap[q]? = some (.cells #[.bool ng, .slice none 0 0] 87 (0, 0))) := Lib.hid hW2
  obtain ⟨⟨c0, c1⟩, f⟩ := cells2 hres
  have f0 := f 0
  have t1 := (Tryz.strings_TrimPrefix s ⟨#[45]⟩ W1).mono (fun e w' h => (⟨h.1, h.2.symm⟩ : _ ∧ W1 = w'))
  have t2 := (Tryz.strings_TrimPrefix s ⟨#[43]⟩ W2).mono (fun e w' h => (⟨h.1, h.2.symm⟩ : _ ∧ W2 = w'))
  have hmem : (⟨#[45]⟩ : ByteArray).data.toList = [45] := rfl
  have hmem2 : (⟨#[43]⟩ : ByteArray).data.toList = [43] := rfl
  rw [hmem] at t1
  rw [hmem2] at t2
  clear f hmem hmem2
  have hLW2 : Hid (LaidW W2) := Lib.hid (hL.below hb2 hL.size)
  obtain ⟨mlen, hml⟩ := (hLW2.out).maxlen
  replace hml := Lib.hid hml
  replace hb2 := Lib.hid hb2
  replace hres := Lib.hid hres
  clear hW2 hb1
  have hn : ng = false := by
    rw [hng]
    cases hh : (s.data.toList.head? == some 45) with
    | false => rfl
    | true => exact absurd (by simpa using hh) h1
  rw [h2, mk_data] at t1
  rw [h3, ← hRd, mk_data] at t2
  subst hn
  replace h1 := Lib.hid h1
  clear h2 h3 hng hR
  replace hRd := Lib.hid hRd
  go_enter Tryz.func68, Tryz.ntmps68
  go_wp2_with fail
  rw [← hW1, ← hq]
  clear hW1
  replace hq := Lib.hid hq
  replace hW2e := Lib.hid hW2e
  refine t1.mono ?_
  rintro e w' ⟨rfl, rfl⟩
  clear t1
  go_wp2_with fail
  rw [← hW2e.out]
  clear hW2e c0 c1 f0 hres
  refine t2.mono ?_
  rintro e w' ⟨rfl, rfl⟩
  clear t2
  go_wp2_with fail
  have hng0 : Hid (false = (s.data.toList.head? == some 45)) := Lib.hid (by
    cases hh : (s.data.toList.head? == some 45) with
    | false => rfl
    | true => exact absurd (by simpa using hh) h1.out)
  have hcut := Tryz.strings_Cut R ⟨#[46]⟩ mlen W2 (by omega) hml.out
  rw [show (⟨#[46]⟩ : ByteArray).data.toList = [46] from rfl, (cut_point R.data.toList).1, (cut_point R.data.toList).2] at hcut
  obtain ⟨A, hA⟩ : ∃ A : ByteArray, A = ⟨(before 46 R.data.toList).toArray⟩ := ⟨_, rfl⟩
  obtain ⟨F, hF⟩ : ∃ F : ByteArray, F = ⟨(behind 46 R.data.toList).toArray⟩ := ⟨_, rfl⟩
  rw [← hA, ← hF] at hcut
  have hAd : Hid (A.data.toList = before 46 (unsigned s.data.toList)) := Lib.hid (by rw [hA, ← hRd.out])
  have hFd : Hid (F.data.toList = behind 46 (unsigned s.data.toList)) := Lib.hid (by rw [hF, ← hRd.out])
  have hAl : A.size ≤ 200 := by
    rw [← list_len, hA]
    refine Nat.le_trans (List.takeWhile_prefix _).length_le ?_
    rw [list_len]; omega
  have hFl : F.size ≤ 200 := by
    rw [← list_len, hF]
    show (List.drop 1 _).length ≤ 200
    rw [List.length_drop]
    refine Nat.le_trans (Nat.sub_le _ _) (Nat.le_trans (List.dropWhile_suffix _).length_le ?_)
    rw [list_len]; omega
  obtain ⟨G, hG⟩ : ∃ G, G = A ++ F := ⟨_, rfl⟩
  have hGd : Hid (G.data.toList = before 46 (unsigned s.data.toList) ++ behind 46 (unsigned s.data.toList)) := Lib.hid (by rw [hG, ← hAd.out, ← hFd.out]; simp)
  have hGl : G.size ≤ 400 := by rw [hG, size_app]; omega
  have hcat : A ++ F = G := hG.symm
  have n1 : (9223372036854775807 < A.size + F.size) = False := eq_false (by omega)
  have hP : Hid (parseN s.data.toList = if G.data.toList = [] ∨ G.data.toList.all isDig = false then .error 5 else checkedN ⟨false, if F.size ≤ 20 then valD G.data.toList * 10 ^ (20 - F.size) else cutN .even false (valD G.data.toList) (10 ^ (F.size - 20))⟩) := Lib.hid (by
    unfold parseN
    rw [if_neg (by rw [list_len]; omega)]
    simp only
    rw [← hGd.out, ← hng0.out, ← hFd.out, list_len])
  clear hA hF hG
  refine hcut.mono ?_
  rintro e w3 ⟨rfl, nq, hw3⟩
  clear hcut
  have hb3 : Hid (Below W.heap.size W w3) := Lib.hid (by rw [hw3]; exact below_drewN hb2.out nq)
  have hres3 : Hid (w3.heap[q]? = some (.cells #[.bool false, .slice none 0 0] 87 (0, 0))) := Lib.hid (by rw [hw3]; exact hres2.out)
  clear hw3
  have hx2n := hx.out
  rw [← hGd.out] at hx2n
  have hGe : ¬ G.data.toList = [] := fun h => hx2n (.inl h)
  have q1 : (G.toList == []) = false := beq_eq_false_iff_ne.2 (by rw [Lib.toList_data]; exact hGe)
  have hix := index_b G w3
  obtain ⟨ha, hi⟩ : G.data.toList.all isDig = true ∧ Lib.idxFunc notDig true G = -1 := by
    rcases idx_all G with h | ⟨h, _⟩
    · exact h
    · exact absurd (.inr h) hx2n
  rw [hi] at hix
  have hdig : Hid (∀ c ∈ G.data.toList, isDig c = true) := Lib.hid (List.all_eq_true.1 ha)
  replace hP : Hid (parseN s.data.toList = checkedN ⟨false, if F.size ≤ 20 then valD G.data.toList * 10 ^ (20 - F.size) else cutN .even false (valD G.data.toList) (10 ^ (F.size - 20))⟩) := Lib.hid (by
    rw [hP.out, if_neg]
    rintro (h | h)
    · exact hGe h
    · rw [ha] at h; cases h)
  clear hi ha hGe hx2n
  go_wp2_with fail
  refine hix.mono ?_
  rintro e w4 ⟨rfl, hb4⟩
  clear hix
  have hfr := from_b G w4 (by omega) hdig.out
  obtain ⟨N, hN⟩ : ∃ N, N = valD G.data.toList := ⟨_, rfl⟩
  have hNw : (wordsN N).length ≤ 45 := w10_le (k := 45) (by rw [hN]; exact valD_lt _ hdig.out) (by rw [list_len]; omega)
  rw [← hN] at hfr hP
  replace hN := Lib.hid hN
  have hb04 : Hid (Below W.heap.size W w4) := Lib.hid (hb3.out.trans (hb4.mono hb3.out.size))
  have hres4 : Hid (w4.heap[q]? = some (.cells #[.bool false, .slice none 0 0] 87 (0, 0))) := Lib.hid (by rw [hb4.block q (heap_lt hres3.out)]; exact hres3.out)
  clear hb4
  go_wp2_with fail
  refine hfr.mono ?_
  rintro e w5 ⟨v5, rfl, hB5, hb5⟩
  clear hfr
  obtain ⟨A5, c5, rfl⟩ := BAt.form hB5
  have hres5 : w5.heap[q]? = some (.cells #[.bool false, .slice none 0 0] 87 (0, 0)) := by rw [hb5.block q (heap_lt hres4.out)]; exact hres4.out
  obtain ⟨⟨r0, r1⟩, fr⟩ := cells2 hres5
  have f1 := fr 1
  obtain ⟨n5, hn5⟩ : ∃ n5, n5 = (wordsN N).length := ⟨_, rfl⟩
  rw [← hn5] at hB5 ⊢
  have hres6 := Lib.heap_setCell_same (i := 1) hres5 (.slice A5 n5 c5)
  have hb05 := hb04.out.trans (hb5.mono hb04.out.size)
  have hb06 : Below W.heap.size W (w5.setCell ⟨q, 1, none⟩ (.slice A5 n5 c5)) := hb05.setCell (p := ⟨q, 1, none⟩) (by rw [hq.out]; exact Nat.le_refl _) _
  obtain ⟨w6, hw6⟩ : ∃ w6, w6 = w5.setCell ⟨q, 1, none⟩ (.slice A5 n5 c5) := ⟨_, rfl⟩
  rw [← hw6] at hres6 hb06
  have hB6 : Hid (BN w6 (.slice A5 n5 c5) N) := Lib.hid (BAt_put (w' := w6) hB5 hres5 (fun k hk => by rw [hw6, Below.heap_setCell _ _ _ _ hk]))
  replace hres6 : Hid (w6.heap[q]? = some (.cells #[.bool false, .slice A5 n5 c5] 87 (0, 0))) := Lib.hid hres6
  replace hw6 := Lib.hid hw6
  replace hn5 := Lib.hid hn5
  replace hb06 := Lib.hid hb06
  clear hb5 hb05 hres5 r0
  have hF20 : F.size ≤ 20 := by rw [← list_len, hFd.out]; exact hlen.out
  have g1 : ((20 : Int) - (F.size : Int)) ≥ 0 := by omega
  obtain ⟨K, hK⟩ : ∃ K, K = 20 - F.size := ⟨_, rfl⟩
  obtain ⟨T, hT⟩ : ∃ T, T = 10 ^ K := ⟨_, rfl⟩
  have hpow : ∀ w, Calls Tryz.prog 72 #[.int .i64 (20 - (F.size : Int))] w (BPost w (wordsN T)) := fun w => by
    have := pow10_b w K (by omega)
    rw [show ((K : Nat) : Int) = 20 - (F.size : Int) by omega, ← hT] at this
    exact this
  have hPD : Hid (parseN s.data.toList = checkedN ⟨false, N * T⟩) := Lib.hid (by rw [hP.out, if_pos hF20, hT, hK])
  have hDl : Hid ((wordsN (N * T)).length ≤ 50) := Lib.hid (by
    have h1 := (wordsN_is N).lt
    have h2 : T < 10 ^ (9 * 3) := by rw [hT]; exact Nat.pow_lt_pow_right (by decide) (by omega)
    refine words_len (Nat.lt_of_lt_of_le (Nat.mul_lt_mul'' h1 (by rw [Nat.pow_mul] at h2; exact h2)) ?_)
    rw [show ((10 : Nat) ^ 9) ^ 3 = 1000000000 ^ 3 by rfl, ← Nat.pow_add]
    exact Nat.pow_le_pow_right (by decide) (by omega))
  have hTs : Hid (Small T) := Lib.hid (by
    have : (wordsN T).length ≤ 3 := w10 (by rw [hT]; exact Nat.pow_lt_pow_right (by decide) (by omega))
    unfold Small; omega)
  have hNs : Hid (Small N) := Lib.hid (by unfold Small; omega)
  replace hK := Lib.hid hK
  replace hT := Lib.hid hT
  replace hpow := Lib.hid hpow
  go_wp2_with fail
  rw [← hw6.out]
  clear hw6 r1 f1
  have hql : Hid (q < w6.heap.size) := Lib.hid (heap_lt hres6.out)
  obtain ⟨⟨b0, b1⟩, fb⟩ := cells2 hres6.out
  have fb1 := fb 1
  have hS : Held2 w6 q (.bool false) (.slice A5 n5 c5) w6.drew := ⟨b0, b1, fb1, Lib.hid (Below.refl _ _).drew⟩
  go_region_with (first
      | (go_at_call 72; refine (hpow.out _).mono ?_; rintro e w' ⟨v6, rfl, hv6, hbb⟩; have hS' : Held2 w6 q (.bool false) (.slice A5 n5 c5) w' := three_later hql hS hbb; have hS2 := hS'; obtain ⟨-, b1', fb1', -⟩ := hS2)
      | (go_at_call 74; refine ((times_b _ _ _ N T (hB6.out.below (three_out hS')) hv6 hNs.out hTs.out).mono (fun e w' h => BPost.slice h)).mono ?_; rintro e w7 ⟨A7, c7, rfl, hv7, hbb7⟩; obtain ⟨-, b1'', fb1'', hB7⟩ := three_later hql hS' hbb7))
  all_goals
    obtain ⟨n7, hn7⟩ : ∃ n7, n7 = (wordsN (N * T)).length := ⟨_, rfl⟩
    rw [← hn7] at hv7 ⊢
    have hr7 : w7.heap[q]? = some (.cells #[.bool false, .slice A5 n5 c5] 87 (0, 0)) := by rw [hB7.out.block q hql.out]; exact hres6.out
    have hr8 := Lib.heap_setCell_same (i := 1) hr7 (.slice A7 n7 c7)
    obtain ⟨w8, hw8⟩ : ∃ w8, w8 = w7.setCell ⟨q, 1, none⟩ (.slice A7 n7 c7) := ⟨_, rfl⟩
    have hB8 : BN w8 (.slice A7 n7 c7) (N * T) := BAt_put (w' := w8) hv7 hr7 (fun k hk => by rw [hw8, Below.heap_setCell _ _ _ _ hk])
    have hb08 : Hid (Below W.heap.size W w8) := Lib.hid (by rw [hw8]; exact (hb06.out.trans (hB7.out.mono hb06.out.size)).setCell (p := ⟨q, 1, none⟩) (by rw [hq.out]; exact Nat.le_refl _) _)
    rw [← hw8] at hr8 ⊢
    obtain ⟨⟨y0, y1⟩, -⟩ := cells2 hr8
    have hck := checked_b w8 false A7 n7 c7 (N * T) hB8 (by have := hDl.out; omega)
    rw [← hPD.out] at hck
    replace hr8 := Lib.hid hr8
    clear hw8 hr7 hv7 hbb7 hn7 hB8
    go_wp2_with fail
    refine hck.mono ?_
    intro e w9 hnp
    clear hck
    obtain ⟨hb9, hres⟩ := hnp
    have hr9 : Hid (w9.heap[q]? = some (.cells #[.bool false, .slice A7 n7 c7] 87 (0, 0))) := Lib.hid (by rw [hb9.block q (heap_lt hr8.out)]; exact hr8.out)
    have hb09 : Hid (Below W.heap.size W w9) := Lib.hid (hb08.out.trans (hb9.mono hb08.out.size))
    obtain ⟨⟨u0, u1⟩, fu⟩ := cells2 hr9.out
    have fu0 := fu 0
    have fu1 := fu 1
    clear fu hb9 y0 y1
    cases hpr : parseN s.data.toList with
    | ok x =>
      rw [hpr] at hres
      obtain ⟨A9, n9, c9, rfl, hB9, hn9⟩ := hres
      replace hpr := Lib.hid hpr
      replace hn9 := Lib.hid hn9
      obtain ⟨xn, xd⟩ := x
      go_wp2_with fail
      obtain ⟨W5, hW5, h5, hb5, hk5⟩ := put2 hr9.out (.bool xn) (.slice A9 n9 c9) (B := W.heap.size) (by rw [hq.out]; exact Nat.le_refl _)
      rw [← hW5]
      clear hW5 fu0 fu1 u0 u1
      obtain ⟨⟨y0, y1⟩, -⟩ := cells2 h5
      replace h5 := Lib.hid h5
      refine bodyPost_ret (v := .tuple #[.agg #[.bool xn, .slice A9 n9 c9], .int .i64 0]) ?ret rfl ?post
      case ret => rw [res_two rfl]; go_simp
      case post => exact ⟨hb09.out.trans hb5, by rw [hpr.out]; exact ⟨A9, n9, c9, rfl, BAt_put (w' := W5) hB9 hr9.out hk5, hn9.out⟩⟩
    | error k =>
      rw [hpr] at hres
      replace hpr := Lib.hid hpr
      have hres : e = .returned (.tuple #[.agg #[.bool false, .slice none 0 0], .int .i64 k]) := hres
      subst hres
      go_wp2_with fail
      obtain ⟨W5, hW5, h5, hb5, hk5⟩ := put2 hr9.out (.bool false) (.slice none 0 0) (B := W.heap.size) (by rw [hq.out]; exact Nat.le_refl _)
      rw [← hW5]
      clear hW5 fu0 fu1 u0 u1
      obtain ⟨⟨y0, y1⟩, -⟩ := cells2 h5
      replace h5 := Lib.hid h5
      refine bodyPost_ret (v := .tuple #[.agg #[.bool false, .slice none 0 0], .int .i64 k]) ?ret rfl ?post
      case ret => rw [res_two rfl]; go_simp
      case post => exact ⟨hb09.out.trans hb5, by rw [hpr.out]⟩
end Go.Proofs.YtgobpoeccdgeiaaGreatDoor
