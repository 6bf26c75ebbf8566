/- coll.Parse, walked: what it returns, as a plain Lean function of the text. -/
import Derived.Test.YtibhifjehbajnaaDoorCollWords
namespace Go.Proofs.YtibhifjehbajnaaDoor
open Go.RowKit Go.Maps
set_option linter.unusedVariables false

def nl : ByteArray := ⟨#[10]⟩
def linesOf (s : ByteArray) : List ByteArray := Lib.splitB nl 0 (Lib.countB s nl) s
def t0 : CT := ⟨[], (0, 0, 0), 0⟩
/-- The lines from number i on (counted from 0), for a table: the number of the line that is wrong (from 1 on) and its error, or the table. -/
def parseL : Nat → CT → List ByteArray → Int × Int × CT
  | _, t, [] => (0, 0, t)
  | i, t, l :: ls => if (addP t (wordsOf l)).2 = 0 then parseL (i + 1) (addP t (wordsOf l)).1 ls else ((i : Int) + 1, (addP t (wordsOf l)).2, t)
/-- What Parse returns: the line, the error, the table. -/
def parseP (s : ByteArray) : Int × Int × CT :=
  if 1048576 < s.size then (0, 2, t0) else if isText s = false then (0, 10, t0) else
    let r := parseL 0 t0 (linesOf s)
    (r.1, r.2.1, { r.2.2 with st := if r.2.2.st = 0 then 3 else r.2.2.st })

theorem fullE_zero {n : Nat} (h : fullE n = 0) : n ≤ 4096 := by
  unfold fullE at h
  split at h
  · cases h
  · omega
theorem putAll_ok : ∀ {M : List (Int × W3)} {l M' : List (Int × W3)}, putAll M l = some M' → M.length ≤ M'.length
  | M, [], M', h => by simp [putAll] at h; subst h; exact Nat.le_refl _
  | M, x :: l, M', h => by
    simp only [putAll] at h
    split at h
    · cases h
    · have := putAll_ok h
      simp at this
      omega
theorem listPut_ok {ws : List ByteArray} : ∀ {l : List Int} {i : Nat} {t t' : CT}, listPut ws i l t = some t' → t.ok → t'.ok
  | [], i, t, t', h, ho => by simp [listPut] at h; subst h; exact ho
  | c :: l, i, t, t', h, ho => by
    simp only [listPut] at h
    split at h
    · cases h
    · exact listPut_ok h (CT.ok_after ho _ c)
theorem addP_ok {t : CT} {ws : List ByteArray} (h : (addP t ws).2 = 0) (ho : t.ok) (hM : t.M.length ≤ 4096) : (addP t ws).1.ok ∧ (addP t ws).1.M.length ≤ 4096 := by
  cases ws with
  | nil => exact ⟨ho, hM⟩
  | cons x r =>
    unfold addP at h ⊢
    simp only at h ⊢
    split
    · exact ⟨ho, hM⟩
    · rename_i h1
      rw [if_neg h1] at h
      split
      · rename_i h2
        rw [if_pos h2] at h
        unfold levelP at h ⊢
        split
        · split
          · exact ⟨ho, hM⟩
          · split
            · exact ⟨ho, hM⟩
            · exact ⟨ho, hM⟩
        · exact ⟨ho, hM⟩
      · rename_i h2
        rw [if_neg h2] at h
        split
        · rename_i h3
          rw [if_pos h3] at h
          unfold ignoreP at h ⊢
          split
          · exact ⟨ho, hM⟩
          · exact ⟨ho, hM⟩
          · rename_i c cs hc
            rw [hc] at h
            simp only at h
            split
            · exact ⟨ho, hM⟩
            · rename_i M hp
              rw [hp] at h
              have h5 := putAll_ok hp
              have h6 := fullE_zero h
              simp only [CT.ok] at ho ⊢
              omega
        · rename_i h3
          rw [if_neg h3] at h
          unfold listP at h ⊢
          split
          · exact ⟨ho, hM⟩
          · rename_i cs hc
            rw [hc] at h
            simp only at h
            split
            · exact ⟨ho, hM⟩
            · rename_i h4
              rw [if_neg h4] at h
              split
              · exact ⟨ho, hM⟩
              · rename_i t' hp
                rw [hp] at h
                exact ⟨listPut_ok hp ho, fullE_zero h⟩

theorem linesOf_len (s : ByteArray) : (linesOf s).length = Lib.countB s nl + 1 := Lib.splitB_all nl (by decide) 0 _ s rfl
theorem linesOf_le (s : ByteArray) : (linesOf s).length ≤ s.size + 1 := by
  rw [linesOf_len]
  have := Lib.countB_le nl (by decide) s.size s (Nat.le_refl _)
  omega
theorem splitB_size (sep : ByteArray) : ∀ (k : Nat) (s : ByteArray), ∀ x ∈ Lib.splitB sep 0 k s, x.size ≤ s.size
  | 0, s, x, hx => by simp [Lib.splitB_zero] at hx; subst hx; exact Nat.le_refl _
  | k + 1, s, x, hx => by
    simp only [Lib.splitB] at hx
    split at hx
    · simp at hx; subst hx; exact Nat.le_refl _
    · rcases List.mem_cons.1 hx with rfl | hx
      · simp only [ByteArray.size_extract]; omega
      · have := splitB_size sep k _ x hx
        simp only [ByteArray.size_extract] at this
        omega
theorem linesOf_size (s : ByteArray) : ∀ x ∈ linesOf s, x.size ≤ s.size := splitB_size nl _ s

/-- What Parse leaves: the table (its block and its map's are new), or nil with the line and the error. -/
def ParsePost (W : World) (R : Int × Int × CT) (e : Ending) (w' : World) : Prop :=
  Below W.heap.size W w' ∧ ((R.2.1 = 0 ∧ ∃ b m, e = .returned (.tuple #[.pointer (some ⟨b, 0, none⟩), .int .i64 0, .int .i64 0]) ∧ W.heap.size ≤ b ∧ W.heap.size ≤ m ∧ TabAt w' b m R.2.2.M R.2.2.last R.2.2.st) ∨
    (R.2.1 ≠ 0 ∧ e = .returned (.tuple #[.pointer none, .int .i64 R.1, .int .i64 R.2.1])))

set_option maxRecDepth 100000 in
set_option maxHeartbeats 1000000 in
theorem Parse_calls (s : ByteArray) (W : World) (hL : LaidW W) (hs : s.size ≤ 140737488351232) :
    Calls Tryd.prog 16 #[.string s] W (ParsePost W (parseP s)) := by
  have hmm := @run_makeMap Tryd.prog
  by_cases hbig : 1048576 < s.size
  · have e0 : Hid (parseP s = (0, 2, t0)) := by show _ = _; unfold parseP; rw [if_pos hbig]
    go_enter Tryd.func16, Tryd.ntmps16
    go_wp2_with fail
    go_ret3
    exact ⟨Below.refl _ _, .inr (by rw [e0.out]; exact ⟨by decide, rfl⟩)⟩
  · cases ht : isText s with
    | false =>
      have e0 : Hid (parseP s = (0, 10, t0)) := by show _ = _; unfold parseP; rw [if_neg hbig, if_pos ht]
      go_enter Tryd.func16, Tryd.ntmps16
      go_wp2_with (go_at_call 24; refine (IsText_calls _ _).mono ?_; rintro e w1 ⟨rfl, hb1⟩; rw [ht])
      go_ret3
      exact ⟨hb1, .inr (by rw [e0.out]; exact ⟨by decide, rfl⟩)⟩
    | true =>
      go_enter Tryd.func16, Tryd.ntmps16
      go_wp2_with (go_at_call 24; refine (IsText_calls _ _).mono ?_; rintro e w1 ⟨rfl, hb1⟩; rw [ht])
      obtain ⟨W2, hW2⟩ : ∃ W2, W2 = ((w1.alloc (.map #[] 0)).alloc (.cells #[.map (some w1.heap.size), .int .i64 0, .int .i64 0, .int .i64 0, .int .i64 0] 46)) := ⟨_, rfl⟩
      have hb2 : Below W.heap.size W W2 := by rw [hW2]; exact (hb1.alloc hb1.size _).alloc (by have := hb1.size; simp; omega) _
      have hT2 : TabAt W2 (w1.heap.size + 1) w1.heap.size t0.M t0.last t0.st := by
        rw [hW2]
        refine ⟨(by rw [show w1.heap.size + 1 = (w1.alloc (.map #[] 0)).heap.size from by simp]; exact (MapKept.heap_alloc _ _).1), .map [], ?_, MapIs.empty⟩
        exact (World.ownsMap_made _ _ _ _).alloc _
      have hL2 : LaidW W2 := hL.below hb2 hL.size
      obtain ⟨mx, hmx⟩ := hL2.maxlen
      rw [← hW2]
      refine (Tryd.strings_Split s nl mx W2 (by omega) hmx (by decide)).mono ?_
      rintro e w3 ⟨rfl, rfl⟩
      rw [← linesOf_len]
      have hLs : (Lib.splitB nl 0 (Lib.countB s nl) s) = linesOf s := rfl
      rw [hLs]
      obtain ⟨W3, hW3⟩ : ∃ W3, W3 = W2.alloc (.cells ((linesOf s).map Value.string).toArray 9) := ⟨_, rfl⟩
      have hA3 : StrsAt W3 W2.heap.size 0 (linesOf s) := by
        rw [hW3]
        refine ⟨by simp, fun j hj => ?_⟩
        rw [World.cell?_alloc_at _ _ _ _ rfl]
        simp [hj]
      have hb3 : Below W.heap.size W W3 := by rw [hW3]; exact hb2.alloc hb2.size _
      have hT3 : TabAt W3 (w1.heap.size + 1) w1.heap.size t0.M t0.last t0.st := by rw [hW3]; exact hT2.alloc _
      have hW2s : W2.heap.size = w1.heap.size + 2 := by rw [hW2]; simp
      have hps : Hid (parseP s = ((parseL 0 t0 (linesOf s)).1, (parseL 0 t0 (linesOf s)).2.1, { (parseL 0 t0 (linesOf s)).2.2 with st := if (parseL 0 t0 (linesOf s)).2.2.st = 0 then 3 else (parseL 0 t0 (linesOf s)).2.2.st })) := by
        show _ = _
        unfold parseP
        rw [if_neg hbig, if_neg (by simp [ht])]
      have hll := linesOf_le s
      have hlz := Lib.hid (linesOf_size s)
      have hLW := Lib.hid hL
      have h1s := hb1.size
      have hL8 := hL.size
      have hn1 : (linesOf s).length ≤ 1048577 := by omega
      have hq8 : 8 ≤ w1.heap.size := by omega
      obtain ⟨q, hq⟩ : ∃ q, q = w1.heap.size := ⟨_, rfl⟩
      rw [← hq] at hT3 hW2s h1s hq8
      rw [← hW3]
      rw [hW2s] at hA3 ⊢
      rw [← hq]
      clear hW3 hW2 hT2 hL2 hmx hb2 hb1 hLs hL hL8 hq hW2s
      go_wp2_with fail
      go_loopw [2, 22] (fun pt i wr => ∃ (k : Nat) (t : CT), k ≤ (linesOf s).length ∧ pt = .pointer (some ⟨q + 1, 0, none⟩) ∧ i = .int .i64 k ∧ Hid (parseL k t ((linesOf s).drop k) = parseL 0 t0 (linesOf s)) ∧ TabAt wr (q + 1) q t.M t.last t.st ∧ Below W.heap.size W wr ∧ StrsAt wr (q + 2) 0 (linesOf s) ∧ Hid (t.ok ∧ t.M.length ≤ 4096)) (fun _ i _ => (linesOf s).length - (intOf i).toNat)
      case atStart => exact ⟨0, t0, Nat.zero_le _, rfl, rfl, rfl, hT3, hb3, hA3, by show _ ∧ _; simp [CT.ok, t0]⟩
      case round =>
        obtain ⟨k, t, hk, rfl, rfl, hpl, hT, hbw, hA, hok⟩ := hrel
        by_cases hlt : k < (linesOf s).length
        · obtain ⟨x, hx⟩ : ∃ x, x = (linesOf s)[k] := ⟨_, rfl⟩
          have hcell : wr.cell? ⟨q + 2, k, none⟩ = some (.string x) := by
            have := hA.at_ k hlt
            rw [Nat.zero_add] at this
            rw [hx]; exact this
          have hxs : x.size ≤ 1048576 := by have := hlz.out x (by rw [hx]; exact List.getElem_mem _); omega
          have hdrop : (linesOf s).drop k = x :: (linesOf s).drop (k + 1) := by rw [hx]; exact List.drop_eq_getElem_cons hlt
          have hD := Lib.hid hdrop
          obtain ⟨hw1, hw2⟩ := wordsOf_ok x
          have hwz : Hid (∀ y ∈ wordsOf x, y.size ≤ 1048576) := fun y hy => by have := hw1 y hy; omega
          have hwp : Hid (∀ y ∈ wordsOf x, 0 < y.size) := fun y hy => (hw1 y hy).1
          have hwl : Hid ((wordsOf x).length ≤ 1048577) := by show _ ≤ _; omega
          have hLr : LaidW W := hLW.out
          have hLr2 := Lib.hid (hLr.below hbw hLr.size)
          clear hx hdrop hw1 hw2 hLr
          cases hR : (addP t (wordsOf x)).2 == 0 with
          | true =>
            have hR0 := Lib.hid (beq_iff_eq.1 hR)
            clear hR
            go_wp2_with (go_at_call 37; refine (words_calls x _ (by omega)).mono ?_; rintro e w4 ⟨B, rfl, hB, hwA, hb4⟩)
            have hT4 := hT.below hb4 hT.mapLt.2.1 hT.mapLt.1
            have hml := hT.mapLt
            have hB1 : B ≠ q + 1 := by omega
            have hB2 : B ≠ q := by omega
            have hq81 : 8 ≤ q + 1 := by omega
            refine (add_calls _ (q + 1) q B t hT4 hok.out.1 (wordsOf x) hwA hB1 hB2 (hLr2.out.below hb4 hLr2.out.size) hq81 hq8 hwz.out hwp.out hwl.out hok.out.2).mono ?_
            rintro e w5 ⟨t', rfl, hT5, hO5, hz5⟩
            have hb5 : Below W.heap.size W w5 := (hbw.trans (hb4.mono hbw.size)).trans (hO5.below (by omega) (by omega) (by have := hbw.size; have := hb4.size; omega))
            have hA5 : StrsAt w5 (q + 2) 0 (linesOf s) := (hA.below hb4).only hO5 (by omega) (by omega)
            obtain rfl := hz5 hR0.out
            rw [hR0.out]
            go_wp2_with fail
            go_roundw
            case rel =>
              refine ⟨k + 1, _, by omega, rfl, by go_num, ?_, hT5, hb5, hA5, addP_ok hR0.out hok.out.1 hok.out.2⟩
              show parseL _ _ _ = _
              rw [← hpl.out, hD.out]
              rw [parseL, if_pos hR0.out]
            case measure => simp [intOf]; omega
          | false =>
            have hR0 := Lib.hid (beq_eq_false_iff_ne.1 hR)
            clear hR
            go_wp2_with (go_at_call 37; refine (words_calls x _ (by omega)).mono ?_; rintro e w4 ⟨B, rfl, hB, hwA, hb4⟩)
            have hT4 := hT.below hb4 hT.mapLt.2.1 hT.mapLt.1
            have hml := hT.mapLt
            have hB1 : B ≠ q + 1 := by omega
            have hB2 : B ≠ q := by omega
            have hq81 : 8 ≤ q + 1 := by omega
            refine (add_calls _ (q + 1) q B t hT4 hok.out.1 (wordsOf x) hwA hB1 hB2 (hLr2.out.below hb4 hLr2.out.size) hq81 hq8 hwz.out hwp.out hwl.out hok.out.2).mono ?_
            rintro e w5 ⟨t', rfl, hT5, hO5, hz5⟩
            have hb5 : Below W.heap.size W w5 := (hbw.trans (hb4.mono hbw.size)).trans (hO5.below (by omega) (by omega) (by have := hbw.size; have := hb4.size; omega))
            have hpe : Hid (parseL 0 t0 (linesOf s) = ((k : Int) + 1, (addP t (wordsOf x)).2, t)) := by
              show _ = _
              rw [← hpl.out, hD.out, parseL, if_neg hR0.out]
            obtain ⟨er, her⟩ : ∃ er, er = (addP t (wordsOf x)).2 := ⟨_, rfl⟩
            have hne : (er != 0) = true := by rw [her]; simpa using hR0.out
            rw [← her]
            have her' := Lib.hid her
            clear her
            go_wp2_with fail
            go_ret3
            refine ⟨hb5, .inr ?_⟩
            rw [hps.out, hpe.out]
            exact ⟨hR0.out, by rw [← her'.out]; rfl⟩
        · obtain rfl : k = (linesOf s).length := by omega
          have hpe : Hid (parseL 0 t0 (linesOf s) = (0, 0, t)) := by
            show _ = _
            rw [← hpl.out, List.drop_of_length_le (by simp), parseL]
          have c4 := hT.cell.2.2.2.2
          have f4 := hT.frozen 4
          by_cases hst : t.st = 0
          · have hst1 : (t.st == 0) = true := by simp [hst]
            have hst' := Lib.hid hst
            clear hst
            go_wp2_with fail
            go_ret3
            refine ⟨Below.setCell hbw (by show W.heap.size ≤ q + 1; omega) _, .inl ?_⟩
            rw [hps.out, hpe.out]
            exact ⟨rfl, q + 1, q, rfl, by omega, by omega, by simp only [if_pos hst'.out]; exact hT.setSt 3⟩
          · have hst1 : (t.st == 0) = false := by simp [hst]
            have hst' := Lib.hid hst
            clear hst
            go_wp2_with fail
            go_ret3
            refine ⟨hbw, .inl ?_⟩
            rw [hps.out, hpe.out]
            exact ⟨rfl, q + 1, q, rfl, by omega, by omega, by simp only [if_neg hst'.out]; exact hT⟩
end Go.Proofs.YtibhifjehbajnaaDoor
