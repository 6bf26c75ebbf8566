/- parse of package num: all its ways. Results of package num: done. The sum of two numbers of package num. Package num: canonical. Package num: both, with any function value. The function values of package num. Package num: divided, Parse, Add, Sub, Mul, Div, IDiv, Mod, Neg. Plain laws of decimal numbers: the canonical text of a number is read as this number; what the operations do with canonical texts. -/
import Derived.Test.YtgobpoeccdgeiaaGreatDoorQd
import Derived.Test.YtgobpoeccdgeiaaGreatDoorQe
import Derived.Test.YtgobpoeccdgeiaaGreatDoorQf
import Derived.Test.YtgobpoeccdgeiaaGreatDoorQc

namespace Go.Proofs.YtgobpoeccdgeiaaGreatDoor
open Go.RowKit NumP Go.Proofs.YtgobpoeccdgeiaaGreatDoorW.PrintWords
set_option linter.unusedVariables false

theorem parse_b (s : ByteArray) (W : World) (hL : LaidW W) (hs : s.size ≤ maxLen) : Calls Tryz.prog 68 #[.string s] W (NumPost W (parseN s.data.toList)) := by
  by_cases h : s.size ≤ 200
  · rcases sign_cases s with hsg | hsg
    · by_cases hx : before 46 (unsigned s.data.toList) ++ behind 46 (unsigned s.data.toList) = [] ∨ (before 46 (unsigned s.data.toList) ++ behind 46 (unsigned s.data.toList)).all isDig = false
      · exact parse_neg_form s W hL h hsg hx
      · by_cases hl : (behind 46 (unsigned s.data.toList)).length ≤ 20
        · exact parse_neg_small s W hL h hsg hx hl
        · exact parse_neg_big s W hL h hsg hx hl
    · by_cases hx : before 46 (unsigned s.data.toList) ++ behind 46 (unsigned s.data.toList) = [] ∨ (before 46 (unsigned s.data.toList) ++ behind 46 (unsigned s.data.toList)).all isDig = false
      · exact parse_pos_form s W hL h hsg hx
      · by_cases hl : (behind 46 (unsigned s.data.toList)).length ≤ 20
        · exact parse_pos_small s W hL h hsg hx hl
        · exact parse_pos_big s W hL h hsg hx hl
  · exact parse_long s W (by omega) hs
end Go.Proofs.YtgobpoeccdgeiaaGreatDoor

namespace Go.Proofs.YtgobpoeccdgeiaaGreatDoor
open Go.RowKit NumP Go.Proofs.YtgobpoeccdgeiaaGreatDoorW.PrintWords
set_option linter.unusedVariables false

/-- What a function leaves that returns a text and an error. -/
def StrPost (W : World) (r : List UInt8 × Int) (e : Ending) (w' : World) : Prop := e = .returned (.tuple #[.string ⟨r.1.toArray⟩, .int .i64 r.2]) ∧ Below W.heap.size W w'
theorem checkedN_lt {x y : Num} (h : checkedN x = .ok y) : y.d < P50 := by
  unfold checkedN at h
  split at h
  · cases h
  · cases h
    simp only; omega
theorem checkedN_err {x : Num} {k : Int} (h : checkedN x = .error k) : k = 40 := by
  unfold checkedN at h
  split at h
  · cases h; rfl
  · cases h
theorem BAt_keep {w w' : World} {v : Value} {xs : List Int} {q : Nat} {b : Bool} {A : Option Addr} {n c : Nat} {T : TypeId} (h : BAt w v xs) (hq : w.heap[q]? = some (.cells #[.bool b, .slice A n c] T (0, 0))) (hk : ∀ k, k ≠ q → w'.heap[k]? = w.heap[k]?) : BAt w' v xs := by
  obtain ⟨A', c', e, h1, h2, h3⟩ := h.at_
  refine ⟨A', c', e, h1, h2, fun h0 => ?_⟩
  obtain ⟨ad, ea, hc⟩ := h3 h0
  refine ⟨ad, ea, fun i hi => ?_⟩
  have hci := hc i hi
  rw [← hci]
  refine World.cell?_of_block (hk _ fun e => ?_)
  unfold World.cell? at hci
  rw [e, hq] at hci
  generalize (Addr.add ad i).off = o at hci
  cases o with
  | zero => simp at hci
  | succ o => cases o with
    | zero => simp at hci
    | succ o => simp at hci
theorem w50 {d : Nat} (h : d < P50) : (wordsN d).length ≤ 6 := words_len (Nat.lt_of_lt_of_le h (by decide))
set_option maxHeartbeats 1000000 in
set_option maxRecDepth 100000 in
theorem done_b (W : World) (neg : Bool) (A : Option Addr) (n c d : Nat) (hv : BN W (.slice A n c) d) (hd : (wordsN d).length ≤ 400000) :
    Calls Tryz.prog 73 #[.agg #[.bool neg, .slice A n c]] W (StrPost W (outN (checkedN ⟨neg, d⟩))) := by
  obtain ⟨W1, hW1⟩ : ∃ W1, W1 = W.alloc (.cells #[.bool neg, .slice A n c] 87) := ⟨_, rfl⟩
  obtain ⟨q, hq⟩ : ∃ q, q = W.heap.size := ⟨_, rfl⟩
  have hb1 : Below W.heap.size W W1 := by rw [hW1]; exact (Below.refl _ _).alloc (Nat.le_refl _) _
  have hblk : W1.heap[q]? = some (.cells #[.bool neg, .slice A n c] 87 (0, 0)) := by rw [hW1, hq]; exact (MapKept.heap_alloc _ _).1
  have hck := checked_b W1 neg A n c d (hv.below hb1) hd
  replace hblk := Lib.hid hblk
  replace hv := Lib.hid hv
  go_enter Tryz.func73, Tryz.ntmps73
  go_wp2_with fail
  rw [← hW1, ← hq]
  clear hW1
  replace hq := Lib.hid hq
  refine hck.mono ?_
  intro e w2 hnp
  clear hck
  obtain ⟨hb2, hres⟩ := hnp
  have hb02 : Hid (Below W.heap.size W w2) := Lib.hid (hb1.trans (hb2.mono hb1.size))
  have hr2 : Hid (w2.heap[q]? = some (.cells #[.bool neg, .slice A n c] 87 (0, 0))) := Lib.hid (by rw [hb2.block q (heap_lt hblk.out)]; exact hblk.out)
  obtain ⟨⟨u0, u1⟩, fu⟩ := cells2 hr2.out
  have fu0 := fu 0
  have fu1 := fu 1
  clear fu hb1 hb2
  cases hpr : checkedN ⟨neg, d⟩ with
  | ok x =>
    rw [hpr] at hres
    obtain ⟨A9, n9, c9, rfl, hB9, hn9⟩ := hres
    have hx50 := w50 (checkedN_lt hpr)
    obtain ⟨xn, xd⟩ := x
    simp only at hx50
    obtain ⟨W5, hW5, h5, hb5, hk5⟩ := put2 hr2.out (.bool xn) (.slice A9 n9 c9) (B := W.heap.size) (by rw [hq.out]; exact Nat.le_refl _)
    have hB5 : BN W5 (.slice A9 n9 c9) xd := BAt_keep (w' := W5) hB9 hr2.out hk5
    have htx := text_b W5 xn A9 n9 c9 xd hB5 (by omega)
    obtain ⟨⟨y0, y1⟩, -⟩ := cells2 h5
    have hb05 : Hid (Below W.heap.size W W5) := Lib.hid (hb02.out.trans hb5)
    replace hpr := Lib.hid hpr
    replace hW5 := Lib.hid hW5
    replace hn9 := Lib.hid hn9
    replace h5 := Lib.hid h5
    clear hB5 hB9 hb5 hx50
    go_wp2_with fail
    rw [← hW5.out]
    clear hW5 u0 u1 fu0 fu1
    go_wp2_with fail
    refine htx.mono ?_
    rintro e w6 ⟨rfl, hb6⟩
    clear htx
    go_wp2_with fail
    go_ret2
    exact ⟨by rw [hpr.out]; rfl, hb05.out.trans (hb6.mono hb05.out.size)⟩
  | error k =>
    rw [hpr] at hres
    have hk : k = 40 := checkedN_err hpr
    subst hk
    replace hpr := Lib.hid hpr
    have hres : e = .returned (.tuple #[.agg #[.bool false, .slice none 0 0], .int .i64 40]) := hres
    subst hres
    obtain ⟨W5, hW5, h5, hb5, hk5⟩ := put2 hr2.out (.bool false) (.slice none 0 0) (B := W.heap.size) (by rw [hq.out]; exact Nat.le_refl _)
    replace hW5 := Lib.hid hW5
    replace h5 := Lib.hid h5
    go_wp2_with fail
    rw [← hW5.out]
    go_ret2
    exact ⟨by rw [hpr.out]; rfl, hb02.out.trans hb5⟩
end Go.Proofs.YtgobpoeccdgeiaaGreatDoor

namespace Go.Proofs.YtgobpoeccdgeiaaGreatDoor
open Go.RowKit NumP Go.Proofs.YtgobpoeccdgeiaaGreatDoorW.PrintWords
set_option linter.unusedVariables false

theorem BPost.sl {W : World} {k : Nat} {e : Ending} {w' : World} (h : BPost W (wordsN k) e w') : ∃ A c, e = .returned (.slice A (wordsN k).length c) ∧ BN w' (.slice A (wordsN k).length c) k ∧ Below W.heap.size W w' := by
  obtain ⟨v, rfl, hB, hb⟩ := h
  obtain ⟨A, c, rfl⟩ := BAt.form hB
  exact ⟨A, c, rfl, hB, hb⟩
/-- Two boxed numbers stay. -/
theorem four_out {W4 w : World} {q p : Nat} {a b a' b' : Value} (h : w.cell? ⟨q, 0, none⟩ = some a ∧ w.cell? ⟨q, 1, none⟩ = some b ∧ w.cell? ⟨p, 0, none⟩ = some a' ∧ w.cell? ⟨p, 1, none⟩ = some b' ∧ Hid (Below W4.heap.size W4 w)) : Below W4.heap.size W4 w := h.2.2.2.2.out
theorem four_later {W4 : World} {q p : Nat} {a b a' b' : Value} {w w' : World} (hq : Hid (q < W4.heap.size ∧ p < W4.heap.size)) (h : w.cell? ⟨q, 0, none⟩ = some a ∧ w.cell? ⟨q, 1, none⟩ = some b ∧ w.cell? ⟨p, 0, none⟩ = some a' ∧ w.cell? ⟨p, 1, none⟩ = some b' ∧ Hid (Below W4.heap.size W4 w)) (hb : Below w.heap.size w w') :
    w'.cell? ⟨q, 0, none⟩ = some a ∧ w'.cell? ⟨q, 1, none⟩ = some b ∧ w'.cell? ⟨p, 0, none⟩ = some a' ∧ w'.cell? ⟨p, 1, none⟩ = some b' ∧ Hid (Below W4.heap.size W4 w') := by
  obtain ⟨c0, c1, d0, d1, h⟩ := h
  have hz := h.out.size
  obtain ⟨hq1, hq2⟩ := hq.out
  exact ⟨(hb.cell (p := ⟨q, 0, none⟩) (by show q < _; omega)).trans c0, (hb.cell (p := ⟨q, 1, none⟩) (by show q < _; omega)).trans c1, (hb.cell (p := ⟨p, 0, none⟩) (by show p < _; omega)).trans d0, (hb.cell (p := ⟨p, 1, none⟩) (by show p < _; omega)).trans d1, Lib.hid (h.out.trans (hb.mono h.out.size))⟩
theorem cells_of {w : World} {q p : Nat} {a b a' b' : Value} {T : TypeId} (h : w.heap[q]? = some (.cells #[a, b] T (0, 0))) (h' : w.heap[p]? = some (.cells #[a', b'] T (0, 0))) :
    w.cell? ⟨q, 0, none⟩ = some a ∧ w.cell? ⟨q, 1, none⟩ = some b ∧ w.cell? ⟨p, 0, none⟩ = some a' ∧ w.cell? ⟨p, 1, none⟩ = some b' := ⟨(cells2 h).1.1, (cells2 h).1.2, (cells2 h').1.1, (cells2 h').1.2⟩
end Go.Proofs.YtgobpoeccdgeiaaGreatDoor

namespace Go.Proofs.YtgobpoeccdgeiaaGreatDoor
open Go.RowKit NumP Go.Proofs.YtgobpoeccdgeiaaGreatDoorW.PrintWords
set_option linter.unusedVariables false

theorem parseN_lt {l : List UInt8} {x : Num} (h : parseN l = .ok x) : x.d < P50 := by
  unfold parseN at h
  split at h
  · cases h
  · simp only at h
    split at h
    · cases h
    · exact checkedN_lt h
theorem parseN_err {l : List UInt8} {k : Int} (h : parseN l = .error k) : 0 < k := by
  unfold parseN at h
  split at h
  · cases h; decide
  · simp only at h
    split at h
    · cases h; decide
    · rw [checkedN_err h]; decide
theorem canonN_ok {l : List UInt8} {x : Num} (h : parseN l = .ok x) : canonN l = if textN x = l then .ok x else .error 1 := by unfold canonN; rw [h]
theorem canonN_err {l : List UInt8} {k : Int} (h : parseN l = .error k) : canonN l = .error 1 := by unfold canonN; rw [h]
theorem canonN_lt {l : List UInt8} {x : Num} (h : canonN l = .ok x) : x.d < P50 := by
  cases hp : parseN l with
  | error k => rw [canonN_err hp] at h; cases h
  | ok y =>
    rw [canonN_ok hp] at h
    split at h
    · cases h; exact parseN_lt hp
    · cases h
set_option maxHeartbeats 2000000 in
set_option maxRecDepth 100000 in
theorem canonical_b (s : ByteArray) (W : World) (hL : LaidW W) (hs : s.size ≤ maxLen) : Calls Tryz.prog 70 #[.string s] W (NumPost W (canonN s.data.toList)) := by
  obtain ⟨W1, hW1⟩ : ∃ W1, W1 = W.alloc (.cells #[.bool false, .slice none 0 0] 87) := ⟨_, rfl⟩
  obtain ⟨q, hq⟩ : ∃ q, q = W.heap.size := ⟨_, rfl⟩
  have hb1 : Below W.heap.size W W1 := by rw [hW1]; exact (Below.refl _ _).alloc (Nat.le_refl _) _
  have hblk : W1.heap[q]? = some (.cells #[.bool false, .slice none 0 0] 87 (0, 0)) := by rw [hW1, hq]; exact (MapKept.heap_alloc _ _).1
  have hpa := parse_b s W1 (hL.below hb1 hL.size) hs
  replace hblk := Lib.hid hblk
  go_enter Tryz.func70, Tryz.ntmps70
  go_wp2_with fail
  rw [← hW1, ← hq]
  clear hW1
  replace hq := Lib.hid hq
  refine hpa.mono ?_
  intro e w2 hnp
  clear hpa
  obtain ⟨hb2, hres⟩ := hnp
  have hb02 : Hid (Below W.heap.size W w2) := Lib.hid (hb1.trans (hb2.mono hb1.size))
  have hr2 : Hid (w2.heap[q]? = some (.cells #[.bool false, .slice none 0 0] 87 (0, 0))) := Lib.hid (by rw [hb2.block q (heap_lt hblk.out)]; exact hblk.out)
  clear hb1 hb2 hblk
  obtain ⟨⟨u0, u1⟩, fq⟩ := cells2 hr2.out
  have fq0 := fq 0
  have fq1 := fq 1
  clear fq
  have hlt2 : q < w2.heap.size := heap_lt hr2.out
  have hne2 : q ≠ w2.heap.size := Nat.ne_of_lt hlt2
  cases hpr : parseN s.data.toList with
  | error k =>
    rw [hpr] at hres
    have hres : e = .returned (.tuple #[.agg #[.bool false, .slice none 0 0], .int .i64 k]) := hres
    have hk := parseN_err hpr
    subst hres
    have hk0 : (k == 0) = false := by simp; omega
    replace hpr := Lib.hid hpr
    go_wp2_with fail
    obtain ⟨W5, hW5, h5, hb5, hk5⟩ := put2 hr2.out (.bool false) (.slice none 0 0) (B := W.heap.size) (by rw [hq.out]; exact Nat.le_refl _)
    rw [← hW5]
    clear u0 u1 fq0 fq1
    have hz5 : q < W5.heap.size := heap_lt h5
    obtain ⟨⟨y0, y1⟩, -⟩ := cells2 h5
    replace h5 := Lib.hid h5
    replace hW5 := Lib.hid hW5
    refine bodyPost_ret (v := .tuple #[.agg #[.bool false, .slice none 0 0], .int .i64 1]) ?ret rfl ?post
    case ret => rw [res_two rfl]; go_simp
    case post => exact ⟨(hb02.out.trans hb5).alloc (by have := hb02.out.size; have := hb5.size; omega) _, by rw [canonN_err hpr.out]⟩
  | ok x =>
    rw [hpr] at hres
    obtain ⟨A9, n9, c9, rfl, hB9, hn9⟩ := hres
    have hx50 := w50 (parseN_lt hpr)
    obtain ⟨xn, xd⟩ := x
    simp only at hx50 hB9 hn9
    obtain ⟨W3, hW3⟩ : ∃ W3, W3 = w2.alloc (.cells #[.bool xn, .slice A9 n9 c9] 87) := ⟨_, rfl⟩
    have hb3 : Below w2.heap.size w2 W3 := by rw [hW3]; exact (Below.refl _ _).alloc (Nat.le_refl _) _
    have htx := text_b W3 xn A9 n9 c9 xd (hB9.below hb3) (by omega)
    obtain ⟨p, hp⟩ : ∃ p, p = w2.heap.size := ⟨_, rfl⟩
    have hp3 : W3.heap[p]? = some (.cells #[.bool xn, .slice A9 n9 c9] 87 (0, 0)) := by rw [hW3, hp]; exact (MapKept.heap_alloc _ _).1
    have hq3 : W3.heap[q]? = some (.cells #[.bool false, .slice none 0 0] 87 (0, 0)) := by rw [hb3.block q hlt2]; exact hr2.out
    have hb03 : Below W.heap.size W W3 := hb02.out.trans (hb3.mono hb02.out.size)
    have hh := canonN_ok hpr
    have hpq : p ≠ q := fun e => hne2 (by rw [← e, hp])
    replace hpr := Lib.hid hpr
    replace hn9 := Lib.hid hn9
    replace hh := Lib.hid hh
    replace hB9 := Lib.hid hB9
    go_wp2_with fail
    rw [← hW3, ← hp]
    clear hW3 u0 u1 fq0 fq1 hlt2 hne2
    replace hp := Lib.hid hp
    refine htx.mono ?_
    rintro e w4 ⟨rfl, hb4⟩
    clear htx
    have hp4 : w4.heap[p]? = some (.cells #[.bool xn, .slice A9 n9 c9] 87 (0, 0)) := by rw [hb4.block p (heap_lt hp3)]; exact hp3
    have hq4 : w4.heap[q]? = some (.cells #[.bool false, .slice none 0 0] 87 (0, 0)) := by rw [hb4.block q (heap_lt hq3)]; exact hq3
    have hb04 : Hid (Below W.heap.size W w4) := Lib.hid (hb03.trans (hb4.mono hb03.size))
    have hb24 : Hid (Below w2.heap.size w2 w4) := Lib.hid (hb3.trans (hb4.mono hb3.size))
    clear hb3 hb4 hb03 hp3 hq3
    obtain ⟨⟨u0, u1⟩, -⟩ := cells2 hp4
    obtain ⟨⟨v0, v1⟩, fq⟩ := cells2 hq4
    have fq0 := fq 0
    have fq1 := fq 1
    clear fq
    replace hp4 := Lib.hid hp4
    by_cases hts : textN ⟨xn, xd⟩ = s.data.toList
    · have hte : txtB ⟨xn, xd⟩ = s := by apply ByteArray.ext; apply Array.ext'; rw [txtB_data]; exact hts
      have hR : Hid (canonN s.data.toList = .ok ⟨xn, xd⟩) := Lib.hid (by rw [hh.out, if_pos hts])
      obtain ⟨W6, hW6, h6, hb6, hk6⟩ := put2 hq4 (.bool xn) (.slice A9 n9 c9) (B := W.heap.size) (by rw [hq.out]; exact Nat.le_refl _)
      have hB6 : Hid (BN W6 (.slice A9 n9 c9) xd) := Lib.hid (BAt_keep (w' := W6) (hB9.out.below hb24.out) hq4 hk6)
      replace hts := Lib.hid hts
      replace hW6 := Lib.hid hW6
      go_wp2_with fail
      rw [← hW6.out]
      clear u0 u1 v0 v1 fq0 fq1 hW6
      obtain ⟨⟨y0, y1⟩, -⟩ := cells2 h6
      replace h6 := Lib.hid h6
      refine bodyPost_ret (v := .tuple #[.agg #[.bool xn, .slice A9 n9 c9], .int .i64 0]) ?ret rfl ?post
      case ret => rw [res_two rfl]; go_simp
      case post => exact ⟨hb04.out.trans hb6, by rw [hR.out]; exact ⟨A9, n9, c9, rfl, hB6.out, hn9.out⟩⟩
    · have hte : ((txtB ⟨xn, xd⟩).toList == s.toList) = false := by
        rw [ByteArray.toList_eq, ByteArray.toList_eq, txtB_data]
        simpa using hts
      have hR : Hid (canonN s.data.toList = .error 1) := Lib.hid (by rw [hh.out, if_neg hts])
      obtain ⟨W6, hW6, h6, hb6, hk6⟩ := put2 hq4 (.bool false) (.slice none 0 0) (B := W.heap.size) (by rw [hq.out]; exact Nat.le_refl _)
      replace hts := Lib.hid hts
      replace hW6 := Lib.hid hW6
      go_wp2_with fail
      rw [← hW6.out]
      clear u0 u1 v0 v1 fq0 fq1 hW6
      obtain ⟨⟨y0, y1⟩, -⟩ := cells2 h6
      replace h6 := Lib.hid h6
      refine bodyPost_ret (v := .tuple #[.agg #[.bool false, .slice none 0 0], .int .i64 1]) ?ret rfl ?post
      case ret => rw [res_two rfl]; go_simp
      case post => exact ⟨hb04.out.trans hb6, by rw [hR.out]⟩
end Go.Proofs.YtgobpoeccdgeiaaGreatDoor

namespace Go.Proofs.YtgobpoeccdgeiaaGreatDoor
open Go.RowKit NumP Go.Proofs.YtgobpoeccdgeiaaGreatDoorW.PrintWords
set_option linter.unusedVariables false

end Go.Proofs.YtgobpoeccdgeiaaGreatDoor

namespace Go.Proofs.YtgobpoeccdgeiaaGreatDoor
open Go.RowKit NumP Go.Proofs.YtgobpoeccdgeiaaGreatDoorW.PrintWords
set_option linter.unusedVariables false

theorem wBig {n k : Nat} (h : n < 1000000000 ^ k) (hk : k ≤ 400000) : (wordsN n).length ≤ 400000 := Nat.le_trans (words_len h) hk
theorem cutN_le (w : NumP.Way) (neg : Bool) (a u : Nat) : cutN w neg a u ≤ a + 1 := by
  unfold cutN
  have h3 := Nat.div_le_self a u
  have h4 : (w.up neg (a / u) (a % u) u).toNat ≤ 1 := by cases w.up neg (a / u) (a % u) u <;> decide
  omega
end Go.Proofs.YtgobpoeccdgeiaaGreatDoor

namespace Go.Proofs.YtgobpoeccdgeiaaGreatDoor
open Go.RowKit NumP Go.Proofs.YtgobpoeccdgeiaaGreatDoorW.PrintWords
set_option linter.unusedVariables false

set_option maxHeartbeats 1000000 in
set_option maxRecDepth 100000 in
theorem Parse_b (s : ByteArray) (W : World) (hL : LaidW W) (hs : s.size ≤ maxLen) : Calls Tryz.prog 33 #[.string s] W (StrPost W (parseT s.data.toList)) := by
  have hpa := parse_b s W hL hs
  go_enter Tryz.func33, Tryz.ntmps33
  go_wp2_with fail
  refine hpa.mono ?_
  intro e w2 hnp
  clear hpa
  obtain ⟨hb2, hres⟩ := hnp
  cases hpr : parseN s.data.toList with
  | error k =>
    rw [hpr] at hres
    have hres : e = .returned (.tuple #[.agg #[.bool false, .slice none 0 0], .int .i64 k]) := hres
    have hk := parseN_err hpr
    subst hres
    have hk0 : (k == 0) = false := by simp; omega
    have hR : Hid (parseT s.data.toList = ([], k)) := Lib.hid (by unfold parseT; rw [hpr]; rfl)
    replace hpr := Lib.hid hpr
    go_wp2_with fail
    go_ret2
    exact ⟨by rw [hR.out]; rfl, hb2.alloc hb2.size _⟩
  | ok x =>
    rw [hpr] at hres
    obtain ⟨A9, n9, c9, rfl, hB9, hn9⟩ := hres
    have hx50 := w50 (parseN_lt hpr)
    have hR : Hid (parseT s.data.toList = (textN x, 0)) := Lib.hid (by unfold parseT; rw [hpr]; rfl)
    obtain ⟨xn, xd⟩ := x
    simp only at hx50 hB9 hn9
    obtain ⟨W3, hW3⟩ : ∃ W3, W3 = w2.alloc (.cells #[.bool xn, .slice A9 n9 c9] 87) := ⟨_, rfl⟩
    have hb3 : Below w2.heap.size w2 W3 := by rw [hW3]; exact (Below.refl _ _).alloc (Nat.le_refl _) _
    have htx := text_b W3 xn A9 n9 c9 xd (hB9.below hb3) (by omega)
    have hb03 := hb2.trans (hb3.mono hb2.size)
    replace hpr := Lib.hid hpr
    replace hn9 := Lib.hid hn9
    replace hB9 := Lib.hid hB9
    go_wp2_with fail
    rw [← hW3]
    refine htx.mono ?_
    rintro e w4 ⟨rfl, hb4⟩
    clear htx
    go_wp2_with fail
    go_ret2
    exact ⟨by rw [hR.out]; rfl, hb03.trans (hb4.mono hb03.size)⟩
end Go.Proofs.YtgobpoeccdgeiaaGreatDoor

namespace Go.Proofs.YtgobpoeccdgeiaaGreatDoor.NumP
set_option linter.unusedVariables false

/-- A number in the range, without a negative zero. -/
def Good (x : Num) : Prop := x.d < P50 ∧ (x.neg = true → 0 < x.d)
theorem valD_app (a b : List UInt8) : valD (a ++ b) = valD a * 10 ^ b.length + valD b := by
  unfold valD; rw [valF_app]; exact valF_eq ..
theorem valD_one (c : UInt8) : valD [c] = c.toNat - 48 := by simp [valD, valF]
theorem valD_nil : valD [] = 0 := rfl
theorem dig_nat (n : Nat) (h : n < 10) : (UInt8.ofNat (48 + n)).toNat = 48 + n := by
  rw [UInt8.toNat_ofNat']; omega
theorem isDig_nat (n : Nat) (h : n < 10) : isDig (UInt8.ofNat (48 + n)) = true := by
  unfold isDig; rw [dig_nat n h]; simp; omega
theorem fixD_val : ∀ k n, valD (fixD k n) = n % 10 ^ k
  | 0, n => by simp [fixD, valD, valF, Nat.mod_one]
  | k + 1, n => by
    rw [fixD, valD_app, fixD_val k, valD_one, dig_nat _ (Nat.mod_lt _ (by decide)), Nat.pow_succ, Nat.mul_comm (10 ^ k) 10, Nat.mod_mul]
    show n / 10 % 10 ^ k * 10 ^ 1 + _ = _
    omega
theorem fixD_dig : ∀ k n, ∀ c ∈ fixD k n, isDig c = true
  | 0, n, c, h => by simp [fixD] at h
  | k + 1, n, c, h => by
    rw [fixD] at h
    rcases List.mem_append.1 h with h | h
    · exact fixD_dig k _ c h
    · rw [List.mem_singleton.1 h]; exact isDig_nat _ (Nat.mod_lt _ (by decide))
theorem valD_zeros : ∀ k, valD (List.replicate k 48) = 0
  | 0 => rfl
  | k + 1 => by rw [List.replicate_succ', valD_app, valD_zeros k, valD_one]; decide
theorem trimZ_eq (l : List UInt8) : ∃ k, l = trimZ l ++ List.replicate k 48 := by
  have h := List.takeWhile_append_dropWhile (p := fun c : UInt8 => c == 48) (l := l.reverse)
  have hz : l.reverse.takeWhile (fun c : UInt8 => c == 48) = List.replicate (l.reverse.takeWhile (fun c : UInt8 => c == 48)).length 48 :=
    List.eq_replicate_iff.2 ⟨rfl, fun c hc => by
      have := List.all_takeWhile (l := l.reverse) (p := fun c : UInt8 => c == 48)
      exact eq_of_beq (List.all_eq_true.1 this c hc)⟩
  refine ⟨(l.reverse.takeWhile (fun c : UInt8 => c == 48)).length, ?_⟩
  have h2 := congrArg List.reverse h
  rw [List.reverse_append, List.reverse_reverse, hz, List.reverse_replicate] at h2
  rw [trimZ]
  exact h2.symm
theorem dig_ne {c : UInt8} (h : isDig c = true) {k : UInt8} (hk : isDig k = false) : c ≠ k := fun e => by rw [e, hk] at h; cases h
theorem before_app (c : UInt8) : ∀ (a b : List UInt8), (∀ x ∈ a, x ≠ c) → before c (a ++ b) = a ++ before c b
  | [], b, _ => rfl
  | x :: a, b, h => by
    have h1 : (x != c) = true := by rw [bne_iff_ne]; exact h x (List.mem_cons_self ..)
    have h2 := before_app c a b fun y hy => h y (List.mem_cons_of_mem _ hy)
    unfold before at h2 ⊢
    rw [List.cons_append, List.takeWhile_cons, if_pos h1, h2]; rfl
theorem behind_app (c : UInt8) : ∀ (a b : List UInt8), (∀ x ∈ a, x ≠ c) → behind c (a ++ b) = behind c b
  | [], b, _ => rfl
  | x :: a, b, h => by
    have h1 : (x != c) = true := by rw [bne_iff_ne]; exact h x (List.mem_cons_self ..)
    have h2 := behind_app c a b fun y hy => h y (List.mem_cons_of_mem _ hy)
    unfold behind at h2 ⊢
    rw [List.cons_append, List.dropWhile_cons, if_pos h1, h2]
/-- Digits, and a fraction if there is one. -/
def dot (f : List UInt8) : List UInt8 := if f = [] then [] else 46 :: f
theorem before_dot (f : List UInt8) : before 46 (dot f) = [] := by
  unfold dot; split
  · rfl
  · rfl
theorem behind_dot (f : List UInt8) : behind 46 (dot f) = f := by
  unfold dot; split
  · rename_i h; rw [h]; rfl
  · rfl
theorem dot_len (f : List UInt8) : (dot f).length ≤ f.length + 1 := by
  unfold dot; split
  · simp
  · simp
theorem unsigned_dig {c : UInt8} (h : isDig c = true) (l : List UInt8) : unsigned (c :: l) = c :: l := by
  have h1 : c ≠ 45 := dig_ne h (by decide)
  have h2 : c ≠ 43 := dig_ne h (by decide)
  unfold unsigned
  split
  · rename_i e; cases e; exact absurd rfl h1
  · rename_i e; cases e; exact absurd rfl h2
  · rfl
/-- How digits with a fraction are read. -/
theorem parse_form (neg : Bool) (w f : List UInt8) (hw : w ≠ []) (hdw : ∀ c ∈ w, isDig c = true) (hdf : ∀ c ∈ f, isDig c = true) (hl : w.length + f.length ≤ 190) :
    parseN ((if neg then [45] else []) ++ (w ++ dot f)) = checkedN ⟨neg, if f.length ≤ 20 then valD (w ++ f) * 10 ^ (20 - f.length) else cutN .even neg (valD (w ++ f)) (10 ^ (f.length - 20))⟩ := by
  obtain ⟨c, w', rfl⟩ : ∃ c w', w = c :: w' := by
    cases w with
    | nil => exact absurd rfl hw
    | cons c w' => exact ⟨c, w', rfl⟩
  have hc := hdw c (List.mem_cons_self ..)
  have hc45 : c ≠ 45 := dig_ne hc (by decide)
  have hlen := dot_len f
  have hu : unsigned ((if neg then [45] else []) ++ (c :: w' ++ dot f)) = c :: w' ++ dot f := by
    cases neg
    · exact unsigned_dig hc _
    · rfl
  have hn : (((if neg then [45] else []) ++ (c :: w' ++ dot f)).head? == some 45) = neg := by
    cases neg
    · simp [hc45]
    · rfl
  have hll : ¬ 200 < ((if neg then [45] else []) ++ (c :: w' ++ dot f)).length := by
    have : (if neg = true then [(45 : UInt8)] else []).length ≤ 1 := by cases neg <;> decide
    rw [List.length_append, List.length_append]
    omega
  have h46 : ∀ x ∈ c :: w', x ≠ 46 := fun x hx => dig_ne (hdw x hx) (by decide)
  unfold parseN
  rw [if_neg hll]
  simp only [hu, hn]
  rw [before_app 46 _ _ h46, behind_app 46 _ _ h46, before_dot, behind_dot, List.append_nil]
  rw [if_neg]
  rintro (h | h)
  · simp at h
  · have : ((c :: w') ++ f).all isDig = true := List.all_eq_true.2 fun x hx => by
      rcases List.mem_append.1 hx with h | h
      · exact hdw x h
      · exact hdf x h
    rw [this] at h; cases h
theorem checkedN_good {x y : Num} (h : checkedN x = .ok y) : Good y := by
  unfold checkedN at h
  split at h
  · cases h
  · cases h
    rename_i h
    exact ⟨by show x.d < P50; omega, fun e => by simp at e; exact e.2⟩
theorem checkedN_of {x : Num} (h : Good x) : checkedN x = .ok x := by
  unfold checkedN
  rw [if_neg (by have := h.1; omega)]
  obtain ⟨n, d⟩ := x
  have := h.2
  cases n
  · rfl
  · have h2 : 0 < d := this rfl
    simp [h2]
theorem checkedN_pos {d : Nat} (h : d < P50) : checkedN ⟨false, d⟩ = .ok ⟨false, d⟩ := checkedN_of ⟨h, fun h => by cases h⟩
theorem parseN_good {l : List UInt8} {x : Num} (h : parseN l = .ok x) : Good x := by
  unfold parseN at h
  split at h
  · cases h
  · simp only at h
    split at h
    · cases h
    · exact checkedN_good h
theorem canonN_good {l : List UInt8} {x : Num} (h : canonN l = .ok x) : Good x ∧ l = textN x := by
  unfold canonN at h
  split at h
  · rename_i y hy
    split at h
    · rename_i e; cases h; exact ⟨parseN_good hy, e.symm⟩
    · cases h
  · cases h
/-- The parts of a canonical text. -/
theorem text_parts (x : Num) : ∃ w f : List UInt8, w ≠ [] ∧ textN x = (if x.neg then [45] else []) ++ (w ++ dot f) ∧ (∀ c ∈ w, isDig c = true) ∧ (∀ c ∈ f, isDig c = true) ∧ f.length ≤ 20 ∧
    valD (w ++ f) * 10 ^ (20 - f.length) = x.d ∧ w.length = max 21 (lenD x.d) - 20 ∧ (x.d % P20 = 0 → f = []) ∧ valD w = x.d / P20 := by
  obtain ⟨K, hK⟩ : ∃ K, K = max 21 (lenD x.d) := ⟨_, rfl⟩
  have hK21 : 21 ≤ K := by omega
  have hlt : x.d < 10 ^ K := (lenD_le x.d K).1 (by omega)
  obtain ⟨s, hs⟩ : ∃ s, s = fixD K x.d := ⟨_, rfl⟩
  have hsl : s.length = K := by rw [hs, fixD_len]
  have hsd : ∀ c ∈ s, isDig c = true := by rw [hs]; exact fixD_dig _ _
  have hsv : valD s = x.d := by rw [hs, fixD_val, Nat.mod_eq_of_lt hlt]
  obtain ⟨k, hk⟩ := trimZ_eq (s.drop (s.length - 20))
  have hfl : (trimZ (s.drop (s.length - 20))).length + k = 20 := by
    have := congrArg List.length hk
    rw [List.length_append, List.length_replicate, List.length_drop] at this
    omega
  have hsplit : s = s.take (s.length - 20) ++ s.drop (s.length - 20) := (List.take_append_drop _ _).symm
  have hdl : (s.drop (s.length - 20)).length = 20 := by rw [List.length_drop]; omega
  have hdd : ∀ c ∈ s.drop (s.length - 20), isDig c = true := fun c hc => hsd c (List.mem_of_mem_drop hc)
  have hv2 : valD (s.take (s.length - 20)) * P20 + valD (s.drop (s.length - 20)) = x.d := by
    rw [← hsv]; conv => rhs; rw [hsplit]
    rw [valD_app, hdl]; rfl
  have hlt2 : valD (s.drop (s.length - 20)) < P20 := by
    have := valD_lt _ hdd
    rw [hdl] at this; exact this
  refine ⟨s.take (s.length - 20), trimZ (s.drop (s.length - 20)), ?_, ?_, fun c hc => hsd c (List.mem_of_mem_take hc), fun c hc => ?_, by omega, ?_, ?_, ?_, ?_⟩
  · intro h
    have := congrArg List.length h
    rw [List.length_take] at this
    simp at this; omega
  · unfold textN
    simp only [← hK, ← hs]
    rw [List.append_assoc]; rfl
  · refine hsd c (List.mem_of_mem_drop (i := s.length - 20) ?_)
    rw [hk]; exact List.mem_append_left _ hc
  · have : 20 - (trimZ (s.drop (s.length - 20))).length = k := by omega
    rw [this, ← hsv]
    conv => rhs; rw [hsplit, hk, ← List.append_assoc, valD_app, valD_zeros, List.length_replicate]
    rfl
  · rw [List.length_take]; omega
  · intro h0
    have h1 : valD (s.drop (s.length - 20)) = 0 := by
      rw [← hv2, Nat.mul_comm, Nat.mul_add_mod, Nat.mod_eq_of_lt hlt2] at h0
      exact h0
    have h2 : ∀ (l : List UInt8), (∀ c ∈ l, isDig c = true) → valD l = 0 → l = List.replicate l.length 48 := by
      intro l
      induction l with
      | nil => intro _ _; rfl
      | cons c l ih =>
        intro hd hv
        have e : valD (c :: l) = valD [c] * 10 ^ l.length + valD l := valD_app [c] l
        rw [e, valD_one] at hv
        have hp : 0 < 10 ^ l.length := Nat.pow_pos (by decide)
        have hc := hd c (List.mem_cons_self ..)
        have h3 : (c.toNat - 48) * 10 ^ l.length = 0 := by omega
        have h4 : c.toNat - 48 = 0 := (Nat.mul_eq_zero.1 h3).resolve_right (by omega)
        have h5 : c = 48 := by
          simp only [isDig, Bool.and_eq_true, decide_eq_true_eq] at hc
          have : c.toNat = 48 := by omega
          exact UInt8.toNat_inj.1 this
        rw [h5, List.length_cons, List.replicate_succ, ← ih (fun y hy => hd y (List.mem_cons_of_mem _ hy)) (by omega)]
    have h3 := h2 _ hdd h1
    rw [trimZ, h3, List.reverse_replicate]
    generalize (s.drop (s.length - 20)).length = m
    have : ∀ m, List.dropWhile (fun c : UInt8 => c == 48) (List.replicate m 48) = [] := by
      intro m
      induction m with
      | zero => rfl
      | succ m ih => rw [List.replicate_succ, List.dropWhile_cons]; exact ih
    rw [this]; rfl
  · rw [← hv2, Nat.mul_comm, Nat.mul_add_div (by decide), Nat.div_eq_of_lt hlt2, Nat.add_zero]
theorem lenD_50 {d : Nat} (h : d < P50) : lenD d ≤ 50 := (lenD_le d 50).2 h
theorem parse_text {x : Num} (h : Good x) : parseN (textN x) = .ok x := by
  obtain ⟨w, f, hw, ht, hdw, hdf, hf, hv, hwl, _⟩ := text_parts x
  have h50 := lenD_50 h.1
  rw [ht, parse_form x.neg w f hw hdw hdf (by omega), if_pos hf, hv]
  exact checkedN_of h
theorem canon_text {x : Num} (h : Good x) : canonN (textN x) = .ok x := by
  unfold canonN; rw [parse_text h]; simp
theorem text_inj {x y : Num} (hx : Good x) (hy : Good y) (h : textN x = textN y) : x = y := by
  have h1 := parse_text hx
  rw [h, parse_text hy] at h1
  cases h1; rfl
theorem bothN_text {x y : Num} (hx : Good x) (hy : Good y) (f : Num → Num → R) : bothN (textN x) (textN y) f = f x y := by
  unfold bothN; rw [canon_text hx, canon_text hy]
theorem parseT_text {x : Num} (h : Good x) : parseT (textN x) = (textN x, 0) := by unfold parseT; rw [parse_text h]; rfl
end Go.Proofs.YtgobpoeccdgeiaaGreatDoor.NumP
