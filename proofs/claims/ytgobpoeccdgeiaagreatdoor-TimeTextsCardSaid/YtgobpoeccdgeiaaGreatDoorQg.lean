/- parse of package num: all its ways. Results of package num: done. The sum of two numbers of package num. Package num: canonical. Package num: both, with any function value. The function values of package num. Package num: divided, Parse, Add, Sub, Mul, Div, IDiv, Mod, Neg. Plain laws of decimal numbers: the canonical text of a number is read as this number; what the operations do with canonical texts. -/
import Derived.Test.YtgobpoeccdgeiaaGreatDoorQd
import Derived.Test.YtgobpoeccdgeiaaGreatDoorQe
import Derived.Test.YtgobpoeccdgeiaaGreatDoorQf
import Derived.Test.YtgobpoeccdgeiaaGreatDoorQc

namespace Go.Proofs.YtgobpoeccdgeiaaGreatDoor
open Go.RowKit NumP Go.Proofs.YtgobpoeccdgeiaaGreatDoorW.PrintWords
set_option linter.unusedVariables false

theorem parse_b (s : ByteArray) (W : World) (hL : LaidW W) (hs : s.size ≤ maxLen) : Calls Tryz.prog 68 #[.string s] W (NumPost W (parseN s.data.toList)) := by
  by_cases h : s.size ≤ 200
  · rcases sign_cases s with hsg | hsg
    · by_cases hx : before 46 (unsigned s.data.toList) ++ behind 46 (unsigned s.data.toList) = [] ∨ (before 46 (unsigned s.data.toList) ++ behind 46 (unsigned s.data.toList)).all isDig = false
      · exact parse_neg_form s W hL h hsg hx
      · by_cases hl : (behind 46 (unsigned s.data.toList)).length ≤ 20
        · exact parse_neg_small s W hL h hsg hx hl
        · exact parse_neg_big s W hL h hsg hx hl
    · by_cases hx : before 46 (unsigned s.data.toList) ++ behind 46 (unsigned s.data.toList) = [] ∨ (before 46 (unsigned s.data.toList) ++ behind 46 (unsigned s.data.toList)).all isDig = false
      · exact parse_pos_form s W hL h hsg hx
      · by_cases hl : (behind 46 (unsigned s.data.toList)).length ≤ 20
        · exact parse_pos_small s W hL h hsg hx hl
        · exact parse_pos_big s W hL h hsg hx hl
  · exact parse_long s W (by omega) hs
end Go.Proofs.YtgobpoeccdgeiaaGreatDoor

namespace Go.Proofs.YtgobpoeccdgeiaaGreatDoor
open Go.RowKit NumP Go.Proofs.YtgobpoeccdgeiaaGreatDoorW.PrintWords
set_option linter.unusedVariables false

/-- What a function leaves that returns a text and an error. -/
def StrPost (W : World) (r : List UInt8 × Int) (e : Ending) (w' : World) : Prop := e = .returned (.tuple #[.string ⟨r.1.toArray⟩, .int .i64 r.2]) ∧ Below W.heap.size W w'
theorem checkedN_lt {x y : Num} (h : checkedN x = .ok y) : y.d < P50 := by
  unfold checkedN at h
  split at h
  · cases h
  · cases h
    simp only; omega
theorem checkedN_err {x : Num} {k : Int} (h : checkedN x = .error k) : k = 40 := by
  unfold checkedN at h
  split at h
  · cases h; rfl
  · cases h
theorem BAt_keep {w w' : World} {v : Value} {xs : List Int} {q : Nat} {b : Bool} {A : Option Addr} {n c : Nat} {T : TypeId} (h : BAt w v xs) (hq : w.heap[q]? = some (.cells #[.bool b, .slice A n c] T (0, 0))) (hk : ∀ k, k ≠ q → w'.heap[k]? = w.heap[k]?) : BAt w' v xs := by
  obtain ⟨A', c', e, h1, h2, h3⟩ := h.at_
  refine ⟨A', c', e, h1, h2, fun h0 => ?_⟩
  obtain ⟨ad, ea, hc⟩ := h3 h0
  refine ⟨ad, ea, fun i hi => ?_⟩
  have hci := hc i hi
  rw [← hci]
  refine World.cell?_of_block (hk _ fun e => ?_)
  unfold World.cell? at hci
  rw [e, hq] at hci
  generalize (Addr.add ad i).off = o at hci
  cases o with
  | zero => simp at hci
  | succ o => cases o with
    | zero => simp at hci
    | succ o => simp at hci
theorem w50 {d : Nat} (h : d < P50) : (wordsN d).length ≤ 6 := words_len (Nat.lt_of_lt_of_le h (by decide))
set_option maxHeartbeats 1000000 in
set_option maxRecDepth 100000 in
theorem done_b (W : World) (neg : Bool) (A : Option Addr) (n c d : Nat) (hv : BN W (.slice A n c) d) (hd : (wordsN d).length ≤ 400000) :
    Calls Tryz.prog 73 #[.agg #[.bool neg, .slice A n c]] W (StrPost W (outN (checkedN ⟨neg, d⟩))) := by
  obtain ⟨W1, hW1⟩ : ∃ W1, W1 = W.alloc (.cells #[.bool neg, .slice A n c] 87) := ⟨_, rfl⟩
  obtain ⟨q, hq⟩ : ∃ q, q = W.heap.size := ⟨_, rfl⟩
  have hb1 : Below W.heap.size W W1 := by rw [hW1]; exact (Below.refl _ _).alloc (Nat.le_refl _) _
  have hblk : W1.heap[q]? = some (.cells #[.bool neg, .slice A n c] 87 (0, 0)) := by rw [hW1, hq]; exact (MapKept.heap_alloc _ _).1
  have hck := checked_b W1 neg A n c d (hv.below hb1) hd
  replace hblk := Lib.hid hblk
  replace hv := Lib.hid hv
  go_enter Tryz.func73, Tryz.ntmps73
  go_wp2_with fail
  rw [← hW1, ← hq]
  clear hW1
  replace hq := Lib.hid hq
  refine hck.mono ?_
  intro e w2 hnp
  clear hck
  obtain ⟨hb2, hres⟩ := hnp
  have hb02 : Hid (Below W.heap.size W w2) := Lib.hid (hb1.trans (hb2.mono hb1.size))
  have hr2 : Hid (w2.heap[q]? = some (.cells #[.bool neg, .slice A n c] 87 (0, 0))) := Lib.hid (by rw [hb2.block q (heap_lt hblk.out)]; exact hblk.out)
  obtain ⟨⟨u0, u1⟩, fu⟩ := cells2 hr2.out
  have fu0 := fu 0
  have fu1 := fu 1
  clear fu hb1 hb2
  cases hpr : checkedN ⟨neg, d⟩ with
  | ok x =>
    rw [hpr] at hres
    obtain ⟨A9, n9, c9, rfl, hB9, hn9⟩ := hres
    have hx50 := w50 (checkedN_lt hpr)
    obtain ⟨xn, xd⟩ := x
    simp only at hx50
    obtain ⟨W5, hW5, h5, hb5, hk5⟩ := put2 hr2.out (.bool xn) (.slice A9 n9 c9) (B := W.heap.size) (by rw [hq.out]; exact Nat.le_refl _)
    have hB5 : BN W5 (.slice A9 n9 c9) xd := BAt_keep (w' := W5) hB9 hr2.out hk5
    have htx := text_b W5 xn A9 n9 c9 xd hB5 (by omega)
    obtain ⟨⟨y0, y1⟩, -⟩ := cells2 h5
    have hb05 : Hid (Below W.heap.size W W5) := Lib.hid (hb02.out.trans hb5)
    replace hpr := Lib.hid hpr
    replace hW5 := Lib.hid hW5
    replace hn9 := Lib.hid hn9
    replace h5 := Lib.hid h5
    clear hB5 hB9 hb5 hx50
    go_wp2_with fail
    rw [← hW5.out]
    clear hW5 u0 u1 fu0 fu1
    go_wp2_with fail
    refine htx.mono ?_
    rintro e w6 ⟨rfl, hb6⟩
    clear htx
    go_wp2_with fail
    go_ret2
    exact ⟨by rw [hpr.out]; rfl, hb05.out.trans (hb6.mono hb05.out.size)⟩
  | error k =>
    rw [hpr] at hres
    have hk : k = 40 := checkedN_err hpr
    subst hk
    replace hpr := Lib.hid hpr
    have hres : e = .returned (.tuple #[.agg #[.bool false, .slice none 0 0], .int .i64 40]) := hres
    subst hres
    obtain ⟨W5, hW5, h5, hb5, hk5⟩ := put2 hr2.out (.bool false) (.slice none 0 0) (B := W.heap.size) (by rw [hq.out]; exact Nat.le_refl _)
    replace hW5 := Lib.hid hW5
    replace h5 := Lib.hid h5
    go_wp2_with fail
    rw [← hW5.out]
    go_ret2
    exact ⟨by rw [hpr.out]; rfl, hb02.out.trans hb5⟩
end Go.Proofs.YtgobpoeccdgeiaaGreatDoor

namespace Go.Proofs.YtgobpoeccdgeiaaGreatDoor
open Go.RowKit NumP Go.Proofs.YtgobpoeccdgeiaaGreatDoorW.PrintWords
set_option linter.unusedVariables false

theorem BPost.sl {W : World} {k : Nat} {e : Ending} {w' : World} (h : BPost W (wordsN k) e w') : ∃ A c, e = .returned (.slice A (wordsN k).length c) ∧ BN w' (.slice A (wordsN k).length c) k ∧ Below W.heap.size W w' := by
  obtain ⟨v, rfl, hB, hb⟩ := h
  obtain ⟨A, c, rfl⟩ := BAt.form hB
  exact ⟨A, c, rfl, hB, hb⟩
/-- Two boxed numbers stay. -/
theorem four_out {W4 w : World} {q p : Nat} {a b a' b' : Value} (h : w.cell? ⟨q, 0, none⟩ = some a ∧ w.cell? ⟨q, 1, none⟩ = some b ∧ w.cell? ⟨p, 0, none⟩ = some a' ∧ w.cell? ⟨p, 1, none⟩ = some b' ∧ Hid (Below W4.heap.size W4 w)) : Below W4.heap.size W4 w := h.2.2.2.2.out
theorem four_later {W4 : World} {q p : Nat} {a b a' b' : Value} {w w' : World} (hq : Hid (q < W4.heap.size ∧ p < W4.heap.size)) (h : w.cell? ⟨q, 0, none⟩ = some a ∧ w.cell? ⟨q, 1, none⟩ = some b ∧ w.cell? ⟨p, 0, none⟩ = some a' ∧ w.cell? ⟨p, 1, none⟩ = some b' ∧ Hid (Below W4.heap.size W4 w)) (hb : Below w.heap.size w w') :
    w'.cell? ⟨q, 0, none⟩ = some a ∧ w'.cell? ⟨q, 1, none⟩ = some b ∧ w'.cell? ⟨p, 0, none⟩ = some a' ∧ w'.cell? ⟨p, 1, none⟩ = some b' ∧ Hid (Below W4.heap.size W4 w') := by
  obtain ⟨c0, c1, d0, d1, h⟩ := h
  have hz := h.out.size
  obtain ⟨hq1, hq2⟩ := hq.out
  exact ⟨(hb.cell (p := ⟨q, 0, none⟩) (by show q < _; omega)).trans c0, (hb.cell (p := ⟨q, 1, none⟩) (by show q < _; omega)).trans c1, (hb.cell (p := ⟨p, 0, none⟩) (by show p < _; omega)).trans d0, (hb.cell (p := ⟨p, 1, none⟩) (by show p < _; omega)).trans d1, Lib.hid (h.out.trans (hb.mono h.out.size))⟩
/-- Two numbers, boxed. -/
theorem box_two (W : World) (xn yn : Bool) (vx vy : Value) : ∃ W2, W2 = (W.alloc (.cells #[.bool xn, vx] 87)).alloc (.cells #[.bool yn, vy] 87) ∧ Below W.heap.size W W2 ∧
    W2.heap[W.heap.size]? = some (.cells #[.bool xn, vx] 87 (0, 0)) ∧ W2.heap[W.heap.size + 1]? = some (.cells #[.bool yn, vy] 87 (0, 0)) := by
  have hb1 : Below W.heap.size W (W.alloc (.cells #[.bool xn, vx] 87)) := (Below.refl _ _).alloc (Nat.le_refl _) _
  have h1 : (W.alloc (.cells #[.bool xn, vx] 87)).heap[W.heap.size]? = some (.cells #[.bool xn, vx] 87 (0, 0)) := (MapKept.heap_alloc _ _).1
  obtain ⟨W1, hW1⟩ : ∃ W1, W1 = W.alloc (.cells #[.bool xn, vx] 87) := ⟨_, rfl⟩
  have hz : W1.heap.size = W.heap.size + 1 := by rw [hW1]; simp
  rw [← hW1] at hb1 h1 ⊢
  refine ⟨_, rfl, hb1.alloc hb1.size _, ?_, ?_⟩
  · rw [Below.heap_alloc _ _ _ (by omega)]; exact h1
  · rw [← hz]; exact (MapKept.heap_alloc _ _).1
theorem cells_of {w : World} {q p : Nat} {a b a' b' : Value} {T : TypeId} (h : w.heap[q]? = some (.cells #[a, b] T (0, 0))) (h' : w.heap[p]? = some (.cells #[a', b'] T (0, 0))) :
    w.cell? ⟨q, 0, none⟩ = some a ∧ w.cell? ⟨q, 1, none⟩ = some b ∧ w.cell? ⟨p, 0, none⟩ = some a' ∧ w.cell? ⟨p, 1, none⟩ = some b' := ⟨(cells2 h).1.1, (cells2 h).1.2, (cells2 h').1.1, (cells2 h').1.2⟩
theorem sum_len {a b n : Nat} (h1 : (wordsN a).length ≤ n) (h2 : (wordsN b).length ≤ n) : (wordsN (a + b)).length ≤ n + 1 := by
  refine words_len ?_
  have g1 := (wordsN_is a).lt
  have g2 := (wordsN_is b).lt
  have g3 : 1000000000 ^ (wordsN a).length ≤ 1000000000 ^ n := Nat.pow_le_pow_right (by decide) h1
  have g4 : 1000000000 ^ (wordsN b).length ≤ 1000000000 ^ n := Nat.pow_le_pow_right (by decide) h2
  rw [Nat.pow_succ]
  omega
set_option maxHeartbeats 4000000 in
set_option maxRecDepth 100000 in
theorem sum_b (W : World) (xn yn : Bool) (Ax Ay : Option Addr) (nx cx ny cy dx dy : Nat) (hx : BN W (.slice Ax nx cx) dx) (hy : BN W (.slice Ay ny cy) dy) (hdx : (wordsN dx).length ≤ 1000) (hdy : (wordsN dy).length ≤ 1000) :
    Calls Tryz.prog 77 #[.agg #[.bool xn, .slice Ax nx cx], .agg #[.bool yn, .slice Ay ny cy]] W (StrPost W (outN (sumN ⟨xn, dx⟩ ⟨yn, dy⟩))) := by
  obtain ⟨W2, hW2, hb2, hq, hp⟩ := box_two W xn yn (.slice Ax nx cx) (.slice Ay ny cy)
  obtain ⟨q, hqe⟩ : ∃ q, q = W.heap.size := ⟨_, rfl⟩
  rw [← hqe] at hq hp
  have hlt : Hid (q < W2.heap.size ∧ q + 1 < W2.heap.size) := Lib.hid ⟨heap_lt hq, heap_lt hp⟩
  obtain ⟨b0, b1, d0, d1⟩ := cells_of hq hp
  have hX2 : Hid (BN W2 (.slice Ax nx cx) dx) := Lib.hid (hx.below hb2)
  have hY2 : Hid (BN W2 (.slice Ay ny cy) dy) := Lib.hid (hy.below hb2)
  have hlx : Hid ((wordsN dx).length < 900000) := Lib.hid (by omega)
  have hly : Hid ((wordsN dy).length < 900000) := Lib.hid (by omega)
  have hmono : ∀ a b : Nat, a ≤ b → (wordsN a).length ≤ (wordsN b).length := fun a b hab => by
    rcases Nat.lt_or_ge (wordsN b).length (wordsN a).length with h | h
    · have := (wordsN_is b).lt_of_len (wordsN_is a) h
      omega
    · exact h
  have hls : Hid ((wordsN (dx + dy)).length ≤ 400000) := Lib.hid (Nat.le_trans (sum_len hdx hdy) (by omega))
  have hlm1 : Hid ((wordsN (dx - dy)).length ≤ 400000) := Lib.hid (by have := hmono (dx - dy) dx (by omega); omega)
  have hlm2 : Hid ((wordsN (dy - dx)).length ≤ 400000) := Lib.hid (by have := hmono (dy - dx) dy (by omega); omega)
  have hS : Hid (W2.drew.cell? ⟨q, 0, none⟩ = some (.bool xn) ∧ W2.drew.cell? ⟨q, 1, none⟩ = some (.slice Ax nx cx) ∧ W2.drew.cell? ⟨q + 1, 0, none⟩ = some (.bool yn) ∧ W2.drew.cell? ⟨q + 1, 1, none⟩ = some (.slice Ay ny cy) ∧ Hid (Below W2.heap.size W2 W2.drew)) := Lib.hid ⟨b0, b1, d0, d1, Lib.hid (Below.refl _ _).drew⟩
  replace hq := Lib.hid hq
  replace hp := Lib.hid hp
  clear hmono hx hy
  by_cases hsn : xn = yn
  · have hR : Hid (sumN ⟨xn, dx⟩ ⟨yn, dy⟩ = checkedN ⟨xn, dx + dy⟩) := Lib.hid (by unfold sumN; rw [if_pos hsn])
    subst hsn
    go_enter Tryz.func77, Tryz.ntmps77
    go_wp2_with fail
    rw [← hW2, ← hqe]
    clear hW2
    replace hqe := Lib.hid hqe
    clear b0 b1 d0 d1
    go_region_held3 (fun w' => w'.cell? ⟨q, 0, none⟩ = some (.bool xn) ∧ w'.cell? ⟨q, 1, none⟩ = some (.slice Ax nx cx) ∧ w'.cell? ⟨q + 1, 0, none⟩ = some (.bool xn) ∧ w'.cell? ⟨q + 1, 1, none⟩ = some (.slice Ay ny cy) ∧ Hid (Below W2.heap.size W2 w'))
      (first | exact hS.out | exact four_later hlt (by assumption) (by assumption))
      (first
        | (go_at_call 130; refine ((plus_b _ _ _ dx dy (hX2.out.below (four_out (by assumption))) (hY2.out.below (four_out (by assumption))) hlx.out hly.out).mono (fun e w' h => BPost.sl h)).mono ?_; rintro e w' ⟨A7, c7, rfl, hv7, hbb⟩)
        | (go_at_call 73; refine (done_b _ _ _ _ _ (dx + dy) (by assumption) hls.out).mono ?_; rintro e w' ⟨rfl, hbb⟩))
    rename_i hH
    have hbb := Lib.hid hH.2.2.2.2.out
    go_wp2_with fail
    go_ret2
    exact ⟨by rw [hR.out]; rfl, hb2.trans (hbb.out.mono hb2.size)⟩
  · have hne : (xn == yn) = false := by simpa using hsn
    have hcmp := cmp_b W2 _ _ dx dy hX2.out hY2.out (Nat.lt_trans hlx.out (by decide)) (Nat.lt_trans hly.out (by decide))
    by_cases hle : dy ≤ dx
    · have hR : Hid (sumN ⟨xn, dx⟩ ⟨yn, dy⟩ = checkedN ⟨xn, dx - dy⟩) := Lib.hid (by unfold sumN; rw [if_neg hsn, if_pos hle])
      go_enter Tryz.func77, Tryz.ntmps77
      go_wp2_with fail
      rw [← hW2, ← hqe]
      clear hW2
      replace hqe := Lib.hid hqe
      go_wp2_with (go_at_call 129; refine hcmp.mono ?_; rintro e w3 ⟨⟨r, rfl, hsg⟩, hb3⟩; have hr : 0 ≤ r := by (unfold Sgn at hsg; omega))
      replace hS := Lib.hid (four_later hlt (And.intro b0 (And.intro b1 (And.intro d0 (And.intro d1 (Lib.hid (Below.refl _ _)))))) hb3.drew)
      clear b0 b1 d0 d1 hsg hr
      go_region_held3 (fun w' => w'.cell? ⟨q, 0, none⟩ = some (.bool xn) ∧ w'.cell? ⟨q, 1, none⟩ = some (.slice Ax nx cx) ∧ w'.cell? ⟨q + 1, 0, none⟩ = some (.bool yn) ∧ w'.cell? ⟨q + 1, 1, none⟩ = some (.slice Ay ny cy) ∧ Hid (Below W2.heap.size W2 w'))
        (first | exact hS.out | exact four_later hlt (by assumption) (by assumption))
        (first
          | (go_at_call 131; refine ((minus_b _ _ _ dx dy (hX2.out.below (four_out (by assumption))) (hY2.out.below (four_out (by assumption))) hlx.out (by omega)).mono (fun e w' h => BPost.sl h)).mono ?_; rintro e w' ⟨A7, c7, rfl, hv7, hbb⟩)
          | (go_at_call 73; refine (done_b _ _ _ _ _ (dx - dy) (by assumption) hlm1.out).mono ?_; rintro e w' ⟨rfl, hbb⟩))
      rename_i hH
      have hbb := Lib.hid hH.2.2.2.2.out
      go_wp2_with fail
      go_ret2
      exact ⟨by rw [hR.out]; rfl, hb2.trans (hbb.out.mono hb2.size)⟩
    · have hR : Hid (sumN ⟨xn, dx⟩ ⟨yn, dy⟩ = checkedN ⟨yn, dy - dx⟩) := Lib.hid (by unfold sumN; rw [if_neg hsn, if_neg hle])
      go_enter Tryz.func77, Tryz.ntmps77
      go_wp2_with fail
      rw [← hW2, ← hqe]
      clear hW2
      replace hqe := Lib.hid hqe
      go_wp2_with (go_at_call 129; refine hcmp.mono ?_; rintro e w3 ⟨⟨r, rfl, hsg⟩, hb3⟩; have hr : r < 0 := by (unfold Sgn at hsg; omega))
      replace hS := Lib.hid (four_later hlt (And.intro b0 (And.intro b1 (And.intro d0 (And.intro d1 (Lib.hid (Below.refl _ _)))))) hb3.drew)
      clear b0 b1 d0 d1 hsg hr
      go_region_held3 (fun w' => w'.cell? ⟨q, 0, none⟩ = some (.bool xn) ∧ w'.cell? ⟨q, 1, none⟩ = some (.slice Ax nx cx) ∧ w'.cell? ⟨q + 1, 0, none⟩ = some (.bool yn) ∧ w'.cell? ⟨q + 1, 1, none⟩ = some (.slice Ay ny cy) ∧ Hid (Below W2.heap.size W2 w'))
        (first | exact hS.out | exact four_later hlt (by assumption) (by assumption))
        (first
          | (go_at_call 131; refine ((minus_b _ _ _ dy dx (hY2.out.below (four_out (by assumption))) (hX2.out.below (four_out (by assumption))) hly.out (by omega)).mono (fun e w' h => BPost.sl h)).mono ?_; rintro e w' ⟨A7, c7, rfl, hv7, hbb⟩)
          | (go_at_call 73; refine (done_b _ _ _ _ _ (dy - dx) (by assumption) hlm2.out).mono ?_; rintro e w' ⟨rfl, hbb⟩))
      rename_i hH
      have hbb := Lib.hid hH.2.2.2.2.out
      go_wp2_with fail
      go_ret2
      exact ⟨by rw [hR.out]; rfl, hb2.trans (hbb.out.mono hb2.size)⟩
end Go.Proofs.YtgobpoeccdgeiaaGreatDoor

namespace Go.Proofs.YtgobpoeccdgeiaaGreatDoor
open Go.RowKit NumP Go.Proofs.YtgobpoeccdgeiaaGreatDoorW.PrintWords
set_option linter.unusedVariables false

theorem parseN_lt {l : List UInt8} {x : Num} (h : parseN l = .ok x) : x.d < P50 := by
  unfold parseN at h
  split at h
  · cases h
  · simp only at h
    split at h
    · cases h
    · exact checkedN_lt h
theorem parseN_err {l : List UInt8} {k : Int} (h : parseN l = .error k) : 0 < k := by
  unfold parseN at h
  split at h
  · cases h; decide
  · simp only at h
    split at h
    · cases h; decide
    · rw [checkedN_err h]; decide
theorem canonN_ok {l : List UInt8} {x : Num} (h : parseN l = .ok x) : canonN l = if textN x = l then .ok x else .error 1 := by unfold canonN; rw [h]
theorem canonN_err {l : List UInt8} {k : Int} (h : parseN l = .error k) : canonN l = .error 1 := by unfold canonN; rw [h]
theorem canonN_lt {l : List UInt8} {x : Num} (h : canonN l = .ok x) : x.d < P50 := by
  cases hp : parseN l with
  | error k => rw [canonN_err hp] at h; cases h
  | ok y =>
    rw [canonN_ok hp] at h
    split at h
    · cases h; exact parseN_lt hp
    · cases h
set_option maxHeartbeats 2000000 in
set_option maxRecDepth 100000 in
theorem canonical_b (s : ByteArray) (W : World) (hL : LaidW W) (hs : s.size ≤ maxLen) : Calls Tryz.prog 70 #[.string s] W (NumPost W (canonN s.data.toList)) := by
  obtain ⟨W1, hW1⟩ : ∃ W1, W1 = W.alloc (.cells #[.bool false, .slice none 0 0] 87) := ⟨_, rfl⟩
  obtain ⟨q, hq⟩ : ∃ q, q = W.heap.size := ⟨_, rfl⟩
  have hb1 : Below W.heap.size W W1 := by rw [hW1]; exact (Below.refl _ _).alloc (Nat.le_refl _) _
  have hblk : W1.heap[q]? = some (.cells #[.bool false, .slice none 0 0] 87 (0, 0)) := by rw [hW1, hq]; exact (MapKept.heap_alloc _ _).1
  have hpa := parse_b s W1 (hL.below hb1 hL.size) hs
  replace hblk := Lib.hid hblk
  go_enter Tryz.func70, Tryz.ntmps70
  go_wp2_with fail
  rw [← hW1, ← hq]
  clear hW1
  replace hq := Lib.hid hq
  refine hpa.mono ?_
  intro e w2 hnp
  clear hpa
  obtain ⟨hb2, hres⟩ := hnp
  have hb02 : Hid (Below W.heap.size W w2) := Lib.hid (hb1.trans (hb2.mono hb1.size))
  have hr2 : Hid (w2.heap[q]? = some (.cells #[.bool false, .slice none 0 0] 87 (0, 0))) := Lib.hid (by rw [hb2.block q (heap_lt hblk.out)]; exact hblk.out)
  clear hb1 hb2 hblk
  obtain ⟨⟨u0, u1⟩, fq⟩ := cells2 hr2.out
  have fq0 := fq 0
  have fq1 := fq 1
  clear fq
  have hlt2 : q < w2.heap.size := heap_lt hr2.out
  have hne2 : q ≠ w2.heap.size := Nat.ne_of_lt hlt2
  cases hpr : parseN s.data.toList with
  | error k =>
    rw [hpr] at hres
    have hres : e = .returned (.tuple #[.agg #[.bool false, .slice none 0 0], .int .i64 k]) := hres
    have hk := parseN_err hpr
    subst hres
    have hk0 : (k == 0) = false := by simp; omega
    replace hpr := Lib.hid hpr
    go_wp2_with fail
    obtain ⟨W5, hW5, h5, hb5, hk5⟩ := put2 hr2.out (.bool false) (.slice none 0 0) (B := W.heap.size) (by rw [hq.out]; exact Nat.le_refl _)
    rw [← hW5]
    clear u0 u1 fq0 fq1
    have hz5 : q < W5.heap.size := heap_lt h5
    obtain ⟨⟨y0, y1⟩, -⟩ := cells2 h5
    replace h5 := Lib.hid h5
    replace hW5 := Lib.hid hW5
    refine bodyPost_ret (v := .tuple #[.agg #[.bool false, .slice none 0 0], .int .i64 1]) ?ret rfl ?post
    case ret => rw [res_two rfl]; go_simp
    case post => exact ⟨(hb02.out.trans hb5).alloc (by have := hb02.out.size; have := hb5.size; omega) _, by rw [canonN_err hpr.out]⟩
  | ok x =>
    rw [hpr] at hres
    obtain ⟨A9, n9, c9, rfl, hB9, hn9⟩ := hres
    have hx50 := w50 (parseN_lt hpr)
    obtain ⟨xn, xd⟩ := x
    simp only at hx50 hB9 hn9
    obtain ⟨W3, hW3⟩ : ∃ W3, W3 = w2.alloc (.cells #[.bool xn, .slice A9 n9 c9] 87) := ⟨_, rfl⟩
    have hb3 : Below w2.heap.size w2 W3 := by rw [hW3]; exact (Below.refl _ _).alloc (Nat.le_refl _) _
    have htx := text_b W3 xn A9 n9 c9 xd (hB9.below hb3) (by omega)
    obtain ⟨p, hp⟩ : ∃ p, p = w2.heap.size := ⟨_, rfl⟩
    have hp3 : W3.heap[p]? = some (.cells #[.bool xn, .slice A9 n9 c9] 87 (0, 0)) := by rw [hW3, hp]; exact (MapKept.heap_alloc _ _).1
    have hq3 : W3.heap[q]? = some (.cells #[.bool false, .slice none 0 0] 87 (0, 0)) := by rw [hb3.block q hlt2]; exact hr2.out
    have hb03 : Below W.heap.size W W3 := hb02.out.trans (hb3.mono hb02.out.size)
    have hh := canonN_ok hpr
    have hpq : p ≠ q := fun e => hne2 (by rw [← e, hp])
    replace hpr := Lib.hid hpr
    replace hn9 := Lib.hid hn9
    replace hh := Lib.hid hh
    replace hB9 := Lib.hid hB9
    go_wp2_with fail
    rw [← hW3, ← hp]
    clear hW3 u0 u1 fq0 fq1 hlt2 hne2
    replace hp := Lib.hid hp
    refine htx.mono ?_
    rintro e w4 ⟨rfl, hb4⟩
    clear htx
    have hp4 : w4.heap[p]? = some (.cells #[.bool xn, .slice A9 n9 c9] 87 (0, 0)) := by rw [hb4.block p (heap_lt hp3)]; exact hp3
    have hq4 : w4.heap[q]? = some (.cells #[.bool false, .slice none 0 0] 87 (0, 0)) := by rw [hb4.block q (heap_lt hq3)]; exact hq3
    have hb04 : Hid (Below W.heap.size W w4) := Lib.hid (hb03.trans (hb4.mono hb03.size))
    have hb24 : Hid (Below w2.heap.size w2 w4) := Lib.hid (hb3.trans (hb4.mono hb3.size))
    clear hb3 hb4 hb03 hp3 hq3
    obtain ⟨⟨u0, u1⟩, -⟩ := cells2 hp4
    obtain ⟨⟨v0, v1⟩, fq⟩ := cells2 hq4
    have fq0 := fq 0
    have fq1 := fq 1
    clear fq
    replace hp4 := Lib.hid hp4
    by_cases hts : textN ⟨xn, xd⟩ = s.data.toList
    · have hte : txtB ⟨xn, xd⟩ = s := by apply ByteArray.ext; apply Array.ext'; rw [txtB_data]; exact hts
      have hR : Hid (canonN s.data.toList = .ok ⟨xn, xd⟩) := Lib.hid (by rw [hh.out, if_pos hts])
      obtain ⟨W6, hW6, h6, hb6, hk6⟩ := put2 hq4 (.bool xn) (.slice A9 n9 c9) (B := W.heap.size) (by rw [hq.out]; exact Nat.le_refl _)
      have hB6 : Hid (BN W6 (.slice A9 n9 c9) xd) := Lib.hid (BAt_keep (w' := W6) (hB9.out.below hb24.out) hq4 hk6)
      replace hts := Lib.hid hts
      replace hW6 := Lib.hid hW6
      go_wp2_with fail
      rw [← hW6.out]
      clear u0 u1 v0 v1 fq0 fq1 hW6
      obtain ⟨⟨y0, y1⟩, -⟩ := cells2 h6
      replace h6 := Lib.hid h6
      refine bodyPost_ret (v := .tuple #[.agg #[.bool xn, .slice A9 n9 c9], .int .i64 0]) ?ret rfl ?post
      case ret => rw [res_two rfl]; go_simp
      case post => exact ⟨hb04.out.trans hb6, by rw [hR.out]; exact ⟨A9, n9, c9, rfl, hB6.out, hn9.out⟩⟩
    · have hte : ((txtB ⟨xn, xd⟩).toList == s.toList) = false := by
        rw [ByteArray.toList_eq, ByteArray.toList_eq, txtB_data]
        simpa using hts
      have hR : Hid (canonN s.data.toList = .error 1) := Lib.hid (by rw [hh.out, if_neg hts])
      obtain ⟨W6, hW6, h6, hb6, hk6⟩ := put2 hq4 (.bool false) (.slice none 0 0) (B := W.heap.size) (by rw [hq.out]; exact Nat.le_refl _)
      replace hts := Lib.hid hts
      replace hW6 := Lib.hid hW6
      go_wp2_with fail
      rw [← hW6.out]
      clear u0 u1 v0 v1 fq0 fq1 hW6
      obtain ⟨⟨y0, y1⟩, -⟩ := cells2 h6
      replace h6 := Lib.hid h6
      refine bodyPost_ret (v := .tuple #[.agg #[.bool false, .slice none 0 0], .int .i64 1]) ?ret rfl ?post
      case ret => rw [res_two rfl]; go_simp
      case post => exact ⟨hb04.out.trans hb6, by rw [hR.out]⟩
end Go.Proofs.YtgobpoeccdgeiaaGreatDoor

namespace Go.Proofs.YtgobpoeccdgeiaaGreatDoor
open Go.RowKit NumP Go.Proofs.YtgobpoeccdgeiaaGreatDoorW.PrintWords
set_option linter.unusedVariables false

theorem canonN_one {l : List UInt8} {k : Int} (h : canonN l = .error k) : k = 1 := by
  cases hp : parseN l with
  | error j => rw [canonN_err hp] at h; cases h; rfl
  | ok y =>
    rw [canonN_ok hp] at h
    split at h
    · cases h
    · cases h; rfl
/-- What canonical returns, in one form. -/
theorem canon_form {l : List UInt8} {W w' : World} {e : Ending} (h : NumPost W (canonN l) e w') : ∃ neg A n c d k, e = .returned (.tuple #[.agg #[.bool neg, .slice A n c], .int .i64 k]) ∧ Below W.heap.size W w' ∧
    ((k = 0 ∧ canonN l = .ok ⟨neg, d⟩ ∧ d < P50 ∧ BN w' (.slice A n c) d) ∨ (k = 1 ∧ canonN l = .error 1)) := by
  obtain ⟨hb, h⟩ := h
  cases hc : canonN l with
  | ok x =>
    rw [hc] at h
    obtain ⟨A, n, c, rfl, hB, hn⟩ := h
    exact ⟨x.neg, A, n, c, x.d, 0, rfl, hb, .inl ⟨rfl, rfl, canonN_lt hc, hB⟩⟩
  | error k =>
    rw [hc] at h
    have := canonN_one hc
    subst this
    have h : e = .returned (.tuple #[.agg #[.bool false, .slice none 0 0], .int .i64 1]) := h
    exact ⟨false, none, 0, 0, 0, 1, h, hb, .inr ⟨rfl, rfl⟩⟩
theorem bothN_ok {a b : List UInt8} {x y : Num} {f : Num → Num → R} (h1 : canonN a = .ok x) (h2 : canonN b = .ok y) : bothN a b f = f x y := by unfold bothN; rw [h1, h2]
theorem bothN_err1 {a b : List UInt8} {f : Num → Num → R} (h1 : canonN a = .error 1) : bothN a b f = .error 1 := by unfold bothN; rw [h1]
theorem bothN_err2 {a b : List UInt8} {f : Num → Num → R} (h1 : canonN b = .error 1) : bothN a b f = .error 1 := by unfold bothN; rw [h1]; cases canonN a <;> rfl
set_option maxHeartbeats 2000000 in
set_option maxRecDepth 100000 in
theorem both_b (k : Nat) (cap : Array Value) (hk : ∀ args w, Sem.run Tryz.prog (callFunc k args) w = .ok (.enter k args) w) (f : Num → Num → R) (a b : ByteArray) (W : World) (hL : LaidW W) (ha : a.size ≤ maxLen) (hb : b.size ≤ maxLen)
    (hf : ∀ (w : World) (xn yn : Bool) (Ax Ay : Option Addr) (nx cx ny cy dx dy : Nat), Below W.heap.size W w → BN w (.slice Ax nx cx) dx → BN w (.slice Ay ny cy) dy → dx < P50 → dy < P50 →
      Calls Tryz.prog k (#[.agg #[.bool xn, .slice Ax nx cx], .agg #[.bool yn, .slice Ay ny cy]] ++ cap) w (StrPost w (outN (f ⟨xn, dx⟩ ⟨yn, dy⟩)))) :
    Calls Tryz.prog 76 #[.string a, .string b, .func (.func k) #[] cap] W (StrPost W (outN (bothN a.data.toList b.data.toList f))) := by
  have hc1 := canonical_b a W hL ha
  go_enter Tryz.func76, Tryz.ntmps76
  go_wp2_with fail
  refine hc1.mono ?_
  intro e w1 hnp
  obtain ⟨neg, A, n, c, d, k1, rfl, hb1, hk1⟩ := canon_form hnp
  clear hc1 hnp
  obtain ⟨W2, hW2⟩ : ∃ W2, W2 = w1.alloc (.cells #[.bool neg, .slice A n c] 87) := ⟨_, rfl⟩
  obtain ⟨q, hq⟩ : ∃ q, q = w1.heap.size := ⟨_, rfl⟩
  have hb2 : Below w1.heap.size w1 W2 := by rw [hW2]; exact (Below.refl _ _).alloc (Nat.le_refl _) _
  have hq2 : W2.heap[q]? = some (.cells #[.bool neg, .slice A n c] 87 (0, 0)) := by rw [hW2, hq]; exact (MapKept.heap_alloc _ _).1
  have hb02 := hb1.trans (hb2.mono hb1.size)
  have hc2 := canonical_b b W2 (hL.below hb02 hL.size) hb
  go_wp2_with fail
  rw [← hW2, ← hq]
  clear hW2
  replace hq := Lib.hid hq
  refine hc2.mono ?_
  intro e w3 hnp
  obtain ⟨neg', A', n', c', d', k2, rfl, hb3, hk2⟩ := canon_form hnp
  clear hc2 hnp
  obtain ⟨W4, hW4⟩ : ∃ W4, W4 = w3.alloc (.cells #[.bool neg', .slice A' n' c'] 87) := ⟨_, rfl⟩
  obtain ⟨p, hp⟩ : ∃ p, p = w3.heap.size := ⟨_, rfl⟩
  have hb4 : Below w3.heap.size w3 W4 := by rw [hW4]; exact (Below.refl _ _).alloc (Nat.le_refl _) _
  have hp4 : W4.heap[p]? = some (.cells #[.bool neg', .slice A' n' c'] 87 (0, 0)) := by rw [hW4, hp]; exact (MapKept.heap_alloc _ _).1
  have hq3 : w3.heap[q]? = some (.cells #[.bool neg, .slice A n c] 87 (0, 0)) := by rw [hb3.block q (heap_lt hq2)]; exact hq2
  have hb03 := hb02.trans (hb3.mono hb02.size)
  have hb04 := hb03.trans (hb4.mono hb03.size)
  obtain ⟨⟨u0, u1⟩, -⟩ := cells2 hq3
  have hlt3 : q < w3.heap.size := heap_lt hq3
  rcases hk1 with ⟨rfl, hc1, hd1, hB1⟩ | ⟨rfl, hc1⟩
  · rcases hk2 with ⟨rfl, hc2, hd2, hB2⟩ | ⟨rfl, hc2⟩
    · have hB14 := hB1.below (hb2.trans ((hb3.trans (hb4.mono hb3.size)).mono hb2.size))
      have hff := hf W4 neg neg' A A' n c n' c' d d' hb04 hB14 (hB2.below hb4) hd1 hd2
      have hR := Lib.hid (bothN_ok (f := f) hc1 hc2)
      replace hp := Lib.hid hp
      replace hp4 := Lib.hid hp4
      go_wp2_with fail
      rw [← hW4]
      refine hff.mono ?_
      rintro e w5 ⟨rfl, hb5⟩
      clear hff
      go_wp2_with fail
      go_ret2
      exact ⟨by rw [hR.out]; rfl, hb04.trans (hb5.mono hb04.size)⟩
    · have hR := Lib.hid (bothN_err2 (a := a.data.toList) (f := f) hc2)
      go_wp2_with fail
      rw [← hW4]
      go_ret2
      exact ⟨by rw [hR.out]; rfl, hb04⟩
  · have hR := Lib.hid (bothN_err1 (b := b.data.toList) (f := f) hc1)
    rcases hk2 with ⟨rfl, hc2, hd2, hB2⟩ | ⟨rfl, hc2⟩
    · go_wp2_with fail
      rw [← hW4]
      go_ret2
      exact ⟨by rw [hR.out]; rfl, hb04⟩
    · go_wp2_with fail
      rw [← hW4]
      go_ret2
      exact ⟨by rw [hR.out]; rfl, hb04⟩
end Go.Proofs.YtgobpoeccdgeiaaGreatDoor

namespace Go.Proofs.YtgobpoeccdgeiaaGreatDoor
open Go.RowKit NumP Go.Proofs.YtgobpoeccdgeiaaGreatDoorW.PrintWords
set_option linter.unusedVariables false

theorem wBig {n k : Nat} (h : n < 1000000000 ^ k) (hk : k ≤ 400000) : (wordsN n).length ≤ 400000 := Nat.le_trans (words_len h) hk
theorem cutN_le (w : NumP.Way) (neg : Bool) (a u : Nat) : cutN w neg a u ≤ a + 1 := by
  unfold cutN
  have h3 := Nat.div_le_self a u
  have h4 : (w.up neg (a / u) (a % u) u).toNat ≤ 1 := by cases w.up neg (a / u) (a % u) u <;> decide
  omega
set_option maxHeartbeats 1000000 in
set_option maxRecDepth 100000 in
theorem sub1_b (W : World) (xn yn : Bool) (Ax Ay : Option Addr) (nx cx ny cy dx dy : Nat) (hx : BN W (.slice Ax nx cx) dx) (hy : BN W (.slice Ay ny cy) dy) (hdx : dx < P50) (hdy : dy < P50) :
    Calls Tryz.prog 114 #[.agg #[.bool xn, .slice Ax nx cx], .agg #[.bool yn, .slice Ay ny cy]] W (StrPost W (outN (sumN ⟨xn, dx⟩ ⟨!yn, dy⟩))) := by
  obtain ⟨W2, hW2, hb2, -, -⟩ := box_two W xn (!yn) (.slice Ax nx cx) (.slice Ay ny cy)
  have hsum := sum_b W2 xn (!yn) Ax Ay nx cx ny cy dx dy (hx.below hb2) (hy.below hb2) (Nat.le_trans (w50 hdx) (by decide)) (Nat.le_trans (w50 hdy) (by decide))
  go_enter Tryz.func114, Tryz.ntmps114
  go_wp2_with fail
  rw [← hW2]
  refine hsum.mono ?_
  rintro e w3 ⟨rfl, hb3⟩
  clear hsum
  go_wp2_with fail
  go_ret2
  exact ⟨rfl, hb2.trans (hb3.mono hb2.size)⟩
end Go.Proofs.YtgobpoeccdgeiaaGreatDoor

namespace Go.Proofs.YtgobpoeccdgeiaaGreatDoor
open Go.RowKit NumP Go.Proofs.YtgobpoeccdgeiaaGreatDoorW.PrintWords
set_option linter.unusedVariables false

set_option maxHeartbeats 1000000 in
set_option maxRecDepth 100000 in
theorem add_b (a b : ByteArray) (W : World) (hL : LaidW W) (ha : a.size ≤ maxLen) (hb : b.size ≤ maxLen) : Calls Tryz.prog 35 #[.string a, .string b] W (StrPost W (addT a.data.toList b.data.toList)) := by
  have hbo := both_b 77 #[] (fun args w => by kernel_rfl) sumN a b W hL ha hb
    (fun w xn yn Ax Ay nx cx ny cy dx dy _ hx hy hdx hdy => by rw [Array.append_empty]; exact sum_b w xn yn Ax Ay nx cx ny cy dx dy hx hy (Nat.le_trans (w50 hdx) (by decide)) (Nat.le_trans (w50 hdy) (by decide)))
  go_enter Tryz.func35, Tryz.ntmps35
  go_wp2_with fail
  refine hbo.mono ?_
  rintro e w3 ⟨rfl, hb3⟩
  clear hbo
  go_wp2_with fail
  go_ret2
  exact ⟨rfl, hb3⟩
set_option maxHeartbeats 1000000 in
set_option maxRecDepth 100000 in
theorem subt_b (a b : ByteArray) (W : World) (hL : LaidW W) (ha : a.size ≤ maxLen) (hb : b.size ≤ maxLen) : Calls Tryz.prog 66 #[.string a, .string b] W (StrPost W (subT a.data.toList b.data.toList)) := by
  have hbo := both_b 114 #[] (fun args w => by kernel_rfl) (fun x y => sumN x ⟨!y.neg, y.d⟩) a b W hL ha hb
    (fun w xn yn Ax Ay nx cx ny cy dx dy _ hx hy hdx hdy => by rw [Array.append_empty]; exact sub1_b w xn yn Ax Ay nx cx ny cy dx dy hx hy hdx hdy)
  go_enter Tryz.func66, Tryz.ntmps66
  go_wp2_with fail
  refine hbo.mono ?_
  rintro e w3 ⟨rfl, hb3⟩
  clear hbo
  go_wp2_with fail
  go_ret2
  exact ⟨rfl, hb3⟩
set_option maxHeartbeats 1000000 in
set_option maxRecDepth 100000 in
theorem Parse_b (s : ByteArray) (W : World) (hL : LaidW W) (hs : s.size ≤ maxLen) : Calls Tryz.prog 33 #[.string s] W (StrPost W (parseT s.data.toList)) := by
  have hpa := parse_b s W hL hs
  go_enter Tryz.func33, Tryz.ntmps33
  go_wp2_with fail
  refine hpa.mono ?_
  intro e w2 hnp
  clear hpa
  obtain ⟨hb2, hres⟩ := hnp
  cases hpr : parseN s.data.toList with
  | error k =>
    rw [hpr] at hres
    have hres : e = .returned (.tuple #[.agg #[.bool false, .slice none 0 0], .int .i64 k]) := hres
    have hk := parseN_err hpr
    subst hres
    have hk0 : (k == 0) = false := by simp; omega
    have hR : Hid (parseT s.data.toList = ([], k)) := Lib.hid (by unfold parseT; rw [hpr]; rfl)
    replace hpr := Lib.hid hpr
    go_wp2_with fail
    go_ret2
    exact ⟨by rw [hR.out]; rfl, hb2.alloc hb2.size _⟩
  | ok x =>
    rw [hpr] at hres
    obtain ⟨A9, n9, c9, rfl, hB9, hn9⟩ := hres
    have hx50 := w50 (parseN_lt hpr)
    have hR : Hid (parseT s.data.toList = (textN x, 0)) := Lib.hid (by unfold parseT; rw [hpr]; rfl)
    obtain ⟨xn, xd⟩ := x
    simp only at hx50 hB9 hn9
    obtain ⟨W3, hW3⟩ : ∃ W3, W3 = w2.alloc (.cells #[.bool xn, .slice A9 n9 c9] 87) := ⟨_, rfl⟩
    have hb3 : Below w2.heap.size w2 W3 := by rw [hW3]; exact (Below.refl _ _).alloc (Nat.le_refl _) _
    have htx := text_b W3 xn A9 n9 c9 xd (hB9.below hb3) (by omega)
    have hb03 := hb2.trans (hb3.mono hb2.size)
    replace hpr := Lib.hid hpr
    replace hn9 := Lib.hid hn9
    replace hB9 := Lib.hid hB9
    go_wp2_with fail
    rw [← hW3]
    refine htx.mono ?_
    rintro e w4 ⟨rfl, hb4⟩
    clear htx
    go_wp2_with fail
    go_ret2
    exact ⟨by rw [hR.out]; rfl, hb03.trans (hb4.mono hb03.size)⟩
end Go.Proofs.YtgobpoeccdgeiaaGreatDoor

namespace Go.Proofs.YtgobpoeccdgeiaaGreatDoor.NumP
set_option linter.unusedVariables false

/-- A number in the range, without a negative zero. -/
def Good (x : Num) : Prop := x.d < P50 ∧ (x.neg = true → 0 < x.d)
theorem valD_app (a b : List UInt8) : valD (a ++ b) = valD a * 10 ^ b.length + valD b := by
  unfold valD; rw [valF_app]; exact valF_eq ..
theorem valD_one (c : UInt8) : valD [c] = c.toNat - 48 := by simp [valD, valF]
theorem valD_nil : valD [] = 0 := rfl
theorem dig_nat (n : Nat) (h : n < 10) : (UInt8.ofNat (48 + n)).toNat = 48 + n := by
  rw [UInt8.toNat_ofNat']; omega
theorem isDig_nat (n : Nat) (h : n < 10) : isDig (UInt8.ofNat (48 + n)) = true := by
  unfold isDig; rw [dig_nat n h]; simp; omega
theorem fixD_val : ∀ k n, valD (fixD k n) = n % 10 ^ k
  | 0, n => by simp [fixD, valD, valF, Nat.mod_one]
  | k + 1, n => by
    rw [fixD, valD_app, fixD_val k, valD_one, dig_nat _ (Nat.mod_lt _ (by decide)), Nat.pow_succ, Nat.mul_comm (10 ^ k) 10, Nat.mod_mul]
    show n / 10 % 10 ^ k * 10 ^ 1 + _ = _
    omega
theorem fixD_dig : ∀ k n, ∀ c ∈ fixD k n, isDig c = true
  | 0, n, c, h => by simp [fixD] at h
  | k + 1, n, c, h => by
    rw [fixD] at h
    rcases List.mem_append.1 h with h | h
    · exact fixD_dig k _ c h
    · rw [List.mem_singleton.1 h]; exact isDig_nat _ (Nat.mod_lt _ (by decide))
theorem valD_zeros : ∀ k, valD (List.replicate k 48) = 0
  | 0 => rfl
  | k + 1 => by rw [List.replicate_succ', valD_app, valD_zeros k, valD_one]; decide
theorem trimZ_eq (l : List UInt8) : ∃ k, l = trimZ l ++ List.replicate k 48 := by
  have h := List.takeWhile_append_dropWhile (p := fun c : UInt8 => c == 48) (l := l.reverse)
  have hz : l.reverse.takeWhile (fun c : UInt8 => c == 48) = List.replicate (l.reverse.takeWhile (fun c : UInt8 => c == 48)).length 48 :=
    List.eq_replicate_iff.2 ⟨rfl, fun c hc => by
      have := List.all_takeWhile (l := l.reverse) (p := fun c : UInt8 => c == 48)
      exact eq_of_beq (List.all_eq_true.1 this c hc)⟩
  refine ⟨(l.reverse.takeWhile (fun c : UInt8 => c == 48)).length, ?_⟩
  have h2 := congrArg List.reverse h
  rw [List.reverse_append, List.reverse_reverse, hz, List.reverse_replicate] at h2
  rw [trimZ]
  exact h2.symm
theorem dig_ne {c : UInt8} (h : isDig c = true) {k : UInt8} (hk : isDig k = false) : c ≠ k := fun e => by rw [e, hk] at h; cases h
theorem before_app (c : UInt8) : ∀ (a b : List UInt8), (∀ x ∈ a, x ≠ c) → before c (a ++ b) = a ++ before c b
  | [], b, _ => rfl
  | x :: a, b, h => by
    have h1 : (x != c) = true := by rw [bne_iff_ne]; exact h x (List.mem_cons_self ..)
    have h2 := before_app c a b fun y hy => h y (List.mem_cons_of_mem _ hy)
    unfold before at h2 ⊢
    rw [List.cons_append, List.takeWhile_cons, if_pos h1, h2]; rfl
theorem behind_app (c : UInt8) : ∀ (a b : List UInt8), (∀ x ∈ a, x ≠ c) → behind c (a ++ b) = behind c b
  | [], b, _ => rfl
  | x :: a, b, h => by
    have h1 : (x != c) = true := by rw [bne_iff_ne]; exact h x (List.mem_cons_self ..)
    have h2 := behind_app c a b fun y hy => h y (List.mem_cons_of_mem _ hy)
    unfold behind at h2 ⊢
    rw [List.cons_append, List.dropWhile_cons, if_pos h1, h2]
/-- Digits, and a fraction if there is one. -/
def dot (f : List UInt8) : List UInt8 := if f = [] then [] else 46 :: f
theorem before_dot (f : List UInt8) : before 46 (dot f) = [] := by
  unfold dot; split
  · rfl
  · rfl
theorem behind_dot (f : List UInt8) : behind 46 (dot f) = f := by
  unfold dot; split
  · rename_i h; rw [h]; rfl
  · rfl
theorem dot_len (f : List UInt8) : (dot f).length ≤ f.length + 1 := by
  unfold dot; split
  · simp
  · simp
theorem unsigned_dig {c : UInt8} (h : isDig c = true) (l : List UInt8) : unsigned (c :: l) = c :: l := by
  have h1 : c ≠ 45 := dig_ne h (by decide)
  have h2 : c ≠ 43 := dig_ne h (by decide)
  unfold unsigned
  split
  · rename_i e; cases e; exact absurd rfl h1
  · rename_i e; cases e; exact absurd rfl h2
  · rfl
/-- How digits with a fraction are read. -/
theorem parse_form (neg : Bool) (w f : List UInt8) (hw : w ≠ []) (hdw : ∀ c ∈ w, isDig c = true) (hdf : ∀ c ∈ f, isDig c = true) (hl : w.length + f.length ≤ 190) :
    parseN ((if neg then [45] else []) ++ (w ++ dot f)) = checkedN ⟨neg, if f.length ≤ 20 then valD (w ++ f) * 10 ^ (20 - f.length) else cutN .even neg (valD (w ++ f)) (10 ^ (f.length - 20))⟩ := by
  obtain ⟨c, w', rfl⟩ : ∃ c w', w = c :: w' := by
    cases w with
    | nil => exact absurd rfl hw
    | cons c w' => exact ⟨c, w', rfl⟩
  have hc := hdw c (List.mem_cons_self ..)
  have hc45 : c ≠ 45 := dig_ne hc (by decide)
  have hlen := dot_len f
  have hu : unsigned ((if neg then [45] else []) ++ (c :: w' ++ dot f)) = c :: w' ++ dot f := by
    cases neg
    · exact unsigned_dig hc _
    · rfl
  have hn : (((if neg then [45] else []) ++ (c :: w' ++ dot f)).head? == some 45) = neg := by
    cases neg
    · simp [hc45]
    · rfl
  have hll : ¬ 200 < ((if neg then [45] else []) ++ (c :: w' ++ dot f)).length := by
    have : (if neg = true then [(45 : UInt8)] else []).length ≤ 1 := by cases neg <;> decide
    rw [List.length_append, List.length_append]
    omega
  have h46 : ∀ x ∈ c :: w', x ≠ 46 := fun x hx => dig_ne (hdw x hx) (by decide)
  unfold parseN
  rw [if_neg hll]
  simp only [hu, hn]
  rw [before_app 46 _ _ h46, behind_app 46 _ _ h46, before_dot, behind_dot, List.append_nil]
  rw [if_neg]
  rintro (h | h)
  · simp at h
  · have : ((c :: w') ++ f).all isDig = true := List.all_eq_true.2 fun x hx => by
      rcases List.mem_append.1 hx with h | h
      · exact hdw x h
      · exact hdf x h
    rw [this] at h; cases h
theorem checkedN_good {x y : Num} (h : checkedN x = .ok y) : Good y := by
  unfold checkedN at h
  split at h
  · cases h
  · cases h
    rename_i h
    exact ⟨by show x.d < P50; omega, fun e => by simp at e; exact e.2⟩
theorem checkedN_of {x : Num} (h : Good x) : checkedN x = .ok x := by
  unfold checkedN
  rw [if_neg (by have := h.1; omega)]
  obtain ⟨n, d⟩ := x
  have := h.2
  cases n
  · rfl
  · have h2 : 0 < d := this rfl
    simp [h2]
theorem checkedN_pos {d : Nat} (h : d < P50) : checkedN ⟨false, d⟩ = .ok ⟨false, d⟩ := checkedN_of ⟨h, fun h => by cases h⟩
theorem parseN_good {l : List UInt8} {x : Num} (h : parseN l = .ok x) : Good x := by
  unfold parseN at h
  split at h
  · cases h
  · simp only at h
    split at h
    · cases h
    · exact checkedN_good h
theorem canonN_good {l : List UInt8} {x : Num} (h : canonN l = .ok x) : Good x ∧ l = textN x := by
  unfold canonN at h
  split at h
  · rename_i y hy
    split at h
    · rename_i e; cases h; exact ⟨parseN_good hy, e.symm⟩
    · cases h
  · cases h
/-- The parts of a canonical text. -/
theorem text_parts (x : Num) : ∃ w f : List UInt8, w ≠ [] ∧ textN x = (if x.neg then [45] else []) ++ (w ++ dot f) ∧ (∀ c ∈ w, isDig c = true) ∧ (∀ c ∈ f, isDig c = true) ∧ f.length ≤ 20 ∧
    valD (w ++ f) * 10 ^ (20 - f.length) = x.d ∧ w.length = max 21 (lenD x.d) - 20 ∧ (x.d % P20 = 0 → f = []) ∧ valD w = x.d / P20 := by
  obtain ⟨K, hK⟩ : ∃ K, K = max 21 (lenD x.d) := ⟨_, rfl⟩
  have hK21 : 21 ≤ K := by omega
  have hlt : x.d < 10 ^ K := (lenD_le x.d K).1 (by omega)
  obtain ⟨s, hs⟩ : ∃ s, s = fixD K x.d := ⟨_, rfl⟩
  have hsl : s.length = K := by rw [hs, fixD_len]
  have hsd : ∀ c ∈ s, isDig c = true := by rw [hs]; exact fixD_dig _ _
  have hsv : valD s = x.d := by rw [hs, fixD_val, Nat.mod_eq_of_lt hlt]
  obtain ⟨k, hk⟩ := trimZ_eq (s.drop (s.length - 20))
  have hfl : (trimZ (s.drop (s.length - 20))).length + k = 20 := by
    have := congrArg List.length hk
    rw [List.length_append, List.length_replicate, List.length_drop] at this
    omega
  have hsplit : s = s.take (s.length - 20) ++ s.drop (s.length - 20) := (List.take_append_drop _ _).symm
  have hdl : (s.drop (s.length - 20)).length = 20 := by rw [List.length_drop]; omega
  have hdd : ∀ c ∈ s.drop (s.length - 20), isDig c = true := fun c hc => hsd c (List.mem_of_mem_drop hc)
  have hv2 : valD (s.take (s.length - 20)) * P20 + valD (s.drop (s.length - 20)) = x.d := by
    rw [← hsv]; conv => rhs; rw [hsplit]
    rw [valD_app, hdl]; rfl
  have hlt2 : valD (s.drop (s.length - 20)) < P20 := by
    have := valD_lt _ hdd
    rw [hdl] at this; exact this
  refine ⟨s.take (s.length - 20), trimZ (s.drop (s.length - 20)), ?_, ?_, fun c hc => hsd c (List.mem_of_mem_take hc), fun c hc => ?_, by omega, ?_, ?_, ?_, ?_⟩
  · intro h
    have := congrArg List.length h
    rw [List.length_take] at this
    simp at this; omega
  · unfold textN
    simp only [← hK, ← hs]
    rw [List.append_assoc]; rfl
  · refine hsd c (List.mem_of_mem_drop (i := s.length - 20) ?_)
    rw [hk]; exact List.mem_append_left _ hc
  · have : 20 - (trimZ (s.drop (s.length - 20))).length = k := by omega
    rw [this, ← hsv]
    conv => rhs; rw [hsplit, hk, ← List.append_assoc, valD_app, valD_zeros, List.length_replicate]
    rfl
  · rw [List.length_take]; omega
  · intro h0
    have h1 : valD (s.drop (s.length - 20)) = 0 := by
      rw [← hv2, Nat.mul_comm, Nat.mul_add_mod, Nat.mod_eq_of_lt hlt2] at h0
      exact h0
    have h2 : ∀ (l : List UInt8), (∀ c ∈ l, isDig c = true) → valD l = 0 → l = List.replicate l.length 48 := by
      intro l
      induction l with
      | nil => intro _ _; rfl
      | cons c l ih =>
        intro hd hv
        have e : valD (c :: l) = valD [c] * 10 ^ l.length + valD l := valD_app [c] l
        rw [e, valD_one] at hv
        have hp : 0 < 10 ^ l.length := Nat.pow_pos (by decide)
        have hc := hd c (List.mem_cons_self ..)
        have h3 : (c.toNat - 48) * 10 ^ l.length = 0 := by omega
        have h4 : c.toNat - 48 = 0 := (Nat.mul_eq_zero.1 h3).resolve_right (by omega)
        have h5 : c = 48 := by
          simp only [isDig, Bool.and_eq_true, decide_eq_true_eq] at hc
          have : c.toNat = 48 := by omega
          exact UInt8.toNat_inj.1 this
        rw [h5, List.length_cons, List.replicate_succ, ← ih (fun y hy => hd y (List.mem_cons_of_mem _ hy)) (by omega)]
    have h3 := h2 _ hdd h1
    rw [trimZ, h3, List.reverse_replicate]
    generalize (s.drop (s.length - 20)).length = m
    have : ∀ m, List.dropWhile (fun c : UInt8 => c == 48) (List.replicate m 48) = [] := by
      intro m
      induction m with
      | zero => rfl
      | succ m ih => rw [List.replicate_succ, List.dropWhile_cons]; exact ih
    rw [this]; rfl
  · rw [← hv2, Nat.mul_comm, Nat.mul_add_div (by decide), Nat.div_eq_of_lt hlt2, Nat.add_zero]
theorem lenD_50 {d : Nat} (h : d < P50) : lenD d ≤ 50 := (lenD_le d 50).2 h
theorem parse_text {x : Num} (h : Good x) : parseN (textN x) = .ok x := by
  obtain ⟨w, f, hw, ht, hdw, hdf, hf, hv, hwl, _⟩ := text_parts x
  have h50 := lenD_50 h.1
  rw [ht, parse_form x.neg w f hw hdw hdf (by omega), if_pos hf, hv]
  exact checkedN_of h
theorem canon_text {x : Num} (h : Good x) : canonN (textN x) = .ok x := by
  unfold canonN; rw [parse_text h]; simp
theorem text_inj {x y : Num} (hx : Good x) (hy : Good y) (h : textN x = textN y) : x = y := by
  have h1 := parse_text hx
  rw [h, parse_text hy] at h1
  cases h1; rfl
theorem bothN_text {x y : Num} (hx : Good x) (hy : Good y) (f : Num → Num → R) : bothN (textN x) (textN y) f = f x y := by
  unfold bothN; rw [canon_text hx, canon_text hy]
theorem parseT_text {x : Num} (h : Good x) : parseT (textN x) = (textN x, 0) := by unfold parseT; rw [parse_text h]; rfl
end Go.Proofs.YtgobpoeccdgeiaaGreatDoor.NumP
