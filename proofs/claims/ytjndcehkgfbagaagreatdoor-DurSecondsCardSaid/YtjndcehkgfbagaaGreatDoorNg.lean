/- parse of package num: all its ways. Results of package num: done. The sum of two numbers of package num. Package num: canonical. Package num: both, with any function value. The function values of package num. Package num: divided, Parse, Add, Sub, Mul, Div, IDiv, Mod, Neg. Plain laws of decimal numbers: the canonical text of a number is read as this number; what the operations do with canonical texts. -/
import Derived.Test.YtjndcehkgfbagaaGreatDoorNd
import Derived.Test.YtjndcehkgfbagaaGreatDoorNe
import Derived.Test.YtjndcehkgfbagaaGreatDoorNf
import Derived.Test.YtjndcehkgfbagaaGreatDoorNc

namespace Go.Proofs.YtjndcehkgfbagaaGreatDoor
open Go.RowKit NumP Go.Proofs.YtjndcehkgfbagaaGreatDoorW.PrintWords
set_option linter.unusedVariables false

theorem parse_b (s : ByteArray) (W : World) (hL : LaidW W) (hs : s.size ≤ maxLen) : Calls Tryz.prog 49 #[.string s] W (NumPost W (parseN s.data.toList)) := by
  by_cases h : s.size ≤ 200
  · rcases sign_cases s with hsg | hsg
    · by_cases hx : before 46 (unsigned s.data.toList) ++ behind 46 (unsigned s.data.toList) = [] ∨ (before 46 (unsigned s.data.toList) ++ behind 46 (unsigned s.data.toList)).all isDig = false
      · exact parse_neg_form s W hL h hsg hx
      · by_cases hl : (behind 46 (unsigned s.data.toList)).length ≤ 20
        · exact parse_neg_small s W hL h hsg hx hl
        · exact parse_neg_big s W hL h hsg hx hl
    · by_cases hx : before 46 (unsigned s.data.toList) ++ behind 46 (unsigned s.data.toList) = [] ∨ (before 46 (unsigned s.data.toList) ++ behind 46 (unsigned s.data.toList)).all isDig = false
      · exact parse_pos_form s W hL h hsg hx
      · by_cases hl : (behind 46 (unsigned s.data.toList)).length ≤ 20
        · exact parse_pos_small s W hL h hsg hx hl
        · exact parse_pos_big s W hL h hsg hx hl
  · exact parse_long s W (by omega) hs
end Go.Proofs.YtjndcehkgfbagaaGreatDoor

namespace Go.Proofs.YtjndcehkgfbagaaGreatDoor
open Go.RowKit NumP Go.Proofs.YtjndcehkgfbagaaGreatDoorW.PrintWords
set_option linter.unusedVariables false

/-- What a function leaves that returns a text and an error. -/
def StrPost (W : World) (r : List UInt8 × Int) (e : Ending) (w' : World) : Prop := e = .returned (.tuple #[.string ⟨r.1.toArray⟩, .int .i64 r.2]) ∧ Below W.heap.size W w'
theorem checkedN_lt {x y : Num} (h : checkedN x = .ok y) : y.d < P50 := by
  unfold checkedN at h
  split at h
  · cases h
  · cases h
    simp only; omega
theorem checkedN_err {x : Num} {k : Int} (h : checkedN x = .error k) : k = 40 := by
  unfold checkedN at h
  split at h
  · cases h; rfl
  · cases h
theorem BAt_keep {w w' : World} {v : Value} {xs : List Int} {q : Nat} {b : Bool} {A : Option Addr} {n c : Nat} {T : TypeId} (h : BAt w v xs) (hq : w.heap[q]? = some (.cells #[.bool b, .slice A n c] T (0, 0))) (hk : ∀ k, k ≠ q → w'.heap[k]? = w.heap[k]?) : BAt w' v xs := by
  obtain ⟨A', c', e, h1, h2, h3⟩ := h.at_
  refine ⟨A', c', e, h1, h2, fun h0 => ?_⟩
  obtain ⟨ad, ea, hc⟩ := h3 h0
  refine ⟨ad, ea, fun i hi => ?_⟩
  have hci := hc i hi
  rw [← hci]
  refine World.cell?_of_block (hk _ fun e => ?_)
  unfold World.cell? at hci
  rw [e, hq] at hci
  generalize (Addr.add ad i).off = o at hci
  cases o with
  | zero => simp at hci
  | succ o => cases o with
    | zero => simp at hci
    | succ o => simp at hci
theorem w50 {d : Nat} (h : d < P50) : (wordsN d).length ≤ 6 := words_len (Nat.lt_of_lt_of_le h (by decide))
set_option maxHeartbeats 1000000 in
set_option maxRecDepth 100000 in
theorem done_b (W : World) (neg : Bool) (A : Option Addr) (n c d : Nat) (hv : BN W (.slice A n c) d) (hd : (wordsN d).length ≤ 400000) :
    Calls Tryz.prog 53 #[.agg #[.bool neg, .slice A n c]] W (StrPost W (outN (checkedN ⟨neg, d⟩))) := by
  obtain ⟨W1, hW1⟩ : ∃ W1, W1 = W.alloc (.cells #[.bool neg, .slice A n c] 64) := ⟨_, rfl⟩
  obtain ⟨q, hq⟩ : ∃ q, q = W.heap.size := ⟨_, rfl⟩
  have hb1 : Below W.heap.size W W1 := by rw [hW1]; exact (Below.refl _ _).alloc (Nat.le_refl _) _
  have hblk : W1.heap[q]? = some (.cells #[.bool neg, .slice A n c] 64 (0, 0)) := by rw [hW1, hq]; exact (MapKept.heap_alloc _ _).1
  have hck := checked_b W1 neg A n c d (hv.below hb1) hd
  replace hblk := Lib.hid hblk
  replace hv := Lib.hid hv
  go_enter Tryz.func53, Tryz.ntmps53
  go_wp2_with fail
  rw [← hW1, ← hq]
  clear hW1
  replace hq := Lib.hid hq
  refine hck.mono ?_
  intro e w2 hnp
  clear hck
  obtain ⟨hb2, hres⟩ := hnp
  have hb02 : Hid (Below W.heap.size W w2) := Lib.hid (hb1.trans (hb2.mono hb1.size))
  have hr2 : Hid (w2.heap[q]? = some (.cells #[.bool neg, .slice A n c] 64 (0, 0))) := Lib.hid (by rw [hb2.block q (heap_lt hblk.out)]; exact hblk.out)
  obtain ⟨⟨u0, u1⟩, fu⟩ := cells2 hr2.out
  have fu0 := fu 0
  have fu1 := fu 1
  clear fu hb1 hb2
  cases hpr : checkedN ⟨neg, d⟩ with
  | ok x =>
    rw [hpr] at hres
    obtain ⟨A9, n9, c9, rfl, hB9, hn9⟩ := hres
    have hx50 := w50 (checkedN_lt hpr)
    obtain ⟨xn, xd⟩ := x
    simp only at hx50
    obtain ⟨W5, hW5, h5, hb5, hk5⟩ := put2 hr2.out (.bool xn) (.slice A9 n9 c9) (B := W.heap.size) (by rw [hq.out]; exact Nat.le_refl _)
    have hB5 : BN W5 (.slice A9 n9 c9) xd := BAt_keep (w' := W5) hB9 hr2.out hk5
    have htx := text_b W5 xn A9 n9 c9 xd hB5 (by omega)
    obtain ⟨⟨y0, y1⟩, -⟩ := cells2 h5
    have hb05 : Hid (Below W.heap.size W W5) := Lib.hid (hb02.out.trans hb5)
    replace hpr := Lib.hid hpr
    replace hW5 := Lib.hid hW5
    replace hn9 := Lib.hid hn9
    replace h5 := Lib.hid h5
    clear hB5 hB9 hb5 hx50
    go_wp2_with fail
    rw [← hW5.out]
    clear hW5 u0 u1 fu0 fu1
    go_wp2_with fail
    refine htx.mono ?_
    rintro e w6 ⟨rfl, hb6⟩
    clear htx
    go_wp2_with fail
    go_ret2
    exact ⟨by rw [hpr.out]; rfl, hb05.out.trans (hb6.mono hb05.out.size)⟩
  | error k =>
    rw [hpr] at hres
    have hk : k = 40 := checkedN_err hpr
    subst hk
    replace hpr := Lib.hid hpr
    have hres : e = .returned (.tuple #[.agg #[.bool false, .slice none 0 0], .int .i64 40]) := hres
    subst hres
    obtain ⟨W5, hW5, h5, hb5, hk5⟩ := put2 hr2.out (.bool false) (.slice none 0 0) (B := W.heap.size) (by rw [hq.out]; exact Nat.le_refl _)
    replace hW5 := Lib.hid hW5
    replace h5 := Lib.hid h5
    go_wp2_with fail
    rw [← hW5.out]
    go_ret2
    exact ⟨by rw [hpr.out]; rfl, hb02.out.trans hb5⟩
end Go.Proofs.YtjndcehkgfbagaaGreatDoor

namespace Go.Proofs.YtjndcehkgfbagaaGreatDoor
open Go.RowKit NumP Go.Proofs.YtjndcehkgfbagaaGreatDoorW.PrintWords
set_option linter.unusedVariables false

theorem BPost.sl {W : World} {k : Nat} {e : Ending} {w' : World} (h : BPost W (wordsN k) e w') : ∃ A c, e = .returned (.slice A (wordsN k).length c) ∧ BN w' (.slice A (wordsN k).length c) k ∧ Below W.heap.size W w' := by
  obtain ⟨v, rfl, hB, hb⟩ := h
  obtain ⟨A, c, rfl⟩ := BAt.form hB
  exact ⟨A, c, rfl, hB, hb⟩
/-- Two boxed numbers stay. -/
theorem four_out {W4 w : World} {q p : Nat} {a b a' b' : Value} (h : w.cell? ⟨q, 0, none⟩ = some a ∧ w.cell? ⟨q, 1, none⟩ = some b ∧ w.cell? ⟨p, 0, none⟩ = some a' ∧ w.cell? ⟨p, 1, none⟩ = some b' ∧ Hid (Below W4.heap.size W4 w)) : Below W4.heap.size W4 w := h.2.2.2.2.out
theorem four_later {W4 : World} {q p : Nat} {a b a' b' : Value} {w w' : World} (hq : Hid (q < W4.heap.size ∧ p < W4.heap.size)) (h : w.cell? ⟨q, 0, none⟩ = some a ∧ w.cell? ⟨q, 1, none⟩ = some b ∧ w.cell? ⟨p, 0, none⟩ = some a' ∧ w.cell? ⟨p, 1, none⟩ = some b' ∧ Hid (Below W4.heap.size W4 w)) (hb : Below w.heap.size w w') :
    w'.cell? ⟨q, 0, none⟩ = some a ∧ w'.cell? ⟨q, 1, none⟩ = some b ∧ w'.cell? ⟨p, 0, none⟩ = some a' ∧ w'.cell? ⟨p, 1, none⟩ = some b' ∧ Hid (Below W4.heap.size W4 w') := by
  obtain ⟨c0, c1, d0, d1, h⟩ := h
  have hz := h.out.size
  obtain ⟨hq1, hq2⟩ := hq.out
  exact ⟨(hb.cell (p := ⟨q, 0, none⟩) (by show q < _; omega)).trans c0, (hb.cell (p := ⟨q, 1, none⟩) (by show q < _; omega)).trans c1, (hb.cell (p := ⟨p, 0, none⟩) (by show p < _; omega)).trans d0, (hb.cell (p := ⟨p, 1, none⟩) (by show p < _; omega)).trans d1, Lib.hid (h.out.trans (hb.mono h.out.size))⟩
/-- Two numbers, boxed. -/
theorem box_two (W : World) (xn yn : Bool) (vx vy : Value) : ∃ W2, W2 = (W.alloc (.cells #[.bool xn, vx] 64)).alloc (.cells #[.bool yn, vy] 64) ∧ Below W.heap.size W W2 ∧
    W2.heap[W.heap.size]? = some (.cells #[.bool xn, vx] 64 (0, 0)) ∧ W2.heap[W.heap.size + 1]? = some (.cells #[.bool yn, vy] 64 (0, 0)) := by
  have hb1 : Below W.heap.size W (W.alloc (.cells #[.bool xn, vx] 64)) := (Below.refl _ _).alloc (Nat.le_refl _) _
  have h1 : (W.alloc (.cells #[.bool xn, vx] 64)).heap[W.heap.size]? = some (.cells #[.bool xn, vx] 64 (0, 0)) := (MapKept.heap_alloc _ _).1
  obtain ⟨W1, hW1⟩ : ∃ W1, W1 = W.alloc (.cells #[.bool xn, vx] 64) := ⟨_, rfl⟩
  have hz : W1.heap.size = W.heap.size + 1 := by rw [hW1]; simp
  rw [← hW1] at hb1 h1 ⊢
  refine ⟨_, rfl, hb1.alloc hb1.size _, ?_, ?_⟩
  · rw [Below.heap_alloc _ _ _ (by omega)]; exact h1
  · rw [← hz]; exact (MapKept.heap_alloc _ _).1
theorem cells_of {w : World} {q p : Nat} {a b a' b' : Value} {T : TypeId} (h : w.heap[q]? = some (.cells #[a, b] T (0, 0))) (h' : w.heap[p]? = some (.cells #[a', b'] T (0, 0))) :
    w.cell? ⟨q, 0, none⟩ = some a ∧ w.cell? ⟨q, 1, none⟩ = some b ∧ w.cell? ⟨p, 0, none⟩ = some a' ∧ w.cell? ⟨p, 1, none⟩ = some b' := ⟨(cells2 h).1.1, (cells2 h).1.2, (cells2 h').1.1, (cells2 h').1.2⟩
theorem sum_len {a b n : Nat} (h1 : (wordsN a).length ≤ n) (h2 : (wordsN b).length ≤ n) : (wordsN (a + b)).length ≤ n + 1 := by
  refine words_len ?_
  have g1 := (wordsN_is a).lt
  have g2 := (wordsN_is b).lt
  have g3 : 1000000000 ^ (wordsN a).length ≤ 1000000000 ^ n := Nat.pow_le_pow_right (by decide) h1
  have g4 : 1000000000 ^ (wordsN b).length ≤ 1000000000 ^ n := Nat.pow_le_pow_right (by decide) h2
  rw [Nat.pow_succ]
  omega
set_option maxHeartbeats 4000000 in
set_option maxRecDepth 100000 in
theorem sum_b (W : World) (xn yn : Bool) (Ax Ay : Option Addr) (nx cx ny cy dx dy : Nat) (hx : BN W (.slice Ax nx cx) dx) (hy : BN W (.slice Ay ny cy) dy) (hdx : (wordsN dx).length ≤ 1000) (hdy : (wordsN dy).length ≤ 1000) :
    Calls Tryz.prog 72 #[.agg #[.bool xn, .slice Ax nx cx], .agg #[.bool yn, .slice Ay ny cy]] W (StrPost W (outN (sumN ⟨xn, dx⟩ ⟨yn, dy⟩))) := by
  obtain ⟨W2, hW2, hb2, hq, hp⟩ := box_two W xn yn (.slice Ax nx cx) (.slice Ay ny cy)
  obtain ⟨q, hqe⟩ : ∃ q, q = W.heap.size := ⟨_, rfl⟩
  rw [← hqe] at hq hp
  have hlt : Hid (q < W2.heap.size ∧ q + 1 < W2.heap.size) := Lib.hid ⟨heap_lt hq, heap_lt hp⟩
  obtain ⟨b0, b1, d0, d1⟩ := cells_of hq hp
  have hX2 : Hid (BN W2 (.slice Ax nx cx) dx) := Lib.hid (hx.below hb2)
  have hY2 : Hid (BN W2 (.slice Ay ny cy) dy) := Lib.hid (hy.below hb2)
  have hlx : Hid ((wordsN dx).length < 900000) := Lib.hid (by omega)
  have hly : Hid ((wordsN dy).length < 900000) := Lib.hid (by omega)
  have hmono : ∀ a b : Nat, a ≤ b → (wordsN a).length ≤ (wordsN b).length := fun a b hab => by
    rcases Nat.lt_or_ge (wordsN b).length (wordsN a).length with h | h
    · have := (wordsN_is b).lt_of_len (wordsN_is a) h
      omega
    · exact h
  have hls : Hid ((wordsN (dx + dy)).length ≤ 400000) := Lib.hid (Nat.le_trans (sum_len hdx hdy) (by omega))
  have hlm1 : Hid ((wordsN (dx - dy)).length ≤ 400000) := Lib.hid (by have := hmono (dx - dy) dx (by omega); omega)
  have hlm2 : Hid ((wordsN (dy - dx)).length ≤ 400000) := Lib.hid (by have := hmono (dy - dx) dy (by omega); omega)
  have hS : Hid (W2.drew.cell? ⟨q, 0, none⟩ = some (.bool xn) ∧ W2.drew.cell? ⟨q, 1, none⟩ = some (.slice Ax nx cx) ∧ W2.drew.cell? ⟨q + 1, 0, none⟩ = some (.bool yn) ∧ W2.drew.cell? ⟨q + 1, 1, none⟩ = some (.slice Ay ny cy) ∧ Hid (Below W2.heap.size W2 W2.drew)) := Lib.hid ⟨b0, b1, d0, d1, Lib.hid (Below.refl _ _).drew⟩
  replace hq := Lib.hid hq
  replace hp := Lib.hid hp
  clear hmono hx hy
  by_cases hsn : xn = yn
  · have hR : Hid (sumN ⟨xn, dx⟩ ⟨yn, dy⟩ = checkedN ⟨xn, dx + dy⟩) := Lib.hid (by unfold sumN; rw [if_pos hsn])
    subst hsn
    go_enter Tryz.func72, Tryz.ntmps72
    go_wp2_with fail
    rw [← hW2, ← hqe]
    clear hW2
    replace hqe := Lib.hid hqe
    clear b0 b1 d0 d1
    go_region_held3 (fun w' => w'.cell? ⟨q, 0, none⟩ = some (.bool xn) ∧ w'.cell? ⟨q, 1, none⟩ = some (.slice Ax nx cx) ∧ w'.cell? ⟨q + 1, 0, none⟩ = some (.bool xn) ∧ w'.cell? ⟨q + 1, 1, none⟩ = some (.slice Ay ny cy) ∧ Hid (Below W2.heap.size W2 w'))
      (first | exact hS.out | exact four_later hlt (by assumption) (by assumption))
      (first
        | (go_at_call 97; refine ((plus_b _ _ _ dx dy (hX2.out.below (four_out (by assumption))) (hY2.out.below (four_out (by assumption))) hlx.out hly.out).mono (fun e w' h => BPost.sl h)).mono ?_; rintro e w' ⟨A7, c7, rfl, hv7, hbb⟩)
        | (go_at_call 53; refine (done_b _ _ _ _ _ (dx + dy) (by assumption) hls.out).mono ?_; rintro e w' ⟨rfl, hbb⟩))
    rename_i hH
    have hbb := Lib.hid hH.2.2.2.2.out
    go_wp2_with fail
    go_ret2
    exact ⟨by rw [hR.out]; rfl, hb2.trans (hbb.out.mono hb2.size)⟩
  · have hne : (xn == yn) = false := by simpa using hsn
    have hcmp := cmp_b W2 _ _ dx dy hX2.out hY2.out (Nat.lt_trans hlx.out (by decide)) (Nat.lt_trans hly.out (by decide))
    by_cases hle : dy ≤ dx
    · have hR : Hid (sumN ⟨xn, dx⟩ ⟨yn, dy⟩ = checkedN ⟨xn, dx - dy⟩) := Lib.hid (by unfold sumN; rw [if_neg hsn, if_pos hle])
      go_enter Tryz.func72, Tryz.ntmps72
      go_wp2_with fail
      rw [← hW2, ← hqe]
      clear hW2
      replace hqe := Lib.hid hqe
      go_wp2_with (go_at_call 96; refine hcmp.mono ?_; rintro e w3 ⟨⟨r, rfl, hsg⟩, hb3⟩; have hr : 0 ≤ r := by (unfold Sgn at hsg; omega))
      replace hS := Lib.hid (four_later hlt (And.intro b0 (And.intro b1 (And.intro d0 (And.intro d1 (Lib.hid (Below.refl _ _)))))) hb3.drew)
      clear b0 b1 d0 d1 hsg hr
      go_region_held3 (fun w' => w'.cell? ⟨q, 0, none⟩ = some (.bool xn) ∧ w'.cell? ⟨q, 1, none⟩ = some (.slice Ax nx cx) ∧ w'.cell? ⟨q + 1, 0, none⟩ = some (.bool yn) ∧ w'.cell? ⟨q + 1, 1, none⟩ = some (.slice Ay ny cy) ∧ Hid (Below W2.heap.size W2 w'))
        (first | exact hS.out | exact four_later hlt (by assumption) (by assumption))
        (first
          | (go_at_call 119; refine ((minus_b _ _ _ dx dy (hX2.out.below (four_out (by assumption))) (hY2.out.below (four_out (by assumption))) hlx.out (by omega)).mono (fun e w' h => BPost.sl h)).mono ?_; rintro e w' ⟨A7, c7, rfl, hv7, hbb⟩)
          | (go_at_call 53; refine (done_b _ _ _ _ _ (dx - dy) (by assumption) hlm1.out).mono ?_; rintro e w' ⟨rfl, hbb⟩))
      rename_i hH
      have hbb := Lib.hid hH.2.2.2.2.out
      go_wp2_with fail
      go_ret2
      exact ⟨by rw [hR.out]; rfl, hb2.trans (hbb.out.mono hb2.size)⟩
    · have hR : Hid (sumN ⟨xn, dx⟩ ⟨yn, dy⟩ = checkedN ⟨yn, dy - dx⟩) := Lib.hid (by unfold sumN; rw [if_neg hsn, if_neg hle])
      go_enter Tryz.func72, Tryz.ntmps72
      go_wp2_with fail
      rw [← hW2, ← hqe]
      clear hW2
      replace hqe := Lib.hid hqe
      go_wp2_with (go_at_call 96; refine hcmp.mono ?_; rintro e w3 ⟨⟨r, rfl, hsg⟩, hb3⟩; have hr : r < 0 := by (unfold Sgn at hsg; omega))
      replace hS := Lib.hid (four_later hlt (And.intro b0 (And.intro b1 (And.intro d0 (And.intro d1 (Lib.hid (Below.refl _ _)))))) hb3.drew)
      clear b0 b1 d0 d1 hsg hr
      go_region_held3 (fun w' => w'.cell? ⟨q, 0, none⟩ = some (.bool xn) ∧ w'.cell? ⟨q, 1, none⟩ = some (.slice Ax nx cx) ∧ w'.cell? ⟨q + 1, 0, none⟩ = some (.bool yn) ∧ w'.cell? ⟨q + 1, 1, none⟩ = some (.slice Ay ny cy) ∧ Hid (Below W2.heap.size W2 w'))
        (first | exact hS.out | exact four_later hlt (by assumption) (by assumption))
        (first
          | (go_at_call 119; refine ((minus_b _ _ _ dy dx (hY2.out.below (four_out (by assumption))) (hX2.out.below (four_out (by assumption))) hly.out (by omega)).mono (fun e w' h => BPost.sl h)).mono ?_; rintro e w' ⟨A7, c7, rfl, hv7, hbb⟩)
          | (go_at_call 53; refine (done_b _ _ _ _ _ (dy - dx) (by assumption) hlm2.out).mono ?_; rintro e w' ⟨rfl, hbb⟩))
      rename_i hH
      have hbb := Lib.hid hH.2.2.2.2.out
      go_wp2_with fail
      go_ret2
      exact ⟨by rw [hR.out]; rfl, hb2.trans (hbb.out.mono hb2.size)⟩
end Go.Proofs.YtjndcehkgfbagaaGreatDoor

namespace Go.Proofs.YtjndcehkgfbagaaGreatDoor
open Go.RowKit NumP Go.Proofs.YtjndcehkgfbagaaGreatDoorW.PrintWords
set_option linter.unusedVariables false

theorem parseN_lt {l : List UInt8} {x : Num} (h : parseN l = .ok x) : x.d < P50 := by
  unfold parseN at h
  split at h
  · cases h
  · simp only at h
    split at h
    · cases h
    · exact checkedN_lt h
theorem parseN_err {l : List UInt8} {k : Int} (h : parseN l = .error k) : 0 < k := by
  unfold parseN at h
  split at h
  · cases h; decide
  · simp only at h
    split at h
    · cases h; decide
    · rw [checkedN_err h]; decide
theorem canonN_ok {l : List UInt8} {x : Num} (h : parseN l = .ok x) : canonN l = if textN x = l then .ok x else .error 1 := by unfold canonN; rw [h]
theorem canonN_err {l : List UInt8} {k : Int} (h : parseN l = .error k) : canonN l = .error 1 := by unfold canonN; rw [h]
theorem canonN_lt {l : List UInt8} {x : Num} (h : canonN l = .ok x) : x.d < P50 := by
  cases hp : parseN l with
  | error k => rw [canonN_err hp] at h; cases h
  | ok y =>
    rw [canonN_ok hp] at h
    split at h
    · cases h; exact parseN_lt hp
    · cases h
set_option maxHeartbeats 2000000 in
set_option maxRecDepth 100000 in
theorem canonical_b (s : ByteArray) (W : World) (hL : LaidW W) (hs : s.size ≤ maxLen) : Calls Tryz.prog 118 #[.string s] W (NumPost W (canonN s.data.toList)) := by
  obtain ⟨W1, hW1⟩ : ∃ W1, W1 = W.alloc (.cells #[.bool false, .slice none 0 0] 64) := ⟨_, rfl⟩
  obtain ⟨q, hq⟩ : ∃ q, q = W.heap.size := ⟨_, rfl⟩
  have hb1 : Below W.heap.size W W1 := by rw [hW1]; exact (Below.refl _ _).alloc (Nat.le_refl _) _
  have hblk : W1.heap[q]? = some (.cells #[.bool false, .slice none 0 0] 64 (0, 0)) := by rw [hW1, hq]; exact (MapKept.heap_alloc _ _).1
  have hpa := parse_b s W1 (hL.below hb1 hL.size) hs
  replace hblk := Lib.hid hblk
  go_enter Tryz.func118, Tryz.ntmps118
  go_wp2_with fail
  rw [← hW1, ← hq]
  clear hW1
  replace hq := Lib.hid hq
  refine hpa.mono ?_
  intro e w2 hnp
  clear hpa
  obtain ⟨hb2, hres⟩ := hnp
  have hb02 : Hid (Below W.heap.size W w2) := Lib.hid (hb1.trans (hb2.mono hb1.size))
  have hr2 : Hid (w2.heap[q]? = some (.cells #[.bool false, .slice none 0 0] 64 (0, 0))) := Lib.hid (by rw [hb2.block q (heap_lt hblk.out)]; exact hblk.out)
  clear hb1 hb2 hblk
  obtain ⟨⟨u0, u1⟩, fq⟩ := cells2 hr2.out
  have fq0 := fq 0
  have fq1 := fq 1
  clear fq
  have hlt2 : q < w2.heap.size := heap_lt hr2.out
  have hne2 : q ≠ w2.heap.size := Nat.ne_of_lt hlt2
  cases hpr : parseN s.data.toList with
  | error k =>
    rw [hpr] at hres
    have hres : e = .returned (.tuple #[.agg #[.bool false, .slice none 0 0], .int .i64 k]) := hres
    have hk := parseN_err hpr
    subst hres
    have hk0 : (k == 0) = false := by simp; omega
    replace hpr := Lib.hid hpr
    go_wp2_with fail
    obtain ⟨W5, hW5, h5, hb5, hk5⟩ := put2 hr2.out (.bool false) (.slice none 0 0) (B := W.heap.size) (by rw [hq.out]; exact Nat.le_refl _)
    rw [← hW5]
    clear u0 u1 fq0 fq1
    have hz5 : q < W5.heap.size := heap_lt h5
    obtain ⟨⟨y0, y1⟩, -⟩ := cells2 h5
    replace h5 := Lib.hid h5
    replace hW5 := Lib.hid hW5
    refine bodyPost_ret (v := .tuple #[.agg #[.bool false, .slice none 0 0], .int .i64 1]) ?ret rfl ?post
    case ret => rw [res_two rfl]; go_simp
    case post => exact ⟨(hb02.out.trans hb5).alloc (by have := hb02.out.size; have := hb5.size; omega) _, by rw [canonN_err hpr.out]⟩
  | ok x =>
    rw [hpr] at hres
    obtain ⟨A9, n9, c9, rfl, hB9, hn9⟩ := hres
    have hx50 := w50 (parseN_lt hpr)
    obtain ⟨xn, xd⟩ := x
    simp only at hx50 hB9 hn9
    obtain ⟨W3, hW3⟩ : ∃ W3, W3 = w2.alloc (.cells #[.bool xn, .slice A9 n9 c9] 64) := ⟨_, rfl⟩
    have hb3 : Below w2.heap.size w2 W3 := by rw [hW3]; exact (Below.refl _ _).alloc (Nat.le_refl _) _
    have htx := text_b W3 xn A9 n9 c9 xd (hB9.below hb3) (by omega)
    obtain ⟨p, hp⟩ : ∃ p, p = w2.heap.size := ⟨_, rfl⟩
    have hp3 : W3.heap[p]? = some (.cells #[.bool xn, .slice A9 n9 c9] 64 (0, 0)) := by rw [hW3, hp]; exact (MapKept.heap_alloc _ _).1
    have hq3 : W3.heap[q]? = some (.cells #[.bool false, .slice none 0 0] 64 (0, 0)) := by rw [hb3.block q hlt2]; exact hr2.out
    have hb03 : Below W.heap.size W W3 := hb02.out.trans (hb3.mono hb02.out.size)
    have hh := canonN_ok hpr
    have hpq : p ≠ q := fun e => hne2 (by rw [← e, hp])
    replace hpr := Lib.hid hpr
    replace hn9 := Lib.hid hn9
    replace hh := Lib.hid hh
    replace hB9 := Lib.hid hB9
    go_wp2_with fail
    rw [← hW3, ← hp]
    clear hW3 u0 u1 fq0 fq1 hlt2 hne2
    replace hp := Lib.hid hp
    refine htx.mono ?_
    rintro e w4 ⟨rfl, hb4⟩
    clear htx
    have hp4 : w4.heap[p]? = some (.cells #[.bool xn, .slice A9 n9 c9] 64 (0, 0)) := by rw [hb4.block p (heap_lt hp3)]; exact hp3
    have hq4 : w4.heap[q]? = some (.cells #[.bool false, .slice none 0 0] 64 (0, 0)) := by rw [hb4.block q (heap_lt hq3)]; exact hq3
    have hb04 : Hid (Below W.heap.size W w4) := Lib.hid (hb03.trans (hb4.mono hb03.size))
    have hb24 : Hid (Below w2.heap.size w2 w4) := Lib.hid (hb3.trans (hb4.mono hb3.size))
    clear hb3 hb4 hb03 hp3 hq3
    obtain ⟨⟨u0, u1⟩, -⟩ := cells2 hp4
    obtain ⟨⟨v0, v1⟩, fq⟩ := cells2 hq4
    have fq0 := fq 0
    have fq1 := fq 1
    clear fq
    replace hp4 := Lib.hid hp4
    by_cases hts : textN ⟨xn, xd⟩ = s.data.toList
    · have hte : txtB ⟨xn, xd⟩ = s := by apply ByteArray.ext; apply Array.ext'; rw [txtB_data]; exact hts
      have hR : Hid (canonN s.data.toList = .ok ⟨xn, xd⟩) := Lib.hid (by rw [hh.out, if_pos hts])
      obtain ⟨W6, hW6, h6, hb6, hk6⟩ := put2 hq4 (.bool xn) (.slice A9 n9 c9) (B := W.heap.size) (by rw [hq.out]; exact Nat.le_refl _)
      have hB6 : Hid (BN W6 (.slice A9 n9 c9) xd) := Lib.hid (BAt_keep (w' := W6) (hB9.out.below hb24.out) hq4 hk6)
      replace hts := Lib.hid hts
      replace hW6 := Lib.hid hW6
      go_wp2_with fail
      rw [← hW6.out]
      clear u0 u1 v0 v1 fq0 fq1 hW6
      obtain ⟨⟨y0, y1⟩, -⟩ := cells2 h6
      replace h6 := Lib.hid h6
      refine bodyPost_ret (v := .tuple #[.agg #[.bool xn, .slice A9 n9 c9], .int .i64 0]) ?ret rfl ?post
      case ret => rw [res_two rfl]; go_simp
      case post => exact ⟨hb04.out.trans hb6, by rw [hR.out]; exact ⟨A9, n9, c9, rfl, hB6.out, hn9.out⟩⟩
    · have hte : ((txtB ⟨xn, xd⟩).toList == s.toList) = false := by
        rw [ByteArray.toList_eq, ByteArray.toList_eq, txtB_data]
        simpa using hts
      have hR : Hid (canonN s.data.toList = .error 1) := Lib.hid (by rw [hh.out, if_neg hts])
      obtain ⟨W6, hW6, h6, hb6, hk6⟩ := put2 hq4 (.bool false) (.slice none 0 0) (B := W.heap.size) (by rw [hq.out]; exact Nat.le_refl _)
      replace hts := Lib.hid hts
      replace hW6 := Lib.hid hW6
      go_wp2_with fail
      rw [← hW6.out]
      clear u0 u1 v0 v1 fq0 fq1 hW6
      obtain ⟨⟨y0, y1⟩, -⟩ := cells2 h6
      replace h6 := Lib.hid h6
      refine bodyPost_ret (v := .tuple #[.agg #[.bool false, .slice none 0 0], .int .i64 1]) ?ret rfl ?post
      case ret => rw [res_two rfl]; go_simp
      case post => exact ⟨hb04.out.trans hb6, by rw [hR.out]⟩
end Go.Proofs.YtjndcehkgfbagaaGreatDoor

namespace Go.Proofs.YtjndcehkgfbagaaGreatDoor
open Go.RowKit NumP Go.Proofs.YtjndcehkgfbagaaGreatDoorW.PrintWords
set_option linter.unusedVariables false

theorem canonN_one {l : List UInt8} {k : Int} (h : canonN l = .error k) : k = 1 := by
  cases hp : parseN l with
  | error j => rw [canonN_err hp] at h; cases h; rfl
  | ok y =>
    rw [canonN_ok hp] at h
    split at h
    · cases h
    · cases h; rfl
/-- What canonical returns, in one form. -/
theorem canon_form {l : List UInt8} {W w' : World} {e : Ending} (h : NumPost W (canonN l) e w') : ∃ neg A n c d k, e = .returned (.tuple #[.agg #[.bool neg, .slice A n c], .int .i64 k]) ∧ Below W.heap.size W w' ∧
    ((k = 0 ∧ canonN l = .ok ⟨neg, d⟩ ∧ d < P50 ∧ BN w' (.slice A n c) d) ∨ (k = 1 ∧ canonN l = .error 1)) := by
  obtain ⟨hb, h⟩ := h
  cases hc : canonN l with
  | ok x =>
    rw [hc] at h
    obtain ⟨A, n, c, rfl, hB, hn⟩ := h
    exact ⟨x.neg, A, n, c, x.d, 0, rfl, hb, .inl ⟨rfl, rfl, canonN_lt hc, hB⟩⟩
  | error k =>
    rw [hc] at h
    have := canonN_one hc
    subst this
    have h : e = .returned (.tuple #[.agg #[.bool false, .slice none 0 0], .int .i64 1]) := h
    exact ⟨false, none, 0, 0, 0, 1, h, hb, .inr ⟨rfl, rfl⟩⟩
theorem bothN_ok {a b : List UInt8} {x y : Num} {f : Num → Num → R} (h1 : canonN a = .ok x) (h2 : canonN b = .ok y) : bothN a b f = f x y := by unfold bothN; rw [h1, h2]
theorem bothN_err1 {a b : List UInt8} {f : Num → Num → R} (h1 : canonN a = .error 1) : bothN a b f = .error 1 := by unfold bothN; rw [h1]
theorem bothN_err2 {a b : List UInt8} {f : Num → Num → R} (h1 : canonN b = .error 1) : bothN a b f = .error 1 := by unfold bothN; rw [h1]; cases canonN a <;> rfl
set_option maxHeartbeats 2000000 in
set_option maxRecDepth 100000 in
theorem both_b (k : Nat) (cap : Array Value) (hk : ∀ args w, Sem.run Tryz.prog (callFunc k args) w = .ok (.enter k args) w) (f : Num → Num → R) (a b : ByteArray) (W : World) (hL : LaidW W) (ha : a.size ≤ maxLen) (hb : b.size ≤ maxLen)
    (hf : ∀ (w : World) (xn yn : Bool) (Ax Ay : Option Addr) (nx cx ny cy dx dy : Nat), Below W.heap.size W w → BN w (.slice Ax nx cx) dx → BN w (.slice Ay ny cy) dy → dx < P50 → dy < P50 →
      Calls Tryz.prog k (#[.agg #[.bool xn, .slice Ax nx cx], .agg #[.bool yn, .slice Ay ny cy]] ++ cap) w (StrPost w (outN (f ⟨xn, dx⟩ ⟨yn, dy⟩)))) :
    Calls Tryz.prog 70 #[.string a, .string b, .func (.func k) #[] cap] W (StrPost W (outN (bothN a.data.toList b.data.toList f))) := by
  have hc1 := canonical_b a W hL ha
  go_enter Tryz.func70, Tryz.ntmps70
  go_wp2_with fail
  refine hc1.mono ?_
  intro e w1 hnp
  obtain ⟨neg, A, n, c, d, k1, rfl, hb1, hk1⟩ := canon_form hnp
  clear hc1 hnp
  obtain ⟨W2, hW2⟩ : ∃ W2, W2 = w1.alloc (.cells #[.bool neg, .slice A n c] 64) := ⟨_, rfl⟩
  obtain ⟨q, hq⟩ : ∃ q, q = w1.heap.size := ⟨_, rfl⟩
  have hb2 : Below w1.heap.size w1 W2 := by rw [hW2]; exact (Below.refl _ _).alloc (Nat.le_refl _) _
  have hq2 : W2.heap[q]? = some (.cells #[.bool neg, .slice A n c] 64 (0, 0)) := by rw [hW2, hq]; exact (MapKept.heap_alloc _ _).1
  have hb02 := hb1.trans (hb2.mono hb1.size)
  have hc2 := canonical_b b W2 (hL.below hb02 hL.size) hb
  go_wp2_with fail
  rw [← hW2, ← hq]
  clear hW2
  replace hq := Lib.hid hq
  refine hc2.mono ?_
  intro e w3 hnp
  obtain ⟨neg', A', n', c', d', k2, rfl, hb3, hk2⟩ := canon_form hnp
  clear hc2 hnp
  obtain ⟨W4, hW4⟩ : ∃ W4, W4 = w3.alloc (.cells #[.bool neg', .slice A' n' c'] 64) := ⟨_, rfl⟩
  obtain ⟨p, hp⟩ : ∃ p, p = w3.heap.size := ⟨_, rfl⟩
  have hb4 : Below w3.heap.size w3 W4 := by rw [hW4]; exact (Below.refl _ _).alloc (Nat.le_refl _) _
  have hp4 : W4.heap[p]? = some (.cells #[.bool neg', .slice A' n' c'] 64 (0, 0)) := by rw [hW4, hp]; exact (MapKept.heap_alloc _ _).1
  have hq3 : w3.heap[q]? = some (.cells #[.bool neg, .slice A n c] 64 (0, 0)) := by rw [hb3.block q (heap_lt hq2)]; exact hq2
  have hb03 := hb02.trans (hb3.mono hb02.size)
  have hb04 := hb03.trans (hb4.mono hb03.size)
  obtain ⟨⟨u0, u1⟩, -⟩ := cells2 hq3
  have hlt3 : q < w3.heap.size := heap_lt hq3
  rcases hk1 with ⟨rfl, hc1, hd1, hB1⟩ | ⟨rfl, hc1⟩
  · rcases hk2 with ⟨rfl, hc2, hd2, hB2⟩ | ⟨rfl, hc2⟩
    · have hB14 := hB1.below (hb2.trans ((hb3.trans (hb4.mono hb3.size)).mono hb2.size))
      have hff := hf W4 neg neg' A A' n c n' c' d d' hb04 hB14 (hB2.below hb4) hd1 hd2
      have hR := Lib.hid (bothN_ok (f := f) hc1 hc2)
      replace hp := Lib.hid hp
      replace hp4 := Lib.hid hp4
      go_wp2_with fail
      rw [← hW4]
      refine hff.mono ?_
      rintro e w5 ⟨rfl, hb5⟩
      clear hff
      go_wp2_with fail
      go_ret2
      exact ⟨by rw [hR.out]; rfl, hb04.trans (hb5.mono hb04.size)⟩
    · have hR := Lib.hid (bothN_err2 (a := a.data.toList) (f := f) hc2)
      go_wp2_with fail
      rw [← hW4]
      go_ret2
      exact ⟨by rw [hR.out]; rfl, hb04⟩
  · have hR := Lib.hid (bothN_err1 (b := b.data.toList) (f := f) hc1)
    rcases hk2 with ⟨rfl, hc2, hd2, hB2⟩ | ⟨rfl, hc2⟩
    · go_wp2_with fail
      rw [← hW4]
      go_ret2
      exact ⟨by rw [hR.out]; rfl, hb04⟩
    · go_wp2_with fail
      rw [← hW4]
      go_ret2
      exact ⟨by rw [hR.out]; rfl, hb04⟩
end Go.Proofs.YtjndcehkgfbagaaGreatDoor

namespace Go.Proofs.YtjndcehkgfbagaaGreatDoor
open Go.RowKit NumP Go.Proofs.YtjndcehkgfbagaaGreatDoorW.PrintWords
set_option linter.unusedVariables false

theorem wBig {n k : Nat} (h : n < 1000000000 ^ k) (hk : k ≤ 400000) : (wordsN n).length ≤ 400000 := Nat.le_trans (words_len h) hk
theorem P50_12 {a b : Nat} (h : a < P50) (h2 : b < P50) : a * b < 1000000000 ^ 12 := Nat.lt_of_lt_of_le (Nat.mul_lt_mul'' h h2) (by decide)
theorem P20_12 {a : Nat} (h : a < P50) : a * P20 < 1000000000 ^ 12 := Nat.lt_of_lt_of_le (Nat.mul_lt_mul_of_pos_right h (by decide)) (by decide)
theorem cutN_le (w : NumP.Way) (neg : Bool) (a u : Nat) : cutN w neg a u ≤ a + 1 := by
  unfold cutN
  have h3 := Nat.div_le_self a u
  have h4 : (w.up neg (a / u) (a % u) u).toNat ≤ 1 := by cases w.up neg (a / u) (a % u) u <;> decide
  omega
theorem cutN_len {w : NumP.Way} {neg : Bool} {a u : Nat} (h : a < 1000000000 ^ 12) : (wordsN (cutN w neg a u)).length ≤ 400000 := by
  refine Nat.le_trans (words_len (k := 13) (Nat.lt_of_le_of_lt (cutN_le w neg a u) ?_)) (by decide)
  rw [Nat.pow_succ]; omega
theorem P20_small : Small P20 := by have : (wordsN P20).length ≤ 3 := words_len (by decide); unfold Small; omega
theorem P20_len : (wordsN P20).length ≤ 400000 := wBig (k := 3) (by decide) (by decide)
theorem pow20_b (W : World) : Calls Tryz.prog 56 #[.int .i64 20] W (BPost W (wordsN P20)) := pow10_b W 20 (by decide)
theorem over_post {w : World} {n m : Nat} {e : Ending} {w' : World} (h : ∃ q r, e = .returned (.tuple #[q, r]) ∧ BN w' q (n / m) ∧ BN w' r (n % m) ∧ Below w.heap.size w w') :
    ∃ A c A' c', e = .returned (.tuple #[.slice A (wordsN (n / m)).length c, .slice A' (wordsN (n % m)).length c']) ∧ BN w' (.slice A (wordsN (n / m)).length c) (n / m) ∧ BN w' (.slice A' (wordsN (n % m)).length c') (n % m) ∧ Below w.heap.size w w' := by
  obtain ⟨v, u, rfl, hB, hB', hb⟩ := h
  obtain ⟨A, c, rfl⟩ := BAt.form hB
  obtain ⟨A', c', rfl⟩ := BAt.form hB'
  exact ⟨A, c, A', c', rfl, hB, hB', hb⟩
set_option maxHeartbeats 1000000 in
set_option maxRecDepth 100000 in
theorem sub1_b (W : World) (xn yn : Bool) (Ax Ay : Option Addr) (nx cx ny cy dx dy : Nat) (hx : BN W (.slice Ax nx cx) dx) (hy : BN W (.slice Ay ny cy) dy) (hdx : dx < P50) (hdy : dy < P50) :
    Calls Tryz.prog 86 #[.agg #[.bool xn, .slice Ax nx cx], .agg #[.bool yn, .slice Ay ny cy]] W (StrPost W (outN (sumN ⟨xn, dx⟩ ⟨!yn, dy⟩))) := by
  obtain ⟨W2, hW2, hb2, -, -⟩ := box_two W xn (!yn) (.slice Ax nx cx) (.slice Ay ny cy)
  have hsum := sum_b W2 xn (!yn) Ax Ay nx cx ny cy dx dy (hx.below hb2) (hy.below hb2) (Nat.le_trans (w50 hdx) (by decide)) (Nat.le_trans (w50 hdy) (by decide))
  go_enter Tryz.func86, Tryz.ntmps86
  go_wp2_with fail
  rw [← hW2]
  refine hsum.mono ?_
  rintro e w3 ⟨rfl, hb3⟩
  clear hsum
  go_wp2_with fail
  go_ret2
  exact ⟨rfl, hb2.trans (hb3.mono hb2.size)⟩
set_option maxHeartbeats 1000000 in
set_option maxRecDepth 100000 in
theorem mul1_b (W : World) (xn yn : Bool) (Ax Ay : Option Addr) (nx cx ny cy dx dy : Nat) (hx : BN W (.slice Ax nx cx) dx) (hy : BN W (.slice Ay ny cy) dy) (hdx : dx < P50) (hdy : dy < P50) :
    Calls Tryz.prog 71 #[.agg #[.bool xn, .slice Ax nx cx], .agg #[.bool yn, .slice Ay ny cy]] W (StrPost W (outN (checkedN ⟨xn != yn, cutN .even (xn != yn) (dx * dy) P20⟩))) := by
  obtain ⟨W2, hW2, hb2, hq, hp⟩ := box_two W xn yn (.slice Ax nx cx) (.slice Ay ny cy)
  obtain ⟨q, hqe⟩ : ∃ q, q = W.heap.size := ⟨_, rfl⟩
  rw [← hqe] at hq hp
  have hlt : Hid (q < W2.heap.size ∧ q + 1 < W2.heap.size) := Lib.hid ⟨heap_lt hq, heap_lt hp⟩
  obtain ⟨b0, b1, d0, d1⟩ := cells_of hq hp
  have hX2 : Hid (BN W2 (.slice Ax nx cx) dx) := Lib.hid (hx.below hb2)
  have hY2 : Hid (BN W2 (.slice Ay ny cy) dy) := Lib.hid (hy.below hb2)
  have hlx : Hid ((wordsN dx).length ≤ 6) := Lib.hid (w50 hdx)
  have hly : Hid ((wordsN dy).length ≤ 6) := Lib.hid (w50 hdy)
  have hsx : Hid (Small dx) := Lib.hid (by have := hlx.out; unfold Small; omega)
  have hsy : Hid (Small dy) := Lib.hid (by have := hly.out; unfold Small; omega)
  have hbW : Hid (Below W.heap.size W W2) := Lib.hid hb2
  obtain ⟨U, hU⟩ : ∃ U, U = P20 := ⟨_, rfl⟩
  have hpw : Hid (∀ w, Calls Tryz.prog 56 #[.int .i64 20] w (BPost w (wordsN U))) := Lib.hid (fun w => by rw [hU]; exact pow20_b w)
  have hUl : Hid ((wordsN U).length ≤ 400000) := Lib.hid (by rw [hU]; exact P20_len)
  have hUs : Hid (Small U) := Lib.hid (by rw [hU]; exact P20_small)
  have hU0 : Hid (0 < U) := Lib.hid (by rw [hU]; decide)
  rw [← hU]
  obtain ⟨ng, hng⟩ : ∃ ng, ng = (xn != yn) := ⟨_, rfl⟩
  rw [← hng]
  have hln : (wordsN (dx * dy)).length ≤ 400000 := wBig (P50_12 hdx hdy) (by decide)
  obtain ⟨D, hD⟩ : ∃ D, D = cutN .even ng (dx * dy) U := ⟨_, rfl⟩
  have hlc : (wordsN D).length ≤ 400000 := by rw [hD]; exact cutN_len (P50_12 hdx hdy)
  have hcu : Hid (∀ w v u, BN w v (dx * dy) → BN w u U → Calls Tryz.prog 54 #[.bool ng, v, u, evenF] w (BPost w (wordsN D))) := Lib.hid (fun w v u h1 h2 => by rw [hD]; exact cut_even w ng v u _ _ h1 h2 hln hUl.out hU0.out)
  rw [← hD]
  have hti := (times_b W2 _ _ dx dy hX2.out hY2.out hsx.out hsy.out).mono (fun e w' h => BPost.sl h)
  clear hq hp hx hy hU hD
  replace hln := Lib.hid hln
  replace hlc := Lib.hid hlc
  go_enter Tryz.func71, Tryz.ntmps71
  go_wp2_with fail
  rw [← hW2, ← hqe]
  clear hW2
  replace hqe := Lib.hid hqe
  rw [show (!xn == yn) = ng from hng.symm]
  clear hng b0 b1 d0 d1
  refine hti.mono ?_
  rintro e w3 ⟨A3, c3, rfl, hv3, hb3⟩
  clear hti
  have hb03 := Lib.hid (hbW.out.trans (hb3.mono hbW.out.size))
  clear hb3
  go_wp2_with fail
  refine ((hpw.out _).mono (fun e w' h => BPost.sl h)).mono ?_
  rintro e w4 ⟨A4, c4, rfl, hv4, hb4⟩
  have hv34 := hv3.below hb4
  have hb04 := Lib.hid (hb03.out.trans (hb4.mono hb03.out.size))
  clear hb4 hv3 hb03
  go_wp2_with fail
  refine (ways_even _).mono ?_
  rintro e w5 ⟨rfl, rfl⟩
  go_wp2_with fail
  refine ((hcu.out _ _ _ hv34 hv4).mono (fun e w' h => BPost.sl h)).mono ?_
  rintro e w6 ⟨A6, c6, rfl, hv6, hb6⟩
  have hb06 := Lib.hid (hb04.out.trans (hb6.mono hb04.out.size))
  clear hb6 hv34 hv4 hb04
  go_wp2_with fail
  refine (done_b _ _ _ _ _ D hv6 hlc.out).mono ?_
  rintro e w7 ⟨rfl, hb7⟩
  have hb07 := Lib.hid (hb06.out.trans (hb7.mono hb06.out.size))
  clear hb7 hb06
  go_wp2_with fail
  go_ret2
  exact ⟨rfl, hb07.out⟩
set_option maxHeartbeats 1000000 in
set_option maxRecDepth 100000 in
theorem idiv1_b (W : World) (xn yn : Bool) (Ax Ay : Option Addr) (nx cx ny cy dx dy : Nat) (hx : BN W (.slice Ax nx cx) dx) (hy : BN W (.slice Ay ny cy) dy) (hdx : dx < P50) (hdy : dy < P50) (h0 : 0 < dy) :
    Calls Tryz.prog 76 #[.agg #[.bool xn, .slice Ax nx cx], .agg #[.bool yn, .slice Ay ny cy]] W (StrPost W (outN (checkedN ⟨xn != yn, dx / dy * P20⟩))) := by
  obtain ⟨W2, hW2, hb2, hq, hp⟩ := box_two W xn yn (.slice Ax nx cx) (.slice Ay ny cy)
  obtain ⟨q, hqe⟩ : ∃ q, q = W.heap.size := ⟨_, rfl⟩
  rw [← hqe] at hq hp
  have hlt : Hid (q < W2.heap.size ∧ q + 1 < W2.heap.size) := Lib.hid ⟨heap_lt hq, heap_lt hp⟩
  obtain ⟨b0, b1, d0, d1⟩ := cells_of hq hp
  have hX2 : Hid (BN W2 (.slice Ax nx cx) dx) := Lib.hid (hx.below hb2)
  have hY2 : Hid (BN W2 (.slice Ay ny cy) dy) := Lib.hid (hy.below hb2)
  have hlx : Hid ((wordsN dx).length ≤ 6) := Lib.hid (w50 hdx)
  have hly : Hid ((wordsN dy).length ≤ 6) := Lib.hid (w50 hdy)
  have hsx : Hid (Small dx) := Lib.hid (by have := hlx.out; unfold Small; omega)
  have hsy : Hid (Small dy) := Lib.hid (by have := hly.out; unfold Small; omega)
  have hbW : Hid (Below W.heap.size W W2) := Lib.hid hb2
  obtain ⟨ng, hng⟩ : ∃ ng, ng = (xn != yn) := ⟨_, rfl⟩
  rw [← hng]
  obtain ⟨U, hU⟩ : ∃ U, U = P20 := ⟨_, rfl⟩
  have hpw : Hid (∀ w, Calls Tryz.prog 56 #[.int .i64 20] w (BPost w (wordsN U))) := Lib.hid (fun w => by rw [hU]; exact pow20_b w)
  have hUl : Hid ((wordsN U).length ≤ 400000) := Lib.hid (by rw [hU]; exact P20_len)
  have hUs : Hid (Small U) := Lib.hid (by rw [hU]; exact P20_small)
  have hU0 : Hid (0 < U) := Lib.hid (by rw [hU]; decide)
  rw [← hU]
  have hov := (over_b W2 _ _ dx dy hX2.out hY2.out (Nat.le_trans hlx.out (by decide)) (Nat.le_trans hly.out (by decide)) h0).mono (fun e w' h => over_post h)
  obtain ⟨Q, hQ⟩ : ∃ Q, Q = dx / dy := ⟨_, rfl⟩
  obtain ⟨M, hM⟩ : ∃ M, M = dx % dy := ⟨_, rfl⟩
  rw [← hQ, ← hM] at hov
  rw [← hQ]
  have hQx : Q < P50 := by rw [hQ]; exact Nat.lt_of_le_of_lt (Nat.div_le_self _ _) hdx
  have hln : Hid ((wordsN (Q * U)).length ≤ 400000) := Lib.hid (by rw [hU]; exact wBig (P20_12 hQx) (by decide))
  have hsq : Hid (Small Q) := Lib.hid (by have := w50 hQx; unfold Small; omega)
  clear hq hp hx hy hU hQ hM
  go_enter Tryz.func76, Tryz.ntmps76
  go_wp2_with fail
  rw [← hW2, ← hqe]
  clear hW2
  replace hqe := Lib.hid hqe
  refine hov.mono ?_
  rintro e w3 ⟨A3, c3, A4, c4, rfl, hv3, hv4, hb3⟩
  clear hov
  have hlt3 : Hid (q < w3.heap.size ∧ q + 1 < w3.heap.size) := Lib.hid ⟨Nat.lt_of_lt_of_le hlt.out.1 hb3.size, Nat.lt_of_lt_of_le hlt.out.2 hb3.size⟩
  have hS4 := four_later hlt (And.intro b0 (And.intro b1 (And.intro d0 (And.intro d1 (Lib.hid (Below.refl _ _)))))) hb3
  obtain ⟨e0, e1, e2, e3, -⟩ := hS4
  have hb03 := Lib.hid (hbW.out.trans (hb3.mono hbW.out.size))
  clear hb3 b0 b1 d0 d1
  have hv3' := Lib.hid hv3
  have hS : Hid (w3.drew.cell? ⟨q, 0, none⟩ = some (.bool xn) ∧ w3.drew.cell? ⟨q, 1, none⟩ = some (.slice Ax nx cx) ∧ w3.drew.cell? ⟨q + 1, 0, none⟩ = some (.bool yn) ∧ w3.drew.cell? ⟨q + 1, 1, none⟩ = some (.slice Ay ny cy) ∧ Hid (Below w3.heap.size w3 w3.drew)) := Lib.hid ⟨e0, e1, e2, e3, Lib.hid (Below.refl _ _).drew⟩
  clear hv3 hv4 e0 e1 e2 e3
  go_wp2_with fail
  go_region_held3 (fun w' => w'.cell? ⟨q, 0, none⟩ = some (.bool xn) ∧ w'.cell? ⟨q, 1, none⟩ = some (.slice Ax nx cx) ∧ w'.cell? ⟨q + 1, 0, none⟩ = some (.bool yn) ∧ w'.cell? ⟨q + 1, 1, none⟩ = some (.slice Ay ny cy) ∧ Hid (Below w3.heap.size w3 w'))
    (first | exact hS.out | assumption | exact four_later hlt3 (by assumption) (by assumption))
    (first
      | (go_at_call 56; refine ((hpw.out _).mono (fun e w' h => BPost.sl h)).mono ?_; rintro e w' ⟨A6, c6, rfl, hv6, hbb⟩)
      | (go_at_call 55; refine ((times_b _ _ _ Q U (hv3'.out.below (four_out (by assumption))) (by assumption) hsq.out hUs.out).mono (fun e w' h => BPost.sl h)).mono ?_; rintro e w' ⟨A7, c7, rfl, hv7, hbb⟩)
      | (go_at_call 53; refine (done_b _ _ _ _ _ (Q * U) (by assumption) hln.out).mono ?_; rintro e w' ⟨rfl, hbb⟩))
  rename_i hH
  have hbb := Lib.hid hH.2.2.2.2.out
  go_wp2_with fail
  go_ret2
  exact ⟨by rw [hng]; rfl, hb03.out.trans (hbb.out.mono hb03.out.size)⟩
set_option maxHeartbeats 1000000 in
set_option maxRecDepth 100000 in
theorem mod1_b (W : World) (xn yn : Bool) (Ax Ay : Option Addr) (nx cx ny cy dx dy : Nat) (hx : BN W (.slice Ax nx cx) dx) (hy : BN W (.slice Ay ny cy) dy) (hdx : dx < P50) (hdy : dy < P50) (h0 : 0 < dy) :
    Calls Tryz.prog 78 #[.agg #[.bool xn, .slice Ax nx cx], .agg #[.bool yn, .slice Ay ny cy]] W (StrPost W (outN (checkedN ⟨xn, dx % dy⟩))) := by
  obtain ⟨W2, hW2, hb2, hq, hp⟩ := box_two W xn yn (.slice Ax nx cx) (.slice Ay ny cy)
  obtain ⟨q, hqe⟩ : ∃ q, q = W.heap.size := ⟨_, rfl⟩
  rw [← hqe] at hq hp
  have hlt : Hid (q < W2.heap.size ∧ q + 1 < W2.heap.size) := Lib.hid ⟨heap_lt hq, heap_lt hp⟩
  obtain ⟨b0, b1, d0, d1⟩ := cells_of hq hp
  have hX2 : Hid (BN W2 (.slice Ax nx cx) dx) := Lib.hid (hx.below hb2)
  have hY2 : Hid (BN W2 (.slice Ay ny cy) dy) := Lib.hid (hy.below hb2)
  have hlx : Hid ((wordsN dx).length ≤ 6) := Lib.hid (w50 hdx)
  have hly : Hid ((wordsN dy).length ≤ 6) := Lib.hid (w50 hdy)
  have hsx : Hid (Small dx) := Lib.hid (by have := hlx.out; unfold Small; omega)
  have hsy : Hid (Small dy) := Lib.hid (by have := hly.out; unfold Small; omega)
  have hbW : Hid (Below W.heap.size W W2) := Lib.hid hb2
  have hov := (over_b W2 _ _ dx dy hX2.out hY2.out (Nat.le_trans hlx.out (by decide)) (Nat.le_trans hly.out (by decide)) h0).mono (fun e w' h => over_post h)
  obtain ⟨Q, hQ⟩ : ∃ Q, Q = dx / dy := ⟨_, rfl⟩
  obtain ⟨M, hM⟩ : ∃ M, M = dx % dy := ⟨_, rfl⟩
  rw [← hQ, ← hM] at hov
  rw [← hM]
  have hMx : M < P50 := by rw [hM]; exact Nat.lt_trans (Nat.mod_lt _ h0) hdy
  have hlm : Hid ((wordsN M).length ≤ 400000) := Lib.hid (Nat.le_trans (w50 hMx) (by decide))
  clear hq hp hx hy hQ hM
  go_enter Tryz.func78, Tryz.ntmps78
  go_wp2_with fail
  rw [← hW2, ← hqe]
  clear hW2
  replace hqe := Lib.hid hqe
  refine hov.mono ?_
  rintro e w3 ⟨A3, c3, A4, c4, rfl, hv3, hv4, hb3⟩
  clear hov
  have hlt3 : Hid (q < w3.heap.size ∧ q + 1 < w3.heap.size) := Lib.hid ⟨Nat.lt_of_lt_of_le hlt.out.1 hb3.size, Nat.lt_of_lt_of_le hlt.out.2 hb3.size⟩
  have hS4 := four_later hlt (And.intro b0 (And.intro b1 (And.intro d0 (And.intro d1 (Lib.hid (Below.refl _ _)))))) hb3
  obtain ⟨e0, e1, e2, e3, -⟩ := hS4
  have hb03 := Lib.hid (hbW.out.trans (hb3.mono hbW.out.size))
  clear hb3 b0 b1 d0 d1
  have hdo := done_b w3 xn _ _ _ M hv4 hlm.out
  clear hv3 hv4
  go_wp2_with fail
  refine hdo.mono ?_
  rintro e w5 ⟨rfl, hb5⟩
  clear hdo
  go_wp2_with fail
  go_ret2
  exact ⟨rfl, hb03.out.trans (hb5.mono hb03.out.size)⟩
end Go.Proofs.YtjndcehkgfbagaaGreatDoor

namespace Go.Proofs.YtjndcehkgfbagaaGreatDoor
open Go.RowKit NumP Go.Proofs.YtjndcehkgfbagaaGreatDoorW.PrintWords
set_option linter.unusedVariables false

theorem len_zero (d : Nat) : (wordsN d).length = 0 ↔ d = 0 := by
  have := (wordsN_is d).zero
  rw [← this, List.length_eq_zero_iff]
set_option maxHeartbeats 1000000 in
set_option maxRecDepth 100000 in
theorem divided1_b (k : Nat) (hk : ∀ args w, Sem.run Tryz.prog (callFunc k args) w = .ok (.enter k args) w) (f : Num → Num → R) (p : Nat) (W : World) (xn yn : Bool) (Ax Ay : Option Addr) (nx cx ny cy dx dy : Nat)
    (hpc : W.cell? ⟨p, 0, none⟩ = some (.func (.func k) #[] #[])) (hpl : p < W.heap.size) (hx : BN W (.slice Ax nx cx) dx) (hy : BN W (.slice Ay ny cy) dy) (hdx : dx < P50) (hdy : dy < P50)
    (hf : ∀ (w : World), BN w (.slice Ax nx cx) dx → BN w (.slice Ay ny cy) dy → 0 < dy → Calls Tryz.prog k #[.agg #[.bool xn, .slice Ax nx cx], .agg #[.bool yn, .slice Ay ny cy]] w (StrPost w (outN (f ⟨xn, dx⟩ ⟨yn, dy⟩)))) :
    Calls Tryz.prog 95 #[.agg #[.bool xn, .slice Ax nx cx], .agg #[.bool yn, .slice Ay ny cy], .pointer (some ⟨p, 0, none⟩)] W (StrPost W (outN (divN f ⟨xn, dx⟩ ⟨yn, dy⟩))) := by
  have hny : ny = (wordsN dy).length := by
    obtain ⟨A', c', e⟩ := BAt.form hy
    injection e
  obtain ⟨W2, hW2, hb2, hq, hp⟩ := box_two W xn yn (.slice Ax nx cx) (.slice Ay ny cy)
  have hz := len_zero dy
  rw [← hny] at hz
  have hc2 := (hb2.cell (p := ⟨p, 0, none⟩) hpl).trans hpc
  have hff := hf W2 (hx.below hb2) (hy.below hb2)
  replace hny := Lib.hid hny
  by_cases h0 : ny = 0
  · have hd := hz.1 h0
    have hR : Hid (divN f ⟨xn, dx⟩ ⟨yn, dy⟩ = .error 41) := Lib.hid (by unfold divN; rw [if_pos hd])
    subst h0
    clear hz hd hff hf
    go_enter Tryz.func95, Tryz.ntmps95
    go_wp2_with fail
    rw [← hW2]
    go_ret2
    exact ⟨by rw [hR.out]; rfl, hb2⟩
  · have hR : Hid (divN f ⟨xn, dx⟩ ⟨yn, dy⟩ = f ⟨xn, dx⟩ ⟨yn, dy⟩) := Lib.hid (by unfold divN; rw [if_neg (fun e => h0 (hz.2 e))])
    have hff := hff (by omega)
    have h0' : ((ny : Int) == 0) = false := by simp; omega
    go_enter Tryz.func95, Tryz.ntmps95
    go_wp2_with fail
    rw [← hW2]
    refine hff.mono ?_
    rintro e w3 ⟨rfl, hb3⟩
    clear hff
    go_wp2_with fail
    go_ret2
    exact ⟨by rw [hR.out]; rfl, hb2.trans (hb3.mono hb2.size)⟩
set_option maxHeartbeats 1000000 in
set_option maxRecDepth 100000 in
theorem divided_b (k : Nat) (hk : ∀ args w, Sem.run Tryz.prog (callFunc k args) w = .ok (.enter k args) w) (f : Num → Num → R) (a b : ByteArray) (W : World) (hL : LaidW W) (ha : a.size ≤ maxLen) (hb : b.size ≤ maxLen)
    (hf : ∀ (w : World) (xn yn : Bool) (Ax Ay : Option Addr) (nx cx ny cy dx dy : Nat), BN w (.slice Ax nx cx) dx → BN w (.slice Ay ny cy) dy → dx < P50 → dy < P50 → 0 < dy →
      Calls Tryz.prog k #[.agg #[.bool xn, .slice Ax nx cx], .agg #[.bool yn, .slice Ay ny cy]] w (StrPost w (outN (f ⟨xn, dx⟩ ⟨yn, dy⟩)))) :
    Calls Tryz.prog 51 #[.string a, .string b, .func (.func k) #[] #[]] W (StrPost W (outN (bothN a.data.toList b.data.toList (divN f)))) := by
  obtain ⟨W1, hW1⟩ : ∃ W1, W1 = W.alloc (.cells #[.func (.func k) #[] #[]] 76) := ⟨_, rfl⟩
  have hb1 : Below W.heap.size W W1 := by rw [hW1]; exact (Below.refl _ _).alloc (Nat.le_refl _) _
  have hc1 : W1.heap[W.heap.size]? = some (.cells #[.func (.func k) #[] #[]] 76 (0, 0)) := by rw [hW1]; exact (MapKept.heap_alloc _ _).1
  have hl1 := heap_lt hc1
  have hcc : W1.cell? ⟨W.heap.size, 0, none⟩ = some (.func (.func k) #[] #[]) := by rw [Lib.cell_of_heap hc1]; rfl
  have hbo := both_b 95 #[.pointer (some ⟨W.heap.size, 0, none⟩)] (fun args w => by kernel_rfl) (divN f) a b W1 (hL.below hb1 hL.size) ha hb
    (fun w xn yn Ax Ay nx cx ny cy dx dy hbw hx hy hdx hdy => divided1_b k hk f W.heap.size w xn yn Ax Ay nx cx ny cy dx dy ((hbw.cell (p := ⟨W.heap.size, 0, none⟩) hl1).trans hcc) (Nat.lt_of_lt_of_le hl1 hbw.size) hx hy hdx hdy (fun w' h1 h2 h3 => hf w' xn yn Ax Ay nx cx ny cy dx dy h1 h2 hdx hdy h3))
  clear hc1 hl1 hcc hf hk
  go_enter Tryz.func51, Tryz.ntmps51
  go_wp2_with fail
  rw [← hW1]
  refine hbo.mono ?_
  rintro e w3 ⟨rfl, hb3⟩
  clear hbo
  go_wp2_with fail
  go_ret2
  exact ⟨rfl, hb1.trans (hb3.mono hb1.size)⟩
set_option maxHeartbeats 1000000 in
set_option maxRecDepth 100000 in
theorem add_b (a b : ByteArray) (W : World) (hL : LaidW W) (ha : a.size ≤ maxLen) (hb : b.size ≤ maxLen) : Calls Tryz.prog 39 #[.string a, .string b] W (StrPost W (addT a.data.toList b.data.toList)) := by
  have hbo := both_b 72 #[] (fun args w => by kernel_rfl) sumN a b W hL ha hb
    (fun w xn yn Ax Ay nx cx ny cy dx dy _ hx hy hdx hdy => by rw [Array.append_empty]; exact sum_b w xn yn Ax Ay nx cx ny cy dx dy hx hy (Nat.le_trans (w50 hdx) (by decide)) (Nat.le_trans (w50 hdy) (by decide)))
  go_enter Tryz.func39, Tryz.ntmps39
  go_wp2_with fail
  refine hbo.mono ?_
  rintro e w3 ⟨rfl, hb3⟩
  clear hbo
  go_wp2_with fail
  go_ret2
  exact ⟨rfl, hb3⟩
set_option maxHeartbeats 1000000 in
set_option maxRecDepth 100000 in
theorem subt_b (a b : ByteArray) (W : World) (hL : LaidW W) (ha : a.size ≤ maxLen) (hb : b.size ≤ maxLen) : Calls Tryz.prog 48 #[.string a, .string b] W (StrPost W (subT a.data.toList b.data.toList)) := by
  have hbo := both_b 86 #[] (fun args w => by kernel_rfl) (fun x y => sumN x ⟨!y.neg, y.d⟩) a b W hL ha hb
    (fun w xn yn Ax Ay nx cx ny cy dx dy _ hx hy hdx hdy => by rw [Array.append_empty]; exact sub1_b w xn yn Ax Ay nx cx ny cy dx dy hx hy hdx hdy)
  go_enter Tryz.func48, Tryz.ntmps48
  go_wp2_with fail
  refine hbo.mono ?_
  rintro e w3 ⟨rfl, hb3⟩
  clear hbo
  go_wp2_with fail
  go_ret2
  exact ⟨rfl, hb3⟩
set_option maxHeartbeats 1000000 in
set_option maxRecDepth 100000 in
theorem mul_b (a b : ByteArray) (W : World) (hL : LaidW W) (ha : a.size ≤ maxLen) (hb : b.size ≤ maxLen) : Calls Tryz.prog 38 #[.string a, .string b] W (StrPost W (mulT a.data.toList b.data.toList)) := by
  have hbo := both_b 71 #[] (fun args w => by kernel_rfl) (fun x y => checkedN ⟨x.neg != y.neg, cutN .even (x.neg != y.neg) (x.d * y.d) P20⟩) a b W hL ha hb
    (fun w xn yn Ax Ay nx cx ny cy dx dy _ hx hy hdx hdy => by rw [Array.append_empty]; exact mul1_b w xn yn Ax Ay nx cx ny cy dx dy hx hy hdx hdy)
  go_enter Tryz.func38, Tryz.ntmps38
  go_wp2_with fail
  refine hbo.mono ?_
  rintro e w3 ⟨rfl, hb3⟩
  clear hbo
  go_wp2_with fail
  go_ret2
  exact ⟨rfl, hb3⟩
set_option maxHeartbeats 1000000 in
set_option maxRecDepth 100000 in
theorem idiv_b (a b : ByteArray) (W : World) (hL : LaidW W) (ha : a.size ≤ maxLen) (hb : b.size ≤ maxLen) : Calls Tryz.prog 43 #[.string a, .string b] W (StrPost W (idivT a.data.toList b.data.toList)) := by
  have hbo := divided_b 76 (fun args w => by kernel_rfl) (fun x y => checkedN ⟨x.neg != y.neg, x.d / y.d * P20⟩) a b W hL ha hb
    (fun w xn yn Ax Ay nx cx ny cy dx dy hx hy hdx hdy h0 => idiv1_b w xn yn Ax Ay nx cx ny cy dx dy hx hy hdx hdy h0)
  go_enter Tryz.func43, Tryz.ntmps43
  go_wp2_with fail
  refine hbo.mono ?_
  rintro e w3 ⟨rfl, hb3⟩
  clear hbo
  go_wp2_with fail
  go_ret2
  exact ⟨rfl, hb3⟩
set_option maxHeartbeats 1000000 in
set_option maxRecDepth 100000 in
theorem mod_b (a b : ByteArray) (W : World) (hL : LaidW W) (ha : a.size ≤ maxLen) (hb : b.size ≤ maxLen) : Calls Tryz.prog 44 #[.string a, .string b] W (StrPost W (modT a.data.toList b.data.toList)) := by
  have hbo := divided_b 78 (fun args w => by kernel_rfl) (fun x y => checkedN ⟨x.neg, x.d % y.d⟩) a b W hL ha hb
    (fun w xn yn Ax Ay nx cx ny cy dx dy hx hy hdx hdy h0 => mod1_b w xn yn Ax Ay nx cx ny cy dx dy hx hy hdx hdy h0)
  go_enter Tryz.func44, Tryz.ntmps44
  go_wp2_with fail
  refine hbo.mono ?_
  rintro e w3 ⟨rfl, hb3⟩
  clear hbo
  go_wp2_with fail
  go_ret2
  exact ⟨rfl, hb3⟩
set_option maxHeartbeats 1000000 in
set_option maxRecDepth 100000 in
theorem neg_b (a : ByteArray) (W : World) (hL : LaidW W) (ha : a.size ≤ maxLen) : Calls Tryz.prog 23 #[.string a] W (StrPost W (negT a.data.toList)) := by
  have hbo := subt_b ⟨#[48]⟩ a W hL (by decide) ha
  go_enter Tryz.func23, Tryz.ntmps23
  go_wp2_with fail
  refine hbo.mono ?_
  rintro e w3 ⟨rfl, hb3⟩
  clear hbo
  go_wp2_with fail
  go_ret2
  exact ⟨rfl, hb3⟩
set_option maxHeartbeats 1000000 in
set_option maxRecDepth 100000 in
theorem Parse_b (s : ByteArray) (W : World) (hL : LaidW W) (hs : s.size ≤ maxLen) : Calls Tryz.prog 25 #[.string s] W (StrPost W (parseT s.data.toList)) := by
  have hpa := parse_b s W hL hs
  go_enter Tryz.func25, Tryz.ntmps25
  go_wp2_with fail
  refine hpa.mono ?_
  intro e w2 hnp
  clear hpa
  obtain ⟨hb2, hres⟩ := hnp
  cases hpr : parseN s.data.toList with
  | error k =>
    rw [hpr] at hres
    have hres : e = .returned (.tuple #[.agg #[.bool false, .slice none 0 0], .int .i64 k]) := hres
    have hk := parseN_err hpr
    subst hres
    have hk0 : (k == 0) = false := by simp; omega
    have hR : Hid (parseT s.data.toList = ([], k)) := Lib.hid (by unfold parseT; rw [hpr]; rfl)
    replace hpr := Lib.hid hpr
    go_wp2_with fail
    go_ret2
    exact ⟨by rw [hR.out]; rfl, hb2.alloc hb2.size _⟩
  | ok x =>
    rw [hpr] at hres
    obtain ⟨A9, n9, c9, rfl, hB9, hn9⟩ := hres
    have hx50 := w50 (parseN_lt hpr)
    have hR : Hid (parseT s.data.toList = (textN x, 0)) := Lib.hid (by unfold parseT; rw [hpr]; rfl)
    obtain ⟨xn, xd⟩ := x
    simp only at hx50 hB9 hn9
    obtain ⟨W3, hW3⟩ : ∃ W3, W3 = w2.alloc (.cells #[.bool xn, .slice A9 n9 c9] 64) := ⟨_, rfl⟩
    have hb3 : Below w2.heap.size w2 W3 := by rw [hW3]; exact (Below.refl _ _).alloc (Nat.le_refl _) _
    have htx := text_b W3 xn A9 n9 c9 xd (hB9.below hb3) (by omega)
    have hb03 := hb2.trans (hb3.mono hb2.size)
    replace hpr := Lib.hid hpr
    replace hn9 := Lib.hid hn9
    replace hB9 := Lib.hid hB9
    go_wp2_with fail
    rw [← hW3]
    refine htx.mono ?_
    rintro e w4 ⟨rfl, hb4⟩
    clear htx
    go_wp2_with fail
    go_ret2
    exact ⟨by rw [hR.out]; rfl, hb03.trans (hb4.mono hb03.size)⟩
end Go.Proofs.YtjndcehkgfbagaaGreatDoor

namespace Go.Proofs.YtjndcehkgfbagaaGreatDoor.NumP
set_option linter.unusedVariables false

theorem valD_app (a b : List UInt8) : valD (a ++ b) = valD a * 10 ^ b.length + valD b := by
  unfold valD; rw [valF_app]; exact valF_eq ..
theorem valD_one (c : UInt8) : valD [c] = c.toNat - 48 := by simp [valD, valF]
theorem valD_nil : valD [] = 0 := rfl
theorem dig_nat (n : Nat) (h : n < 10) : (UInt8.ofNat (48 + n)).toNat = 48 + n := by
  rw [UInt8.toNat_ofNat']; omega
theorem valD_zeros : ∀ k, valD (List.replicate k 48) = 0
  | 0 => rfl
  | k + 1 => by rw [List.replicate_succ', valD_app, valD_zeros k, valD_one]; decide
theorem dig_ne {c : UInt8} (h : isDig c = true) {k : UInt8} (hk : isDig k = false) : c ≠ k := fun e => by rw [e, hk] at h; cases h
theorem before_app (c : UInt8) : ∀ (a b : List UInt8), (∀ x ∈ a, x ≠ c) → before c (a ++ b) = a ++ before c b
  | [], b, _ => rfl
  | x :: a, b, h => by
    have h1 : (x != c) = true := by rw [bne_iff_ne]; exact h x (List.mem_cons_self ..)
    have h2 := before_app c a b fun y hy => h y (List.mem_cons_of_mem _ hy)
    unfold before at h2 ⊢
    rw [List.cons_append, List.takeWhile_cons, if_pos h1, h2]; rfl
theorem behind_app (c : UInt8) : ∀ (a b : List UInt8), (∀ x ∈ a, x ≠ c) → behind c (a ++ b) = behind c b
  | [], b, _ => rfl
  | x :: a, b, h => by
    have h1 : (x != c) = true := by rw [bne_iff_ne]; exact h x (List.mem_cons_self ..)
    have h2 := behind_app c a b fun y hy => h y (List.mem_cons_of_mem _ hy)
    unfold behind at h2 ⊢
    rw [List.cons_append, List.dropWhile_cons, if_pos h1, h2]
theorem lenD_50 {d : Nat} (h : d < P50) : lenD d ≤ 50 := (lenD_le d 50).2 h
end Go.Proofs.YtjndcehkgfbagaaGreatDoor.NumP
