/- Package time: read (printed by genread.py). -/
import Derived.Test.YtgobpoeccdgeiaaGreatDoorOc

namespace Go.Proofs.YtgobpoeccdgeiaaGreatDoor
open Go.RowKit NumP DurP TimeP Go.Proofs.YtgobpoeccdgeiaaGreatDoorW.PrintWords
set_option linter.unusedVariables false

theorem secR_len {l r t : List UInt8} (h : secR l = some (t, r)) : t.length ≤ 60 := by
  unfold secR at h
  cases hn : numR 2 0 l with
  | none => rw [hn] at h; cases h
  | some nl =>
    obtain ⟨n, l1⟩ := nl
    rw [hn] at h
    simp only at h
    split at h
    · split at h
      · cases h
      · injection h with h; injection h with h1 h2
        rw [← h1]; exact parseT_len _
    · injection h with h; injection h with h1 h2
      rw [← h1]; exact parseT_len _
theorem secR_le {l r t : List UInt8} (h : secR l = some (t, r)) : r.length ≤ l.length := by
  unfold secR at h
  cases hn : numR 2 0 l with
  | none => rw [hn] at h; cases h
  | some nl =>
    obtain ⟨n, l1⟩ := nl
    have hl := (numR_lt _ _ _ _ _ hn).2
    rw [hn] at h
    simp only at h
    split at h
    · split at h
      · cases h
      · injection h with h; injection h with h1 h2
        rw [← h2, List.length_drop, List.length_drop]; omega
    · injection h with h; injection h with h1 h2
      rw [← h2]; exact hl
/-- What is known at the end of read: the moment, the result's block, what lies below. -/
structure EndAt (W : World) (m q : Nat) (w : World) (y mo d h mi : Int) (s : ByteArray) (z : Int) (has : Bool) : Prop where
  hm : MoAt w m y mo d h mi s z has
  hq : w.heap[q]? = some (.cells #[.int .i64 0, .int .i64 0, .int .i64 0, .int .i64 0, .int .i64 0, .string ⟨#[]⟩, .int .i64 0, .bool false] 24 (0, 0))
  hb : Below W.heap.size W w
theorem EndAt.later {W : World} {m q : Nat} {w w' : World} {y mo d h mi : Int} {s : ByteArray} {z : Int} {has : Bool} (t : EndAt W m q w y mo d h mi s z has) (hb : Below w.heap.size w w') : EndAt W m q w' y mo d h mi s z has :=
  ⟨(hb.block m (heap_lt t.hm)).trans t.hm, (hb.block q (heap_lt t.hq)).trans t.hq, t.hb.trans (hb.mono t.hb.size)⟩
theorem EndAt.mom {W : World} {m q : Nat} {w : World} {y mo d h mi : Int} {s : ByteArray} {z : Int} {has : Bool} (t : EndAt W m q w y mo d h mi s z has) : MomAt w m y mo d h mi s z has := MomAt.of_heap t.hm
set_option maxRecDepth 100000 in
set_option maxHeartbeats 4000000 in
theorem read_6 (s : ByteArray) (W : World) (hL : LaidT W) (hs : s.size ≤ 1000) (h8 : 8 ≤ W.heap.size) : Calls Tryz.prog 37 #[.int .i64 6, .string s] W (ReadPost W (readP 6 s.data.toList)) := by
  obtain ⟨q, hq⟩ : ∃ q, q = W.heap.size := ⟨_, rfl⟩
  obtain ⟨r, hrq⟩ : ∃ r, r = q + 1 := ⟨_, rfl⟩
  obtain ⟨m, hmq⟩ : ∃ m, m = q + 1 + 1 := ⟨_, rfl⟩
  have hrm : r < m := by omega
  have hqr : W.heap.size ≤ r := by omega
  have hr8 : 8 ≤ r := by omega
  obtain ⟨O, hO⟩ : ∃ O, O = readP 6 s.data.toList := ⟨_, rfl⟩
  rw [← hO]
  obtain ⟨Wa, hWa⟩ : ∃ w, w = W.alloc (.cells #[.int .i64 0, .int .i64 0, .int .i64 0, .int .i64 0, .int .i64 0, .string ⟨#[]⟩, .int .i64 0, .bool false] 24) := ⟨_, rfl⟩
  obtain ⟨Wb, hWb⟩ : ∃ w, w = Wa.alloc (.cells #[.string s] 102) := ⟨_, rfl⟩
  obtain ⟨W1, hW1⟩ : ∃ w, w = Wb.alloc (.cells #[.int .i64 1972, .int .i64 12, .int .i64 31, .int .i64 0, .int .i64 0, .string ⟨#[48]⟩, .int .i64 0, .bool false] 24) := ⟨_, rfl⟩
  have hsa : Wa.heap.size = q + 1 := by rw [hWa, hq]; simp
  have hsb : Wb.heap.size = q + 1 + 1 := by rw [hWb, World.size_alloc, hsa]
  have hB1 : Below W.heap.size W W1 := by rw [hW1, hWb, hWa]; exact (((Below.refl _ _).alloc (Nat.le_refl _) _).alloc (by simp) _).alloc (by simp; omega) _
  have hq1 : W1.heap[q]? = some (.cells #[.int .i64 0, .int .i64 0, .int .i64 0, .int .i64 0, .int .i64 0, .string ⟨#[]⟩, .int .i64 0, .bool false] 24 (0, 0)) := by
    rw [hW1, (MapKept.heap_alloc _ _).2 q (by omega), hWb, (MapKept.heap_alloc _ _).2 q (by omega), hWa, hq]
    exact (MapKept.heap_alloc _ _).1
  have hr1 : RdAt W1 r s := by
    unfold RdAt
    rw [hW1, (MapKept.heap_alloc _ _).2 r (by omega), hWb, hrq, ← hsa]
    exact (MapKept.heap_alloc _ _).1
  have hm1 : MoAt W1 m (1972 : Int) (12 : Int) (31 : Int) (0 : Int) (0 : Int) ⟨#[48]⟩ (0 : Int) false := by
    unfold MoAt
    rw [hW1, hmq, ← hsb]
    exact (MapKept.heap_alloc _ _).1
  have hLend : Hid (∀ w, Below W.heap.size W w → LaidT w) := Lib.hid (fun w hw => hL.below hw hL.size)
  have hLw : Hid (∀ w, Below r W1 w → LaidT w) := Lib.hid (fun w hw => hL.below (hB1.trans (hw.mono hqr)) h8)
  obtain ⟨w0, hw0⟩ : ∃ w, w = W1 := ⟨_, rfl⟩
  have hrw0 : Hid (RdAt w0 r s) := Lib.hid (by rw [hw0]; exact hr1)
  have hmw0 : Hid (MoAt w0 m (1972 : Int) (12 : Int) (31 : Int) (0 : Int) (0 : Int) ⟨#[48]⟩ (0 : Int) false) := Lib.hid (by rw [hw0]; exact hm1)
  have hstw0 : Hid (Stp2 r m W1 w0) := Lib.hid (by rw [hw0]; exact Stp2.refl _ _ _)
  obtain ⟨R0, hR0⟩ : ∃ b, b = s := ⟨_, rfl⟩
  obtain ⟨l0, hl0⟩ : ∃ l, l = s.data.toList := ⟨_, rfl⟩
  have hdR0 : R0.data.toList = l0 := by rw [hR0, hl0]
  have hs0 : R0.size ≤ 1000 := by rw [hR0]; exact hs
  rw [← hR0] at hrw0
  rw [← hl0] at hO
  have hmr : Hid (m ≠ r) := Lib.hid (by omega)
  rw [← hw0] at hW1
  unfold readP partsR dateR clockR at hO
  simp only [ne_eq, show ((6 : Int) = 7) = False from eq_false (by decide), show ((6 : Int) = 8) = False from eq_false (by decide), not_true_eq_false, not_false_eq_true, if_true, if_false] at hO
  replace hq1 := Lib.hid hq1
  replace hB1 := Lib.hid hB1
  replace hqr := Lib.hid hqr
  replace hrm := Lib.hid hrm
  replace hr8 := Lib.hid hr8
  subst hWb
  subst hWa
  clear hsa hsb hr1 hm1 hw0 hR0 hl0 hs hL
  go_enter Tryz.func37, Tryz.ntmps37
  have hd : Calls Tryz.prog 78 #[.pointer (some ⟨r, 0, none⟩), .int .i64 4] w0 (DigPost r w0 (numR 4 0 l0)) := by
    have := digits_t r 4 R0 w0 hrw0.out (by unfold maxLen; omega) (by decide)
    rw [hdR0] at this
    exact this
  replace hO := Lib.hid hO
  go_wp2_with fail
  rw [← hW1, ← hq, ← hmq, ← hrq]
  clear hW1
  replace hq := Lib.hid hq
  replace hmq := Lib.hid hmq
  replace hrq := Lib.hid hrq
  refine hd.mono ?_
  rintro e u1 ⟨hst, hp⟩
  clear hd
  replace hO := hO.out
  have hstu1 := Lib.hid (hstw0.out.trans hst.two)
  have hmu1 := Lib.hid (hmw0.out.step hst hmr.out)
  clear hst
  cases hn : numR 4 0 l0 with
  | none =>
    rw [hn] at hp hO
    simp only at hO
    have hp : e = .panicked [wrongE] := hp
    subst hp hO
    clear hn
    go_wp2_with fail
    exact ⟨rfl, hB1.out.trans (hstu1.out.below.mono hqr.out), rfl⟩
  | some vl =>
    obtain ⟨y, l1⟩ := vl
    rw [hn] at hp hO
    simp only at hO
    obtain ⟨rfl, hru1⟩ := hp
    have hl := (numR_lt _ _ _ _ _ hn).2
    obtain ⟨R1, hR⟩ : ∃ b : ByteArray, b = ⟨l1.toArray⟩ := ⟨_, rfl⟩
    have hdR1 : R1.data.toList = l1 := by rw [hR]
    have hs1 : R1.size ≤ 1000 := by rw [← list_len, hdR1]; rw [← hdR0, list_len] at hl; omega
    rw [← hR] at hru1
    replace hru1 := Lib.hid hru1
    have hby : y < 10 ^ 4 := by have := (numR_lt _ _ _ _ _ hn).1; simpa using this
    clear hR hl hn
    obtain ⟨w1, hw1⟩ : ∃ w, w = u1.setCell ⟨m, 0, none⟩ (.int .i64 (y : Int)) := ⟨_, rfl⟩
    have hstw1 : Hid (Stp2 r m W1 w1) := Lib.hid (by rw [hw1]; exact hstu1.out.set hrm.out 0 _)
    have hmw1 : Hid (MoAt w1 m (y : Int) (12 : Int) (31 : Int) (0 : Int) (0 : Int) ⟨#[48]⟩ (0 : Int) false) := Lib.hid (by rw [hw1]; exact Lib.heap_setCell_same (i := 0) hmu1.out (.int .i64 (y : Int)))
    have hrw1 : Hid (RdAt w1 r R1) := Lib.hid (by rw [hw1]; exact (Below.heap_setCell _ _ _ _ (Nat.ne_of_lt hrm.out)).trans hru1.out)
    obtain ⟨c0, c1, c2, c3, c4, c5, c6, c7⟩ := MomAt.of_heap hmu1.out
    have ff := Lib.frozen_of_heap hmu1.out 0
    replace hw1 := Lib.hid hw1
    have hd : Calls Tryz.prog 79 #[.pointer (some ⟨r, 0, none⟩), .string ⟨#[45]⟩] w1 (SignPost r w1 (oneR [45] l1)) := by
      have := sign_t r R1 ⟨#[45]⟩ w1 hrw1.out (by unfold maxLen; omega) (by decide)
      rw [hdR1] at this
      exact this
    replace hO := Lib.hid hO
    go_wp2_with fail
    rw [← hw1.out]
    clear hw1 c0 c1 c2 c3 c4 c5 c6 c7 ff
    refine hd.mono ?_
    rintro e u2 ⟨hst, hp⟩
    clear hd
    replace hO := hO.out
    have hstu2 := Lib.hid (hstw1.out.trans hst.two)
    have hmu2 := Lib.hid (hmw1.out.step hst hmr.out)
    clear hst
    cases hn : oneR [45] l1 with
    | none =>
      rw [hn] at hp hO
      simp only at hO
      have hp : e = .panicked [wrongE] := hp
      subst hp hO
      clear hn
      go_wp2_with fail
      exact ⟨rfl, hB1.out.trans (hstu2.out.below.mono hqr.out), rfl⟩
    | some vl =>
      obtain ⟨v2, l2⟩ := vl
      rw [hn] at hp hO
      simp only at hO
      obtain ⟨rfl, hru2⟩ := hp
      have hl := oneR_le hn
      obtain ⟨R2, hR⟩ : ∃ b : ByteArray, b = ⟨l2.toArray⟩ := ⟨_, rfl⟩
      have hdR2 : R2.data.toList = l2 := by rw [hR]
      have hs2 : R2.size ≤ 1000 := by rw [← list_len, hdR2]; rw [← hdR1, list_len] at hl; omega
      rw [← hR] at hru2
      replace hru2 := Lib.hid hru2
      clear hR hl hn
      have hstw2 := hstu2
      have hmw2 := hmu2
      have hrw2 := hru2
      obtain ⟨w2, hw⟩ : ∃ w, w = u2 := ⟨_, rfl⟩
      rw [← hw] at hstw2 hmw2 hrw2 ⊢
      clear hw hstu2 hmu2 hru2
      have hd : Calls Tryz.prog 78 #[.pointer (some ⟨r, 0, none⟩), .int .i64 2] w2 (DigPost r w2 (numR 2 0 l2)) := by
        have := digits_t r 2 R2 w2 hrw2.out (by unfold maxLen; omega) (by decide)
        rw [hdR2] at this
        exact this
      replace hO := Lib.hid hO
      go_wp2_with fail
      refine hd.mono ?_
      rintro e u3 ⟨hst, hp⟩
      clear hd
      replace hO := hO.out
      have hstu3 := Lib.hid (hstw2.out.trans hst.two)
      have hmu3 := Lib.hid (hmw2.out.step hst hmr.out)
      clear hst
      cases hn : numR 2 0 l2 with
      | none =>
        rw [hn] at hp hO
        simp only at hO
        have hp : e = .panicked [wrongE] := hp
        subst hp hO
        clear hn
        go_wp2_with fail
        exact ⟨rfl, hB1.out.trans (hstu3.out.below.mono hqr.out), rfl⟩
      | some vl =>
        obtain ⟨mo, l3⟩ := vl
        rw [hn] at hp hO
        simp only at hO
        obtain ⟨rfl, hru3⟩ := hp
        have hl := (numR_lt _ _ _ _ _ hn).2
        obtain ⟨R3, hR⟩ : ∃ b : ByteArray, b = ⟨l3.toArray⟩ := ⟨_, rfl⟩
        have hdR3 : R3.data.toList = l3 := by rw [hR]
        have hs3 : R3.size ≤ 1000 := by rw [← list_len, hdR3]; rw [← hdR2, list_len] at hl; omega
        rw [← hR] at hru3
        replace hru3 := Lib.hid hru3
        have hbmo : mo < 10 ^ 2 := by have := (numR_lt _ _ _ _ _ hn).1; simpa using this
        clear hR hl hn
        obtain ⟨w3, hw3⟩ : ∃ w, w = u3.setCell ⟨m, 1, none⟩ (.int .i64 (mo : Int)) := ⟨_, rfl⟩
        have hstw3 : Hid (Stp2 r m W1 w3) := Lib.hid (by rw [hw3]; exact hstu3.out.set hrm.out 1 _)
        have hmw3 : Hid (MoAt w3 m (y : Int) (mo : Int) (31 : Int) (0 : Int) (0 : Int) ⟨#[48]⟩ (0 : Int) false) := Lib.hid (by rw [hw3]; exact Lib.heap_setCell_same (i := 1) hmu3.out (.int .i64 (mo : Int)))
        have hrw3 : Hid (RdAt w3 r R3) := Lib.hid (by rw [hw3]; exact (Below.heap_setCell _ _ _ _ (Nat.ne_of_lt hrm.out)).trans hru3.out)
        obtain ⟨c0, c1, c2, c3, c4, c5, c6, c7⟩ := MomAt.of_heap hmu3.out
        have ff := Lib.frozen_of_heap hmu3.out 1
        replace hw3 := Lib.hid hw3
        have hd : Calls Tryz.prog 79 #[.pointer (some ⟨r, 0, none⟩), .string ⟨#[45]⟩] w3 (SignPost r w3 (oneR [45] l3)) := by
          have := sign_t r R3 ⟨#[45]⟩ w3 hrw3.out (by unfold maxLen; omega) (by decide)
          rw [hdR3] at this
          exact this
        replace hO := Lib.hid hO
        go_wp2_with fail
        rw [← hw3.out]
        clear hw3 c0 c1 c2 c3 c4 c5 c6 c7 ff
        refine hd.mono ?_
        rintro e u4 ⟨hst, hp⟩
        clear hd
        replace hO := hO.out
        have hstu4 := Lib.hid (hstw3.out.trans hst.two)
        have hmu4 := Lib.hid (hmw3.out.step hst hmr.out)
        clear hst
        cases hn : oneR [45] l3 with
        | none =>
          rw [hn] at hp hO
          simp only at hO
          have hp : e = .panicked [wrongE] := hp
          subst hp hO
          clear hn
          go_wp2_with fail
          exact ⟨rfl, hB1.out.trans (hstu4.out.below.mono hqr.out), rfl⟩
        | some vl =>
          obtain ⟨v4, l4⟩ := vl
          rw [hn] at hp hO
          simp only at hO
          obtain ⟨rfl, hru4⟩ := hp
          have hl := oneR_le hn
          obtain ⟨R4, hR⟩ : ∃ b : ByteArray, b = ⟨l4.toArray⟩ := ⟨_, rfl⟩
          have hdR4 : R4.data.toList = l4 := by rw [hR]
          have hs4 : R4.size ≤ 1000 := by rw [← list_len, hdR4]; rw [← hdR3, list_len] at hl; omega
          rw [← hR] at hru4
          replace hru4 := Lib.hid hru4
          clear hR hl hn
          have hstw4 := hstu4
          have hmw4 := hmu4
          have hrw4 := hru4
          obtain ⟨w4, hw⟩ : ∃ w, w = u4 := ⟨_, rfl⟩
          rw [← hw] at hstw4 hmw4 hrw4 ⊢
          clear hw hstu4 hmu4 hru4
          have hd : Calls Tryz.prog 78 #[.pointer (some ⟨r, 0, none⟩), .int .i64 2] w4 (DigPost r w4 (numR 2 0 l4)) := by
            have := digits_t r 2 R4 w4 hrw4.out (by unfold maxLen; omega) (by decide)
            rw [hdR4] at this
            exact this
          replace hO := Lib.hid hO
          go_wp2_with fail
          refine hd.mono ?_
          rintro e u5 ⟨hst, hp⟩
          clear hd
          replace hO := hO.out
          have hstu5 := Lib.hid (hstw4.out.trans hst.two)
          have hmu5 := Lib.hid (hmw4.out.step hst hmr.out)
          clear hst
          cases hn : numR 2 0 l4 with
          | none =>
            rw [hn] at hp hO
            simp only at hO
            have hp : e = .panicked [wrongE] := hp
            subst hp hO
            clear hn
            go_wp2_with fail
            exact ⟨rfl, hB1.out.trans (hstu5.out.below.mono hqr.out), rfl⟩
          | some vl =>
            obtain ⟨d, l5⟩ := vl
            rw [hn] at hp hO
            simp only at hO
            obtain ⟨rfl, hru5⟩ := hp
            have hl := (numR_lt _ _ _ _ _ hn).2
            obtain ⟨R5, hR⟩ : ∃ b : ByteArray, b = ⟨l5.toArray⟩ := ⟨_, rfl⟩
            have hdR5 : R5.data.toList = l5 := by rw [hR]
            have hs5 : R5.size ≤ 1000 := by rw [← list_len, hdR5]; rw [← hdR4, list_len] at hl; omega
            rw [← hR] at hru5
            replace hru5 := Lib.hid hru5
            have hbd : d < 10 ^ 2 := by have := (numR_lt _ _ _ _ _ hn).1; simpa using this
            clear hR hl hn
            obtain ⟨w5, hw5⟩ : ∃ w, w = u5.setCell ⟨m, 2, none⟩ (.int .i64 (d : Int)) := ⟨_, rfl⟩
            have hstw5 : Hid (Stp2 r m W1 w5) := Lib.hid (by rw [hw5]; exact hstu5.out.set hrm.out 2 _)
            have hmw5 : Hid (MoAt w5 m (y : Int) (mo : Int) (d : Int) (0 : Int) (0 : Int) ⟨#[48]⟩ (0 : Int) false) := Lib.hid (by rw [hw5]; exact Lib.heap_setCell_same (i := 2) hmu5.out (.int .i64 (d : Int)))
            have hrw5 : Hid (RdAt w5 r R5) := Lib.hid (by rw [hw5]; exact (Below.heap_setCell _ _ _ _ (Nat.ne_of_lt hrm.out)).trans hru5.out)
            obtain ⟨c0, c1, c2, c3, c4, c5, c6, c7⟩ := MomAt.of_heap hmu5.out
            have ff := Lib.frozen_of_heap hmu5.out 2
            replace hw5 := Lib.hid hw5
            have hd : Calls Tryz.prog 81 #[.pointer (some ⟨r, 0, none⟩), .pointer (some ⟨m, 0, none⟩)] w5 (ZonePost r m w5 (y : Int) (mo : Int) (d : Int) (0 : Int) (0 : Int) ⟨#[48]⟩ (zoneR l5)) := by
              have := zone_t r m hrm.out R5 (y : Int) (mo : Int) (d : Int) (0 : Int) (0 : Int) ⟨#[48]⟩ w5 hrw5.out hmw5.out (by unfold maxLen; omega)
              rw [hdR5] at this
              exact this
            replace hO := Lib.hid hO
            go_wp2_with fail
            rw [← hw5.out]
            clear hw5 c0 c1 c2 c3 c4 c5 c6 c7 ff
            refine hd.mono ?_
            rintro e u ⟨hst, hp⟩
            clear hd
            replace hO := hO.out
            have hstu := Lib.hid (hstw5.out.trans hst)
            clear hst
            cases hn : zoneR l5 with
            | none =>
              rw [hn] at hp hO
              simp only at hO
              have hp : e = .panicked [wrongE] := hp
              subst hp hO
              clear hn
              go_wp2_with fail
              exact ⟨rfl, hB1.out.trans (hstu.out.below.mono hqr.out), rfl⟩
            | some vl =>
              obtain ⟨has, z, inR⟩ := vl
              rw [hn] at hp hO
              simp only at hO
              obtain ⟨rfl, hmu⟩ := hp
              replace hmu := Lib.hid hmu
              clear hn
              replace hO := Lib.hid hO
              have hqu : Hid (u.heap[q]? = some (.cells #[.int .i64 0, .int .i64 0, .int .i64 0, .int .i64 0, .int .i64 0, .string ⟨#[]⟩, .int .i64 0, .bool false] 24 (0, 0))) := Lib.hid ((hstu.out.rest q (heap_lt hq1.out) (by have := hrq.out; omega) (by have := hmq.out; omega)).trans hq1.out)
              have hBu : Hid (Below W.heap.size W u) := Lib.hid (hB1.out.trans (hstu.out.below.mono hqr.out))
              cases inR with
              | false =>
                have hv : Hid (O = some (mom0, 6)) := Lib.hid (by rw [hO.out]; simp)
                clear hO
                obtain ⟨x0, x1, x2, x3, x4, x5, x6, x7⟩ := MomAt.of_heap hmu.out
                obtain ⟨d0, d1, d2, d3, d4, d5, d6, d7⟩ := MomAt.of_heap hqu.out
                obtain ⟨f0, f1, f2, f3, f4, f5, f6, f7⟩ := froz8 hqu.out
                obtain ⟨W5, hW5, hp5, hb5⟩ := put8 hqu.out (.int .i64 0) (.int .i64 0) (.int .i64 0) (.int .i64 0) (.int .i64 0) (.string ⟨#[]⟩) (.int .i64 0) (.bool false) (B := W.heap.size) (by rw [hq.out]; exact Nat.le_refl _)
                replace hW5 := Lib.hid hW5
                replace hp5 := Lib.hid hp5
                replace hb5 := Lib.hid (hBu.out.trans hb5)
                go_wp2_with fail
                rw [← hW5.out]
                clear hW5 d0 d1 d2 d3 d4 d5 d6 d7 f0 f1 f2 f3 f4 f5 f6 f7
                obtain ⟨c0, c1, c2, c3, c4, c5, c6, c7⟩ := MomAt.of_heap hp5.out
                refine bodyPost_ret (v := .tuple #[.agg #[.int .i64 0, .int .i64 0, .int .i64 0, .int .i64 0, .int .i64 0, .string ⟨#[]⟩, .int .i64 0, .bool false], .int .i64 6]) ?ret rfl ?post
                case ret => rw [res_two rfl]; go_simp
                case post => exact ⟨hb5.out, by rw [hv.out]; rfl⟩
              | true =>
                obtain ⟨V, hV⟩ : ∃ V, V = validP ⟨(y : Int), (mo : Int), (d : Int), (0 : Int), (0 : Int), (⟨#[48]⟩ : ByteArray).data.toList, z, has⟩ := ⟨_, rfl⟩
                have hO2 : Hid (O = if V = false then some (mom0, 6) else some (⟨(y : Int), (mo : Int), (d : Int), (0 : Int), (0 : Int), (⟨#[48]⟩ : ByteArray).data.toList, z, has⟩, 0)) := Lib.hid (by rw [hO.out, hV]; simp)
                have hva := valid_t (y : Int) (mo : Int) (d : Int) (0 : Int) (0 : Int) ⟨#[48]⟩ z has u (hLw.out _ hstu.out.below) (by decide)
                rw [← hV] at hva
                clear hO
                replace hV := Lib.hid hV
                obtain ⟨c0, c1, c2, c3, c4, c5, c6, c7⟩ := MomAt.of_heap hmu.out
                go_wp2_with fail
                refine hva.mono ?_
                rintro e u2 ⟨rfl, hb2⟩
                clear hva c0 c1 c2 c3 c4 c5 c6 c7
                have hqu2 : Hid (u2.heap[q]? = some (.cells #[.int .i64 0, .int .i64 0, .int .i64 0, .int .i64 0, .int .i64 0, .string ⟨#[]⟩, .int .i64 0, .bool false] 24 (0, 0))) := Lib.hid ((hb2.block q (heap_lt hqu.out)).trans hqu.out)
                have hmu2 : Hid (MoAt u2 m (y : Int) (mo : Int) (d : Int) (0 : Int) (0 : Int) ⟨#[48]⟩ z has) := Lib.hid ((hb2.block m (heap_lt hmu.out)).trans hmu.out)
                have hBu2 : Hid (Below W.heap.size W u2) := Lib.hid (hBu.out.trans (hb2.mono hBu.out.size))
                clear hb2
                cases V with
                | false =>
                  have hv : Hid (O = some (mom0, 6)) := Lib.hid hO2.out
                  clear hO2
                  obtain ⟨d0, d1, d2, d3, d4, d5, d6, d7⟩ := MomAt.of_heap hqu2.out
                  obtain ⟨f0, f1, f2, f3, f4, f5, f6, f7⟩ := froz8 hqu2.out
                  obtain ⟨W5, hW5, hp5, hb5⟩ := put8 hqu2.out (.int .i64 0) (.int .i64 0) (.int .i64 0) (.int .i64 0) (.int .i64 0) (.string ⟨#[]⟩) (.int .i64 0) (.bool false) (B := W.heap.size) (by rw [hq.out]; exact Nat.le_refl _)
                  replace hW5 := Lib.hid hW5
                  replace hp5 := Lib.hid hp5
                  replace hb5 := Lib.hid (hBu2.out.trans hb5)
                  go_wp2_with fail
                  rw [← hW5.out]
                  clear hW5 d0 d1 d2 d3 d4 d5 d6 d7 f0 f1 f2 f3 f4 f5 f6 f7
                  obtain ⟨c0, c1, c2, c3, c4, c5, c6, c7⟩ := MomAt.of_heap hp5.out
                  refine bodyPost_ret (v := .tuple #[.agg #[.int .i64 0, .int .i64 0, .int .i64 0, .int .i64 0, .int .i64 0, .string ⟨#[]⟩, .int .i64 0, .bool false], .int .i64 6]) ?ret rfl ?post
                  case ret => rw [res_two rfl]; go_simp
                  case post => exact ⟨hb5.out, by rw [hv.out]; rfl⟩
                | true =>
                  have hv : Hid (O = some (⟨(y : Int), (mo : Int), (d : Int), (0 : Int), (0 : Int), (⟨#[48]⟩ : ByteArray).data.toList, z, has⟩, 0)) := Lib.hid hO2.out
                  clear hO2
                  obtain ⟨c0, c1, c2, c3, c4, c5, c6, c7⟩ := MomAt.of_heap hmu2.out
                  obtain ⟨d0, d1, d2, d3, d4, d5, d6, d7⟩ := MomAt.of_heap hqu2.out
                  obtain ⟨f0, f1, f2, f3, f4, f5, f6, f7⟩ := froz8 hqu2.out
                  obtain ⟨W5, hW5, hp5, hb5⟩ := put8 hqu2.out (.int .i64 (y : Int)) (.int .i64 (mo : Int)) (.int .i64 (d : Int)) (.int .i64 (0 : Int)) (.int .i64 (0 : Int)) (.string ⟨#[48]⟩) (.int .i64 z) (.bool has) (B := W.heap.size) (by rw [hq.out]; exact Nat.le_refl _)
                  replace hW5 := Lib.hid hW5
                  replace hp5 := Lib.hid hp5
                  replace hb5 := Lib.hid (hBu2.out.trans hb5)
                  go_wp2_with fail
                  rw [← hW5.out]
                  clear hW5 c0 c1 c2 c3 c4 c5 c6 c7 d0 d1 d2 d3 d4 d5 d6 d7 f0 f1 f2 f3 f4 f5 f6 f7
                  obtain ⟨c0, c1, c2, c3, c4, c5, c6, c7⟩ := MomAt.of_heap hp5.out
                  refine bodyPost_ret (v := .tuple #[.agg #[.int .i64 (y : Int), .int .i64 (mo : Int), .int .i64 (d : Int), .int .i64 (0 : Int), .int .i64 (0 : Int), .string ⟨#[48]⟩, .int .i64 z, .bool has], .int .i64 0]) ?ret rfl ?post
                  case ret => rw [res_two rfl]; go_simp
                  case post => exact ⟨hb5.out, by rw [hv.out]; rfl⟩
set_option maxRecDepth 100000 in
set_option maxHeartbeats 4000000 in
theorem read_7 (s : ByteArray) (W : World) (hL : LaidT W) (hs : s.size ≤ 1000) (h8 : 8 ≤ W.heap.size) : Calls Tryz.prog 37 #[.int .i64 7, .string s] W (ReadPost W (readP 7 s.data.toList)) := by
  obtain ⟨q, hq⟩ : ∃ q, q = W.heap.size := ⟨_, rfl⟩
  obtain ⟨r, hrq⟩ : ∃ r, r = q + 1 := ⟨_, rfl⟩
  obtain ⟨m, hmq⟩ : ∃ m, m = q + 1 + 1 := ⟨_, rfl⟩
  have hrm : r < m := by omega
  have hqr : W.heap.size ≤ r := by omega
  have hr8 : 8 ≤ r := by omega
  obtain ⟨O, hO⟩ : ∃ O, O = readP 7 s.data.toList := ⟨_, rfl⟩
  rw [← hO]
  obtain ⟨Wa, hWa⟩ : ∃ w, w = W.alloc (.cells #[.int .i64 0, .int .i64 0, .int .i64 0, .int .i64 0, .int .i64 0, .string ⟨#[]⟩, .int .i64 0, .bool false] 24) := ⟨_, rfl⟩
  obtain ⟨Wb, hWb⟩ : ∃ w, w = Wa.alloc (.cells #[.string s] 102) := ⟨_, rfl⟩
  obtain ⟨W1, hW1⟩ : ∃ w, w = Wb.alloc (.cells #[.int .i64 1972, .int .i64 12, .int .i64 31, .int .i64 0, .int .i64 0, .string ⟨#[48]⟩, .int .i64 0, .bool false] 24) := ⟨_, rfl⟩
  have hsa : Wa.heap.size = q + 1 := by rw [hWa, hq]; simp
  have hsb : Wb.heap.size = q + 1 + 1 := by rw [hWb, World.size_alloc, hsa]
  have hB1 : Below W.heap.size W W1 := by rw [hW1, hWb, hWa]; exact (((Below.refl _ _).alloc (Nat.le_refl _) _).alloc (by simp) _).alloc (by simp; omega) _
  have hq1 : W1.heap[q]? = some (.cells #[.int .i64 0, .int .i64 0, .int .i64 0, .int .i64 0, .int .i64 0, .string ⟨#[]⟩, .int .i64 0, .bool false] 24 (0, 0)) := by
    rw [hW1, (MapKept.heap_alloc _ _).2 q (by omega), hWb, (MapKept.heap_alloc _ _).2 q (by omega), hWa, hq]
    exact (MapKept.heap_alloc _ _).1
  have hr1 : RdAt W1 r s := by
    unfold RdAt
    rw [hW1, (MapKept.heap_alloc _ _).2 r (by omega), hWb, hrq, ← hsa]
    exact (MapKept.heap_alloc _ _).1
  have hm1 : MoAt W1 m (1972 : Int) (12 : Int) (31 : Int) (0 : Int) (0 : Int) ⟨#[48]⟩ (0 : Int) false := by
    unfold MoAt
    rw [hW1, hmq, ← hsb]
    exact (MapKept.heap_alloc _ _).1
  have hLend : Hid (∀ w, Below W.heap.size W w → LaidT w) := Lib.hid (fun w hw => hL.below hw hL.size)
  have hLw : Hid (∀ w, Below r W1 w → LaidT w) := Lib.hid (fun w hw => hL.below (hB1.trans (hw.mono hqr)) h8)
  obtain ⟨w0, hw0⟩ : ∃ w, w = W1 := ⟨_, rfl⟩
  have hrw0 : Hid (RdAt w0 r s) := Lib.hid (by rw [hw0]; exact hr1)
  have hmw0 : Hid (MoAt w0 m (1972 : Int) (12 : Int) (31 : Int) (0 : Int) (0 : Int) ⟨#[48]⟩ (0 : Int) false) := Lib.hid (by rw [hw0]; exact hm1)
  have hstw0 : Hid (Stp2 r m W1 w0) := Lib.hid (by rw [hw0]; exact Stp2.refl _ _ _)
  obtain ⟨R0, hR0⟩ : ∃ b, b = s := ⟨_, rfl⟩
  obtain ⟨l0, hl0⟩ : ∃ l, l = s.data.toList := ⟨_, rfl⟩
  have hdR0 : R0.data.toList = l0 := by rw [hR0, hl0]
  have hs0 : R0.size ≤ 1000 := by rw [hR0]; exact hs
  rw [← hR0] at hrw0
  rw [← hl0] at hO
  have hmr : Hid (m ≠ r) := Lib.hid (by omega)
  rw [← hw0] at hW1
  unfold readP partsR dateR clockR at hO
  simp only [ne_eq, show ((7 : Int) = 6) = False from eq_false (by decide), show ((7 : Int) = 8) = False from eq_false (by decide), not_true_eq_false, not_false_eq_true, if_true, if_false] at hO
  replace hq1 := Lib.hid hq1
  replace hB1 := Lib.hid hB1
  replace hqr := Lib.hid hqr
  replace hrm := Lib.hid hrm
  replace hr8 := Lib.hid hr8
  subst hWb
  subst hWa
  clear hsa hsb hr1 hm1 hw0 hR0 hl0 hs hL
  go_enter Tryz.func37, Tryz.ntmps37
  have hd : Calls Tryz.prog 78 #[.pointer (some ⟨r, 0, none⟩), .int .i64 2] w0 (DigPost r w0 (numR 2 0 l0)) := by
    have := digits_t r 2 R0 w0 hrw0.out (by unfold maxLen; omega) (by decide)
    rw [hdR0] at this
    exact this
  replace hO := Lib.hid hO
  go_wp2_with fail
  rw [← hW1, ← hq, ← hmq, ← hrq]
  clear hW1
  replace hq := Lib.hid hq
  replace hmq := Lib.hid hmq
  replace hrq := Lib.hid hrq
  refine hd.mono ?_
  rintro e u1 ⟨hst, hp⟩
  clear hd
  replace hO := hO.out
  have hstu1 := Lib.hid (hstw0.out.trans hst.two)
  have hmu1 := Lib.hid (hmw0.out.step hst hmr.out)
  clear hst
  cases hn : numR 2 0 l0 with
  | none =>
    rw [hn] at hp hO
    simp only at hO
    have hp : e = .panicked [wrongE] := hp
    subst hp hO
    clear hn
    go_wp2_with fail
    exact ⟨rfl, hB1.out.trans (hstu1.out.below.mono hqr.out), rfl⟩
  | some vl =>
    obtain ⟨h, l1⟩ := vl
    rw [hn] at hp hO
    simp only at hO
    obtain ⟨rfl, hru1⟩ := hp
    have hl := (numR_lt _ _ _ _ _ hn).2
    obtain ⟨R1, hR⟩ : ∃ b : ByteArray, b = ⟨l1.toArray⟩ := ⟨_, rfl⟩
    have hdR1 : R1.data.toList = l1 := by rw [hR]
    have hs1 : R1.size ≤ 1000 := by rw [← list_len, hdR1]; rw [← hdR0, list_len] at hl; omega
    rw [← hR] at hru1
    replace hru1 := Lib.hid hru1
    have hbh : h < 10 ^ 2 := by have := (numR_lt _ _ _ _ _ hn).1; simpa using this
    clear hR hl hn
    obtain ⟨w1, hw1⟩ : ∃ w, w = u1.setCell ⟨m, 3, none⟩ (.int .i64 (h : Int)) := ⟨_, rfl⟩
    have hstw1 : Hid (Stp2 r m W1 w1) := Lib.hid (by rw [hw1]; exact hstu1.out.set hrm.out 3 _)
    have hmw1 : Hid (MoAt w1 m (1972 : Int) (12 : Int) (31 : Int) (h : Int) (0 : Int) ⟨#[48]⟩ (0 : Int) false) := Lib.hid (by rw [hw1]; exact Lib.heap_setCell_same (i := 3) hmu1.out (.int .i64 (h : Int)))
    have hrw1 : Hid (RdAt w1 r R1) := Lib.hid (by rw [hw1]; exact (Below.heap_setCell _ _ _ _ (Nat.ne_of_lt hrm.out)).trans hru1.out)
    obtain ⟨c0, c1, c2, c3, c4, c5, c6, c7⟩ := MomAt.of_heap hmu1.out
    have ff := Lib.frozen_of_heap hmu1.out 3
    replace hw1 := Lib.hid hw1
    have hd : Calls Tryz.prog 79 #[.pointer (some ⟨r, 0, none⟩), .string ⟨#[58]⟩] w1 (SignPost r w1 (oneR [58] l1)) := by
      have := sign_t r R1 ⟨#[58]⟩ w1 hrw1.out (by unfold maxLen; omega) (by decide)
      rw [hdR1] at this
      exact this
    replace hO := Lib.hid hO
    go_wp2_with fail
    rw [← hw1.out]
    clear hw1 c0 c1 c2 c3 c4 c5 c6 c7 ff
    refine hd.mono ?_
    rintro e u2 ⟨hst, hp⟩
    clear hd
    replace hO := hO.out
    have hstu2 := Lib.hid (hstw1.out.trans hst.two)
    have hmu2 := Lib.hid (hmw1.out.step hst hmr.out)
    clear hst
    cases hn : oneR [58] l1 with
    | none =>
      rw [hn] at hp hO
      simp only at hO
      have hp : e = .panicked [wrongE] := hp
      subst hp hO
      clear hn
      go_wp2_with fail
      exact ⟨rfl, hB1.out.trans (hstu2.out.below.mono hqr.out), rfl⟩
    | some vl =>
      obtain ⟨v2, l2⟩ := vl
      rw [hn] at hp hO
      simp only at hO
      obtain ⟨rfl, hru2⟩ := hp
      have hl := oneR_le hn
      obtain ⟨R2, hR⟩ : ∃ b : ByteArray, b = ⟨l2.toArray⟩ := ⟨_, rfl⟩
      have hdR2 : R2.data.toList = l2 := by rw [hR]
      have hs2 : R2.size ≤ 1000 := by rw [← list_len, hdR2]; rw [← hdR1, list_len] at hl; omega
      rw [← hR] at hru2
      replace hru2 := Lib.hid hru2
      clear hR hl hn
      have hstw2 := hstu2
      have hmw2 := hmu2
      have hrw2 := hru2
      obtain ⟨w2, hw⟩ : ∃ w, w = u2 := ⟨_, rfl⟩
      rw [← hw] at hstw2 hmw2 hrw2 ⊢
      clear hw hstu2 hmu2 hru2
      have hd : Calls Tryz.prog 78 #[.pointer (some ⟨r, 0, none⟩), .int .i64 2] w2 (DigPost r w2 (numR 2 0 l2)) := by
        have := digits_t r 2 R2 w2 hrw2.out (by unfold maxLen; omega) (by decide)
        rw [hdR2] at this
        exact this
      replace hO := Lib.hid hO
      go_wp2_with fail
      refine hd.mono ?_
      rintro e u3 ⟨hst, hp⟩
      clear hd
      replace hO := hO.out
      have hstu3 := Lib.hid (hstw2.out.trans hst.two)
      have hmu3 := Lib.hid (hmw2.out.step hst hmr.out)
      clear hst
      cases hn : numR 2 0 l2 with
      | none =>
        rw [hn] at hp hO
        simp only at hO
        have hp : e = .panicked [wrongE] := hp
        subst hp hO
        clear hn
        go_wp2_with fail
        exact ⟨rfl, hB1.out.trans (hstu3.out.below.mono hqr.out), rfl⟩
      | some vl =>
        obtain ⟨mi, l3⟩ := vl
        rw [hn] at hp hO
        simp only at hO
        obtain ⟨rfl, hru3⟩ := hp
        have hl := (numR_lt _ _ _ _ _ hn).2
        obtain ⟨R3, hR⟩ : ∃ b : ByteArray, b = ⟨l3.toArray⟩ := ⟨_, rfl⟩
        have hdR3 : R3.data.toList = l3 := by rw [hR]
        have hs3 : R3.size ≤ 1000 := by rw [← list_len, hdR3]; rw [← hdR2, list_len] at hl; omega
        rw [← hR] at hru3
        replace hru3 := Lib.hid hru3
        have hbmi : mi < 10 ^ 2 := by have := (numR_lt _ _ _ _ _ hn).1; simpa using this
        clear hR hl hn
        obtain ⟨w3, hw3⟩ : ∃ w, w = u3.setCell ⟨m, 4, none⟩ (.int .i64 (mi : Int)) := ⟨_, rfl⟩
        have hstw3 : Hid (Stp2 r m W1 w3) := Lib.hid (by rw [hw3]; exact hstu3.out.set hrm.out 4 _)
        have hmw3 : Hid (MoAt w3 m (1972 : Int) (12 : Int) (31 : Int) (h : Int) (mi : Int) ⟨#[48]⟩ (0 : Int) false) := Lib.hid (by rw [hw3]; exact Lib.heap_setCell_same (i := 4) hmu3.out (.int .i64 (mi : Int)))
        have hrw3 : Hid (RdAt w3 r R3) := Lib.hid (by rw [hw3]; exact (Below.heap_setCell _ _ _ _ (Nat.ne_of_lt hrm.out)).trans hru3.out)
        obtain ⟨c0, c1, c2, c3, c4, c5, c6, c7⟩ := MomAt.of_heap hmu3.out
        have ff := Lib.frozen_of_heap hmu3.out 4
        replace hw3 := Lib.hid hw3
        have hd : Calls Tryz.prog 79 #[.pointer (some ⟨r, 0, none⟩), .string ⟨#[58]⟩] w3 (SignPost r w3 (oneR [58] l3)) := by
          have := sign_t r R3 ⟨#[58]⟩ w3 hrw3.out (by unfold maxLen; omega) (by decide)
          rw [hdR3] at this
          exact this
        replace hO := Lib.hid hO
        go_wp2_with fail
        rw [← hw3.out]
        clear hw3 c0 c1 c2 c3 c4 c5 c6 c7 ff
        refine hd.mono ?_
        rintro e u4 ⟨hst, hp⟩
        clear hd
        replace hO := hO.out
        have hstu4 := Lib.hid (hstw3.out.trans hst.two)
        have hmu4 := Lib.hid (hmw3.out.step hst hmr.out)
        clear hst
        cases hn : oneR [58] l3 with
        | none =>
          rw [hn] at hp hO
          simp only at hO
          have hp : e = .panicked [wrongE] := hp
          subst hp hO
          clear hn
          go_wp2_with fail
          exact ⟨rfl, hB1.out.trans (hstu4.out.below.mono hqr.out), rfl⟩
        | some vl =>
          obtain ⟨v4, l4⟩ := vl
          rw [hn] at hp hO
          simp only at hO
          obtain ⟨rfl, hru4⟩ := hp
          have hl := oneR_le hn
          obtain ⟨R4, hR⟩ : ∃ b : ByteArray, b = ⟨l4.toArray⟩ := ⟨_, rfl⟩
          have hdR4 : R4.data.toList = l4 := by rw [hR]
          have hs4 : R4.size ≤ 1000 := by rw [← list_len, hdR4]; rw [← hdR3, list_len] at hl; omega
          rw [← hR] at hru4
          replace hru4 := Lib.hid hru4
          clear hR hl hn
          have hstw4 := hstu4
          have hmw4 := hmu4
          have hrw4 := hru4
          obtain ⟨w4, hw⟩ : ∃ w, w = u4 := ⟨_, rfl⟩
          rw [← hw] at hstw4 hmw4 hrw4 ⊢
          clear hw hstu4 hmu4 hru4
          have hd : Calls Tryz.prog 80 #[.pointer (some ⟨r, 0, none⟩)] w4 (SecPost r w4 (secR l4)) := by
            have := second_t r hr8.out R4 w4 (hLw.out _ hstw4.out.below) hrw4.out (by omega)
            rw [hdR4] at this
            exact this
          replace hO := Lib.hid hO
          go_wp2_with fail
          refine hd.mono ?_
          rintro e u5 ⟨hst, hp⟩
          clear hd
          replace hO := hO.out
          have hstu5 := Lib.hid (hstw4.out.trans hst.two)
          have hmu5 := Lib.hid (hmw4.out.step hst hmr.out)
          clear hst
          cases hn : secR l4 with
          | none =>
            rw [hn] at hp hO
            simp only at hO
            have hp : e = .panicked [wrongE] := hp
            subst hp hO
            clear hn
            go_wp2_with fail
            exact ⟨rfl, hB1.out.trans (hstu5.out.below.mono hqr.out), rfl⟩
          | some vl =>
            obtain ⟨sc, l5⟩ := vl
            rw [hn] at hp hO
            simp only at hO
            obtain ⟨rfl, hru5⟩ := hp
            obtain ⟨SB, hSB⟩ : ∃ b : ByteArray, b = ⟨sc.toArray⟩ := ⟨_, rfl⟩
            have hSBd : SB.data.toList = sc := by rw [hSB]
            rw [← hSB]
            replace hSB := Lib.hid hSB
            have hSBd' := Lib.hid hSBd
            clear hSBd
            have hl := secR_le hn
            obtain ⟨R5, hR⟩ : ∃ b : ByteArray, b = ⟨l5.toArray⟩ := ⟨_, rfl⟩
            have hdR5 : R5.data.toList = l5 := by rw [hR]
            have hs5 : R5.size ≤ 1000 := by rw [← list_len, hdR5]; rw [← hdR4, list_len] at hl; omega
            rw [← hR] at hru5
            replace hru5 := Lib.hid hru5
            have hsc : SB.size ≤ 1000 := by rw [← list_len, hSBd'.out]; exact Nat.le_trans (secR_len hn) (by decide)
            clear hR hl hn
            obtain ⟨w5, hw5⟩ : ∃ w, w = u5.setCell ⟨m, 5, none⟩ (.string SB) := ⟨_, rfl⟩
            have hstw5 : Hid (Stp2 r m W1 w5) := Lib.hid (by rw [hw5]; exact hstu5.out.set hrm.out 5 _)
            have hmw5 : Hid (MoAt w5 m (1972 : Int) (12 : Int) (31 : Int) (h : Int) (mi : Int) SB (0 : Int) false) := Lib.hid (by rw [hw5]; exact Lib.heap_setCell_same (i := 5) hmu5.out (.string SB))
            have hrw5 : Hid (RdAt w5 r R5) := Lib.hid (by rw [hw5]; exact (Below.heap_setCell _ _ _ _ (Nat.ne_of_lt hrm.out)).trans hru5.out)
            obtain ⟨c0, c1, c2, c3, c4, c5, c6, c7⟩ := MomAt.of_heap hmu5.out
            have ff := Lib.frozen_of_heap hmu5.out 5
            replace hw5 := Lib.hid hw5
            have hd : Calls Tryz.prog 81 #[.pointer (some ⟨r, 0, none⟩), .pointer (some ⟨m, 0, none⟩)] w5 (ZonePost r m w5 (1972 : Int) (12 : Int) (31 : Int) (h : Int) (mi : Int) SB (zoneR l5)) := by
              have := zone_t r m hrm.out R5 (1972 : Int) (12 : Int) (31 : Int) (h : Int) (mi : Int) SB w5 hrw5.out hmw5.out (by unfold maxLen; omega)
              rw [hdR5] at this
              exact this
            replace hO := Lib.hid hO
            go_wp2_with fail
            rw [← hw5.out]
            clear hw5 c0 c1 c2 c3 c4 c5 c6 c7 ff
            refine hd.mono ?_
            rintro e u ⟨hst, hp⟩
            clear hd
            replace hO := hO.out
            have hstu := Lib.hid (hstw5.out.trans hst)
            clear hst
            cases hn : zoneR l5 with
            | none =>
              rw [hn] at hp hO
              simp only at hO
              have hp : e = .panicked [wrongE] := hp
              subst hp hO
              clear hn
              go_wp2_with fail
              exact ⟨rfl, hB1.out.trans (hstu.out.below.mono hqr.out), rfl⟩
            | some vl =>
              obtain ⟨has, z, inR⟩ := vl
              rw [hn] at hp hO
              simp only at hO
              obtain ⟨rfl, hmu⟩ := hp
              replace hmu := Lib.hid hmu
              clear hn
              replace hO := Lib.hid hO
              have hqu : Hid (u.heap[q]? = some (.cells #[.int .i64 0, .int .i64 0, .int .i64 0, .int .i64 0, .int .i64 0, .string ⟨#[]⟩, .int .i64 0, .bool false] 24 (0, 0))) := Lib.hid ((hstu.out.rest q (heap_lt hq1.out) (by have := hrq.out; omega) (by have := hmq.out; omega)).trans hq1.out)
              have hBu : Hid (Below W.heap.size W u) := Lib.hid (hB1.out.trans (hstu.out.below.mono hqr.out))
              by_cases hh : (h : Int) = 24
              · have hne : ((h : Int) == 24) = true := by simpa using hh
                by_cases hmi : (mi : Int) = 0
                · by_cases hs48 : sc = [48]
                  · have gm : ((mi : Int) != 0) = false := by simp [hmi]
                    have gs : (SB.toList != [48]) = false := by rw [ByteArray.toList_eq, hSBd'.out, hs48]; rfl
                    have gs2 : (SB.toList == [48]) = true := by rw [ByteArray.toList_eq, hSBd'.out, hs48]; rfl
                    have hO' : Hid (O = if inR = false ∨ validP ⟨(1972 : Int), (12 : Int), (31 : Int), (0 : Int), (mi : Int), (SB : ByteArray).data.toList, z, has⟩ = false then some (mom0, 6) else some (⟨(1972 : Int), (12 : Int), (31 : Int), (0 : Int), (mi : Int), (SB : ByteArray).data.toList, z, has⟩, 0)) := Lib.hid (by
                      have e := hSBd'.out
                      rw [hs48] at e
                      rw [hO.out, e, hs48]
                      have a1 : h = 24 := by omega
                      have a2 : mi = 0 := by omega
                      simp [a1, a2])
                    clear hO
                    replace hO := hO'
                    clear hO'
                    obtain ⟨uu, huu⟩ : ∃ w, w = u.setCell ⟨m, 3, none⟩ (.int .i64 0) := ⟨_, rfl⟩
                    have hmv : Hid (MoAt uu m (1972 : Int) (12 : Int) (31 : Int) (0 : Int) (mi : Int) SB z has) := Lib.hid (by rw [huu]; exact Lib.heap_setCell_same (i := 3) hmu.out _)
                    have hqv : Hid (uu.heap[q]? = some (.cells #[.int .i64 0, .int .i64 0, .int .i64 0, .int .i64 0, .int .i64 0, .string ⟨#[]⟩, .int .i64 0, .bool false] 24 (0, 0))) := Lib.hid (by rw [huu]; exact (Below.heap_setCell _ _ _ _ (show q ≠ m by have := hmq.out; omega)).trans hqu.out)
                    have hBv : Hid (Below W.heap.size W uu) := Lib.hid (by rw [huu]; exact hBu.out.trans ((Below.refl _ _).setCell (p := ⟨m, 3, none⟩) (show W.heap.size ≤ m by have := hmq.out; have := hq.out; omega) _))
                    have hstv : Hid (Stp2 r m W1 uu) := Lib.hid (by rw [huu]; exact hstu.out.set hrm.out 3 _)
                    obtain ⟨x0, x1, x2, x3, x4, x5, x6, x7⟩ := MomAt.of_heap hmu.out
                    have ff := Lib.frozen_of_heap hmu.out 3
                    replace huu := Lib.hid huu
                    replace hh := Lib.hid hh
                    replace hmi := Lib.hid hmi
                    replace hs48 := Lib.hid hs48
                    go_upto_region 23 with fail
                    rw [← huu.out]
                    clear huu x0 x1 x2 x3 x4 x5 x6 x7 ff hmu hqu hBu hstu
                    cases inR with
                    | false =>
                      have hv : Hid (O = some (mom0, 6)) := Lib.hid (by rw [hO.out]; simp)
                      clear hO
                      obtain ⟨x0, x1, x2, x3, x4, x5, x6, x7⟩ := MomAt.of_heap hmv.out
                      obtain ⟨d0, d1, d2, d3, d4, d5, d6, d7⟩ := MomAt.of_heap hqv.out
                      obtain ⟨f0, f1, f2, f3, f4, f5, f6, f7⟩ := froz8 hqv.out
                      obtain ⟨W5, hW5, hp5, hb5⟩ := put8 hqv.out (.int .i64 0) (.int .i64 0) (.int .i64 0) (.int .i64 0) (.int .i64 0) (.string ⟨#[]⟩) (.int .i64 0) (.bool false) (B := W.heap.size) (by rw [hq.out]; exact Nat.le_refl _)
                      replace hW5 := Lib.hid hW5
                      replace hp5 := Lib.hid hp5
                      replace hb5 := Lib.hid (hBv.out.trans hb5)
                      go_wp2_with fail
                      rw [← hW5.out]
                      clear hW5 d0 d1 d2 d3 d4 d5 d6 d7 f0 f1 f2 f3 f4 f5 f6 f7
                      obtain ⟨c0, c1, c2, c3, c4, c5, c6, c7⟩ := MomAt.of_heap hp5.out
                      refine bodyPost_ret (v := .tuple #[.agg #[.int .i64 0, .int .i64 0, .int .i64 0, .int .i64 0, .int .i64 0, .string ⟨#[]⟩, .int .i64 0, .bool false], .int .i64 6]) ?ret rfl ?post
                      case ret => rw [res_two rfl]; go_simp
                      case post => exact ⟨hb5.out, by rw [hv.out]; rfl⟩
                    | true =>
                      obtain ⟨V, hV⟩ : ∃ V, V = validP ⟨(1972 : Int), (12 : Int), (31 : Int), (0 : Int), (mi : Int), (SB : ByteArray).data.toList, z, has⟩ := ⟨_, rfl⟩
                      have hO2 : Hid (O = if V = false then some (mom0, 6) else some (⟨(1972 : Int), (12 : Int), (31 : Int), (0 : Int), (mi : Int), (SB : ByteArray).data.toList, z, has⟩, 0)) := Lib.hid (by rw [hO.out, hV]; simp)
                      have hva := valid_t (1972 : Int) (12 : Int) (31 : Int) (0 : Int) (mi : Int) SB z has uu (hLw.out _ hstv.out.below) hsc
                      rw [← hV] at hva
                      clear hO
                      replace hV := Lib.hid hV
                      obtain ⟨c0, c1, c2, c3, c4, c5, c6, c7⟩ := MomAt.of_heap hmv.out
                      go_wp2_with fail
                      refine hva.mono ?_
                      rintro e uu2 ⟨rfl, hb2⟩
                      clear hva c0 c1 c2 c3 c4 c5 c6 c7
                      have hqv2 : Hid (uu2.heap[q]? = some (.cells #[.int .i64 0, .int .i64 0, .int .i64 0, .int .i64 0, .int .i64 0, .string ⟨#[]⟩, .int .i64 0, .bool false] 24 (0, 0))) := Lib.hid ((hb2.block q (heap_lt hqv.out)).trans hqv.out)
                      have hmv2 : Hid (MoAt uu2 m (1972 : Int) (12 : Int) (31 : Int) (0 : Int) (mi : Int) SB z has) := Lib.hid ((hb2.block m (heap_lt hmv.out)).trans hmv.out)
                      have hBv2 : Hid (Below W.heap.size W uu2) := Lib.hid (hBv.out.trans (hb2.mono hBv.out.size))
                      clear hb2
                      cases V with
                      | false =>
                        have hv : Hid (O = some (mom0, 6)) := Lib.hid hO2.out
                        clear hO2
                        obtain ⟨d0, d1, d2, d3, d4, d5, d6, d7⟩ := MomAt.of_heap hqv2.out
                        obtain ⟨f0, f1, f2, f3, f4, f5, f6, f7⟩ := froz8 hqv2.out
                        obtain ⟨W5, hW5, hp5, hb5⟩ := put8 hqv2.out (.int .i64 0) (.int .i64 0) (.int .i64 0) (.int .i64 0) (.int .i64 0) (.string ⟨#[]⟩) (.int .i64 0) (.bool false) (B := W.heap.size) (by rw [hq.out]; exact Nat.le_refl _)
                        replace hW5 := Lib.hid hW5
                        replace hp5 := Lib.hid hp5
                        replace hb5 := Lib.hid (hBv2.out.trans hb5)
                        go_wp2_with fail
                        rw [← hW5.out]
                        clear hW5 d0 d1 d2 d3 d4 d5 d6 d7 f0 f1 f2 f3 f4 f5 f6 f7
                        obtain ⟨c0, c1, c2, c3, c4, c5, c6, c7⟩ := MomAt.of_heap hp5.out
                        refine bodyPost_ret (v := .tuple #[.agg #[.int .i64 0, .int .i64 0, .int .i64 0, .int .i64 0, .int .i64 0, .string ⟨#[]⟩, .int .i64 0, .bool false], .int .i64 6]) ?ret rfl ?post
                        case ret => rw [res_two rfl]; go_simp
                        case post => exact ⟨hb5.out, by rw [hv.out]; rfl⟩
                      | true =>
                        have hv : Hid (O = some (⟨(1972 : Int), (12 : Int), (31 : Int), (0 : Int), (mi : Int), (SB : ByteArray).data.toList, z, has⟩, 0)) := Lib.hid hO2.out
                        clear hO2
                        obtain ⟨c0, c1, c2, c3, c4, c5, c6, c7⟩ := MomAt.of_heap hmv2.out
                        obtain ⟨d0, d1, d2, d3, d4, d5, d6, d7⟩ := MomAt.of_heap hqv2.out
                        obtain ⟨f0, f1, f2, f3, f4, f5, f6, f7⟩ := froz8 hqv2.out
                        obtain ⟨W5, hW5, hp5, hb5⟩ := put8 hqv2.out (.int .i64 (1972 : Int)) (.int .i64 (12 : Int)) (.int .i64 (31 : Int)) (.int .i64 (0 : Int)) (.int .i64 (mi : Int)) (.string SB) (.int .i64 z) (.bool has) (B := W.heap.size) (by rw [hq.out]; exact Nat.le_refl _)
                        replace hW5 := Lib.hid hW5
                        replace hp5 := Lib.hid hp5
                        replace hb5 := Lib.hid (hBv2.out.trans hb5)
                        go_wp2_with fail
                        rw [← hW5.out]
                        clear hW5 c0 c1 c2 c3 c4 c5 c6 c7 d0 d1 d2 d3 d4 d5 d6 d7 f0 f1 f2 f3 f4 f5 f6 f7
                        obtain ⟨c0, c1, c2, c3, c4, c5, c6, c7⟩ := MomAt.of_heap hp5.out
                        refine bodyPost_ret (v := .tuple #[.agg #[.int .i64 (1972 : Int), .int .i64 (12 : Int), .int .i64 (31 : Int), .int .i64 (0 : Int), .int .i64 (mi : Int), .string SB, .int .i64 z, .bool has], .int .i64 0]) ?ret rfl ?post
                        case ret => rw [res_two rfl]; go_simp
                        case post => exact ⟨hb5.out, by rw [hv.out]; rfl⟩
                  · have gm : ((mi : Int) != 0) = false := by simpa using hmi
                    have gs : (SB.toList != [48]) = true := by rw [ByteArray.toList_eq, hSBd'.out]; simpa using hs48
                    have gs2 : (SB.toList == [48]) = false := by rw [ByteArray.toList_eq, hSBd'.out]; simpa using hs48
                    have hv : Hid (O = some (mom0, 6)) := Lib.hid (by rw [hO.out]; simp [hh, hs48])
                    clear hO hs48
                    replace hh := Lib.hid hh
                    replace hmi := Lib.hid hmi
                    obtain ⟨x0, x1, x2, x3, x4, x5, x6, x7⟩ := MomAt.of_heap hmu.out
                    obtain ⟨d0, d1, d2, d3, d4, d5, d6, d7⟩ := MomAt.of_heap hqu.out
                    obtain ⟨f0, f1, f2, f3, f4, f5, f6, f7⟩ := froz8 hqu.out
                    obtain ⟨W5, hW5, hp5, hb5⟩ := put8 hqu.out (.int .i64 0) (.int .i64 0) (.int .i64 0) (.int .i64 0) (.int .i64 0) (.string ⟨#[]⟩) (.int .i64 0) (.bool false) (B := W.heap.size) (by rw [hq.out]; exact Nat.le_refl _)
                    replace hW5 := Lib.hid hW5
                    replace hp5 := Lib.hid hp5
                    replace hb5 := Lib.hid (hBu.out.trans hb5)
                    go_wp2_with fail
                    rw [← hW5.out]
                    clear hW5 d0 d1 d2 d3 d4 d5 d6 d7 f0 f1 f2 f3 f4 f5 f6 f7
                    obtain ⟨c0, c1, c2, c3, c4, c5, c6, c7⟩ := MomAt.of_heap hp5.out
                    refine bodyPost_ret (v := .tuple #[.agg #[.int .i64 0, .int .i64 0, .int .i64 0, .int .i64 0, .int .i64 0, .string ⟨#[]⟩, .int .i64 0, .bool false], .int .i64 6]) ?ret rfl ?post
                    case ret => rw [res_two rfl]; go_simp
                    case post => exact ⟨hb5.out, by rw [hv.out]; rfl⟩
                · have gm : ((mi : Int) != 0) = true := by simpa using hmi
                  have hv : Hid (O = some (mom0, 6)) := Lib.hid (by rw [hO.out]; simp [hh]; omega)
                  clear hO
                  replace hh := Lib.hid hh
                  replace hmi := Lib.hid hmi
                  obtain ⟨x0, x1, x2, x3, x4, x5, x6, x7⟩ := MomAt.of_heap hmu.out
                  obtain ⟨d0, d1, d2, d3, d4, d5, d6, d7⟩ := MomAt.of_heap hqu.out
                  obtain ⟨f0, f1, f2, f3, f4, f5, f6, f7⟩ := froz8 hqu.out
                  obtain ⟨W5, hW5, hp5, hb5⟩ := put8 hqu.out (.int .i64 0) (.int .i64 0) (.int .i64 0) (.int .i64 0) (.int .i64 0) (.string ⟨#[]⟩) (.int .i64 0) (.bool false) (B := W.heap.size) (by rw [hq.out]; exact Nat.le_refl _)
                  replace hW5 := Lib.hid hW5
                  replace hp5 := Lib.hid hp5
                  replace hb5 := Lib.hid (hBu.out.trans hb5)
                  go_wp2_with fail
                  rw [← hW5.out]
                  clear hW5 d0 d1 d2 d3 d4 d5 d6 d7 f0 f1 f2 f3 f4 f5 f6 f7
                  obtain ⟨c0, c1, c2, c3, c4, c5, c6, c7⟩ := MomAt.of_heap hp5.out
                  refine bodyPost_ret (v := .tuple #[.agg #[.int .i64 0, .int .i64 0, .int .i64 0, .int .i64 0, .int .i64 0, .string ⟨#[]⟩, .int .i64 0, .bool false], .int .i64 6]) ?ret rfl ?post
                  case ret => rw [res_two rfl]; go_simp
                  case post => exact ⟨hb5.out, by rw [hv.out]; rfl⟩
              · have hne : ((h : Int) == 24) = false := by simpa using hh
                cases inR with
                | false =>
                  have hv : Hid (O = some (mom0, 6)) := Lib.hid (by rw [hO.out]; simp [hh])
                  clear hO
                  obtain ⟨x0, x1, x2, x3, x4, x5, x6, x7⟩ := MomAt.of_heap hmu.out
                  obtain ⟨d0, d1, d2, d3, d4, d5, d6, d7⟩ := MomAt.of_heap hqu.out
                  obtain ⟨f0, f1, f2, f3, f4, f5, f6, f7⟩ := froz8 hqu.out
                  obtain ⟨W5, hW5, hp5, hb5⟩ := put8 hqu.out (.int .i64 0) (.int .i64 0) (.int .i64 0) (.int .i64 0) (.int .i64 0) (.string ⟨#[]⟩) (.int .i64 0) (.bool false) (B := W.heap.size) (by rw [hq.out]; exact Nat.le_refl _)
                  replace hW5 := Lib.hid hW5
                  replace hp5 := Lib.hid hp5
                  replace hb5 := Lib.hid (hBu.out.trans hb5)
                  go_wp2_with fail
                  rw [← hW5.out]
                  clear hW5 d0 d1 d2 d3 d4 d5 d6 d7 f0 f1 f2 f3 f4 f5 f6 f7
                  obtain ⟨c0, c1, c2, c3, c4, c5, c6, c7⟩ := MomAt.of_heap hp5.out
                  refine bodyPost_ret (v := .tuple #[.agg #[.int .i64 0, .int .i64 0, .int .i64 0, .int .i64 0, .int .i64 0, .string ⟨#[]⟩, .int .i64 0, .bool false], .int .i64 6]) ?ret rfl ?post
                  case ret => rw [res_two rfl]; go_simp
                  case post => exact ⟨hb5.out, by rw [hv.out]; rfl⟩
                | true =>
                  replace hh := hh
                  obtain ⟨V, hV⟩ : ∃ V, V = validP ⟨(1972 : Int), (12 : Int), (31 : Int), (h : Int), (mi : Int), (SB : ByteArray).data.toList, z, has⟩ := ⟨_, rfl⟩
                  have hO2 : Hid (O = if V = false then some (mom0, 6) else some (⟨(1972 : Int), (12 : Int), (31 : Int), (h : Int), (mi : Int), (SB : ByteArray).data.toList, z, has⟩, 0)) := Lib.hid (by rw [hO.out, hV]; simp [hh, hSBd'.out])
                  have hva := valid_t (1972 : Int) (12 : Int) (31 : Int) (h : Int) (mi : Int) SB z has u (hLw.out _ hstu.out.below) hsc
                  rw [← hV] at hva
                  clear hO
                  replace hV := Lib.hid hV
                  obtain ⟨c0, c1, c2, c3, c4, c5, c6, c7⟩ := MomAt.of_heap hmu.out
                  go_wp2_with fail
                  refine hva.mono ?_
                  rintro e u2 ⟨rfl, hb2⟩
                  clear hva c0 c1 c2 c3 c4 c5 c6 c7
                  have hqu2 : Hid (u2.heap[q]? = some (.cells #[.int .i64 0, .int .i64 0, .int .i64 0, .int .i64 0, .int .i64 0, .string ⟨#[]⟩, .int .i64 0, .bool false] 24 (0, 0))) := Lib.hid ((hb2.block q (heap_lt hqu.out)).trans hqu.out)
                  have hmu2 : Hid (MoAt u2 m (1972 : Int) (12 : Int) (31 : Int) (h : Int) (mi : Int) SB z has) := Lib.hid ((hb2.block m (heap_lt hmu.out)).trans hmu.out)
                  have hBu2 : Hid (Below W.heap.size W u2) := Lib.hid (hBu.out.trans (hb2.mono hBu.out.size))
                  clear hb2
                  cases V with
                  | false =>
                    have hv : Hid (O = some (mom0, 6)) := Lib.hid hO2.out
                    clear hO2
                    obtain ⟨d0, d1, d2, d3, d4, d5, d6, d7⟩ := MomAt.of_heap hqu2.out
                    obtain ⟨f0, f1, f2, f3, f4, f5, f6, f7⟩ := froz8 hqu2.out
                    obtain ⟨W5, hW5, hp5, hb5⟩ := put8 hqu2.out (.int .i64 0) (.int .i64 0) (.int .i64 0) (.int .i64 0) (.int .i64 0) (.string ⟨#[]⟩) (.int .i64 0) (.bool false) (B := W.heap.size) (by rw [hq.out]; exact Nat.le_refl _)
                    replace hW5 := Lib.hid hW5
                    replace hp5 := Lib.hid hp5
                    replace hb5 := Lib.hid (hBu2.out.trans hb5)
                    go_wp2_with fail
                    rw [← hW5.out]
                    clear hW5 d0 d1 d2 d3 d4 d5 d6 d7 f0 f1 f2 f3 f4 f5 f6 f7
                    obtain ⟨c0, c1, c2, c3, c4, c5, c6, c7⟩ := MomAt.of_heap hp5.out
                    refine bodyPost_ret (v := .tuple #[.agg #[.int .i64 0, .int .i64 0, .int .i64 0, .int .i64 0, .int .i64 0, .string ⟨#[]⟩, .int .i64 0, .bool false], .int .i64 6]) ?ret rfl ?post
                    case ret => rw [res_two rfl]; go_simp
                    case post => exact ⟨hb5.out, by rw [hv.out]; rfl⟩
                  | true =>
                    have hv : Hid (O = some (⟨(1972 : Int), (12 : Int), (31 : Int), (h : Int), (mi : Int), (SB : ByteArray).data.toList, z, has⟩, 0)) := Lib.hid hO2.out
                    clear hO2
                    obtain ⟨c0, c1, c2, c3, c4, c5, c6, c7⟩ := MomAt.of_heap hmu2.out
                    obtain ⟨d0, d1, d2, d3, d4, d5, d6, d7⟩ := MomAt.of_heap hqu2.out
                    obtain ⟨f0, f1, f2, f3, f4, f5, f6, f7⟩ := froz8 hqu2.out
                    obtain ⟨W5, hW5, hp5, hb5⟩ := put8 hqu2.out (.int .i64 (1972 : Int)) (.int .i64 (12 : Int)) (.int .i64 (31 : Int)) (.int .i64 (h : Int)) (.int .i64 (mi : Int)) (.string SB) (.int .i64 z) (.bool has) (B := W.heap.size) (by rw [hq.out]; exact Nat.le_refl _)
                    replace hW5 := Lib.hid hW5
                    replace hp5 := Lib.hid hp5
                    replace hb5 := Lib.hid (hBu2.out.trans hb5)
                    go_wp2_with fail
                    rw [← hW5.out]
                    clear hW5 c0 c1 c2 c3 c4 c5 c6 c7 d0 d1 d2 d3 d4 d5 d6 d7 f0 f1 f2 f3 f4 f5 f6 f7
                    obtain ⟨c0, c1, c2, c3, c4, c5, c6, c7⟩ := MomAt.of_heap hp5.out
                    refine bodyPost_ret (v := .tuple #[.agg #[.int .i64 (1972 : Int), .int .i64 (12 : Int), .int .i64 (31 : Int), .int .i64 (h : Int), .int .i64 (mi : Int), .string SB, .int .i64 z, .bool has], .int .i64 0]) ?ret rfl ?post
                    case ret => rw [res_two rfl]; go_simp
                    case post => exact ⟨hb5.out, by rw [hv.out]; rfl⟩
set_option maxRecDepth 100000 in
set_option maxHeartbeats 4000000 in
theorem read_8 (s : ByteArray) (W : World) (hL : LaidT W) (hs : s.size ≤ 1000) (h8 : 8 ≤ W.heap.size) : Calls Tryz.prog 37 #[.int .i64 8, .string s] W (ReadPost W (readP 8 s.data.toList)) := by
  obtain ⟨q, hq⟩ : ∃ q, q = W.heap.size := ⟨_, rfl⟩
  obtain ⟨r, hrq⟩ : ∃ r, r = q + 1 := ⟨_, rfl⟩
  obtain ⟨m, hmq⟩ : ∃ m, m = q + 1 + 1 := ⟨_, rfl⟩
  have hrm : r < m := by omega
  have hqr : W.heap.size ≤ r := by omega
  have hr8 : 8 ≤ r := by omega
  obtain ⟨O, hO⟩ : ∃ O, O = readP 8 s.data.toList := ⟨_, rfl⟩
  rw [← hO]
  obtain ⟨Wa, hWa⟩ : ∃ w, w = W.alloc (.cells #[.int .i64 0, .int .i64 0, .int .i64 0, .int .i64 0, .int .i64 0, .string ⟨#[]⟩, .int .i64 0, .bool false] 24) := ⟨_, rfl⟩
  obtain ⟨Wb, hWb⟩ : ∃ w, w = Wa.alloc (.cells #[.string s] 102) := ⟨_, rfl⟩
  obtain ⟨W1, hW1⟩ : ∃ w, w = Wb.alloc (.cells #[.int .i64 1972, .int .i64 12, .int .i64 31, .int .i64 0, .int .i64 0, .string ⟨#[48]⟩, .int .i64 0, .bool false] 24) := ⟨_, rfl⟩
  have hsa : Wa.heap.size = q + 1 := by rw [hWa, hq]; simp
  have hsb : Wb.heap.size = q + 1 + 1 := by rw [hWb, World.size_alloc, hsa]
  have hB1 : Below W.heap.size W W1 := by rw [hW1, hWb, hWa]; exact (((Below.refl _ _).alloc (Nat.le_refl _) _).alloc (by simp) _).alloc (by simp; omega) _
  have hq1 : W1.heap[q]? = some (.cells #[.int .i64 0, .int .i64 0, .int .i64 0, .int .i64 0, .int .i64 0, .string ⟨#[]⟩, .int .i64 0, .bool false] 24 (0, 0)) := by
    rw [hW1, (MapKept.heap_alloc _ _).2 q (by omega), hWb, (MapKept.heap_alloc _ _).2 q (by omega), hWa, hq]
    exact (MapKept.heap_alloc _ _).1
  have hr1 : RdAt W1 r s := by
    unfold RdAt
    rw [hW1, (MapKept.heap_alloc _ _).2 r (by omega), hWb, hrq, ← hsa]
    exact (MapKept.heap_alloc _ _).1
  have hm1 : MoAt W1 m (1972 : Int) (12 : Int) (31 : Int) (0 : Int) (0 : Int) ⟨#[48]⟩ (0 : Int) false := by
    unfold MoAt
    rw [hW1, hmq, ← hsb]
    exact (MapKept.heap_alloc _ _).1
  have hLend : Hid (∀ w, Below W.heap.size W w → LaidT w) := Lib.hid (fun w hw => hL.below hw hL.size)
  have hLw : Hid (∀ w, Below r W1 w → LaidT w) := Lib.hid (fun w hw => hL.below (hB1.trans (hw.mono hqr)) h8)
  obtain ⟨w0, hw0⟩ : ∃ w, w = W1 := ⟨_, rfl⟩
  have hrw0 : Hid (RdAt w0 r s) := Lib.hid (by rw [hw0]; exact hr1)
  have hmw0 : Hid (MoAt w0 m (1972 : Int) (12 : Int) (31 : Int) (0 : Int) (0 : Int) ⟨#[48]⟩ (0 : Int) false) := Lib.hid (by rw [hw0]; exact hm1)
  have hstw0 : Hid (Stp2 r m W1 w0) := Lib.hid (by rw [hw0]; exact Stp2.refl _ _ _)
  obtain ⟨R0, hR0⟩ : ∃ b, b = s := ⟨_, rfl⟩
  obtain ⟨l0, hl0⟩ : ∃ l, l = s.data.toList := ⟨_, rfl⟩
  have hdR0 : R0.data.toList = l0 := by rw [hR0, hl0]
  have hs0 : R0.size ≤ 1000 := by rw [hR0]; exact hs
  rw [← hR0] at hrw0
  rw [← hl0] at hO
  have hmr : Hid (m ≠ r) := Lib.hid (by omega)
  rw [← hw0] at hW1
  unfold readP partsR dateR clockR at hO
  simp only [ne_eq, show ((8 : Int) = 6) = False from eq_false (by decide), show ((8 : Int) = 7) = False from eq_false (by decide), not_false_eq_true, if_true] at hO
  replace hq1 := Lib.hid hq1
  replace hB1 := Lib.hid hB1
  replace hqr := Lib.hid hqr
  replace hrm := Lib.hid hrm
  replace hr8 := Lib.hid hr8
  subst hWb
  subst hWa
  clear hsa hsb hr1 hm1 hw0 hR0 hl0 hs hL
  go_enter Tryz.func37, Tryz.ntmps37
  have hd : Calls Tryz.prog 78 #[.pointer (some ⟨r, 0, none⟩), .int .i64 4] w0 (DigPost r w0 (numR 4 0 l0)) := by
    have := digits_t r 4 R0 w0 hrw0.out (by unfold maxLen; omega) (by decide)
    rw [hdR0] at this
    exact this
  replace hO := Lib.hid hO
  go_wp2_with fail
  rw [← hW1, ← hq, ← hmq, ← hrq]
  clear hW1
  replace hq := Lib.hid hq
  replace hmq := Lib.hid hmq
  replace hrq := Lib.hid hrq
  refine hd.mono ?_
  rintro e u1 ⟨hst, hp⟩
  clear hd
  replace hO := hO.out
  have hstu1 := Lib.hid (hstw0.out.trans hst.two)
  have hmu1 := Lib.hid (hmw0.out.step hst hmr.out)
  clear hst
  cases hn : numR 4 0 l0 with
  | none =>
    rw [hn] at hp hO
    simp only at hO
    have hp : e = .panicked [wrongE] := hp
    subst hp hO
    clear hn
    go_wp2_with fail
    exact ⟨rfl, hB1.out.trans (hstu1.out.below.mono hqr.out), rfl⟩
  | some vl =>
    obtain ⟨y, l1⟩ := vl
    rw [hn] at hp hO
    simp only at hO
    obtain ⟨rfl, hru1⟩ := hp
    have hl := (numR_lt _ _ _ _ _ hn).2
    obtain ⟨R1, hR⟩ : ∃ b : ByteArray, b = ⟨l1.toArray⟩ := ⟨_, rfl⟩
    have hdR1 : R1.data.toList = l1 := by rw [hR]
    have hs1 : R1.size ≤ 1000 := by rw [← list_len, hdR1]; rw [← hdR0, list_len] at hl; omega
    rw [← hR] at hru1
    replace hru1 := Lib.hid hru1
    have hby : y < 10 ^ 4 := by have := (numR_lt _ _ _ _ _ hn).1; simpa using this
    clear hR hl hn
    obtain ⟨w1, hw1⟩ : ∃ w, w = u1.setCell ⟨m, 0, none⟩ (.int .i64 (y : Int)) := ⟨_, rfl⟩
    have hstw1 : Hid (Stp2 r m W1 w1) := Lib.hid (by rw [hw1]; exact hstu1.out.set hrm.out 0 _)
    have hmw1 : Hid (MoAt w1 m (y : Int) (12 : Int) (31 : Int) (0 : Int) (0 : Int) ⟨#[48]⟩ (0 : Int) false) := Lib.hid (by rw [hw1]; exact Lib.heap_setCell_same (i := 0) hmu1.out (.int .i64 (y : Int)))
    have hrw1 : Hid (RdAt w1 r R1) := Lib.hid (by rw [hw1]; exact (Below.heap_setCell _ _ _ _ (Nat.ne_of_lt hrm.out)).trans hru1.out)
    obtain ⟨c0, c1, c2, c3, c4, c5, c6, c7⟩ := MomAt.of_heap hmu1.out
    have ff := Lib.frozen_of_heap hmu1.out 0
    replace hw1 := Lib.hid hw1
    have hd : Calls Tryz.prog 79 #[.pointer (some ⟨r, 0, none⟩), .string ⟨#[45]⟩] w1 (SignPost r w1 (oneR [45] l1)) := by
      have := sign_t r R1 ⟨#[45]⟩ w1 hrw1.out (by unfold maxLen; omega) (by decide)
      rw [hdR1] at this
      exact this
    replace hO := Lib.hid hO
    go_wp2_with fail
    rw [← hw1.out]
    clear hw1 c0 c1 c2 c3 c4 c5 c6 c7 ff
    refine hd.mono ?_
    rintro e u2 ⟨hst, hp⟩
    clear hd
    replace hO := hO.out
    have hstu2 := Lib.hid (hstw1.out.trans hst.two)
    have hmu2 := Lib.hid (hmw1.out.step hst hmr.out)
    clear hst
    cases hn : oneR [45] l1 with
    | none =>
      rw [hn] at hp hO
      simp only at hO
      have hp : e = .panicked [wrongE] := hp
      subst hp hO
      clear hn
      go_wp2_with fail
      exact ⟨rfl, hB1.out.trans (hstu2.out.below.mono hqr.out), rfl⟩
    | some vl =>
      obtain ⟨v2, l2⟩ := vl
      rw [hn] at hp hO
      simp only at hO
      obtain ⟨rfl, hru2⟩ := hp
      have hl := oneR_le hn
      obtain ⟨R2, hR⟩ : ∃ b : ByteArray, b = ⟨l2.toArray⟩ := ⟨_, rfl⟩
      have hdR2 : R2.data.toList = l2 := by rw [hR]
      have hs2 : R2.size ≤ 1000 := by rw [← list_len, hdR2]; rw [← hdR1, list_len] at hl; omega
      rw [← hR] at hru2
      replace hru2 := Lib.hid hru2
      clear hR hl hn
      have hstw2 := hstu2
      have hmw2 := hmu2
      have hrw2 := hru2
      obtain ⟨w2, hw⟩ : ∃ w, w = u2 := ⟨_, rfl⟩
      rw [← hw] at hstw2 hmw2 hrw2 ⊢
      clear hw hstu2 hmu2 hru2
      have hd : Calls Tryz.prog 78 #[.pointer (some ⟨r, 0, none⟩), .int .i64 2] w2 (DigPost r w2 (numR 2 0 l2)) := by
        have := digits_t r 2 R2 w2 hrw2.out (by unfold maxLen; omega) (by decide)
        rw [hdR2] at this
        exact this
      replace hO := Lib.hid hO
      go_wp2_with fail
      refine hd.mono ?_
      rintro e u3 ⟨hst, hp⟩
      clear hd
      replace hO := hO.out
      have hstu3 := Lib.hid (hstw2.out.trans hst.two)
      have hmu3 := Lib.hid (hmw2.out.step hst hmr.out)
      clear hst
      cases hn : numR 2 0 l2 with
      | none =>
        rw [hn] at hp hO
        simp only at hO
        have hp : e = .panicked [wrongE] := hp
        subst hp hO
        clear hn
        go_wp2_with fail
        exact ⟨rfl, hB1.out.trans (hstu3.out.below.mono hqr.out), rfl⟩
      | some vl =>
        obtain ⟨mo, l3⟩ := vl
        rw [hn] at hp hO
        simp only at hO
        obtain ⟨rfl, hru3⟩ := hp
        have hl := (numR_lt _ _ _ _ _ hn).2
        obtain ⟨R3, hR⟩ : ∃ b : ByteArray, b = ⟨l3.toArray⟩ := ⟨_, rfl⟩
        have hdR3 : R3.data.toList = l3 := by rw [hR]
        have hs3 : R3.size ≤ 1000 := by rw [← list_len, hdR3]; rw [← hdR2, list_len] at hl; omega
        rw [← hR] at hru3
        replace hru3 := Lib.hid hru3
        have hbmo : mo < 10 ^ 2 := by have := (numR_lt _ _ _ _ _ hn).1; simpa using this
        clear hR hl hn
        obtain ⟨w3, hw3⟩ : ∃ w, w = u3.setCell ⟨m, 1, none⟩ (.int .i64 (mo : Int)) := ⟨_, rfl⟩
        have hstw3 : Hid (Stp2 r m W1 w3) := Lib.hid (by rw [hw3]; exact hstu3.out.set hrm.out 1 _)
        have hmw3 : Hid (MoAt w3 m (y : Int) (mo : Int) (31 : Int) (0 : Int) (0 : Int) ⟨#[48]⟩ (0 : Int) false) := Lib.hid (by rw [hw3]; exact Lib.heap_setCell_same (i := 1) hmu3.out (.int .i64 (mo : Int)))
        have hrw3 : Hid (RdAt w3 r R3) := Lib.hid (by rw [hw3]; exact (Below.heap_setCell _ _ _ _ (Nat.ne_of_lt hrm.out)).trans hru3.out)
        obtain ⟨c0, c1, c2, c3, c4, c5, c6, c7⟩ := MomAt.of_heap hmu3.out
        have ff := Lib.frozen_of_heap hmu3.out 1
        replace hw3 := Lib.hid hw3
        have hd : Calls Tryz.prog 79 #[.pointer (some ⟨r, 0, none⟩), .string ⟨#[45]⟩] w3 (SignPost r w3 (oneR [45] l3)) := by
          have := sign_t r R3 ⟨#[45]⟩ w3 hrw3.out (by unfold maxLen; omega) (by decide)
          rw [hdR3] at this
          exact this
        replace hO := Lib.hid hO
        go_wp2_with fail
        rw [← hw3.out]
        clear hw3 c0 c1 c2 c3 c4 c5 c6 c7 ff
        refine hd.mono ?_
        rintro e u4 ⟨hst, hp⟩
        clear hd
        replace hO := hO.out
        have hstu4 := Lib.hid (hstw3.out.trans hst.two)
        have hmu4 := Lib.hid (hmw3.out.step hst hmr.out)
        clear hst
        cases hn : oneR [45] l3 with
        | none =>
          rw [hn] at hp hO
          simp only at hO
          have hp : e = .panicked [wrongE] := hp
          subst hp hO
          clear hn
          go_wp2_with fail
          exact ⟨rfl, hB1.out.trans (hstu4.out.below.mono hqr.out), rfl⟩
        | some vl =>
          obtain ⟨v4, l4⟩ := vl
          rw [hn] at hp hO
          simp only at hO
          obtain ⟨rfl, hru4⟩ := hp
          have hl := oneR_le hn
          obtain ⟨R4, hR⟩ : ∃ b : ByteArray, b = ⟨l4.toArray⟩ := ⟨_, rfl⟩
          have hdR4 : R4.data.toList = l4 := by rw [hR]
          have hs4 : R4.size ≤ 1000 := by rw [← list_len, hdR4]; rw [← hdR3, list_len] at hl; omega
          rw [← hR] at hru4
          replace hru4 := Lib.hid hru4
          clear hR hl hn
          have hstw4 := hstu4
          have hmw4 := hmu4
          have hrw4 := hru4
          obtain ⟨w4, hw⟩ : ∃ w, w = u4 := ⟨_, rfl⟩
          rw [← hw] at hstw4 hmw4 hrw4 ⊢
          clear hw hstu4 hmu4 hru4
          have hd : Calls Tryz.prog 78 #[.pointer (some ⟨r, 0, none⟩), .int .i64 2] w4 (DigPost r w4 (numR 2 0 l4)) := by
            have := digits_t r 2 R4 w4 hrw4.out (by unfold maxLen; omega) (by decide)
            rw [hdR4] at this
            exact this
          replace hO := Lib.hid hO
          go_wp2_with fail
          refine hd.mono ?_
          rintro e u5 ⟨hst, hp⟩
          clear hd
          replace hO := hO.out
          have hstu5 := Lib.hid (hstw4.out.trans hst.two)
          have hmu5 := Lib.hid (hmw4.out.step hst hmr.out)
          clear hst
          cases hn : numR 2 0 l4 with
          | none =>
            rw [hn] at hp hO
            simp only at hO
            have hp : e = .panicked [wrongE] := hp
            subst hp hO
            clear hn
            go_wp2_with fail
            exact ⟨rfl, hB1.out.trans (hstu5.out.below.mono hqr.out), rfl⟩
          | some vl =>
            obtain ⟨d, l5⟩ := vl
            rw [hn] at hp hO
            simp only at hO
            obtain ⟨rfl, hru5⟩ := hp
            have hl := (numR_lt _ _ _ _ _ hn).2
            obtain ⟨R5, hR⟩ : ∃ b : ByteArray, b = ⟨l5.toArray⟩ := ⟨_, rfl⟩
            have hdR5 : R5.data.toList = l5 := by rw [hR]
            have hs5 : R5.size ≤ 1000 := by rw [← list_len, hdR5]; rw [← hdR4, list_len] at hl; omega
            rw [← hR] at hru5
            replace hru5 := Lib.hid hru5
            have hbd : d < 10 ^ 2 := by have := (numR_lt _ _ _ _ _ hn).1; simpa using this
            clear hR hl hn
            obtain ⟨w5, hw5⟩ : ∃ w, w = u5.setCell ⟨m, 2, none⟩ (.int .i64 (d : Int)) := ⟨_, rfl⟩
            have hstw5 : Hid (Stp2 r m W1 w5) := Lib.hid (by rw [hw5]; exact hstu5.out.set hrm.out 2 _)
            have hmw5 : Hid (MoAt w5 m (y : Int) (mo : Int) (d : Int) (0 : Int) (0 : Int) ⟨#[48]⟩ (0 : Int) false) := Lib.hid (by rw [hw5]; exact Lib.heap_setCell_same (i := 2) hmu5.out (.int .i64 (d : Int)))
            have hrw5 : Hid (RdAt w5 r R5) := Lib.hid (by rw [hw5]; exact (Below.heap_setCell _ _ _ _ (Nat.ne_of_lt hrm.out)).trans hru5.out)
            obtain ⟨c0, c1, c2, c3, c4, c5, c6, c7⟩ := MomAt.of_heap hmu5.out
            have ff := Lib.frozen_of_heap hmu5.out 2
            replace hw5 := Lib.hid hw5
            have hd : Calls Tryz.prog 79 #[.pointer (some ⟨r, 0, none⟩), .string ⟨#[84]⟩] w5 (SignPost r w5 (oneR [84] l5)) := by
              have := sign_t r R5 ⟨#[84]⟩ w5 hrw5.out (by unfold maxLen; omega) (by decide)
              rw [hdR5] at this
              exact this
            replace hO := Lib.hid hO
            go_wp2_with fail
            rw [← hw5.out]
            clear hw5 c0 c1 c2 c3 c4 c5 c6 c7 ff
            refine hd.mono ?_
            rintro e u6 ⟨hst, hp⟩
            clear hd
            replace hO := hO.out
            have hstu6 := Lib.hid (hstw5.out.trans hst.two)
            have hmu6 := Lib.hid (hmw5.out.step hst hmr.out)
            clear hst
            cases hn : oneR [84] l5 with
            | none =>
              rw [hn] at hp hO
              simp only at hO
              have hp : e = .panicked [wrongE] := hp
              subst hp hO
              clear hn
              go_wp2_with fail
              exact ⟨rfl, hB1.out.trans (hstu6.out.below.mono hqr.out), rfl⟩
            | some vl =>
              obtain ⟨v6, l6⟩ := vl
              rw [hn] at hp hO
              simp only at hO
              obtain ⟨rfl, hru6⟩ := hp
              have hl := oneR_le hn
              obtain ⟨R6, hR⟩ : ∃ b : ByteArray, b = ⟨l6.toArray⟩ := ⟨_, rfl⟩
              have hdR6 : R6.data.toList = l6 := by rw [hR]
              have hs6 : R6.size ≤ 1000 := by rw [← list_len, hdR6]; rw [← hdR5, list_len] at hl; omega
              rw [← hR] at hru6
              replace hru6 := Lib.hid hru6
              clear hR hl hn
              have hstw6 := hstu6
              have hmw6 := hmu6
              have hrw6 := hru6
              obtain ⟨w6, hw⟩ : ∃ w, w = u6 := ⟨_, rfl⟩
              rw [← hw] at hstw6 hmw6 hrw6 ⊢
              clear hw hstu6 hmu6 hru6
              have hd : Calls Tryz.prog 78 #[.pointer (some ⟨r, 0, none⟩), .int .i64 2] w6 (DigPost r w6 (numR 2 0 l6)) := by
                have := digits_t r 2 R6 w6 hrw6.out (by unfold maxLen; omega) (by decide)
                rw [hdR6] at this
                exact this
              replace hO := Lib.hid hO
              go_wp2_with fail
              refine hd.mono ?_
              rintro e u7 ⟨hst, hp⟩
              clear hd
              replace hO := hO.out
              have hstu7 := Lib.hid (hstw6.out.trans hst.two)
              have hmu7 := Lib.hid (hmw6.out.step hst hmr.out)
              clear hst
              cases hn : numR 2 0 l6 with
              | none =>
                rw [hn] at hp hO
                simp only at hO
                have hp : e = .panicked [wrongE] := hp
                subst hp hO
                clear hn
                go_wp2_with fail
                exact ⟨rfl, hB1.out.trans (hstu7.out.below.mono hqr.out), rfl⟩
              | some vl =>
                obtain ⟨h, l7⟩ := vl
                rw [hn] at hp hO
                simp only at hO
                obtain ⟨rfl, hru7⟩ := hp
                have hl := (numR_lt _ _ _ _ _ hn).2
                obtain ⟨R7, hR⟩ : ∃ b : ByteArray, b = ⟨l7.toArray⟩ := ⟨_, rfl⟩
                have hdR7 : R7.data.toList = l7 := by rw [hR]
                have hs7 : R7.size ≤ 1000 := by rw [← list_len, hdR7]; rw [← hdR6, list_len] at hl; omega
                rw [← hR] at hru7
                replace hru7 := Lib.hid hru7
                have hbh : h < 10 ^ 2 := by have := (numR_lt _ _ _ _ _ hn).1; simpa using this
                clear hR hl hn
                obtain ⟨w7, hw7⟩ : ∃ w, w = u7.setCell ⟨m, 3, none⟩ (.int .i64 (h : Int)) := ⟨_, rfl⟩
                have hstw7 : Hid (Stp2 r m W1 w7) := Lib.hid (by rw [hw7]; exact hstu7.out.set hrm.out 3 _)
                have hmw7 : Hid (MoAt w7 m (y : Int) (mo : Int) (d : Int) (h : Int) (0 : Int) ⟨#[48]⟩ (0 : Int) false) := Lib.hid (by rw [hw7]; exact Lib.heap_setCell_same (i := 3) hmu7.out (.int .i64 (h : Int)))
                have hrw7 : Hid (RdAt w7 r R7) := Lib.hid (by rw [hw7]; exact (Below.heap_setCell _ _ _ _ (Nat.ne_of_lt hrm.out)).trans hru7.out)
                obtain ⟨c0, c1, c2, c3, c4, c5, c6, c7⟩ := MomAt.of_heap hmu7.out
                have ff := Lib.frozen_of_heap hmu7.out 3
                replace hw7 := Lib.hid hw7
                have hd : Calls Tryz.prog 79 #[.pointer (some ⟨r, 0, none⟩), .string ⟨#[58]⟩] w7 (SignPost r w7 (oneR [58] l7)) := by
                  have := sign_t r R7 ⟨#[58]⟩ w7 hrw7.out (by unfold maxLen; omega) (by decide)
                  rw [hdR7] at this
                  exact this
                replace hO := Lib.hid hO
                go_wp2_with fail
                rw [← hw7.out]
                clear hw7 c0 c1 c2 c3 c4 c5 c6 c7 ff
                refine hd.mono ?_
                rintro e u8 ⟨hst, hp⟩
                clear hd
                replace hO := hO.out
                have hstu8 := Lib.hid (hstw7.out.trans hst.two)
                have hmu8 := Lib.hid (hmw7.out.step hst hmr.out)
                clear hst
                cases hn : oneR [58] l7 with
                | none =>
                  rw [hn] at hp hO
                  simp only at hO
                  have hp : e = .panicked [wrongE] := hp
                  subst hp hO
                  clear hn
                  go_wp2_with fail
                  exact ⟨rfl, hB1.out.trans (hstu8.out.below.mono hqr.out), rfl⟩
                | some vl =>
                  obtain ⟨v8, l8⟩ := vl
                  rw [hn] at hp hO
                  simp only at hO
                  obtain ⟨rfl, hru8⟩ := hp
                  have hl := oneR_le hn
                  obtain ⟨R8, hR⟩ : ∃ b : ByteArray, b = ⟨l8.toArray⟩ := ⟨_, rfl⟩
                  have hdR8 : R8.data.toList = l8 := by rw [hR]
                  have hs8 : R8.size ≤ 1000 := by rw [← list_len, hdR8]; rw [← hdR7, list_len] at hl; omega
                  rw [← hR] at hru8
                  replace hru8 := Lib.hid hru8
                  clear hR hl hn
                  have hstw8 := hstu8
                  have hmw8 := hmu8
                  have hrw8 := hru8
                  obtain ⟨w8, hw⟩ : ∃ w, w = u8 := ⟨_, rfl⟩
                  rw [← hw] at hstw8 hmw8 hrw8 ⊢
                  clear hw hstu8 hmu8 hru8
                  have hd : Calls Tryz.prog 78 #[.pointer (some ⟨r, 0, none⟩), .int .i64 2] w8 (DigPost r w8 (numR 2 0 l8)) := by
                    have := digits_t r 2 R8 w8 hrw8.out (by unfold maxLen; omega) (by decide)
                    rw [hdR8] at this
                    exact this
                  replace hO := Lib.hid hO
                  go_wp2_with fail
                  refine hd.mono ?_
                  rintro e u9 ⟨hst, hp⟩
                  clear hd
                  replace hO := hO.out
                  have hstu9 := Lib.hid (hstw8.out.trans hst.two)
                  have hmu9 := Lib.hid (hmw8.out.step hst hmr.out)
                  clear hst
                  cases hn : numR 2 0 l8 with
                  | none =>
                    rw [hn] at hp hO
                    simp only at hO
                    have hp : e = .panicked [wrongE] := hp
                    subst hp hO
                    clear hn
                    go_wp2_with fail
                    exact ⟨rfl, hB1.out.trans (hstu9.out.below.mono hqr.out), rfl⟩
                  | some vl =>
                    obtain ⟨mi, l9⟩ := vl
                    rw [hn] at hp hO
                    simp only at hO
                    obtain ⟨rfl, hru9⟩ := hp
                    have hl := (numR_lt _ _ _ _ _ hn).2
                    obtain ⟨R9, hR⟩ : ∃ b : ByteArray, b = ⟨l9.toArray⟩ := ⟨_, rfl⟩
                    have hdR9 : R9.data.toList = l9 := by rw [hR]
                    have hs9 : R9.size ≤ 1000 := by rw [← list_len, hdR9]; rw [← hdR8, list_len] at hl; omega
                    rw [← hR] at hru9
                    replace hru9 := Lib.hid hru9
                    have hbmi : mi < 10 ^ 2 := by have := (numR_lt _ _ _ _ _ hn).1; simpa using this
                    clear hR hl hn
                    obtain ⟨w9, hw9⟩ : ∃ w, w = u9.setCell ⟨m, 4, none⟩ (.int .i64 (mi : Int)) := ⟨_, rfl⟩
                    have hstw9 : Hid (Stp2 r m W1 w9) := Lib.hid (by rw [hw9]; exact hstu9.out.set hrm.out 4 _)
                    have hmw9 : Hid (MoAt w9 m (y : Int) (mo : Int) (d : Int) (h : Int) (mi : Int) ⟨#[48]⟩ (0 : Int) false) := Lib.hid (by rw [hw9]; exact Lib.heap_setCell_same (i := 4) hmu9.out (.int .i64 (mi : Int)))
                    have hrw9 : Hid (RdAt w9 r R9) := Lib.hid (by rw [hw9]; exact (Below.heap_setCell _ _ _ _ (Nat.ne_of_lt hrm.out)).trans hru9.out)
                    obtain ⟨c0, c1, c2, c3, c4, c5, c6, c7⟩ := MomAt.of_heap hmu9.out
                    have ff := Lib.frozen_of_heap hmu9.out 4
                    replace hw9 := Lib.hid hw9
                    have hd : Calls Tryz.prog 79 #[.pointer (some ⟨r, 0, none⟩), .string ⟨#[58]⟩] w9 (SignPost r w9 (oneR [58] l9)) := by
                      have := sign_t r R9 ⟨#[58]⟩ w9 hrw9.out (by unfold maxLen; omega) (by decide)
                      rw [hdR9] at this
                      exact this
                    replace hO := Lib.hid hO
                    go_wp2_with fail
                    rw [← hw9.out]
                    clear hw9 c0 c1 c2 c3 c4 c5 c6 c7 ff
                    refine hd.mono ?_
                    rintro e u10 ⟨hst, hp⟩
                    clear hd
                    replace hO := hO.out
                    have hstu10 := Lib.hid (hstw9.out.trans hst.two)
                    have hmu10 := Lib.hid (hmw9.out.step hst hmr.out)
                    clear hst
                    cases hn : oneR [58] l9 with
                    | none =>
                      rw [hn] at hp hO
                      simp only at hO
                      have hp : e = .panicked [wrongE] := hp
                      subst hp hO
                      clear hn
                      go_wp2_with fail
                      exact ⟨rfl, hB1.out.trans (hstu10.out.below.mono hqr.out), rfl⟩
                    | some vl =>
                      obtain ⟨v10, l10⟩ := vl
                      rw [hn] at hp hO
                      simp only at hO
                      obtain ⟨rfl, hru10⟩ := hp
                      have hl := oneR_le hn
                      obtain ⟨R10, hR⟩ : ∃ b : ByteArray, b = ⟨l10.toArray⟩ := ⟨_, rfl⟩
                      have hdR10 : R10.data.toList = l10 := by rw [hR]
                      have hs10 : R10.size ≤ 1000 := by rw [← list_len, hdR10]; rw [← hdR9, list_len] at hl; omega
                      rw [← hR] at hru10
                      replace hru10 := Lib.hid hru10
                      clear hR hl hn
                      have hstw10 := hstu10
                      have hmw10 := hmu10
                      have hrw10 := hru10
                      obtain ⟨w10, hw⟩ : ∃ w, w = u10 := ⟨_, rfl⟩
                      rw [← hw] at hstw10 hmw10 hrw10 ⊢
                      clear hw hstu10 hmu10 hru10
                      have hd : Calls Tryz.prog 80 #[.pointer (some ⟨r, 0, none⟩)] w10 (SecPost r w10 (secR l10)) := by
                        have := second_t r hr8.out R10 w10 (hLw.out _ hstw10.out.below) hrw10.out (by omega)
                        rw [hdR10] at this
                        exact this
                      replace hO := Lib.hid hO
                      go_wp2_with fail
                      refine hd.mono ?_
                      rintro e u11 ⟨hst, hp⟩
                      clear hd
                      replace hO := hO.out
                      have hstu11 := Lib.hid (hstw10.out.trans hst.two)
                      have hmu11 := Lib.hid (hmw10.out.step hst hmr.out)
                      clear hst
                      cases hn : secR l10 with
                      | none =>
                        rw [hn] at hp hO
                        simp only at hO
                        have hp : e = .panicked [wrongE] := hp
                        subst hp hO
                        clear hn
                        go_wp2_with fail
                        exact ⟨rfl, hB1.out.trans (hstu11.out.below.mono hqr.out), rfl⟩
                      | some vl =>
                        obtain ⟨sc, l11⟩ := vl
                        rw [hn] at hp hO
                        simp only at hO
                        obtain ⟨rfl, hru11⟩ := hp
                        obtain ⟨SB, hSB⟩ : ∃ b : ByteArray, b = ⟨sc.toArray⟩ := ⟨_, rfl⟩
                        have hSBd : SB.data.toList = sc := by rw [hSB]
                        rw [← hSB]
                        replace hSB := Lib.hid hSB
                        have hSBd' := Lib.hid hSBd
                        clear hSBd
                        have hl := secR_le hn
                        obtain ⟨R11, hR⟩ : ∃ b : ByteArray, b = ⟨l11.toArray⟩ := ⟨_, rfl⟩
                        have hdR11 : R11.data.toList = l11 := by rw [hR]
                        have hs11 : R11.size ≤ 1000 := by rw [← list_len, hdR11]; rw [← hdR10, list_len] at hl; omega
                        rw [← hR] at hru11
                        replace hru11 := Lib.hid hru11
                        have hsc : SB.size ≤ 1000 := by rw [← list_len, hSBd'.out]; exact Nat.le_trans (secR_len hn) (by decide)
                        clear hR hl hn
                        obtain ⟨w11, hw11⟩ : ∃ w, w = u11.setCell ⟨m, 5, none⟩ (.string SB) := ⟨_, rfl⟩
                        have hstw11 : Hid (Stp2 r m W1 w11) := Lib.hid (by rw [hw11]; exact hstu11.out.set hrm.out 5 _)
                        have hmw11 : Hid (MoAt w11 m (y : Int) (mo : Int) (d : Int) (h : Int) (mi : Int) SB (0 : Int) false) := Lib.hid (by rw [hw11]; exact Lib.heap_setCell_same (i := 5) hmu11.out (.string SB))
                        have hrw11 : Hid (RdAt w11 r R11) := Lib.hid (by rw [hw11]; exact (Below.heap_setCell _ _ _ _ (Nat.ne_of_lt hrm.out)).trans hru11.out)
                        obtain ⟨c0, c1, c2, c3, c4, c5, c6, c7⟩ := MomAt.of_heap hmu11.out
                        have ff := Lib.frozen_of_heap hmu11.out 5
                        replace hw11 := Lib.hid hw11
                        have hd : Calls Tryz.prog 81 #[.pointer (some ⟨r, 0, none⟩), .pointer (some ⟨m, 0, none⟩)] w11 (ZonePost r m w11 (y : Int) (mo : Int) (d : Int) (h : Int) (mi : Int) SB (zoneR l11)) := by
                          have := zone_t r m hrm.out R11 (y : Int) (mo : Int) (d : Int) (h : Int) (mi : Int) SB w11 hrw11.out hmw11.out (by unfold maxLen; omega)
                          rw [hdR11] at this
                          exact this
                        replace hO := Lib.hid hO
                        go_wp2_with fail
                        rw [← hw11.out]
                        clear hw11 c0 c1 c2 c3 c4 c5 c6 c7 ff
                        refine hd.mono ?_
                        rintro e u ⟨hst, hp⟩
                        clear hd
                        replace hO := hO.out
                        have hstu := Lib.hid (hstw11.out.trans hst)
                        clear hst
                        cases hn : zoneR l11 with
                        | none =>
                          rw [hn] at hp hO
                          simp only at hO
                          have hp : e = .panicked [wrongE] := hp
                          subst hp hO
                          clear hn
                          go_wp2_with fail
                          exact ⟨rfl, hB1.out.trans (hstu.out.below.mono hqr.out), rfl⟩
                        | some vl =>
                          obtain ⟨has, z, inR⟩ := vl
                          rw [hn] at hp hO
                          simp only at hO
                          obtain ⟨rfl, hmu⟩ := hp
                          replace hmu := Lib.hid hmu
                          clear hn
                          replace hO := Lib.hid hO
                          have hqu : Hid (u.heap[q]? = some (.cells #[.int .i64 0, .int .i64 0, .int .i64 0, .int .i64 0, .int .i64 0, .string ⟨#[]⟩, .int .i64 0, .bool false] 24 (0, 0))) := Lib.hid ((hstu.out.rest q (heap_lt hq1.out) (by have := hrq.out; omega) (by have := hmq.out; omega)).trans hq1.out)
                          have hBu : Hid (Below W.heap.size W u) := Lib.hid (hB1.out.trans (hstu.out.below.mono hqr.out))
                          by_cases hh : (h : Int) = 24
                          · have hne : ((h : Int) == 24) = true := by simpa using hh
                            by_cases hmi : (mi : Int) = 0
                            · by_cases hs48 : sc = [48]
                              · have gm : ((mi : Int) != 0) = false := by simp [hmi]
                                have gs : (SB.toList != [48]) = false := by rw [ByteArray.toList_eq, hSBd'.out, hs48]; rfl
                                have gs2 : (SB.toList == [48]) = true := by rw [ByteArray.toList_eq, hSBd'.out, hs48]; rfl
                                have hO' : Hid (O = if inR = false ∨ validP ⟨(y : Int), (mo : Int), (d : Int), (0 : Int), (mi : Int), (SB : ByteArray).data.toList, z, has⟩ = false then some (mom0, 6) else some (atP ⟨(y : Int), (mo : Int), (d : Int), (0 : Int), (mi : Int), (SB : ByteArray).data.toList, z, has⟩ (totalP ⟨(y : Int), (mo : Int), (d : Int), (0 : Int), (mi : Int), (SB : ByteArray).data.toList, z, has⟩ + 86400000000))) := Lib.hid (by
                                  have e := hSBd'.out
                                  rw [hs48] at e
                                  rw [hO.out, e, hs48]
                                  have a1 : h = 24 := by omega
                                  have a2 : mi = 0 := by omega
                                  simp [a1, a2])
                                clear hO
                                replace hO := hO'
                                clear hO'
                                obtain ⟨uu, huu⟩ : ∃ w, w = u.setCell ⟨m, 3, none⟩ (.int .i64 0) := ⟨_, rfl⟩
                                have hmv : Hid (MoAt uu m (y : Int) (mo : Int) (d : Int) (0 : Int) (mi : Int) SB z has) := Lib.hid (by rw [huu]; exact Lib.heap_setCell_same (i := 3) hmu.out _)
                                have hqv : Hid (uu.heap[q]? = some (.cells #[.int .i64 0, .int .i64 0, .int .i64 0, .int .i64 0, .int .i64 0, .string ⟨#[]⟩, .int .i64 0, .bool false] 24 (0, 0))) := Lib.hid (by rw [huu]; exact (Below.heap_setCell _ _ _ _ (show q ≠ m by have := hmq.out; omega)).trans hqu.out)
                                have hBv : Hid (Below W.heap.size W uu) := Lib.hid (by rw [huu]; exact hBu.out.trans ((Below.refl _ _).setCell (p := ⟨m, 3, none⟩) (show W.heap.size ≤ m by have := hmq.out; have := hq.out; omega) _))
                                have hstv : Hid (Stp2 r m W1 uu) := Lib.hid (by rw [huu]; exact hstu.out.set hrm.out 3 _)
                                obtain ⟨x0, x1, x2, x3, x4, x5, x6, x7⟩ := MomAt.of_heap hmu.out
                                have ff := Lib.frozen_of_heap hmu.out 3
                                replace huu := Lib.hid huu
                                replace hh := Lib.hid hh
                                replace hmi := Lib.hid hmi
                                replace hs48 := Lib.hid hs48
                                go_upto_region 23 with fail
                                rw [← huu.out]
                                clear huu x0 x1 x2 x3 x4 x5 x6 x7 ff hmu hqu hBu hstu
                                cases inR with
                                | false =>
                                  have hv : Hid (O = some (mom0, 6)) := Lib.hid (by rw [hO.out]; simp)
                                  clear hO
                                  obtain ⟨x0, x1, x2, x3, x4, x5, x6, x7⟩ := MomAt.of_heap hmv.out
                                  obtain ⟨d0, d1, d2, d3, d4, d5, d6, d7⟩ := MomAt.of_heap hqv.out
                                  obtain ⟨f0, f1, f2, f3, f4, f5, f6, f7⟩ := froz8 hqv.out
                                  obtain ⟨W5, hW5, hp5, hb5⟩ := put8 hqv.out (.int .i64 0) (.int .i64 0) (.int .i64 0) (.int .i64 0) (.int .i64 0) (.string ⟨#[]⟩) (.int .i64 0) (.bool false) (B := W.heap.size) (by rw [hq.out]; exact Nat.le_refl _)
                                  replace hW5 := Lib.hid hW5
                                  replace hp5 := Lib.hid hp5
                                  replace hb5 := Lib.hid (hBv.out.trans hb5)
                                  go_wp2_with fail
                                  rw [← hW5.out]
                                  clear hW5 d0 d1 d2 d3 d4 d5 d6 d7 f0 f1 f2 f3 f4 f5 f6 f7
                                  obtain ⟨c0, c1, c2, c3, c4, c5, c6, c7⟩ := MomAt.of_heap hp5.out
                                  refine bodyPost_ret (v := .tuple #[.agg #[.int .i64 0, .int .i64 0, .int .i64 0, .int .i64 0, .int .i64 0, .string ⟨#[]⟩, .int .i64 0, .bool false], .int .i64 6]) ?ret rfl ?post
                                  case ret => rw [res_two rfl]; go_simp
                                  case post => exact ⟨hb5.out, by rw [hv.out]; rfl⟩
                                | true =>
                                  obtain ⟨V, hV⟩ : ∃ V, V = validP ⟨(y : Int), (mo : Int), (d : Int), (0 : Int), (mi : Int), (SB : ByteArray).data.toList, z, has⟩ := ⟨_, rfl⟩
                                  have hO2 : Hid (O = if V = false then some (mom0, 6) else some (atP ⟨(y : Int), (mo : Int), (d : Int), (0 : Int), (mi : Int), (SB : ByteArray).data.toList, z, has⟩ (totalP ⟨(y : Int), (mo : Int), (d : Int), (0 : Int), (mi : Int), (SB : ByteArray).data.toList, z, has⟩ + 86400000000))) := Lib.hid (by rw [hO.out, hV]; simp)
                                  have hva := valid_t (y : Int) (mo : Int) (d : Int) (0 : Int) (mi : Int) SB z has uu (hLw.out _ hstv.out.below) hsc
                                  rw [← hV] at hva
                                  clear hO
                                  replace hV := Lib.hid hV
                                  obtain ⟨c0, c1, c2, c3, c4, c5, c6, c7⟩ := MomAt.of_heap hmv.out
                                  go_wp2_with fail
                                  refine hva.mono ?_
                                  rintro e uu2 ⟨rfl, hb2⟩
                                  clear hva c0 c1 c2 c3 c4 c5 c6 c7
                                  have hqv2 : Hid (uu2.heap[q]? = some (.cells #[.int .i64 0, .int .i64 0, .int .i64 0, .int .i64 0, .int .i64 0, .string ⟨#[]⟩, .int .i64 0, .bool false] 24 (0, 0))) := Lib.hid ((hb2.block q (heap_lt hqv.out)).trans hqv.out)
                                  have hmv2 : Hid (MoAt uu2 m (y : Int) (mo : Int) (d : Int) (0 : Int) (mi : Int) SB z has) := Lib.hid ((hb2.block m (heap_lt hmv.out)).trans hmv.out)
                                  have hBv2 : Hid (Below W.heap.size W uu2) := Lib.hid (hBv.out.trans (hb2.mono hBv.out.size))
                                  clear hb2
                                  cases V with
                                  | false =>
                                    have hv : Hid (O = some (mom0, 6)) := Lib.hid hO2.out
                                    clear hO2
                                    obtain ⟨d0, d1, d2, d3, d4, d5, d6, d7⟩ := MomAt.of_heap hqv2.out
                                    obtain ⟨f0, f1, f2, f3, f4, f5, f6, f7⟩ := froz8 hqv2.out
                                    obtain ⟨W5, hW5, hp5, hb5⟩ := put8 hqv2.out (.int .i64 0) (.int .i64 0) (.int .i64 0) (.int .i64 0) (.int .i64 0) (.string ⟨#[]⟩) (.int .i64 0) (.bool false) (B := W.heap.size) (by rw [hq.out]; exact Nat.le_refl _)
                                    replace hW5 := Lib.hid hW5
                                    replace hp5 := Lib.hid hp5
                                    replace hb5 := Lib.hid (hBv2.out.trans hb5)
                                    go_wp2_with fail
                                    rw [← hW5.out]
                                    clear hW5 d0 d1 d2 d3 d4 d5 d6 d7 f0 f1 f2 f3 f4 f5 f6 f7
                                    obtain ⟨c0, c1, c2, c3, c4, c5, c6, c7⟩ := MomAt.of_heap hp5.out
                                    refine bodyPost_ret (v := .tuple #[.agg #[.int .i64 0, .int .i64 0, .int .i64 0, .int .i64 0, .int .i64 0, .string ⟨#[]⟩, .int .i64 0, .bool false], .int .i64 6]) ?ret rfl ?post
                                    case ret => rw [res_two rfl]; go_simp
                                    case post => exact ⟨hb5.out, by rw [hv.out]; rfl⟩
                                  | true =>
                                    have hO3 : Hid (O = some (atP ⟨(y : Int), (mo : Int), (d : Int), (0 : Int), (mi : Int), (SB : ByteArray).data.toList, z, has⟩ (totalP ⟨(y : Int), (mo : Int), (d : Int), (0 : Int), (mi : Int), (SB : ByteArray).data.toList, z, has⟩ + 86400000000))) := Lib.hid hO2.out
                                    clear hO2
                                    have hvt : validP ⟨(y : Int), (mo : Int), (d : Int), (0 : Int), (mi : Int), (SB : ByteArray).data.toList, z, has⟩ = true := hV.out.symm
                                    have htb := total_bounds hvt
                                    obtain ⟨T, hT⟩ : ∃ T, T = totalP ⟨(y : Int), (mo : Int), (d : Int), (0 : Int), (mi : Int), (SB : ByteArray).data.toList, z, has⟩ := ⟨_, rfl⟩
                                    have hR : Hid (O = some (atP ⟨(y : Int), (mo : Int), (d : Int), (0 : Int), (mi : Int), (SB : ByteArray).data.toList, z, has⟩ (T + 86400000000))) := Lib.hid (by rw [hO3.out, hT])
                                    rw [← hT] at htb
                                    have k1 : -epoch ≤ T := htb.1
                                    have k2 : T < 315537897600000000 - epoch := htb.2
                                    unfold epoch at k1 k2
                                    have hto : Hid (∀ w, LaidT w → Calls Tryz.prog 50 #[.agg #[.int .i64 (y : Int), .int .i64 (mo : Int), .int .i64 (d : Int), .int .i64 (0 : Int), .int .i64 (mi : Int), .string SB, .int .i64 z, .bool has]] w fun e w' => e = .returned (.int .i64 T) ∧ Below w.heap.size w w') := Lib.hid (fun w hw => by
                                      obtain ⟨y', mo', d', h', mi', t, e1, e2, e3, e4, e5, hsd, hp, hzz⟩ := val_cases hvt
                                      have := total_t y' mo' d' h' mi' t SB z has w hp hsd hw hsc
                                      rw [← total_mk (y := y') (mo := mo') (d := d') (h := h') (mi := mi') hp.n2 z has] at this
                                      unfold mkM at this
                                      rw [← hsd, ← e1, ← e2, ← e3, ← e4, ← e5, ← hT] at this
                                      exact this)
                                    obtain ⟨RR, hRR⟩ : ∃ R, R = atP ⟨(y : Int), (mo : Int), (d : Int), (0 : Int), (mi : Int), (SB : ByteArray).data.toList, z, has⟩ (T + 86400000000) := ⟨_, rfl⟩
                                    rw [← hRR] at hR
                                    obtain ⟨⟨ry, rmo, rd, rh, rmi, rs, rz, rhas⟩, rk⟩ := RR
                                    have hat : Hid (∀ w, LaidT w → Calls Tryz.prog 57 #[.agg #[.int .i64 (y : Int), .int .i64 (mo : Int), .int .i64 (d : Int), .int .i64 (0 : Int), .int .i64 (mi : Int), .string SB, .int .i64 z, .bool has], .int .i64 (T + 86400000000)] w fun e w' => e = .returned (.tuple #[.agg #[.int .i64 ry, .int .i64 rmo, .int .i64 rd, .int .i64 rh, .int .i64 rmi, .string ⟨rs.toArray⟩, .int .i64 rz, .bool rhas], .int .i64 rk]) ∧ Below w.heap.size w w') := Lib.hid (fun w hw => by
                                      have := at_t (y : Int) (mo : Int) (d : Int) (0 : Int) (mi : Int) SB z has (T + 86400000000) w hw (by omega) (by omega)
                                      rw [← hRR] at this
                                      exact this)
                                    have w2 : IntKind.i64.wrap (T + 86400000000) = T + 86400000000 := IntWalk.i64_in _ (by omega)
                                    have k3 : -100000000000000000 ≤ T := by omega
                                    have k4 : T ≤ 400000000000000000 := by omega
                                    have hE := Lib.hid (EndAt.mk hmv2.out hqv2.out hBv2.out)
                                    have hqW : Hid (W.heap.size ≤ q) := Lib.hid (by rw [hq.out]; exact Nat.le_refl _)
                                    clear hvt hT htb k1 k2 hRR hO3
                                    go_upto_region 26 with fail
                                    go_cut [5] from 77 to 83 (fun v wx => v = .int .i64 rk ∧ Hid (ResAt W q wx ry rmo rd rh rmi ⟨rs.toArray⟩ rz rhas))
                                    case first =>
                                      obtain ⟨c0, c1, c2, c3, c4, c5, c6, c7⟩ := hE.out.mom
                                      go_region_with (first
                                        | (go_at_call 50; refine (hto.out _ (hLend.out _ hE.out.hb.drew)).mono ?_; rintro e w7 ⟨rfl, hbb⟩; have hT7 := (hE.out.later (Below.refl _ _).drew).later hbb; clear hbb; obtain ⟨e0, e1, e2, e3, e4, e5, e6, e7⟩ := hT7.mom)
                                        | (go_at_call 57; refine (hat.out _ (hLend.out _ hT7.hb)).mono ?_; rintro e w8 ⟨rfl, hbb⟩; have hT8 := hT7.later hbb; clear hbb; obtain ⟨d0, d1, d2, d3, d4, d5, d6, d7⟩ := MomAt.of_heap hT8.hq; obtain ⟨f0, f1, f2, f3, f4, f5, f6, f7⟩ := froz8 hT8.hq
                                           obtain ⟨W5, hW5, hp5, hb5⟩ := put8 hT8.hq (.int .i64 ry) (.int .i64 rmo) (.int .i64 rd) (.int .i64 rh) (.int .i64 rmi) (.string ⟨rs.toArray⟩) (.int .i64 rz) (.bool rhas) (B := W.heap.size) hqW.out
                                           replace hb5 := hT8.hb.trans hb5
                                           replace hW5 := Lib.hid hW5; replace hp5 := Lib.hid hp5))
                                      all_goals (go_wp2_with fail; rw [← hW5.out]; go_meet; exact ⟨rfl, Lib.hid ⟨hp5.out, hb5⟩⟩)
                                    obtain ⟨rfl, hres⟩ := hcut
                                    obtain ⟨c0, c1, c2, c3, c4, c5, c6, c7⟩ := MomAt.of_heap hres.out.hp
                                    go_wp2_with fail
                                    refine bodyPost_ret (v := .tuple #[.agg #[.int .i64 ry, .int .i64 rmo, .int .i64 rd, .int .i64 rh, .int .i64 rmi, .string ⟨rs.toArray⟩, .int .i64 rz, .bool rhas], .int .i64 rk]) ?ret rfl ?post
                                    case ret => rw [res_two rfl]; go_simp
                                    case post => exact ⟨hres.out.hb, by rw [hR.out]; rfl⟩
                              · have gm : ((mi : Int) != 0) = false := by simpa using hmi
                                have gs : (SB.toList != [48]) = true := by rw [ByteArray.toList_eq, hSBd'.out]; simpa using hs48
                                have gs2 : (SB.toList == [48]) = false := by rw [ByteArray.toList_eq, hSBd'.out]; simpa using hs48
                                have hv : Hid (O = some (mom0, 6)) := Lib.hid (by rw [hO.out]; simp [hh, hs48])
                                clear hO hs48
                                replace hh := Lib.hid hh
                                replace hmi := Lib.hid hmi
                                obtain ⟨x0, x1, x2, x3, x4, x5, x6, x7⟩ := MomAt.of_heap hmu.out
                                obtain ⟨d0, d1, d2, d3, d4, d5, d6, d7⟩ := MomAt.of_heap hqu.out
                                obtain ⟨f0, f1, f2, f3, f4, f5, f6, f7⟩ := froz8 hqu.out
                                obtain ⟨W5, hW5, hp5, hb5⟩ := put8 hqu.out (.int .i64 0) (.int .i64 0) (.int .i64 0) (.int .i64 0) (.int .i64 0) (.string ⟨#[]⟩) (.int .i64 0) (.bool false) (B := W.heap.size) (by rw [hq.out]; exact Nat.le_refl _)
                                replace hW5 := Lib.hid hW5
                                replace hp5 := Lib.hid hp5
                                replace hb5 := Lib.hid (hBu.out.trans hb5)
                                go_wp2_with fail
                                rw [← hW5.out]
                                clear hW5 d0 d1 d2 d3 d4 d5 d6 d7 f0 f1 f2 f3 f4 f5 f6 f7
                                obtain ⟨c0, c1, c2, c3, c4, c5, c6, c7⟩ := MomAt.of_heap hp5.out
                                refine bodyPost_ret (v := .tuple #[.agg #[.int .i64 0, .int .i64 0, .int .i64 0, .int .i64 0, .int .i64 0, .string ⟨#[]⟩, .int .i64 0, .bool false], .int .i64 6]) ?ret rfl ?post
                                case ret => rw [res_two rfl]; go_simp
                                case post => exact ⟨hb5.out, by rw [hv.out]; rfl⟩
                            · have gm : ((mi : Int) != 0) = true := by simpa using hmi
                              have hv : Hid (O = some (mom0, 6)) := Lib.hid (by rw [hO.out]; simp [hh]; omega)
                              clear hO
                              replace hh := Lib.hid hh
                              replace hmi := Lib.hid hmi
                              obtain ⟨x0, x1, x2, x3, x4, x5, x6, x7⟩ := MomAt.of_heap hmu.out
                              obtain ⟨d0, d1, d2, d3, d4, d5, d6, d7⟩ := MomAt.of_heap hqu.out
                              obtain ⟨f0, f1, f2, f3, f4, f5, f6, f7⟩ := froz8 hqu.out
                              obtain ⟨W5, hW5, hp5, hb5⟩ := put8 hqu.out (.int .i64 0) (.int .i64 0) (.int .i64 0) (.int .i64 0) (.int .i64 0) (.string ⟨#[]⟩) (.int .i64 0) (.bool false) (B := W.heap.size) (by rw [hq.out]; exact Nat.le_refl _)
                              replace hW5 := Lib.hid hW5
                              replace hp5 := Lib.hid hp5
                              replace hb5 := Lib.hid (hBu.out.trans hb5)
                              go_wp2_with fail
                              rw [← hW5.out]
                              clear hW5 d0 d1 d2 d3 d4 d5 d6 d7 f0 f1 f2 f3 f4 f5 f6 f7
                              obtain ⟨c0, c1, c2, c3, c4, c5, c6, c7⟩ := MomAt.of_heap hp5.out
                              refine bodyPost_ret (v := .tuple #[.agg #[.int .i64 0, .int .i64 0, .int .i64 0, .int .i64 0, .int .i64 0, .string ⟨#[]⟩, .int .i64 0, .bool false], .int .i64 6]) ?ret rfl ?post
                              case ret => rw [res_two rfl]; go_simp
                              case post => exact ⟨hb5.out, by rw [hv.out]; rfl⟩
                          · have hne : ((h : Int) == 24) = false := by simpa using hh
                            cases inR with
                            | false =>
                              have hv : Hid (O = some (mom0, 6)) := Lib.hid (by rw [hO.out]; simp [hh])
                              clear hO
                              obtain ⟨x0, x1, x2, x3, x4, x5, x6, x7⟩ := MomAt.of_heap hmu.out
                              obtain ⟨d0, d1, d2, d3, d4, d5, d6, d7⟩ := MomAt.of_heap hqu.out
                              obtain ⟨f0, f1, f2, f3, f4, f5, f6, f7⟩ := froz8 hqu.out
                              obtain ⟨W5, hW5, hp5, hb5⟩ := put8 hqu.out (.int .i64 0) (.int .i64 0) (.int .i64 0) (.int .i64 0) (.int .i64 0) (.string ⟨#[]⟩) (.int .i64 0) (.bool false) (B := W.heap.size) (by rw [hq.out]; exact Nat.le_refl _)
                              replace hW5 := Lib.hid hW5
                              replace hp5 := Lib.hid hp5
                              replace hb5 := Lib.hid (hBu.out.trans hb5)
                              go_wp2_with fail
                              rw [← hW5.out]
                              clear hW5 d0 d1 d2 d3 d4 d5 d6 d7 f0 f1 f2 f3 f4 f5 f6 f7
                              obtain ⟨c0, c1, c2, c3, c4, c5, c6, c7⟩ := MomAt.of_heap hp5.out
                              refine bodyPost_ret (v := .tuple #[.agg #[.int .i64 0, .int .i64 0, .int .i64 0, .int .i64 0, .int .i64 0, .string ⟨#[]⟩, .int .i64 0, .bool false], .int .i64 6]) ?ret rfl ?post
                              case ret => rw [res_two rfl]; go_simp
                              case post => exact ⟨hb5.out, by rw [hv.out]; rfl⟩
                            | true =>
                              replace hh := hh
                              obtain ⟨V, hV⟩ : ∃ V, V = validP ⟨(y : Int), (mo : Int), (d : Int), (h : Int), (mi : Int), (SB : ByteArray).data.toList, z, has⟩ := ⟨_, rfl⟩
                              have hO2 : Hid (O = if V = false then some (mom0, 6) else some (⟨(y : Int), (mo : Int), (d : Int), (h : Int), (mi : Int), (SB : ByteArray).data.toList, z, has⟩, 0)) := Lib.hid (by rw [hO.out, hV]; simp [hh, hSBd'.out])
                              have hva := valid_t (y : Int) (mo : Int) (d : Int) (h : Int) (mi : Int) SB z has u (hLw.out _ hstu.out.below) hsc
                              rw [← hV] at hva
                              clear hO
                              replace hV := Lib.hid hV
                              obtain ⟨c0, c1, c2, c3, c4, c5, c6, c7⟩ := MomAt.of_heap hmu.out
                              go_wp2_with fail
                              refine hva.mono ?_
                              rintro e u2 ⟨rfl, hb2⟩
                              clear hva c0 c1 c2 c3 c4 c5 c6 c7
                              have hqu2 : Hid (u2.heap[q]? = some (.cells #[.int .i64 0, .int .i64 0, .int .i64 0, .int .i64 0, .int .i64 0, .string ⟨#[]⟩, .int .i64 0, .bool false] 24 (0, 0))) := Lib.hid ((hb2.block q (heap_lt hqu.out)).trans hqu.out)
                              have hmu2 : Hid (MoAt u2 m (y : Int) (mo : Int) (d : Int) (h : Int) (mi : Int) SB z has) := Lib.hid ((hb2.block m (heap_lt hmu.out)).trans hmu.out)
                              have hBu2 : Hid (Below W.heap.size W u2) := Lib.hid (hBu.out.trans (hb2.mono hBu.out.size))
                              clear hb2
                              cases V with
                              | false =>
                                have hv : Hid (O = some (mom0, 6)) := Lib.hid hO2.out
                                clear hO2
                                obtain ⟨d0, d1, d2, d3, d4, d5, d6, d7⟩ := MomAt.of_heap hqu2.out
                                obtain ⟨f0, f1, f2, f3, f4, f5, f6, f7⟩ := froz8 hqu2.out
                                obtain ⟨W5, hW5, hp5, hb5⟩ := put8 hqu2.out (.int .i64 0) (.int .i64 0) (.int .i64 0) (.int .i64 0) (.int .i64 0) (.string ⟨#[]⟩) (.int .i64 0) (.bool false) (B := W.heap.size) (by rw [hq.out]; exact Nat.le_refl _)
                                replace hW5 := Lib.hid hW5
                                replace hp5 := Lib.hid hp5
                                replace hb5 := Lib.hid (hBu2.out.trans hb5)
                                go_wp2_with fail
                                rw [← hW5.out]
                                clear hW5 d0 d1 d2 d3 d4 d5 d6 d7 f0 f1 f2 f3 f4 f5 f6 f7
                                obtain ⟨c0, c1, c2, c3, c4, c5, c6, c7⟩ := MomAt.of_heap hp5.out
                                refine bodyPost_ret (v := .tuple #[.agg #[.int .i64 0, .int .i64 0, .int .i64 0, .int .i64 0, .int .i64 0, .string ⟨#[]⟩, .int .i64 0, .bool false], .int .i64 6]) ?ret rfl ?post
                                case ret => rw [res_two rfl]; go_simp
                                case post => exact ⟨hb5.out, by rw [hv.out]; rfl⟩
                              | true =>
                                have hv : Hid (O = some (⟨(y : Int), (mo : Int), (d : Int), (h : Int), (mi : Int), (SB : ByteArray).data.toList, z, has⟩, 0)) := Lib.hid hO2.out
                                clear hO2
                                obtain ⟨c0, c1, c2, c3, c4, c5, c6, c7⟩ := MomAt.of_heap hmu2.out
                                obtain ⟨d0, d1, d2, d3, d4, d5, d6, d7⟩ := MomAt.of_heap hqu2.out
                                obtain ⟨f0, f1, f2, f3, f4, f5, f6, f7⟩ := froz8 hqu2.out
                                obtain ⟨W5, hW5, hp5, hb5⟩ := put8 hqu2.out (.int .i64 (y : Int)) (.int .i64 (mo : Int)) (.int .i64 (d : Int)) (.int .i64 (h : Int)) (.int .i64 (mi : Int)) (.string SB) (.int .i64 z) (.bool has) (B := W.heap.size) (by rw [hq.out]; exact Nat.le_refl _)
                                replace hW5 := Lib.hid hW5
                                replace hp5 := Lib.hid hp5
                                replace hb5 := Lib.hid (hBu2.out.trans hb5)
                                go_wp2_with fail
                                rw [← hW5.out]
                                clear hW5 c0 c1 c2 c3 c4 c5 c6 c7 d0 d1 d2 d3 d4 d5 d6 d7 f0 f1 f2 f3 f4 f5 f6 f7
                                obtain ⟨c0, c1, c2, c3, c4, c5, c6, c7⟩ := MomAt.of_heap hp5.out
                                refine bodyPost_ret (v := .tuple #[.agg #[.int .i64 (y : Int), .int .i64 (mo : Int), .int .i64 (d : Int), .int .i64 (h : Int), .int .i64 (mi : Int), .string SB, .int .i64 z, .bool has], .int .i64 0]) ?ret rfl ?post
                                case ret => rw [res_two rfl]; go_simp
                                case post => exact ⟨hb5.out, by rw [hv.out]; rfl⟩
end Go.Proofs.YtgobpoeccdgeiaaGreatDoor
