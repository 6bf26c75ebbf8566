/- Package dur: ParseSeconds, the plain part. Package dur: ParseSeconds. Package dur: the walk of ParseSeconds (printed by gensec.py). The examples that every statement on durations checks besides (the function works of package chisellaw06): they hold. Package dur: plain laws of the forms: parts, months, signs. Package dur: plain laws of the forms: seconds. -/
import Derived.Test.YtjndcehkgfbagaaGreatDoorNh
import Derived.Laws.AppendOwnNone
import Derived.Test.YtjndcehkgfbagaaGreatDoorNg

namespace Go.Proofs.YtjndcehkgfbagaaGreatDoor
open Go.RowKit NumP DurP Go.Proofs.YtjndcehkgfbagaaGreatDoorW.PrintWords
set_option linter.unusedVariables false

/-- What ParseSeconds returns, by its parts. -/
def secondsR (mi ok is : Bool) (parts more : List (List UInt8)) (R : List UInt8) : List UInt8 × Int :=
  if is = true ∧ someP more = false then ([], 5) else
    if ok = false ∨ R ≠ [] ∨ someP parts = false then ([], 5) else
      if (addUp parts sizes [48]).2 ≠ 0 then addUp parts sizes [48] else if mi then negT (addUp parts sizes [48]).1 else addUp parts sizes [48]
theorem secondsP_is {l b1 b2 c2 R : List UInt8} {ps more : List (List UInt8)} {mi ok : Bool} (hl : ¬ 200 < l.length) (h1 : mi = (l.head? == some 45)) (h2 : b1 = if mi = true then l.drop 1 else l) (h3 : ok = (b1.head? == some 80)) (h4 : b2 = if ok = true then b1.drop 1 else b1)
    (h5 : cutP [68] b2 = (ps, c2)) (h6 : (c2.head? == some 84) = true) (h7 : cutP [72, 77, 83] (c2.drop 1) = (more, R)) : secondsP l = secondsR mi ok true (ps ++ more) more R := by
  unfold secondsP
  rw [if_neg hl]
  simp only [← h1, ← h2, ← h3, ← h4, h5, h6, h7]
  unfold secondsR
  simp
theorem secondsP_not {l b1 b2 c2 : List UInt8} {ps : List (List UInt8)} {mi ok : Bool} (hl : ¬ 200 < l.length) (h1 : mi = (l.head? == some 45)) (h2 : b1 = if mi = true then l.drop 1 else l) (h3 : ok = (b1.head? == some 80)) (h4 : b2 = if ok = true then b1.drop 1 else b1)
    (h5 : cutP [68] b2 = (ps, c2)) (h6 : (c2.head? == some 84) = false) : secondsP l = secondsR mi ok false ps [] c2 := by
  unfold secondsP
  rw [if_neg hl]
  simp only [← h1, ← h2, ← h3, ← h4, h5, h6]
  unfold secondsR
  simp
/-- One round of the sum. -/
theorem addUp_nil (ts : List (List UInt8)) (sum : List UInt8) : addUp [] ts sum = (sum, 0) := by cases ts <;> rfl
theorem addUp_skip (ps ts : List (List UInt8)) (t sum : List UInt8) : addUp ([] :: ps) (t :: ts) sum = addUp ps ts sum := by
  rw [addUp, if_pos rfl]
theorem addUp_err1 {p : List UInt8} (ps ts : List (List UInt8)) (t sum : List UInt8) (hp : p ≠ []) (h : (parseT p).2 ≠ 0) : addUp (p :: ps) (t :: ts) sum = ([], 40) := by
  rw [addUp, if_neg hp]; simp only; rw [if_pos h]
theorem addUp_err2 {p : List UInt8} (ps ts : List (List UInt8)) (t sum : List UInt8) (hp : p ≠ []) (h : (parseT p).2 = 0) (h2 : (mulT (parseT p).1 t).2 ≠ 0) : addUp (p :: ps) (t :: ts) sum = ([], 40) := by
  rw [addUp, if_neg hp]; simp only; rw [if_neg (by rw [h]; decide), if_pos h2]
theorem addUp_err3 {p : List UInt8} (ps ts : List (List UInt8)) (t sum : List UInt8) (hp : p ≠ []) (h : (parseT p).2 = 0) (h2 : (mulT (parseT p).1 t).2 = 0) (h3 : (addT sum (mulT (parseT p).1 t).1).2 ≠ 0) : addUp (p :: ps) (t :: ts) sum = ([], 40) := by
  rw [addUp, if_neg hp]; simp only; rw [if_neg (by rw [h]; decide), if_neg (by rw [h2]; decide), if_pos h3]
theorem addUp_next {p : List UInt8} (ps ts : List (List UInt8)) (t sum : List UInt8) (hp : p ≠ []) (h : (parseT p).2 = 0) (h2 : (mulT (parseT p).1 t).2 = 0) (h3 : (addT sum (mulT (parseT p).1 t).1).2 = 0) :
    addUp (p :: ps) (t :: ts) sum = addUp ps ts (addT sum (mulT (parseT p).1 t).1).1 := by
  rw [addUp, if_neg hp]; simp only; rw [if_neg (by rw [h]; decide), if_neg (by rw [h2]; decide), if_neg (by rw [h3]; decide)]
end Go.Proofs.YtjndcehkgfbagaaGreatDoor

namespace Go.Proofs.YtjndcehkgfbagaaGreatDoor
open Go.RowKit NumP DurP Go.Proofs.YtjndcehkgfbagaaGreatDoorW.PrintWords
set_option linter.unusedVariables false

set_option maxHeartbeats 2000000 in
set_option maxRecDepth 100000 in
theorem seconds_long (s : ByteArray) (W : World) (hs : s.size ≤ maxLen) (h : 200 < s.size) : Calls Tryz.prog 18 #[.string s] W (StrPost W (secondsP s.data.toList)) := by
  unfold maxLen at hs
  have hR : Hid (secondsP s.data.toList = ([], 2)) := Lib.hid (by unfold secondsP; rw [if_pos (by rw [list_len]; exact h)])
  have h1 : (s.size : Int) > 200 := by omega
  go_enter Tryz.func18, Tryz.ntmps18
  go_wp2_with fail
  go_ret2
  exact ⟨by rw [hR.out]; rfl, Below.refl _ _⟩
set_option maxHeartbeats 2000000 in
set_option maxRecDepth 100000 in
/-- The number of one part, with its size: what three calls give. -/
theorem part_calls (p t sum : ByteArray) (W : World) (hL : LaidW W) (hp : p.size ≤ 1000) (ht : t.size ≤ 1000) (hs : sum.size ≤ 1000) :
    (∀ w, Below W.heap.size W w → Calls Tryz.prog 25 #[.string p] w fun e w' => e = .returned (.tuple #[.string ⟨(parseT p.data.toList).1.toArray⟩, .int .i64 (parseT p.data.toList).2]) ∧ Below w.heap.size w w') ∧
    (∀ w (x : List UInt8), x.length ≤ 60 → Below W.heap.size W w → Calls Tryz.prog 38 #[.string ⟨x.toArray⟩, .string t] w fun e w' => e = .returned (.tuple #[.string ⟨(mulT x t.data.toList).1.toArray⟩, .int .i64 (mulT x t.data.toList).2]) ∧ Below w.heap.size w w') ∧
    (∀ w (y : List UInt8), y.length ≤ 60 → Below W.heap.size W w → Calls Tryz.prog 39 #[.string sum, .string ⟨y.toArray⟩] w fun e w' => e = .returned (.tuple #[.string ⟨(addT sum.data.toList y).1.toArray⟩, .int .i64 (addT sum.data.toList y).2]) ∧ Below w.heap.size w w') := by
  have hx : ∀ x : List UInt8, x.length ≤ 60 → (⟨x.toArray⟩ : ByteArray).size ≤ maxLen := fun x h => by
    rw [← list_len]; show x.length ≤ 2 ^ 63 - 1; omega
  refine ⟨fun w hb => Parse_b p w (hL.below hb hL.size) (by unfold maxLen; omega), fun w x h hb => ?_, fun w y h hb => ?_⟩
  · have := mul_b ⟨x.toArray⟩ t w (hL.below hb hL.size) (hx x h) (by unfold maxLen; omega)
    rw [show (⟨x.toArray⟩ : ByteArray).data.toList = x by simp] at this
    exact this
  · have := add_b sum ⟨y.toArray⟩ w (hL.below hb hL.size) (by unfold maxLen; omega) (hx y h)
    rw [show (⟨y.toArray⟩ : ByteArray).data.toList = y by simp] at this
    exact this
theorem mulT_len (a b : List UInt8) : (mulT a b).1.length ≤ 60 := outN_len fun z h => bothN_lt (fun x y z h => checkedN_lt h) h
theorem addT_len (a b : List UInt8) : (addT a b).1.length ≤ 60 := outN_len fun z h => bothN_lt (fun x y z h => by
  unfold sumN at h
  split at h
  · exact checkedN_lt h
  · split at h <;> exact checkedN_lt h) h
end Go.Proofs.YtjndcehkgfbagaaGreatDoor

namespace Go.Proofs.YtjndcehkgfbagaaGreatDoor
open Go.RowKit NumP DurP Go.Proofs.YtjndcehkgfbagaaGreatDoorW.PrintWords
set_option linter.unusedVariables false

/-- What ParseSeconds returns, once the parts are there. -/
def tailR (mi ok : Bool) (parts : List (List UInt8)) (R : List UInt8) : List UInt8 × Int :=
  if ok = false ∨ R ≠ [] ∨ someP parts = false then ([], 5) else
    if (addUp parts sizes [48]).2 ≠ 0 then addUp parts sizes [48] else if mi then negT (addUp parts sizes [48]).1 else addUp parts sizes [48]
theorem tailR_not (mi ok : Bool) (ps more : List (List UInt8)) (R : List UInt8) : secondsR mi ok false ps more R = tailR mi ok ps R := by
  unfold secondsR; rw [if_neg (by simp)]; rfl
theorem tailR_is {mi ok : Bool} {ps more : List (List UInt8)} {R : List UInt8} (h : someP more = true) : secondsR mi ok true ps more R = tailR mi ok ps R := by
  unfold secondsR; rw [if_neg (by rw [h]; simp)]; rfl
theorem cutP_each : ∀ (ls l : List UInt8), ∀ p ∈ (cutP ls l).1, p.length ≤ l.length
  | [], l, p, h => by simp [cutP] at h
  | c :: ls, l, p, h => by
    rw [cutP] at h
    rcases List.mem_cons.1 h with rfl | h
    · exact partP_len c l
    · exact Nat.le_trans (cutP_each ls _ p h) (partP_rest c l)
theorem sizes_at : ∀ k, k < 4 → ∃ t, sizes[k]? = some t ∧ t.length ≤ 5 ∧ sizes.drop k = t :: sizes.drop (k + 1)
  | 0, _ => ⟨_, rfl, by decide, rfl⟩
  | 1, _ => ⟨_, rfl, by decide, rfl⟩
  | 2, _ => ⟨_, rfl, by decide, rfl⟩
  | 3, _ => ⟨_, rfl, by decide, rfl⟩
set_option maxHeartbeats 2000000 in
set_option maxRecDepth 100000 in
theorem seconds_d (s : ByteArray) (W : World) (hL : LaidW W) (hs : ¬ 200 < s.size) : Calls Tryz.prog 18 #[.string s] W (StrPost W (secondsP s.data.toList)) := by
  have hp1 := (Tryz.strings_CutPrefix s ⟨#[45]⟩ W).mono (fun e w' h => (⟨h.1, h.2.symm⟩ : _ ∧ W = w'))
  rw [show (⟨#[45]⟩ : ByteArray).data.toList = [45] from rfl, has_one, trim_if] at hp1
  obtain ⟨mi, hmi⟩ : ∃ mi, mi = (s.data.toList.head? == some 45) := ⟨_, rfl⟩
  obtain ⟨b1, hb1⟩ : ∃ b1, b1 = (if mi = true then s.data.toList.drop 1 else s.data.toList) := ⟨_, rfl⟩
  rw [← hmi, ← hb1] at hp1
  have hb1l : b1.length ≤ 200 := by
    have : s.data.toList.length ≤ 200 := by rw [list_len]; omega
    rw [hb1]; split
    · rw [List.length_drop]; omega
    · exact this
  obtain ⟨B1, hB1⟩ : ∃ B1 : ByteArray, B1 = ⟨b1.toArray⟩ := ⟨_, rfl⟩
  have hB1d : B1.data.toList = b1 := by rw [hB1]
  have hp2 := (Tryz.strings_CutPrefix B1 ⟨#[80]⟩ W).mono (fun e w' h => (⟨h.1, h.2.symm⟩ : _ ∧ W = w'))
  rw [show (⟨#[80]⟩ : ByteArray).data.toList = [80] from rfl, has_one, trim_if, hB1d] at hp2
  rw [← hB1] at hp1
  obtain ⟨ok, hok⟩ : ∃ ok, ok = (b1.head? == some 80) := ⟨_, rfl⟩
  obtain ⟨b2, hb2⟩ : ∃ b2, b2 = (if ok = true then b1.drop 1 else b1) := ⟨_, rfl⟩
  rw [← hok, ← hb2] at hp2
  have hb2l : b2.length ≤ 200 := by
    rw [hb2]; split
    · rw [List.length_drop]; omega
    · exact hb1l
  obtain ⟨B2, hB2⟩ : ∃ B2 : ByteArray, B2 = ⟨b2.toArray⟩ := ⟨_, rfl⟩
  have hB2d : B2.data.toList = b2 := by rw [hB2]
  rw [← hB2] at hp2
  obtain ⟨Y, hY⟩ : ∃ Y, Y = (partP 68 b2).1 := ⟨_, rfl⟩
  obtain ⟨c2, hc2⟩ : ∃ c2, c2 = (partP 68 b2).2 := ⟨_, rfl⟩
  have h5 : cutP [68] b2 = ([Y], c2) := by rw [hY, hc2]; rfl
  have hYl : Y.length ≤ 200 := by rw [hY]; exact Nat.le_trans (partP_len _ _) hb2l
  have hcl : c2.length ≤ 200 := by rw [hc2]; exact Nat.le_trans (partP_rest _ _) hb2l
  have hlr : ¬ 200 < s.data.toList.length := by rw [list_len]; exact hs
  have hIs : (c2.head? == some 84) = true → ∀ more R, cutP [72, 77, 83] (c2.drop 1) = (more, R) → secondsP s.data.toList = secondsR mi ok true ([Y] ++ more) more R := fun h6 more R h7 => secondsP_is hlr hmi hb1 hok hb2 h5 h6 h7
  have hNot : (c2.head? == some 84) = false → secondsP s.data.toList = secondsR mi ok false [Y] [] c2 := fun h6 => secondsP_not hlr hmi hb1 hok hb2 h5 h6
  obtain ⟨W1, hW1⟩ : ∃ W1, W1 = W.alloc (.cells #[.int .u8 68] 5) := ⟨_, rfl⟩
  have hbe1 : Below W.heap.size W W1 := by rw [hW1]; exact (Below.refl _ _).alloc (Nat.le_refl _) _
  have hx1 : W1.heap[W.heap.size]? = some (.cells #[.int .u8 68] 5 (0, 0)) := by rw [hW1]; exact (MapKept.heap_alloc _ _).1
  have hcu := cut_d B2 [68] W1 W.heap.size (heap_lt hx1) (fun i h => by
    rw [Lib.cell_of_heap hx1]
    match i, h with
    | 0, _ => rfl) (by decide) (by rw [← list_len, hB2d]; omega)
  rw [hB2d, h5] at hcu
  obtain ⟨C2, hC2⟩ : ∃ C2 : ByteArray, C2 = ⟨c2.toArray⟩ := ⟨_, rfl⟩
  have hC2d : C2.data.toList = c2 := by rw [hC2]
  obtain ⟨is, his⟩ : ∃ is, is = (c2.head? == some 84) := ⟨_, rfl⟩
  obtain ⟨c3, hc3⟩ : ∃ c3, c3 = (if is = true then c2.drop 1 else c2) := ⟨_, rfl⟩
  have hct : Hid (∀ w, Calls Tryz.prog 27 #[.string C2, .string ⟨#[84]⟩] w fun e w' => e = .returned (.tuple #[.string ⟨c3.toArray⟩, .bool is]) ∧ w = w') := Lib.hid (fun w => (Tryz.strings_CutPrefix C2 ⟨#[84]⟩ w).mono (fun e w' h => ⟨by
    rw [h.1, show (⟨#[84]⟩ : ByteArray).data.toList = [84] from rfl, has_one, trim_if, hC2d, ← his, ← hc3], h.2.symm⟩))
  rw [← his] at hIs hNot
  replace hIs := Lib.hid hIs
  replace hNot := Lib.hid hNot
  replace hc3 := Lib.hid hc3
  replace his := Lib.hid his
  replace hL := Lib.hid hL
  clear hB1d hB2d hY hc2 h5 hb1l hb2l hmi hb1 hok hb2 hB1 hB2 hx1 hlr hC2d
  have h0 : ¬ ((s.size : Int) > 200) := by omega
  clear hs
  go_enter Tryz.func18, Tryz.ntmps18
  go_wp2_with fail
  refine hp1.mono ?_
  rintro e w ⟨rfl, rfl⟩
  clear hp1
  go_wp2_with fail
  refine hp2.mono ?_
  rintro e w ⟨rfl, rfl⟩
  clear hp2
  go_wp2_with fail
  rw [← hW1]
  refine hcu.mono ?_
  rintro e w2 ⟨v, rfl, ho, hbe2⟩
  clear hcu hW1
  rw [← hC2]
  replace hC2 := Lib.hid hC2
  obtain ⟨g, cap, rfl⟩ := own_form1 ho (by decide)
  have hbW2 : Hid (Below W.heap.size W w2) := Lib.hid (hbe1.trans (hbe2.mono hbe1.size))
  have hW1s : W.heap.size ≤ W1.heap.size := hbe1.size
  replace ho := Lib.hid ho
  clear hbe1 hbe2
  go_wp2_with fail
  refine (hct.out _).mono ?_
  rintro e w ⟨rfl, rfl⟩
  clear hct
  cases is with
  | false =>
    obtain ⟨ps, hps⟩ : ∃ ps, ps = [Y] := ⟨_, rfl⟩
    have hres : Hid (secondsP s.data.toList = tailR mi ok ps c2) := Lib.hid (by rw [hNot.out rfl, tailR_not, hps])
    have hpl : Hid (∀ p ∈ ps, p.length ≤ 1000) := Lib.hid (fun p hp => by rw [hps] at hp; rw [List.mem_singleton.1 hp]; omega)
    have hn : 1 = ps.length := by rw [hps]; rfl
    rw [show (strsL ([Y], c2).1) = strsL ps by rw [hps]] at ho
    have hso := some_d ps 1 g cap w2 _ ho.out hn (by rw [hps]; simp) (by rw [hps]; simp; omega)
    obtain ⟨R, hR⟩ : ∃ R, R = c2 := ⟨_, rfl⟩
    rw [← hR] at hres
    have hRl : C2.toList = R := by rw [hC2.out, ByteArray.toList_mk, hR]
    obtain ⟨RB, hRB⟩ : ∃ RB, RB = C2 := ⟨_, rfl⟩
    rw [← hRB] at hRl ⊢
    obtain ⟨wT, hwT⟩ : ∃ wT, wT = w2 := ⟨_, rfl⟩
    rw [← hwT] at hso ho hbW2 ⊢
    have hbT := hbW2
    clear hbW2 hNot hIs hc3 his hps hR hC2 hRB hwT hcl hYl
    replace hn := Lib.hid hn
    obtain ⟨sm, hsm⟩ : ∃ sm, sm = someP ps := ⟨_, rfl⟩
    cases ok with
    | false =>
      have hQ : Hid (tailR mi false ps R = ([], 5)) := Lib.hid (by unfold tailR; rw [if_pos (.inl rfl)])
      clear hRl
      replace hsm := Lib.hid hsm
      go_wp2_with fail
      go_ret2
      exact ⟨by rw [hres.out, hQ.out]; rfl, hbT.out⟩
    | true =>
      by_cases hRe : R = []
      · have g1 : (RB.toList == []) = true := by rw [hRl, hRe]; rfl
        clear hRl
        cases sm with
        | false =>
          have hQ : Hid (tailR mi true ps R = ([], 5)) := Lib.hid (by unfold tailR; rw [if_pos (.inr (.inr hsm.symm))])
          replace hsm := Lib.hid hsm
          replace hRe := Lib.hid hRe
          go_wp2_with fail
          rw [← hsm.out] at hso
          refine hso.mono ?_
          rintro e w3 ⟨rfl, hb3⟩
          clear hso
          go_wp2_with fail
          go_ret2
          exact ⟨by rw [hres.out, hQ.out]; rfl, hbT.out.trans (hb3.mono hbT.out.size)⟩
        | true =>
          have hQ : Hid (tailR mi true ps R = if (addUp ps sizes [48]).2 ≠ 0 then addUp ps sizes [48] else if mi then negT (addUp ps sizes [48]).1 else addUp ps sizes [48]) := Lib.hid (by
            unfold tailR
            rw [if_neg]
            rintro (h | h | h)
            · cases h
            · exact h hRe
            · rw [← hsm] at h; cases h)
          replace hsm := Lib.hid hsm
          replace hRe := Lib.hid hRe
          go_wp2_with fail
          rw [← hsm.out] at hso
          refine hso.mono ?_
          rintro e w3 ⟨rfl, hb3⟩
          clear hso
          have hb03 := Lib.hid (hbT.out.trans (hb3.mono hbT.out.size))
          have ho3 := own_below ho.out hb3
          have hL3 := Lib.hid (hL.out.below hb03.out hL.out.size)
          have hg3 := Lib.hid (ho3.lt g rfl).2
          have hcell : Hid (∀ k p, ps[k]? = some p → w3.cell? ⟨g, k, none⟩ = some (.string ⟨p.toArray⟩)) := Lib.hid (fun k p hp => by
            have h2 := ho3.cells (g := g) rfl k (.string ⟨p.toArray⟩) (by rw [strsL, List.getElem?_map, hp]; rfl)
            rw [show (⟨g, k, none⟩ : Addr) = (⟨g, 0, none⟩ : Addr).add k by cases k <;> simp [Addr.add]]
            exact h2)
          clear hb3 ho3
          go_wp2_with fail
          go_loopw [12, 67] (fun sv i wr => ∃ (k : Nat) (sum : List UInt8), sv = .string ⟨sum.toArray⟩ ∧ i = .int .i64 k ∧ k ≤ 1 ∧ Hid (sum.length ≤ 60 ∧ addUp ps sizes [48] = addUp (ps.drop k) (sizes.drop k) sum) ∧ Hid (Below w3.heap.size w3 wr)) (fun _ i _ => 1 - (intOf i).toNat)
          case atStart => exact ⟨0, [48], rfl, rfl, by decide, Lib.hid ⟨by decide, rfl⟩, Lib.hid (Below.refl _ _)⟩
          case round =>
            obtain ⟨k, sum, rfl, rfl, hk, hka, hbr⟩ := hrel
            have hb0r := Lib.hid (hb03.out.trans (hbr.out.mono hb03.out.size))
            by_cases hlt : k < 1
            · obtain ⟨p, hp⟩ : ∃ p, ps[k]? = some p := ⟨ps[k]'(by rw [← hn.out]; exact hlt), List.getElem?_eq_getElem _⟩
              have hdr : Hid (ps.drop k = p :: ps.drop (k + 1)) := Lib.hid (by
                obtain ⟨h1, h2⟩ := List.getElem?_eq_some_iff.1 hp
                rw [← h2]; exact List.drop_eq_getElem_cons h1)
              obtain ⟨t, ht1, ht2, ht3⟩ := sizes_at k (by omega)
              replace ht3 := Lib.hid ht3
              have q0 : wr.cell? ⟨g, k, none⟩ = some (.string ⟨p.toArray⟩) := (hbr.out.cell (p := ⟨g, k, none⟩) hg3.out).trans (hcell.out k p hp)
              have hpl' : p.length ≤ 1000 := hpl.out p (List.mem_of_getElem? hp)
              replace hp := Lib.hid hp
              have hkk : (k : Int) < 1 := by omega
              obtain ⟨P, hP⟩ : ∃ P : ByteArray, P = ⟨p.toArray⟩ := ⟨_, rfl⟩
              have hPd : P.data.toList = p := by rw [hP]
              have hPs : P.size ≤ 1000 := by rw [← list_len, hPd]; exact hpl'
              rw [← hP] at q0
              replace hP := Lib.hid hP
              by_cases hpe : p = []
              · have g2 : (P.toList == []) = true := by rw [ByteArray.toList_eq, hPd, hpe]; rfl
                have hadd : addUp ps sizes [48] = addUp (ps.drop (k + 1)) (sizes.drop (k + 1)) sum := by rw [hka.out.2, hdr.out, ht3.out, hpe, addUp_skip]
                replace hadd := Lib.hid hadd
                replace hpe := Lib.hid hpe
                clear hPd ht1 ht2 hpl'
                go_wp2_with fail
                exact ⟨⟨k + 1, sum, rfl, by simp, by omega, Lib.hid ⟨hka.out.1, hadd.out⟩, hbr⟩, by simp [intOf]; omega⟩
              · have g2 : (P.toList == []) = false := by rw [ByteArray.toList_eq, hPd]; simpa using hpe
                have hLr := hL3.out.below hbr.out hL3.out.size
                obtain ⟨c1, c2, c3⟩ := part_calls P ⟨t.toArray⟩ ⟨sum.toArray⟩ wr hLr hPs (by rw [← list_len]; show t.length ≤ 1000; omega) (by rw [← list_len]; show sum.length ≤ 1000; have := hka.out.1; omega)
                rw [hPd] at c1
                rw [show (⟨t.toArray⟩ : ByteArray).data.toList = t by simp] at c2
                rw [show (⟨sum.toArray⟩ : ByteArray).data.toList = sum by simp] at c3
                replace c1 := c1 wr (Below.refl _ _)
                obtain ⟨x, hx⟩ : ∃ x, x = (parseT p).1 := ⟨_, rfl⟩
                obtain ⟨e1, he1⟩ : ∃ e1, e1 = (parseT p).2 := ⟨_, rfl⟩
                rw [← hx, ← he1] at c1
                have hxl : x.length ≤ 60 := by rw [hx]; exact parseT_len p
                obtain ⟨y, hy⟩ : ∃ y, y = (mulT x t).1 := ⟨_, rfl⟩
                obtain ⟨e2, he2⟩ : ∃ e2, e2 = (mulT x t).2 := ⟨_, rfl⟩
                have hyl : y.length ≤ 60 := by rw [hy]; exact mulT_len _ _
                obtain ⟨z, hz⟩ : ∃ z, z = (addT sum y).1 := ⟨_, rfl⟩
                obtain ⟨e3, he3⟩ : ∃ e3, e3 = (addT sum y).2 := ⟨_, rfl⟩
                have hzl : z.length ≤ 60 := by rw [hz]; exact addT_len _ _
                have c2' := Lib.hid (fun w hb => c2 w x hxl hb)
                rw [← hy, ← he2] at c2'
                have c3' := Lib.hid (fun w hb => c3 w y hyl hb)
                rw [← hz, ← he3] at c3'
                have r1 : Hid (e1 ≠ 0 → addUp ps sizes [48] = ([], 40)) := Lib.hid (fun h => by rw [hka.out.2, hdr.out, ht3.out, addUp_err1 _ _ _ _ hpe (by rw [← he1]; exact h)])
                have r2 : Hid (e1 = 0 → e2 ≠ 0 → addUp ps sizes [48] = ([], 40)) := Lib.hid (fun h1 h => by rw [hka.out.2, hdr.out, ht3.out, addUp_err2 _ _ _ _ hpe (by rw [← he1]; exact h1) (by rw [← hx, ← he2]; exact h)])
                have r3 : Hid (e1 = 0 → e2 = 0 → e3 ≠ 0 → addUp ps sizes [48] = ([], 40)) := Lib.hid (fun h1 h2 h => by rw [hka.out.2, hdr.out, ht3.out, addUp_err3 _ _ _ _ hpe (by rw [← he1]; exact h1) (by rw [← hx, ← he2]; exact h2) (by rw [← hx, ← hy, ← he3]; exact h)])
                have r4 : Hid (e1 = 0 → e2 = 0 → e3 = 0 → addUp ps sizes [48] = addUp (ps.drop (k + 1)) (sizes.drop (k + 1)) z) := Lib.hid (fun h1 h2 h => by rw [hka.out.2, hdr.out, ht3.out, addUp_next _ _ _ _ hpe (by rw [← he1]; exact h1) (by rw [← hx, ← he2]; exact h2) (by rw [← hx, ← hy, ← he3]; exact h), ← hx, ← hy, ← hz])
                replace hx := Lib.hid hx
                replace he1 := Lib.hid he1
                replace hy := Lib.hid hy
                replace he2 := Lib.hid he2
                replace hz := Lib.hid hz
                replace he3 := Lib.hid he3
                clear c2 c3 hPd hpl' hPs hxl hyl
                have hq5 : ∀ w : World, (w.alloc (.cells #[.string ⟨#[56, 54, 52, 48, 48]⟩, .string ⟨#[51, 54, 48, 48]⟩, .string ⟨#[54, 48]⟩, .string ⟨#[49]⟩] 9)).cell? ⟨w.heap.size, k, none⟩ = some (.string ⟨t.toArray⟩) := fun w => by
                  rw [World.cell?_alloc_at _ _ _ _ rfl]
                  have : k = 0 ∨ k = 1 ∨ k = 2 ∨ k = 3 := by omega
                  rcases this with rfl | rfl | rfl | rfl <;> (injection ht1 with ht1; rw [← ht1]; rfl)
                replace hq5 := Lib.hid hq5
                replace ht1 := Lib.hid ht1
                clear ht2
                go_wp2_with fail
                refine c1.mono ?_
                rintro e w4 ⟨rfl, hb4⟩
                clear c1
                by_cases h1 : e1 = 0
                · subst h1
                  have hq6 := hq5.out w4
                  have hkk4 : (k : Int) < 4 := by omega
                  go_wp2_with fail
                  refine (c2'.out _ (hb4.alloc hb4.size _)).mono ?_
                  rintro e w5 ⟨rfl, hb5⟩
                  have hbr5 : Below wr.heap.size wr w5 := (hb4.alloc hb4.size _).trans (hb5.mono (hb4.alloc hb4.size _).size)
                  clear hb5 hb4 hq6
                  by_cases h2 : e2 = 0
                  · subst h2
                    go_wp2_with fail
                    refine (c3'.out _ hbr5).mono ?_
                    rintro e w6 ⟨rfl, hb6⟩
                    have hbr6 := hbr5.trans (hb6.mono hbr5.size)
                    clear hb6 hbr5
                    by_cases h3 : e3 = 0
                    · subst h3
                      have hz60 := Lib.hid hzl
                      go_wp2_with fail
                      exact ⟨⟨k + 1, z, rfl, by simp, by omega, Lib.hid ⟨hz60.out, r4.out (by simp) (by simp) (by simp)⟩, Lib.hid (hbr.out.trans (hbr6.mono hbr.out.size))⟩, by simp [intOf]; omega⟩
                    · have g3 : (e3 == 0) = false := by simpa using h3
                      have hr := r3.out (by simp) (by simp) h3
                      have hv : Hid (tailR mi true ps R = ([], 40)) := Lib.hid (by rw [hQ.out, hr]; rfl)
                      clear hr
                      replace h3 := Lib.hid h3
                      go_wp2_with fail
                      go_ret2
                      exact ⟨by rw [hres.out, hv.out]; rfl, hb0r.out.trans (hbr6.mono hb0r.out.size)⟩
                  · have g3 : (e2 == 0) = false := by simpa using h2
                    have hr := r2.out (by simp) h2
                    have hv : Hid (tailR mi true ps R = ([], 40)) := Lib.hid (by rw [hQ.out, hr]; rfl)
                    clear hr
                    replace h2 := Lib.hid h2
                    go_wp2_with fail
                    go_ret2
                    exact ⟨by rw [hres.out, hv.out]; rfl, hb0r.out.trans (hbr5.mono hb0r.out.size)⟩
                · have g3 : (e1 == 0) = false := by simpa using h1
                  have hr := r1.out h1
                  have hv : Hid (tailR mi true ps R = ([], 40)) := Lib.hid (by rw [hQ.out, hr]; rfl)
                  clear hr
                  replace h1 := Lib.hid h1
                  go_wp2_with fail
                  go_ret2
                  exact ⟨by rw [hres.out, hv.out]; rfl, hb0r.out.trans (hb4.mono hb0r.out.size)⟩
            · have hkn : k = 1 := by omega
              have hadd : addUp ps sizes [48] = (sum, 0) := by rw [hka.out.2, hkn, hn.out, List.drop_length, addUp_nil]
              have hv : Hid (tailR mi true ps R = if mi then negT sum else (sum, 0)) := Lib.hid (by rw [hQ.out, hadd]; rfl)
              subst hkn
              have hneg := neg_b ⟨sum.toArray⟩ wr (hL3.out.below hbr.out hL3.out.size) (by rw [← list_len]; show sum.length ≤ 2 ^ 63 - 1; have := hka.out.1; omega)
              rw [show (⟨sum.toArray⟩ : ByteArray).data.toList = sum by simp] at hneg
              clear hadd
              cases mi with
              | false =>
                clear hneg
                go_wp2_with fail
                go_ret2
                exact ⟨by rw [hres.out, hv.out]; rfl, hb0r.out⟩
              | true =>
                go_wp2_with fail
                refine hneg.mono ?_
                rintro e w6 ⟨rfl, hb6⟩
                go_wp2_with fail
                go_ret2
                exact ⟨by rw [hres.out, hv.out]; rfl, hb0r.out.trans (hb6.mono hb0r.out.size)⟩
      · have g1 : (RB.toList == []) = false := by rw [hRl]; simpa using hRe
        have hQ : Hid (tailR mi true ps R = ([], 5)) := Lib.hid (by unfold tailR; rw [if_pos (.inr (.inl hRe))])
        clear hRl
        replace hsm := Lib.hid hsm
        replace hRe := Lib.hid hRe
        go_wp2_with fail
        go_ret2
        exact ⟨by rw [hres.out, hQ.out]; rfl, hbT.out⟩
  | true =>
    have hc3' : c3 = c2.drop 1 := by rw [hc3.out]; rfl
    obtain ⟨C3, hC3⟩ : ∃ C3 : ByteArray, C3 = ⟨c3.toArray⟩ := ⟨_, rfl⟩
    have hC3d : C3.data.toList = c3 := by rw [hC3]
    have hc3l : c3.length ≤ 200 := by rw [hc3', List.length_drop]; omega
    obtain ⟨more, hmore⟩ : ∃ more, more = (cutP [72, 77, 83] c3).1 := ⟨_, rfl⟩
    obtain ⟨R, hR⟩ : ∃ R, R = (cutP [72, 77, 83] c3).2 := ⟨_, rfl⟩
    have h7 : cutP [72, 77, 83] c3 = (more, R) := by rw [hmore, hR]
    have hml : more.length = 3 := by rw [hmore, cutP_len]; rfl
    have hmp : ∀ p ∈ more, p.length ≤ 200 := fun p hp => Nat.le_trans (cutP_each _ _ p (by rw [← hmore]; exact hp)) hc3l
    have hmain : Hid (secondsP s.data.toList = secondsR mi ok true ([Y] ++ more) more R) := Lib.hid (hIs.out rfl more R (by rw [← hc3']; exact h7))
    obtain ⟨W3, hW3⟩ : ∃ W3, W3 = w2.alloc (.cells #[.int .u8 72, .int .u8 77, .int .u8 83] 5) := ⟨_, rfl⟩
    have hbe3 : Below w2.heap.size w2 W3 := by rw [hW3]; exact (Below.refl _ _).alloc (Nat.le_refl _) _
    have hx3 : W3.heap[w2.heap.size]? = some (.cells #[.int .u8 72, .int .u8 77, .int .u8 83] 5 (0, 0)) := by rw [hW3]; exact (MapKept.heap_alloc _ _).1
    have hcu2 := cut_d C3 [72, 77, 83] W3 w2.heap.size (heap_lt hx3) (fun i h => by
      rw [Lib.cell_of_heap hx3]
      match i, h with
      | 0, _ => rfl
      | 1, _ => rfl
      | 2, _ => rfl) (by decide) (by rw [← list_len, hC3d]; omega)
    rw [hC3d, h7] at hcu2
    have ho3 := own_below ho.out hbe3
    have hbW3 := hbW2.out.trans (hbe3.mono hbW2.out.size)
    rw [← hC3]
    obtain ⟨i0, hi, hz0, hz1, hz2⟩ := info_parts info_str
    clear hC3d hc3' hc3l hmore hR h7 hIs hNot hc3 his hx3 ho hbe3 hbW2 hcl hC2
    replace ho3 := Lib.hid ho3
    replace hbW3 := Lib.hid hbW3
    replace hml := Lib.hid hml
    replace hC3 := Lib.hid hC3
    go_wp2_with fail
    rw [← hW3]
    refine hcu2.mono ?_
    rintro e w4 ⟨v2, rfl, ho4, hb4⟩
    clear hcu2 hW3
    obtain ⟨g2, cap2, rfl⟩ := own_form1 ho4 (by decide)
    have hoY := own_below ho3.out hb4
    have hbW4 := hbW3.out.trans (hb4.mono hbW3.out.size)
    have hso2 := some_d more 3 g2 cap2 w4 _ ho4 hml.out.symm (by rw [hml.out]; decide) (by
      have : ∀ (l : List (List UInt8)), (∀ p ∈ l, p.length ≤ 200) → l.flatten.length ≤ 200 * l.length := by
        intro l
        induction l with
        | nil => intro _; simp
        | cons x l ih =>
          intro h
          have h1 := h x (List.mem_cons_self ..)
          have h2 := ih fun p hp => h p (List.mem_cons_of_mem _ hp)
          rw [List.flatten_cons, List.length_append, List.length_cons]; omega
      have := this more hmp
      rw [hml.out] at this; omega)
    obtain ⟨sm2, hsm2⟩ : ∃ sm2, sm2 = someP more := ⟨_, rfl⟩
    rw [← hsm2] at hso2
    obtain ⟨RB, hRB⟩ : ∃ RB : ByteArray, RB = ⟨R.toArray⟩ := ⟨_, rfl⟩
    have hRl : RB.toList = R := by rw [hRB, ByteArray.toList_mk]
    rw [← hRB]
    replace ho4 := Lib.hid ho4
    replace hoY := Lib.hid hoY
    replace hbW4 := Lib.hid hbW4
    replace hRl := Lib.hid hRl
    clear hb4 hRB hbW3
    go_wp2_with fail
    refine hso2.mono ?_
    rintro e w5 ⟨rfl, hb5⟩
    clear hso2
    have hbW5 := Lib.hid (hbW4.out.trans (hb5.mono hbW4.out.size))
    have ho5 := own_below ho4.out hb5
    have hoY5 := own_below hoY.out hb5
    clear hb5 ho4 hoY hbW4
    cases sm2 with
    | false =>
      have hQ : Hid (secondsP s.data.toList = ([], 5)) := Lib.hid (by rw [hmain.out]; unfold secondsR; rw [if_pos ⟨rfl, hsm2.symm⟩])
      replace hsm2 := Lib.hid hsm2
      clear ho5 hoY5
      go_wp2_with fail
      go_ret2
      exact ⟨by rw [hQ.out]; rfl, hbW5.out⟩
    | true =>
      obtain ⟨ps, hps⟩ : ∃ ps, ps = [Y] ++ more := ⟨_, rfl⟩
      have hres : Hid (secondsP s.data.toList = tailR mi ok ps R) := Lib.hid (by rw [hmain.out, tailR_is hsm2.symm, hps])
      have hpl : Hid (∀ p ∈ ps, p.length ≤ 1000) := Lib.hid (fun p hp => by
        rw [hps] at hp
        rcases List.mem_append.1 hp with h | h
        · rw [List.mem_singleton.1 h]; omega
        · have := hmp p h; omega)
      have hn : 4 = ps.length := by rw [hps, List.length_append, hml.out]; rfl
      have hfl : ps.flatten.length ≤ 100000 := by
        have : ∀ (l : List (List UInt8)), (∀ p ∈ l, p.length ≤ 1000) → l.flatten.length ≤ 1000 * l.length := by
          intro l
          induction l with
          | nil => intro _; simp
          | cons x l ih =>
            intro h
            have h1 := h x (List.mem_cons_self ..)
            have h2 := ih fun p hp => h p (List.mem_cons_of_mem _ hp)
            rw [List.flatten_cons, List.length_append, List.length_cons]; omega
        have := this ps hpl.out
        rw [← hn] at this; omega
      have hnews : ∀ j u, (strsL more)[j]? = some u → w5.cell? (Addr.add ⟨g2, 0, none⟩ j) = some u := fun j u hu => ho5.cells (g := g2) rfl j u hu
      have hone : ∀ u ∈ strsL more, u.oneCell' = true := fun u hu => by
        rw [strsL, List.mem_map] at hu
        obtain ⟨p, _, rfl⟩ := hu
        rfl
      have hsl : (strsL more).length = 3 * 1 := by rw [strsL_len, hml.out]
      have hbase : W1.heap.size + 1 ≤ w5.heap.size := by have := (hoY5.lt g rfl).2; have := (hoY5.lt g rfl).1; omega
      replace hsm2 := Lib.hid hsm2
      replace hps := Lib.hid hps
      replace hn := Lib.hid hn
      clear ho5 hmp hmain
      replace hRl := hRl.out
      obtain ⟨sm, hsm⟩ : ∃ sm, sm = someP ps := ⟨_, rfl⟩
      cases ok with
      | false =>
        have hQ : Hid (tailR mi false ps R = ([], 5)) := Lib.hid (by unfold tailR; rw [if_pos (.inl rfl)])
        clear hRl
        replace hsm := Lib.hid hsm
        go_wp2_with (at_builtin; go_loud (refine wpList_append_own _ rfl _ _ 32 rfl (W1.heap.size + 1) 9 i0 (.string ⟨#[]⟩) 1 16 Tryz.underlying32 hi hz0 hz1 hz2 rfl (by decide) _ _ _ rfl hoY5 ⟨g2, 0, none⟩ 3 cap2 (strsL more) rfl hsl hnews hone (by decide) (by decide) hbase ?_); intro v' wT hown' hgrow3 hnil3)
        have hbT : Hid (Below W.heap.size W wT) := Lib.hid (Below.grown hbW5.out hgrow3 hbW5.out.size (fun j hj => by have := (hoY5.lt _ hj).1; omega))
        have ho : Hid (wT.ownsRow (W1.heap.size + 1) 9 1 v' 4 (strsL ps)) := Lib.hid (by rw [hps.out]; simpa [strsL] using hown')
        clear hown' hgrow3 hnil3 hoY5 hnews hone hsl
        go_ret2
        exact ⟨by rw [hres.out, hQ.out]; rfl, hbT.out⟩
      | true =>
        by_cases hRe : R = []
        · have g1 : (RB.toList == []) = true := by rw [hRl, hRe]; rfl
          clear hRl
          cases sm with
          | false =>
            have hQ : Hid (tailR mi true ps R = ([], 5)) := Lib.hid (by unfold tailR; rw [if_pos (.inr (.inr hsm.symm))])
            replace hsm := Lib.hid hsm
            replace hRe := Lib.hid hRe
            go_wp2_with (at_builtin; go_loud (refine wpList_append_own _ rfl _ _ 32 rfl (W1.heap.size + 1) 9 i0 (.string ⟨#[]⟩) 1 16 Tryz.underlying32 hi hz0 hz1 hz2 rfl (by decide) _ _ _ rfl hoY5 ⟨g2, 0, none⟩ 3 cap2 (strsL more) rfl hsl hnews hone (by decide) (by decide) hbase ?_); intro v' wT hown' hgrow3 hnil3)
            have hbT : Hid (Below W.heap.size W wT) := Lib.hid (Below.grown hbW5.out hgrow3 hbW5.out.size (fun j hj => by have := (hoY5.lt _ hj).1; omega))
            have ho : Hid (wT.ownsRow (W1.heap.size + 1) 9 1 v' 4 (strsL ps)) := Lib.hid (by rw [hps.out]; simpa [strsL] using hown')
            clear hown' hgrow3 hnil3 hoY5 hnews hone hsl
            obtain ⟨g, cap, rfl⟩ := own_form1 ho.out (by decide)
            have hso := some_d ps 4 g cap wT _ ho.out hn.out (by rw [← hn.out]; decide) hfl
            rw [← hsm.out] at hso
            refine hso.mono ?_
            rintro e w3 ⟨rfl, hb3⟩
            clear hso
            go_wp2_with fail
            go_ret2
            exact ⟨by rw [hres.out, hQ.out]; rfl, hbT.out.trans (hb3.mono hbT.out.size)⟩
          | true =>
            have hQ : Hid (tailR mi true ps R = if (addUp ps sizes [48]).2 ≠ 0 then addUp ps sizes [48] else if mi then negT (addUp ps sizes [48]).1 else addUp ps sizes [48]) := Lib.hid (by
              unfold tailR
              rw [if_neg]
              rintro (h | h | h)
              · cases h
              · exact h hRe
              · rw [← hsm] at h; cases h)
            replace hsm := Lib.hid hsm
            replace hRe := Lib.hid hRe
            go_wp2_with (at_builtin; go_loud (refine wpList_append_own _ rfl _ _ 32 rfl (W1.heap.size + 1) 9 i0 (.string ⟨#[]⟩) 1 16 Tryz.underlying32 hi hz0 hz1 hz2 rfl (by decide) _ _ _ rfl hoY5 ⟨g2, 0, none⟩ 3 cap2 (strsL more) rfl hsl hnews hone (by decide) (by decide) hbase ?_); intro v' wT hown' hgrow3 hnil3)
            have hbT : Hid (Below W.heap.size W wT) := Lib.hid (Below.grown hbW5.out hgrow3 hbW5.out.size (fun j hj => by have := (hoY5.lt _ hj).1; omega))
            have ho : Hid (wT.ownsRow (W1.heap.size + 1) 9 1 v' 4 (strsL ps)) := Lib.hid (by rw [hps.out]; simpa [strsL] using hown')
            clear hown' hgrow3 hnil3 hoY5 hnews hone hsl
            obtain ⟨g, cap, rfl⟩ := own_form1 ho.out (by decide)
            have hso := some_d ps 4 g cap wT _ ho.out hn.out (by rw [← hn.out]; decide) hfl
            rw [← hsm.out] at hso
            refine hso.mono ?_
            rintro e w3 ⟨rfl, hb3⟩
            clear hso
            have hb03 := Lib.hid (hbT.out.trans (hb3.mono hbT.out.size))
            have ho3 := own_below ho.out hb3
            have hL3 := Lib.hid (hL.out.below hb03.out hL.out.size)
            have hg3 := Lib.hid (ho3.lt g rfl).2
            have hcell : Hid (∀ k p, ps[k]? = some p → w3.cell? ⟨g, k, none⟩ = some (.string ⟨p.toArray⟩)) := Lib.hid (fun k p hp => by
              have h2 := ho3.cells (g := g) rfl k (.string ⟨p.toArray⟩) (by rw [strsL, List.getElem?_map, hp]; rfl)
              rw [show (⟨g, k, none⟩ : Addr) = (⟨g, 0, none⟩ : Addr).add k by cases k <;> simp [Addr.add]]
              exact h2)
            clear hb3 ho3
            go_wp2_with fail
            go_loopw [12, 67] (fun sv i wr => ∃ (k : Nat) (sum : List UInt8), sv = .string ⟨sum.toArray⟩ ∧ i = .int .i64 k ∧ k ≤ 4 ∧ Hid (sum.length ≤ 60 ∧ addUp ps sizes [48] = addUp (ps.drop k) (sizes.drop k) sum) ∧ Hid (Below w3.heap.size w3 wr)) (fun _ i _ => 4 - (intOf i).toNat)
            case atStart => exact ⟨0, [48], rfl, rfl, by decide, Lib.hid ⟨by decide, rfl⟩, Lib.hid (Below.refl _ _)⟩
            case round =>
              obtain ⟨k, sum, rfl, rfl, hk, hka, hbr⟩ := hrel
              have hb0r := Lib.hid (hb03.out.trans (hbr.out.mono hb03.out.size))
              by_cases hlt : k < 4
              · obtain ⟨p, hp⟩ : ∃ p, ps[k]? = some p := ⟨ps[k]'(by rw [← hn.out]; exact hlt), List.getElem?_eq_getElem _⟩
                have hdr : Hid (ps.drop k = p :: ps.drop (k + 1)) := Lib.hid (by
                  obtain ⟨h1, h2⟩ := List.getElem?_eq_some_iff.1 hp
                  rw [← h2]; exact List.drop_eq_getElem_cons h1)
                obtain ⟨t, ht1, ht2, ht3⟩ := sizes_at k (by omega)
                replace ht3 := Lib.hid ht3
                have q0 : wr.cell? ⟨g, k, none⟩ = some (.string ⟨p.toArray⟩) := (hbr.out.cell (p := ⟨g, k, none⟩) hg3.out).trans (hcell.out k p hp)
                have hpl' : p.length ≤ 1000 := hpl.out p (List.mem_of_getElem? hp)
                replace hp := Lib.hid hp
                have hkk : (k : Int) < 4 := by omega
                obtain ⟨P, hP⟩ : ∃ P : ByteArray, P = ⟨p.toArray⟩ := ⟨_, rfl⟩
                have hPd : P.data.toList = p := by rw [hP]
                have hPs : P.size ≤ 1000 := by rw [← list_len, hPd]; exact hpl'
                rw [← hP] at q0
                replace hP := Lib.hid hP
                by_cases hpe : p = []
                · have g2 : (P.toList == []) = true := by rw [ByteArray.toList_eq, hPd, hpe]; rfl
                  have hadd : addUp ps sizes [48] = addUp (ps.drop (k + 1)) (sizes.drop (k + 1)) sum := by rw [hka.out.2, hdr.out, ht3.out, hpe, addUp_skip]
                  replace hadd := Lib.hid hadd
                  replace hpe := Lib.hid hpe
                  clear hPd ht1 ht2 hpl'
                  go_wp2_with fail
                  exact ⟨⟨k + 1, sum, rfl, by simp, by omega, Lib.hid ⟨hka.out.1, hadd.out⟩, hbr⟩, by simp [intOf]; omega⟩
                · have g2 : (P.toList == []) = false := by rw [ByteArray.toList_eq, hPd]; simpa using hpe
                  have hLr := hL3.out.below hbr.out hL3.out.size
                  obtain ⟨c1, c2, c3⟩ := part_calls P ⟨t.toArray⟩ ⟨sum.toArray⟩ wr hLr hPs (by rw [← list_len]; show t.length ≤ 1000; omega) (by rw [← list_len]; show sum.length ≤ 1000; have := hka.out.1; omega)
                  rw [hPd] at c1
                  rw [show (⟨t.toArray⟩ : ByteArray).data.toList = t by simp] at c2
                  rw [show (⟨sum.toArray⟩ : ByteArray).data.toList = sum by simp] at c3
                  replace c1 := c1 wr (Below.refl _ _)
                  obtain ⟨x, hx⟩ : ∃ x, x = (parseT p).1 := ⟨_, rfl⟩
                  obtain ⟨e1, he1⟩ : ∃ e1, e1 = (parseT p).2 := ⟨_, rfl⟩
                  rw [← hx, ← he1] at c1
                  have hxl : x.length ≤ 60 := by rw [hx]; exact parseT_len p
                  obtain ⟨y, hy⟩ : ∃ y, y = (mulT x t).1 := ⟨_, rfl⟩
                  obtain ⟨e2, he2⟩ : ∃ e2, e2 = (mulT x t).2 := ⟨_, rfl⟩
                  have hyl : y.length ≤ 60 := by rw [hy]; exact mulT_len _ _
                  obtain ⟨z, hz⟩ : ∃ z, z = (addT sum y).1 := ⟨_, rfl⟩
                  obtain ⟨e3, he3⟩ : ∃ e3, e3 = (addT sum y).2 := ⟨_, rfl⟩
                  have hzl : z.length ≤ 60 := by rw [hz]; exact addT_len _ _
                  have c2' := Lib.hid (fun w hb => c2 w x hxl hb)
                  rw [← hy, ← he2] at c2'
                  have c3' := Lib.hid (fun w hb => c3 w y hyl hb)
                  rw [← hz, ← he3] at c3'
                  have r1 : Hid (e1 ≠ 0 → addUp ps sizes [48] = ([], 40)) := Lib.hid (fun h => by rw [hka.out.2, hdr.out, ht3.out, addUp_err1 _ _ _ _ hpe (by rw [← he1]; exact h)])
                  have r2 : Hid (e1 = 0 → e2 ≠ 0 → addUp ps sizes [48] = ([], 40)) := Lib.hid (fun h1 h => by rw [hka.out.2, hdr.out, ht3.out, addUp_err2 _ _ _ _ hpe (by rw [← he1]; exact h1) (by rw [← hx, ← he2]; exact h)])
                  have r3 : Hid (e1 = 0 → e2 = 0 → e3 ≠ 0 → addUp ps sizes [48] = ([], 40)) := Lib.hid (fun h1 h2 h => by rw [hka.out.2, hdr.out, ht3.out, addUp_err3 _ _ _ _ hpe (by rw [← he1]; exact h1) (by rw [← hx, ← he2]; exact h2) (by rw [← hx, ← hy, ← he3]; exact h)])
                  have r4 : Hid (e1 = 0 → e2 = 0 → e3 = 0 → addUp ps sizes [48] = addUp (ps.drop (k + 1)) (sizes.drop (k + 1)) z) := Lib.hid (fun h1 h2 h => by rw [hka.out.2, hdr.out, ht3.out, addUp_next _ _ _ _ hpe (by rw [← he1]; exact h1) (by rw [← hx, ← he2]; exact h2) (by rw [← hx, ← hy, ← he3]; exact h), ← hx, ← hy, ← hz])
                  replace hx := Lib.hid hx
                  replace he1 := Lib.hid he1
                  replace hy := Lib.hid hy
                  replace he2 := Lib.hid he2
                  replace hz := Lib.hid hz
                  replace he3 := Lib.hid he3
                  clear c2 c3 hPd hpl' hPs hxl hyl
                  have hq5 : ∀ w : World, (w.alloc (.cells #[.string ⟨#[56, 54, 52, 48, 48]⟩, .string ⟨#[51, 54, 48, 48]⟩, .string ⟨#[54, 48]⟩, .string ⟨#[49]⟩] 9)).cell? ⟨w.heap.size, k, none⟩ = some (.string ⟨t.toArray⟩) := fun w => by
                    rw [World.cell?_alloc_at _ _ _ _ rfl]
                    have : k = 0 ∨ k = 1 ∨ k = 2 ∨ k = 3 := by omega
                    rcases this with rfl | rfl | rfl | rfl <;> (injection ht1 with ht1; rw [← ht1]; rfl)
                  replace hq5 := Lib.hid hq5
                  replace ht1 := Lib.hid ht1
                  clear ht2
                  go_wp2_with fail
                  refine c1.mono ?_
                  rintro e w4 ⟨rfl, hb4⟩
                  clear c1
                  by_cases h1 : e1 = 0
                  · subst h1
                    have hq6 := hq5.out w4
                    have hkk4 : (k : Int) < 4 := by omega
                    go_wp2_with fail
                    refine (c2'.out _ (hb4.alloc hb4.size _)).mono ?_
                    rintro e w5 ⟨rfl, hb5⟩
                    have hbr5 : Below wr.heap.size wr w5 := (hb4.alloc hb4.size _).trans (hb5.mono (hb4.alloc hb4.size _).size)
                    clear hb5 hb4 hq6
                    by_cases h2 : e2 = 0
                    · subst h2
                      go_wp2_with fail
                      refine (c3'.out _ hbr5).mono ?_
                      rintro e w6 ⟨rfl, hb6⟩
                      have hbr6 := hbr5.trans (hb6.mono hbr5.size)
                      clear hb6 hbr5
                      by_cases h3 : e3 = 0
                      · subst h3
                        have hz60 := Lib.hid hzl
                        go_wp2_with fail
                        exact ⟨⟨k + 1, z, rfl, by simp, by omega, Lib.hid ⟨hz60.out, r4.out (by simp) (by simp) (by simp)⟩, Lib.hid (hbr.out.trans (hbr6.mono hbr.out.size))⟩, by simp [intOf]; omega⟩
                      · have g3 : (e3 == 0) = false := by simpa using h3
                        have hr := r3.out (by simp) (by simp) h3
                        have hv : Hid (tailR mi true ps R = ([], 40)) := Lib.hid (by rw [hQ.out, hr]; rfl)
                        clear hr
                        replace h3 := Lib.hid h3
                        go_wp2_with fail
                        go_ret2
                        exact ⟨by rw [hres.out, hv.out]; rfl, hb0r.out.trans (hbr6.mono hb0r.out.size)⟩
                    · have g3 : (e2 == 0) = false := by simpa using h2
                      have hr := r2.out (by simp) h2
                      have hv : Hid (tailR mi true ps R = ([], 40)) := Lib.hid (by rw [hQ.out, hr]; rfl)
                      clear hr
                      replace h2 := Lib.hid h2
                      go_wp2_with fail
                      go_ret2
                      exact ⟨by rw [hres.out, hv.out]; rfl, hb0r.out.trans (hbr5.mono hb0r.out.size)⟩
                  · have g3 : (e1 == 0) = false := by simpa using h1
                    have hr := r1.out h1
                    have hv : Hid (tailR mi true ps R = ([], 40)) := Lib.hid (by rw [hQ.out, hr]; rfl)
                    clear hr
                    replace h1 := Lib.hid h1
                    go_wp2_with fail
                    go_ret2
                    exact ⟨by rw [hres.out, hv.out]; rfl, hb0r.out.trans (hb4.mono hb0r.out.size)⟩
              · have hkn : k = 4 := by omega
                have hadd : addUp ps sizes [48] = (sum, 0) := by rw [hka.out.2, hkn, hn.out, List.drop_length, addUp_nil]
                have hv : Hid (tailR mi true ps R = if mi then negT sum else (sum, 0)) := Lib.hid (by rw [hQ.out, hadd]; rfl)
                subst hkn
                have hneg := neg_b ⟨sum.toArray⟩ wr (hL3.out.below hbr.out hL3.out.size) (by rw [← list_len]; show sum.length ≤ 2 ^ 63 - 1; have := hka.out.1; omega)
                rw [show (⟨sum.toArray⟩ : ByteArray).data.toList = sum by simp] at hneg
                clear hadd
                cases mi with
                | false =>
                  clear hneg
                  go_wp2_with fail
                  go_ret2
                  exact ⟨by rw [hres.out, hv.out]; rfl, hb0r.out⟩
                | true =>
                  go_wp2_with fail
                  refine hneg.mono ?_
                  rintro e w6 ⟨rfl, hb6⟩
                  go_wp2_with fail
                  go_ret2
                  exact ⟨by rw [hres.out, hv.out]; rfl, hb0r.out.trans (hb6.mono hb0r.out.size)⟩
        · have g1 : (RB.toList == []) = false := by rw [hRl]; simpa using hRe
          have hQ : Hid (tailR mi true ps R = ([], 5)) := Lib.hid (by unfold tailR; rw [if_pos (.inr (.inl hRe))])
          clear hRl
          replace hsm := Lib.hid hsm
          replace hRe := Lib.hid hRe
          go_wp2_with (at_builtin; go_loud (refine wpList_append_own _ rfl _ _ 32 rfl (W1.heap.size + 1) 9 i0 (.string ⟨#[]⟩) 1 16 Tryz.underlying32 hi hz0 hz1 hz2 rfl (by decide) _ _ _ rfl hoY5 ⟨g2, 0, none⟩ 3 cap2 (strsL more) rfl hsl hnews hone (by decide) (by decide) hbase ?_); intro v' wT hown' hgrow3 hnil3)
          have hbT : Hid (Below W.heap.size W wT) := Lib.hid (Below.grown hbW5.out hgrow3 hbW5.out.size (fun j hj => by have := (hoY5.lt _ hj).1; omega))
          have ho : Hid (wT.ownsRow (W1.heap.size + 1) 9 1 v' 4 (strsL ps)) := Lib.hid (by rw [hps.out]; simpa [strsL] using hown')
          clear hown' hgrow3 hnil3 hoY5 hnews hone hsl
          go_ret2
          exact ⟨by rw [hres.out, hQ.out]; rfl, hbT.out⟩
end Go.Proofs.YtjndcehkgfbagaaGreatDoor

namespace Go.Proofs.YtjndcehkgfbagaaGreatDoor
open Go.RowKit NumP DurP Go.Proofs.YtjndcehkgfbagaaGreatDoorW.PrintWords
set_option linter.unusedVariables false

theorem ParseSeconds_d (s : ByteArray) (W : World) (hL : LaidW W) (hs : s.size ≤ maxLen) : Calls Tryz.prog 18 #[.string s] W (StrPost W (secondsP s.data.toList)) := by
  by_cases h : 200 < s.size
  · exact seconds_long s W hs h
  · exact seconds_d s W hL h
def IntAt (W : World) (n k : Int) (e : Ending) (w' : World) : Prop := e = .returned (.tuple #[.int .i64 n, .int .i64 k]) ∧ Below W.heap.size W w'
def StrAt (W : World) (t : ByteArray) (k : Int) (e : Ending) (w' : World) : Prop := e = .returned (.tuple #[.string t, .int .i64 k]) ∧ Below W.heap.size W w'
theorem ParseMonths_at {s : ByteArray} {l : List UInt8} {n k : Int} (hd : s.data.toList = l) (h : monthsP l = (n, k)) (W : World) (hs : s.size ≤ maxLen) : Calls Tryz.prog 13 #[.string s] W (IntAt W n k) := by
  have := ParseMonths_d s W hs
  rw [hd, h] at this
  exact this
theorem TextMonths_at {n k : Int} {t : ByteArray} {l : List UInt8} (hd : t.data.toList = l) (h : textMP n = (l, k)) (W : World) (hL : LaidD W) : Calls Tryz.prog 16 #[.int .i64 n] W (StrAt W t k) := by
  have := TextMonths_d n W hL.itoa
  rw [h, ← hd] at this
  rw [show t = ⟨t.data.toList.toArray⟩ by simp]
  exact this
theorem ParseSeconds_at {s t : ByteArray} {l m : List UInt8} {k : Int} (hd : s.data.toList = l) (ht : t.data.toList = m) (h : secondsP l = (m, k)) (W : World) (hL : LaidD W) (hs : s.size ≤ maxLen) : Calls Tryz.prog 18 #[.string s] W (StrAt W t k) := by
  have := ParseSeconds_d s W hL.num hs
  rw [hd, h, ← ht] at this
  rw [show t = ⟨t.data.toList.toArray⟩ by simp]
  exact this
theorem TextSeconds_at {s t : ByteArray} {l m : List UInt8} {k : Int} (hd : s.data.toList = l) (ht : t.data.toList = m) (h : textSP l = (m, k)) (W : World) (hL : LaidD W) (hs : s.size ≤ maxLen) : Calls Tryz.prog 20 #[.string s] W (StrAt W t k) := by
  have := TextSeconds_d s W hL.num hs
  rw [hd, h, ← ht] at this
  rw [show t = ⟨t.data.toList.toArray⟩ by simp]
  exact this
set_option maxRecDepth 100000 in
set_option maxHeartbeats 2000000 in
theorem works_calls (W : World) (hL : LaidD W) : Calls Tryz.prog 15 #[] W fun e w' => e = .returned (.bool true) ∧ Below W.heap.size W w' := by
  obtain ⟨p1, p2, p3, p4⟩ := works_plain
  have c1 := fun W => ParseMonths_at (s := ⟨#[80, 49, 89, 50, 77]⟩) rfl p1 W (by decide)
  have c2 := fun W hL => TextMonths_at (t := ⟨#[80, 49, 89, 50, 77]⟩) rfl p2 W hL
  have c3 := fun W hL => ParseSeconds_at (s := ⟨#[80, 49, 68, 84, 50, 72, 51, 77, 52, 46, 53, 83]⟩) (t := ⟨#[57, 51, 55, 56, 52, 46, 53]⟩) rfl rfl p3 W hL (by decide)
  have c4 := fun W hL => TextSeconds_at (s := ⟨#[57, 51, 55, 56, 52, 46, 53]⟩) (t := ⟨#[80, 49, 68, 84, 50, 72, 51, 77, 52, 46, 53, 83]⟩) rfl rfl p4 W hL (by decide)
  replace c1 := Lib.hid c1
  replace c2 := Lib.hid c2
  replace c3 := Lib.hid c3
  replace c4 := Lib.hid c4
  replace hL := Lib.hid hL
  clear p1 p2 p3 p4
  go_enter Tryz.func15, Tryz.ntmps15
  go_wp2_with fail
  refine (c1.out W).mono ?_
  rintro e w1 ⟨rfl, hb1⟩
  have hL1 := Lib.hid (hL.out.below hb1 hL.out.num.size)
  go_wp2_with fail
  refine (c2.out w1 hL1.out).mono ?_
  rintro e w2 ⟨rfl, hb2⟩
  have hL2 := Lib.hid (hL1.out.below hb2 hL1.out.num.size)
  go_wp2_with fail
  refine (c3.out w2 hL2.out).mono ?_
  rintro e w3 ⟨rfl, hb3⟩
  have hL3 := Lib.hid (hL2.out.below hb3 hL2.out.num.size)
  go_wp2_with fail
  refine (c4.out w3 hL3.out).mono ?_
  rintro e w4 ⟨rfl, hb4⟩
  go_wp2_with fail
  go_ret
  have b2 := hb1.trans (hb2.mono hb1.size)
  have b3 := b2.trans (hb3.mono b2.size)
  exact ⟨rfl, b3.trans (hb4.mono b3.size)⟩
/-- What every statement of this chapter comes to. -/
def Says (F : Nat) (args : Array Value) (W : World) : Prop := Calls Tryz.prog F args W fun e w' => e = .returned (.bool true) ∧ Below W.heap.size W w'
end Go.Proofs.YtjndcehkgfbagaaGreatDoor

namespace Go.Proofs.YtjndcehkgfbagaaGreatDoor.DurP
open NumP Go.Proofs.YtjndcehkgfbagaaGreatDoor
set_option linter.unusedVariables false

def Dig (q : List UInt8) : Prop := ∀ c ∈ q, isDig c = true
theorem digN_app {q r : List UInt8} (hq : Dig q) (hr : ∀ c, r.head? = some c → isDig c = false) : digN (q ++ r) = q.length := by
  unfold digN
  rw [List.takeWhile_append_of_pos hq]
  cases r with
  | nil => simp
  | cons c r => rw [List.takeWhile_cons, if_neg (by rw [hr c rfl]; decide)]; simp
theorem at_app (q : List UInt8) (x : UInt8) (r : List UInt8) : (q ++ x :: r)[q.length]? = some x := by simp
theorem drop_app (q : List UInt8) (x : UInt8) (r : List UInt8) : (q ++ x :: r).drop (q.length + 1) = r := by
  rw [← List.drop_drop, List.drop_left]; rfl
theorem partEnd_app {c x : UInt8} {q r : List UInt8} (hq : Dig q) (hx : isDig x = false) (h : ¬ (c = 83 ∧ x = 46)) : partEnd c (q ++ x :: r) = q.length := by
  refine partEnd_no (digN_app hq fun y hy => by cases hy; exact hx).symm ?_
  rintro ⟨h1, _, h2, _⟩
  rw [at_app] at h2
  cases h2
  exact h ⟨h1, rfl⟩
theorem partP_hit {c : UInt8} {q r : List UInt8} (hq : Dig q) (h0 : q ≠ []) (hc : isDig c = false) (h46 : c ≠ 46) : partP c (q ++ c :: r) = (q, r) := by
  rw [partP_yes (partEnd_app hq hc fun h => h46 h.2) (List.length_pos_iff.2 h0) (at_app ..), drop_app, List.take_left]
theorem partP_frac {w f r : List UInt8} (hw : Dig w) (hf : Dig f) (h0 : w ≠ []) (h1 : f ≠ []) : partP 83 (w ++ (46 :: (f ++ 83 :: r))) = (w ++ 46 :: f, r) := by
  have e : partEnd 83 (w ++ (46 :: (f ++ 83 :: r))) = w.length + (f.length + 1) :=
    partEnd_yes (digN_app hw fun y hy => by cases hy; decide).symm (by rw [drop_app]; exact (digN_app hf fun y hy => by cases hy; decide).symm) rfl (List.length_pos_iff.2 h0) (at_app ..) (List.length_pos_iff.2 h1)
  have e2 : w ++ (46 :: (f ++ 83 :: r)) = (w ++ 46 :: f) ++ 83 :: r := by simp
  have e3 : (w ++ 46 :: f).length = w.length + (f.length + 1) := by simp
  rw [partP_yes e (by have := List.length_pos_iff.2 h0; omega) (by rw [e2, ← e3]; exact at_app ..), e2, ← e3, drop_app, List.take_left]
/-- A part that is not there. -/
def Miss (c : UInt8) (r : List UInt8) : Prop := partP c r = ([], r)
theorem miss_nil (c : UInt8) : Miss c [] := by
  have h : partEnd c [] = 0 := partEnd_no rfl (by rintro ⟨_, h, _⟩; exact absurd h (by decide))
  exact partP_no h (by rintro ⟨h, _⟩; exact absurd h (by decide))
theorem miss_app {c x : UInt8} {q r : List UInt8} (hq : Dig q) (hx : isDig x = false) (hc : c ≠ x) (h : ¬ (c = 83 ∧ x = 46)) : Miss c (q ++ x :: r) := by
  refine partP_no (partEnd_app hq hx h) ?_
  rintro ⟨_, h2⟩
  rw [at_app] at h2
  cases h2
  exact hc rfl
/-- A part with its letter, if it is there. -/
def opt (c : UInt8) (q : List UInt8) : List UInt8 := if q = [] then [] else q ++ [c]
theorem opt_nil (c : UInt8) : opt c [] = [] := rfl
theorem opt_app {c : UInt8} {q : List UInt8} (h : q ≠ []) (r : List UInt8) : opt c q ++ r = q ++ c :: r := by unfold opt; rw [if_neg h]; simp
theorem opt_len (c : UInt8) (q : List UInt8) : (opt c q).length ≤ q.length + 1 := by unfold opt; split <;> simp
theorem partP_opt {c : UInt8} {q r : List UInt8} (hq : Dig q) (hc : isDig c = false) (h46 : c ≠ 46) (hr : Miss c r) : partP c (opt c q ++ r) = (q, r) := by
  by_cases h : q = []
  · rw [h]; exact hr
  · rw [opt_app h]; exact partP_hit hq h hc h46
theorem miss_opt {c x : UInt8} {q r : List UInt8} (hq : Dig q) (hx : isDig x = false) (hc : c ≠ x) (h46 : x ≠ 46) (hr : Miss c r) : Miss c (opt x q ++ r) := by
  by_cases h : q = []
  · rw [h]; exact hr
  · rw [opt_app h]; exact miss_app hq hx hc fun h => h46 h.2
theorem dig_nil : Dig [] := fun _ h => by cases h
theorem trim0_val : ∀ (l : List UInt8), valD (trim0 l) = valD l
  | [] => rfl
  | c :: l => by
    unfold trim0
    rw [List.dropWhile_cons]
    split
    · rename_i h
      rw [show valD (c :: l) = valD [c] * 10 ^ l.length + valD l from valD_app [c] l, eq_of_beq h, valD_one]
      have := trim0_val l
      unfold trim0 at this
      rw [this]; simp
    · rfl
theorem some_two (Y M : List UInt8) : someP [Y, M] = !(Y.isEmpty && M.isEmpty) := by cases Y <;> cases M <;> rfl
theorem sgn_head (neg : Bool) (r : List UInt8) : (((if neg then [45] else []) ++ 80 :: r : List UInt8).head? == some 45) = neg := by cases neg <;> rfl
theorem sgn_rest (neg : Bool) (r : List UInt8) : (if neg = true then ((if neg then [45] else []) ++ 80 :: r : List UInt8).drop 1 else ((if neg then [45] else []) ++ 80 :: r)) = 80 :: r := by cases neg <;> rfl
theorem sgn_len (neg : Bool) (a b : List UInt8) : ((if neg then [45] else []) ++ 80 :: (a ++ b) : List UInt8).length ≤ a.length + b.length + 2 := by cases neg <;> simp <;> omega
/-- Forms of months. -/
theorem months_form (neg : Bool) (Y M : List UInt8) (hY : Dig Y) (hM : Dig M) (hl : Y.length ≤ 11 ∧ M.length ≤ 11) (h0 : ¬ (Y = [] ∧ M = [])) (hv : 12 * (valD Y : Int) + (valD M : Int) ≤ most) :
    monthsP ((if neg then [45] else []) ++ 80 :: (opt 89 Y ++ opt 77 M)) = (if neg then -(12 * (valD Y : Int) + (valD M : Int)) else 12 * (valD Y : Int) + (valD M : Int), 0) := by
  have hcut : cutP [89, 77] (opt 89 Y ++ opt 77 M) = ([Y, M], []) := by
    have h1 : partP 77 (opt 77 M) = (M, []) := by
      have := partP_opt (c := 77) hM (by decide) (by decide) (miss_nil 77)
      rwa [List.append_nil] at this
    have h2 : Miss 89 (opt 77 M) := by
      have := miss_opt (c := 89) (x := 77) hM (by decide) (by decide) (by decide) (miss_nil 89)
      rwa [List.append_nil] at this
    rw [cut2, partP_opt hY (by decide) (by decide) h2, h1]
  have hlen := sgn_len neg (opt 89 Y) (opt 77 M)
  have hl1 := opt_len 89 Y
  have hl2 := opt_len 77 M
  rw [monthsP_eq (mi := neg) (ok := true) (b1 := 80 :: (opt 89 Y ++ opt 77 M)) (b2 := opt 89 Y ++ opt 77 M) (by omega) (sgn_head ..).symm (sgn_rest ..).symm rfl rfl hcut]
  unfold monthsR
  have hs : someP [Y, M] = true := by
    rw [some_two]
    cases Y
    · cases M
      · exact absurd ⟨rfl, rfl⟩ h0
      · rfl
    · rfl
  rw [if_neg (by rw [hs]; simp), if_neg (by have := trim0_len Y; have := trim0_len M; omega), trim0_val, trim0_val, if_neg (by omega)]
theorem months_none (neg : Bool) : monthsP ((if neg then [45] else []) ++ [80]) = (0, 5) := by cases neg <;> decide +kernel
theorem decF_dig : ∀ f n, n < 10 ^ (f + 1) → Dig (decF f n) ∧ decF f n ≠ [] ∧ valD (decF f n) = n
  | 0, n, h => by
    refine ⟨fun c hc => ?_, by simp [decF], ?_⟩
    · rw [decF] at hc; rw [List.mem_singleton.1 hc]; exact isDig_nat n (by simpa using h)
    · rw [decF, valD_one, dig_nat n (by simpa using h)]; omega
  | f + 1, n, h => by
    rw [decF]
    split
    · rename_i h10
      refine ⟨fun c hc => ?_, by simp, ?_⟩
      · rw [List.mem_singleton.1 hc]; exact isDig_nat n h10
      · rw [valD_one, dig_nat n h10]; omega
    · have ih := decF_dig f (n / 10) (by rw [Nat.pow_succ] at h; omega)
      have hm : n % 10 < 10 := Nat.mod_lt _ (by decide)
      refine ⟨fun c hc => ?_, by simp, ?_⟩
      · rcases List.mem_append.1 hc with h | h
        · exact ih.1 c h
        · rw [List.mem_singleton.1 h]; exact isDig_nat _ hm
      · rw [valD_app, ih.2.2, valD_one, dig_nat _ hm]
        show n / 10 * 10 ^ 1 + _ = _
        omega
theorem decF_short : ∀ f n k, n < 10 ^ (k + 1) → (decF f n).length ≤ k + 1
  | 0, n, k, _ => by simp [decF]
  | f + 1, n, k, h => by
    rw [decF]
    split
    · simp
    · rename_i h10
      cases k with
      | zero => exact absurd h (by simpa using h10)
      | succ k =>
        have := decF_short f (n / 10) k (by rw [Nat.pow_succ] at h; omega)
        rw [List.length_append]
        show _ + 1 ≤ _
        omega
theorem decP_dig {n : Nat} (h : n < 10 ^ 21) : Dig (decP n) ∧ decP n ≠ [] ∧ valD (decP n) = n := decF_dig 20 n h
/-- A number of months is read from its text. -/
theorem months_back (n : Int) (h : ¬ (n < -most ∨ most < n)) : (textMP n).2 = 0 ∧ (textMP n).1.length ≤ 30 ∧ monthsP (textMP n).1 = (n, 0) := by
  unfold textMP
  rw [if_neg h]
  by_cases h0 : n = 0
  · rw [if_pos h0, h0]; exact ⟨rfl, by decide, by decide +kernel⟩
  · rw [if_neg h0]
    unfold most at h
    obtain ⟨k, hk⟩ : ∃ k, k = n.natAbs := ⟨_, rfl⟩
    obtain ⟨neg, hneg⟩ : ∃ neg, neg = decide (n < 0) := ⟨_, rfl⟩
    simp only [← hk]
    obtain ⟨Y, hY⟩ : ∃ Y, Y = if 12 ≤ k then decP (k / 12) else [] := ⟨_, rfl⟩
    obtain ⟨M, hM⟩ : ∃ M, M = if k % 12 ≠ 0 then decP (k % 12) else [] := ⟨_, rfl⟩
    have hk10 : k ≤ 9999999999 := by omega
    have d1 := decP_dig (n := k / 12) (by omega)
    have d2 := decP_dig (n := k % 12) (by omega)
    have l1 : (decP (k / 12)).length ≤ 10 + 1 := decF_short 20 _ 10 (by omega)
    have l2 : (decP (k % 12)).length ≤ 1 + 1 := decF_short 20 _ 1 (by omega)
    have e1 : (if 12 ≤ k then decP (k / 12) ++ [89] else []) = opt 89 Y := by
      rw [hY]; split
      · unfold opt; rw [if_neg d1.2.1]
      · rfl
    have e2 : (if k % 12 ≠ 0 then decP (k % 12) ++ [77] else []) = opt 77 M := by
      rw [hM]; split
      · unfold opt; rw [if_neg d2.2.1]
      · rfl
    have hYp : Dig Y ∧ valD Y = k / 12 ∧ Y.length ≤ 11 ∧ (12 ≤ k → Y ≠ []) := by
      rw [hY]; split
      · exact ⟨d1.1, d1.2.2, l1, fun _ => d1.2.1⟩
      · exact ⟨dig_nil, by rw [valD_nil]; omega, by decide, fun h => by omega⟩
    have hMp : Dig M ∧ valD M = k % 12 ∧ M.length ≤ 2 ∧ (k % 12 ≠ 0 → M ≠ []) := by
      rw [hM]; split
      · exact ⟨d2.1, d2.2.2, l2, fun _ => d2.2.1⟩
      · exact ⟨dig_nil, by rw [valD_nil]; omega, by decide, fun h => by omega⟩
    have et : ((if n < 0 then [45, 80] else [80]) ++ (if 12 ≤ k then decP (k / 12) ++ [89] else []) ++ (if k % 12 ≠ 0 then decP (k % 12) ++ [77] else []) : List UInt8) = (if neg then [45] else []) ++ 80 :: (opt 89 Y ++ opt 77 M) := by
      rw [e1, e2, hneg]
      by_cases hn : n < 0
      · simp [hn]
      · simp [hn]
    rw [et]
    have hv : 12 * (valD Y : Int) + (valD M : Int) = k := by rw [hYp.2.1, hMp.2.1]; omega
    refine ⟨by simp, ?_, ?_⟩
    · have hlen := sgn_len neg (opt 89 Y) (opt 77 M)
      have hl1 := opt_len 89 Y
      have hl2 := opt_len 77 M
      show List.length _ ≤ 30
      have := hYp.2.2.1
      have := hMp.2.2.1
      omega
    · show monthsP _ = _
      rw [months_form neg Y M hYp.1 hMp.1 ⟨hYp.2.2.1, by have := hMp.2.2.1; omega⟩ ?_ (by rw [hv]; unfold most; omega), hv, hneg]
      · by_cases hn : n < 0
        · simp [hn]; omega
        · simp [hn]; omega
      · rintro ⟨h1, h2⟩
        by_cases h12 : 12 ≤ k
        · exact hYp.2.2.2 h12 h1
        · exact hMp.2.2.2 (by omega) h2
theorem textMP_out {n : Int} (h : n < -most ∨ most < n) : textMP n = ([], 6) := by unfold textMP; rw [if_pos h]
theorem textMP_inj {a b : Int} (ha : ¬ (a < -most ∨ most < a)) (hb : ¬ (b < -most ∨ most < b)) (h : (textMP a).1 = (textMP b).1) : a = b := by
  have h1 := (months_back a ha).2.2
  rw [h, (months_back b hb).2.2] at h1
  exact (congrArg Prod.fst h1).symm
theorem monthsR_in (mi ok : Bool) (Y M R : List UInt8) : ¬ ((monthsR mi ok Y M R).1 < -most ∨ most < (monthsR mi ok Y M R).1) := by
  unfold monthsR
  split
  · decide
  · split
    · decide
    · split
      · decide
      · rename_i h
        unfold most at h ⊢
        cases mi <;> simp <;> omega
theorem monthsR_neg (ok : Bool) (Y M R : List UInt8) : monthsR true ok Y M R = (-(monthsR false ok Y M R).1, (monthsR false ok Y M R).2) := by
  unfold monthsR
  split
  · rfl
  · split
    · rfl
    · split <;> rfl
theorem monthsP_in (l : List UInt8) : ¬ ((monthsP l).1 < -most ∨ most < (monthsP l).1) := by
  by_cases h : 200 < l.length
  · unfold monthsP; rw [if_pos h]; decide
  · rw [monthsP_eq h rfl rfl rfl rfl (cut2 _)]; exact monthsR_in _ _ _ _ _
/-- A minus sign turns the months into the opposite. -/
theorem months_minus (l : List UInt8) (hl : l.length ≤ 199) (h : l.head? ≠ some 45) : monthsP (45 :: l) = (-(monthsP l).1, (monthsP l).2) := by
  rw [monthsP_eq (l := l) (mi := false) (b1 := l) (by omega) (by simp [h]) rfl rfl rfl (cut2 _), monthsP_eq (l := 45 :: l) (mi := true) (b1 := l) (by simp; omega) rfl rfl rfl rfl (cut2 _)]
  exact monthsR_neg ..
end Go.Proofs.YtjndcehkgfbagaaGreatDoor.DurP

namespace Go.Proofs.YtjndcehkgfbagaaGreatDoor.DurP
open NumP Go.Proofs.YtjndcehkgfbagaaGreatDoor
set_option linter.unusedVariables false

/-- The text of a number that is not negative. -/
def tx (d : Nat) : List UInt8 := textN ⟨false, d⟩
theorem good_pos {d : Nat} (h : d < P50) : NumP.Good ⟨false, d⟩ := ⟨h, fun h => by cases h⟩
theorem tx_zero : [48] = tx 0 := by decide +kernel
theorem sizes_tx : sizes = [tx (86400 * P20), tx (3600 * P20), tx (60 * P20), tx (1 * P20)] := by decide +kernel
theorem tx_inj {a b : Nat} (ha : a < P50) (hb : b < P50) (h : tx a = tx b) : a = b := congrArg Num.d (text_inj (good_pos ha) (good_pos hb) h)
theorem tx_parts (d : Nat) : ∃ w f : List UInt8, w ≠ [] ∧ tx d = w ++ dot f ∧ Dig w ∧ Dig f ∧ f.length ≤ 20 ∧ w.length = max 21 (lenD d) - 20 ∧ (d % P20 = 0 → f = []) := by
  obtain ⟨w, f, h1, h2, h3, h4, h5, h6, h7, h8, h9⟩ := text_parts ⟨false, d⟩
  exact ⟨w, f, h1, h2, h3, h4, h5, h7, h8⟩
theorem tx_whole (k : Nat) : Dig (tx (k * P20)) ∧ tx (k * P20) ≠ [] := by
  obtain ⟨w, f, h1, h2, h3, h4, h5, h6, h7⟩ := tx_parts (k * P20)
  have hf := h7 (Nat.mul_mod_left _ _)
  rw [h2, hf]
  show Dig (w ++ []) ∧ w ++ [] ≠ []
  rw [List.append_nil]
  exact ⟨h3, h1⟩
theorem tx_whole_len {k K : Nat} (h : k * P20 < 10 ^ K) (hK : 21 ≤ K) : (tx (k * P20)).length ≤ K - 20 := by
  obtain ⟨w, f, h1, h2, h3, h4, h5, h6, h7⟩ := tx_parts (k * P20)
  have hf := h7 (Nat.mul_mod_left _ _)
  have := (lenD_le _ _).2 h
  rw [h2, hf]
  show (w ++ []).length ≤ _
  rw [List.append_nil]
  omega
theorem tx_len {d K : Nat} (h : d < 10 ^ K) (hK : 21 ≤ K) : (tx d).length ≤ K + 1 := by
  obtain ⟨w, f, h1, h2, h3, h4, h5, h6, h7⟩ := tx_parts d
  have := (lenD_le _ _).2 h
  have := dot_len f
  rw [h2, List.length_append]
  omega
theorem tx_head (d : Nat) : (tx d).head? ≠ some 45 := by
  obtain ⟨w, f, h1, h2, h3, h4, h5, h6, h7⟩ := tx_parts d
  rw [h2]
  cases w with
  | nil => exact absurd rfl h1
  | cons c w =>
    have := dig_ne (h3 c (List.mem_cons_self ..)) (k := 45) (by decide)
    simp [this]
theorem tx_neg (d : Nat) : textN ⟨true, d⟩ = 45 :: tx d := by unfold tx textN; simp
theorem sum_pos {a b : Nat} (h : a + b < P50) : sumN ⟨false, a⟩ ⟨false, b⟩ = .ok ⟨false, a + b⟩ := by
  unfold sumN; rw [if_pos rfl]; exact checkedN_pos h
theorem cut_exact (w : NumP.Way) (neg : Bool) (a u : Nat) (hu : 0 < u) : cutN w neg (a * u) u = a := by
  unfold cutN NumP.Way.up
  rw [Nat.mul_div_cancel _ hu, Nat.mul_mod_left]
  have h1 : decide (u < 2 * 0) = false := by simp
  have h2 : decide (2 * 0 = u) = false := by simp; omega
  cases w <;> simp only [h1, h2] <;> cases neg <;> simp
theorem mulT_tx {v s : Nat} (h : v * s < P50) (hv : v < P50) (hs : s * P20 < P50) : mulT (tx v) (tx (s * P20)) = (tx (v * s), 0) := by
  unfold mulT tx
  rw [bothN_text (good_pos hv) (good_pos hs)]
  show outN (checkedN ⟨false != false, cutN .even (false != false) (v * (s * P20)) P20⟩) = _
  rw [← Nat.mul_assoc, cut_exact _ _ _ _ (by decide)]
  rw [show (false != false) = false from rfl, checkedN_pos h]; rfl
theorem addT_tx {a b : Nat} (h : a + b < P50) : addT (tx a) (tx b) = (tx (a + b), 0) := by
  unfold addT tx
  rw [bothN_text (good_pos (by omega)) (good_pos (by omega)), sum_pos h]; rfl
/-- One part of a sum. -/
theorem addUp_val {p : List UInt8} (ps ts : List (List UInt8)) {v s a : Nat} (hp : p ≠ [] → parseN p = .ok ⟨false, v⟩) (h0 : p = [] → v = 0) (h : a + v * s < P50) (hs : 0 < s ∧ s * P20 < P50) :
    addUp (p :: ps) (tx (s * P20) :: ts) (tx a) = addUp ps ts (tx (a + v * s)) := by
  by_cases hpe : p = []
  · rw [hpe, addUp_skip, h0 hpe, Nat.zero_mul, Nat.add_zero]
  · have hvs : v ≤ v * s := Nat.le_mul_of_pos_right _ hs.1
    have e1 : parseT p = (tx v, 0) := by unfold parseT; rw [hp hpe]; rfl
    have e2 := mulT_tx (v := v) (s := s) (by omega) (by omega) hs.2
    have e3 := addT_tx h
    rw [addUp_next ps ts (tx (s * P20)) (tx a) hpe (by rw [e1]) (by rw [e1, e2]) (by rw [e1, e2, e3]), e1, e2, e3]
theorem negT_text {x : Num} (h : NumP.Good x) : negT (textN x) = (textN ⟨!x.neg && decide (0 < x.d), x.d⟩, 0) := by
  unfold negT subT
  rw [tx_zero]
  unfold tx
  rw [bothN_text (good_pos (by decide)) h]
  obtain ⟨n, d⟩ := x
  cases n
  · unfold sumN
    show outN (if false = true then _ else if d ≤ 0 then checkedN ⟨false, 0 - d⟩ else checkedN ⟨true, d - 0⟩) = _
    rw [if_neg (by decide)]
    by_cases h0 : d = 0
    · subst h0; rfl
    · rw [if_neg (by omega), checkedN_of (x := ⟨true, d - 0⟩) ⟨by have := h.1; simpa using this, fun _ => by show 0 < d - 0; omega⟩]
      have : 0 < d := by omega
      simp [outN, this]
  · unfold sumN
    show outN (if false = false then checkedN ⟨false, 0 + d⟩ else _) = _
    rw [if_pos rfl, Nat.zero_add, checkedN_pos h.1]; rfl
/-- Forms of seconds. -/
def secForm (neg : Bool) (D T : List UInt8) : List UInt8 := (if neg then [45] else []) ++ 80 :: (opt 68 D ++ (if T = [] then [] else 84 :: T))
def endS (neg : Bool) (r : List UInt8 × Int) : List UInt8 × Int := if r.2 ≠ 0 then r else if neg then negT r.1 else r
theorem miss_T (T : List UInt8) : Miss 68 (if T = [] then [] else 84 :: T) := by
  split
  · exact miss_nil _
  · exact miss_app (q := []) dig_nil (by decide) (by decide) (by decide)
theorem seconds_form (neg : Bool) (D H M S T : List UInt8) (hD : Dig D) (hT : cutP [72, 77, 83] T = ([H, M, S], [])) (he : T = [] ↔ (H = [] ∧ M = [] ∧ S = [])) (h0 : ¬ (D = [] ∧ T = [])) (hl : D.length + T.length ≤ 190) :
    secondsP (secForm neg D T) = endS neg (addUp [D, H, M, S] sizes [48]) := by
  have hcut : cutP [68] (opt 68 D ++ (if T = [] then [] else 84 :: T)) = ([D], if T = [] then [] else 84 :: T) := by
    show ([(partP 68 _).1], (partP 68 _).2) = _
    rw [partP_opt hD (by decide) (by decide) (miss_T T)]
  have hlen := sgn_len neg (opt 68 D) (if T = [] then [] else 84 :: T)
  have hl1 := opt_len 68 D
  have hl2 : (if T = [] then [] else 84 :: T).length ≤ T.length + 1 := by split <;> simp
  unfold secForm
  by_cases hTe : T = []
  · have hDne : D ≠ [] := fun h => h0 ⟨h, hTe⟩
    obtain ⟨rfl, rfl, rfl⟩ := he.1 hTe
    rw [secondsP_not (mi := neg) (ok := true) (b1 := 80 :: (opt 68 D ++ (if T = [] then [] else 84 :: T))) (by omega) (sgn_head ..).symm (sgn_rest ..).symm rfl rfl hcut (by simp [hTe])]
    unfold secondsR
    rw [if_neg (by simp), if_pos hTe, if_neg (by
      have : someP [D] = true := by cases D; exact absurd rfl hDne; rfl
      rw [this]; simp)]
    have e : addUp [D, [], [], []] sizes [48] = addUp [D] sizes [48] := by
      unfold sizes
      rw [addUp]
      rw [addUp]
      simp only [addUp, if_pos]
    unfold endS
    rw [e]
  · have hne : ¬ (H = [] ∧ M = [] ∧ S = []) := fun h => hTe (he.2 h)
    rw [secondsP_is (mi := neg) (ok := true) (more := [H, M, S]) (R := []) (b1 := 80 :: (opt 68 D ++ (if T = [] then [] else 84 :: T))) (by omega) (sgn_head ..).symm (sgn_rest ..).symm rfl rfl hcut (by rw [if_neg hTe]; rfl) (by rw [if_neg hTe]; exact hT)]
    unfold secondsR
    have hs : someP [H, M, S] = true := by
      cases H
      · cases M
        · cases S
          · exact absurd ⟨rfl, rfl, rfl⟩ hne
          · rfl
        · rfl
      · rfl
    have hs2 : someP ([D] ++ [H, M, S]) = true := by
      show ([D] ++ [H, M, S]).any _ = true
      rw [List.any_append]
      show (_ || someP [H, M, S]) = true
      rw [hs]; simp
    rw [if_neg (by rw [hs]; simp), if_neg (by rw [hs2]; simp)]
    rfl
/-- The part of seconds, with its fraction. -/
theorem cut_time {H M w f S : List UInt8} (hH : Dig H) (hM : Dig M) (hw : Dig w) (hf : Dig f) (h0 : w ≠ []) (hS : S = [] ∨ S = w ++ dot f) :
    cutP [72, 77, 83] (opt 72 H ++ (opt 77 M ++ opt 83 S)) = ([H, M, S], []) := by
  have hmiss : ∀ c, c = 72 ∨ c = 77 → Miss c (opt 83 S) := by
    intro c hc
    have hc83 : c ≠ 83 := by rcases hc with rfl | rfl <;> decide
    have hc46 : c ≠ 46 := by rcases hc with rfl | rfl <;> decide
    rcases hS with rfl | rfl
    · exact miss_nil c
    · have hne : w ++ dot f ≠ [] := fun h => h0 (List.append_eq_nil_iff.1 h).1
      have e : opt 83 (w ++ dot f) = w ++ (dot f ++ [83]) := by unfold opt; rw [if_neg hne, List.append_assoc]
      rw [e]
      by_cases hfe : f = []
      · rw [hfe]; exact miss_app hw (by decide) hc83 (fun h => hc83 h.1)
      · unfold dot; rw [if_neg hfe]; exact miss_app hw (by decide) hc46 (fun h => hc83 h.1)
  have h83 : partP 83 (opt 83 S) = (S, []) := by
    rcases hS with rfl | rfl
    · exact miss_nil 83
    · have hne : w ++ dot f ≠ [] := fun h => h0 (List.append_eq_nil_iff.1 h).1
      by_cases hfe : f = []
      · have := partP_opt (c := 83) (q := w) hw (by decide) (by decide) (miss_nil 83)
        rw [List.append_nil] at this
        rw [hfe]
        show partP 83 (opt 83 (w ++ [])) = (w ++ [], [])
        rw [List.append_nil]; exact this
      · unfold opt; rw [if_neg hne]; unfold dot; rw [if_neg hfe, List.append_assoc]
        exact partP_frac hw hf h0 hfe
  have h77 : partP 77 (opt 77 M ++ opt 83 S) = (M, opt 83 S) := partP_opt hM (by decide) (by decide) (hmiss 77 (.inr rfl))
  have h72 : partP 72 (opt 72 H ++ (opt 77 M ++ opt 83 S)) = (H, opt 77 M ++ opt 83 S) := partP_opt hH (by decide) (by decide) (miss_opt hM (by decide) (by decide) (by decide) (hmiss 72 (.inl rfl)))
  simp only [cutP, h72, h77, h83]
theorem opt_eq {c : UInt8} {q : List UInt8} : opt c q = [] ↔ q = [] := by unfold opt; split <;> simp_all
/-- A sum of parts is what its parts stand for. -/
theorem seconds_sum (neg : Bool) {D H M S w f : List UInt8} {d h m s : Nat} (hD : Dig D) (hH : Dig H) (hM : Dig M) (hw : Dig w) (hf : Dig f) (hw0 : w ≠ []) (hS : S = [] ∨ S = w ++ dot f)
    (h0 : ¬ (D = [] ∧ H = [] ∧ M = [] ∧ S = [])) (hl : D.length + H.length + M.length + S.length ≤ 180)
    (vD : (D ≠ [] → parseN D = .ok ⟨false, d⟩) ∧ (D = [] → d = 0)) (vH : (H ≠ [] → parseN H = .ok ⟨false, h⟩) ∧ (H = [] → h = 0)) (vM : (M ≠ [] → parseN M = .ok ⟨false, m⟩) ∧ (M = [] → m = 0)) (vS : (S ≠ [] → parseN S = .ok ⟨false, s⟩) ∧ (S = [] → s = 0))
    (hb : d * 86400 + h * 3600 + m * 60 + s < P50) :
    secondsP (secForm neg D (opt 72 H ++ (opt 77 M ++ opt 83 S))) = (textN ⟨neg && decide (0 < d * 86400 + h * 3600 + m * 60 + s), d * 86400 + h * 3600 + m * 60 + s⟩, 0) := by
  have hT0 : opt 72 H ++ (opt 77 M ++ opt 83 S) = [] ↔ (H = [] ∧ M = [] ∧ S = []) := by
    rw [List.append_eq_nil_iff, List.append_eq_nil_iff, opt_eq, opt_eq, opt_eq]
  have l1 := opt_len 72 H
  have l2 := opt_len 77 M
  have l3 := opt_len 83 S
  rw [seconds_form neg D H M S _ hD (cut_time hH hM hw hf hw0 hS) hT0 (fun h => h0 ⟨h.1, hT0.1 h.2⟩) (by rw [List.length_append, List.length_append]; omega)]
  have e : addUp [D, H, M, S] sizes [48] = (tx (d * 86400 + h * 3600 + m * 60 + s), 0) := by
    rw [sizes_tx, tx_zero, addUp_val _ _ vD.1 vD.2 (by omega) (by decide), addUp_val _ _ vH.1 vH.2 (by omega) (by decide), addUp_val _ _ vM.1 vM.2 (by omega) (by decide), addUp_val _ _ vS.1 vS.2 (by omega) (by decide), addUp_nil]
    rw [Nat.zero_add, Nat.mul_one]
  rw [e]
  unfold endS
  rw [if_neg (by simp)]
  cases neg
  · rfl
  · rw [if_pos rfl]
    show negT (tx _) = _
    unfold tx
    rw [negT_text (good_pos hb)]; rfl
theorem idivT_tx {d k : Nat} (hd : d < P50) (hk : k < P50) (h0 : 0 < k) (h : d / k * P20 < P50) : idivT (tx d) (tx k) = (tx (d / k * P20), 0) := by
  unfold idivT tx
  rw [bothN_text (good_pos hd) (good_pos hk)]
  unfold divN
  rw [if_neg (by show ¬ k = 0; omega)]
  show outN (checkedN ⟨false != false, d / k * P20⟩) = _
  rw [show (false != false) = false from rfl, checkedN_pos h]; rfl
theorem modT_tx {d k : Nat} (hd : d < P50) (hk : k < P50) (h0 : 0 < k) : modT (tx d) (tx k) = (tx (d % k), 0) := by
  unfold modT tx
  rw [bothN_text (good_pos hd) (good_pos hk)]
  unfold divN
  rw [if_neg (by show ¬ k = 0; omega)]
  show outN (checkedN ⟨false, d % k⟩) = _
  rw [checkedN_pos (Nat.lt_of_le_of_lt (Nat.mod_le ..) hd)]; rfl
/-- The digits of a part. -/
def pt (d : Nat) : List UInt8 := if d = 0 then [] else tx d
theorem piece_tx {d s : Nat} (c : UInt8) (hc : c ≠ 83) (hd : d < P50) (hs : s * P20 < P50) (h0 : 0 < s) : pieceP (tx (s * P20)) c (tx d) = (opt c (pt (d / (s * P20) * P20)), tx (d % (s * P20))) := by
  have hp : 0 < s * P20 := Nat.mul_pos h0 (by decide)
  have hq : d / (s * P20) * P20 ≤ d := by
    rw [← Nat.div_div_eq_div_mul] 
    have h1 := Nat.div_mul_le_self (d / s) P20
    have h2 := Nat.div_le_self d s
    exact Nat.le_trans h1 h2
  unfold pieceP
  simp only [if_neg hc, idivT_tx hd hs hp (by omega), modT_tx hd hs hp]
  unfold opt pt
  by_cases hz : d / (s * P20) * P20 = 0
  · rw [hz]; simp [← tx_zero]
  · have : tx (d / (s * P20) * P20) ≠ [48] := by rw [tx_zero]; exact fun h => hz (tx_inj (by omega) (by decide) h)
    rw [if_neg this, if_neg hz, if_neg (tx_whole _).2]
theorem tx_ne (d : Nat) : tx d ≠ [] := by
  obtain ⟨w, f, h1, h2, _⟩ := tx_parts d
  rw [h2]; exact fun h => h1 (List.append_eq_nil_iff.1 h).1
theorem piece_last {d : Nat} (Z : List UInt8) (hd : d < P50) : (pieceP Z 83 (tx d)).1 = opt 83 (pt d) := by
  unfold pieceP
  simp only [if_pos]
  unfold opt pt
  by_cases hz : d = 0
  · rw [hz]; simp [← tx_zero]
  · have : tx d ≠ [48] := by rw [tx_zero]; exact fun h => hz (tx_inj hd (by decide) h)
    rw [if_neg this, if_neg hz, if_neg (tx_ne _)]
theorem pt_val {d : Nat} (hd : d < P50) : (pt d ≠ [] → parseN (pt d) = .ok ⟨false, d⟩) ∧ (pt d = [] → d = 0) := by
  unfold pt
  split
  · rename_i h; exact ⟨fun h => absurd rfl h, fun _ => h⟩
  · exact ⟨fun _ => parse_text (good_pos hd), fun h => absurd h (tx_ne d)⟩
theorem pt_dig (k : Nat) : Dig (pt (k * P20)) := by
  unfold pt; split
  · exact dig_nil
  · exact (tx_whole k).1
theorem pt_len {d n : Nat} (h : (tx d).length ≤ n) : (pt d).length ≤ n := by
  unfold pt; split
  · exact Nat.zero_le _
  · exact h
theorem secT_at {neg : Bool} {L a L1 b L2 c L3 z : List UInt8} (p1 : pieceP [56, 54, 52, 48, 48] 68 L = (a, L1)) (p2 : pieceP [51, 54, 48, 48] 72 L1 = (b, L2)) (p3 : pieceP [54, 48] 77 L2 = (c, L3)) (p4 : (pieceP [54, 48] 83 L3).1 = z) :
    secT neg L = (if neg then [45, 80] else [80]) ++ a ++ (if b ++ c ++ z = [] then [] else 84 :: (b ++ c ++ z)) := by
  unfold secT
  simp only [p1, p2, p3, p4]
theorem secForm_at (neg : Bool) (D b c z : List UInt8) : (if neg then [45, 80] else [80]) ++ opt 68 D ++ (if b ++ c ++ z = [] then [] else 84 :: (b ++ c ++ z)) = secForm neg D (b ++ (c ++ z)) := by
  unfold secForm
  rw [List.append_assoc b c z]
  cases neg <;> simp
theorem secT_form {neg : Bool} {d d1 d2 d3 : Nat} {a b c : List UInt8} (p1 : pieceP [56, 54, 52, 48, 48] 68 (tx d) = (opt 68 a, tx d1)) (p2 : pieceP [51, 54, 48, 48] 72 (tx d1) = (b, tx d2)) (p3 : pieceP [54, 48] 77 (tx d2) = (c, tx d3)) (hd : d3 < P50) :
    secT neg (tx d) = secForm neg a (b ++ (c ++ opt 83 (pt d3))) := by
  rw [secT_at p1 p2 p3 (piece_last [54, 48] hd), secForm_at]
theorem s_day : 86400 * P20 = 8640000000000000000000000 := by decide +kernel
theorem s_hour : 3600 * P20 = 360000000000000000000000 := by decide +kernel
theorem s_min : 60 * P20 = 6000000000000000000000 := by decide +kernel
theorem day_tx : ([56, 54, 52, 48, 48] : List UInt8) = tx (86400 * P20) := by decide +kernel
theorem hour_tx : ([51, 54, 48, 48] : List UInt8) = tx (3600 * P20) := by decide +kernel
theorem min_tx : ([54, 48] : List UInt8) = tx (60 * P20) := by decide +kernel
theorem piece_day {d : Nat} (hd : d < P50) : pieceP [56, 54, 52, 48, 48] 68 (tx d) = (opt 68 (pt (d / (86400 * P20) * P20)), tx (d % (86400 * P20))) := by
  rw [day_tx]; exact piece_tx 68 (by decide) hd (by decide) (by decide)
theorem piece_hour {d : Nat} (hd : d < P50) : pieceP [51, 54, 48, 48] 72 (tx d) = (opt 72 (pt (d / (3600 * P20) * P20)), tx (d % (3600 * P20))) := by
  rw [hour_tx]; exact piece_tx 72 (by decide) hd (by decide) (by decide)
theorem piece_min {d : Nat} (hd : d < P50) : pieceP [54, 48] 77 (tx d) = (opt 77 (pt (d / (60 * P20) * P20)), tx (d % (60 * P20))) := by
  rw [min_tx]; exact piece_tx 77 (by decide) hd (by decide) (by decide)
/-- The parts of a number of seconds. -/
structure Split (d D H M s : Nat) : Prop where
  text : ∀ neg, secT neg (tx d) = secForm neg (pt (D * P20)) (opt 72 (pt (H * P20)) ++ (opt 77 (pt (M * P20)) ++ opt 83 (pt s)))
  sum : D * P20 * 86400 + H * P20 * 3600 + M * P20 * 60 + s = d
  bH : H < 24
  bM : M < 60
  bs : s < 6000000000000000000000
theorem split_sum (P : Nat) (d D d1 H d2 M d3 : Nat) (hD : D = d / (86400 * P)) (h1 : d1 = d % (86400 * P)) (hH : H = d1 / (3600 * P)) (h2 : d2 = d1 % (3600 * P)) (hM : M = d2 / (60 * P)) (h3 : d3 = d2 % (60 * P)) :
    D * P * 86400 + H * P * 3600 + M * P * 60 + d3 = d := by
  have e1 := Nat.div_add_mod d (86400 * P)
  have e2 := Nat.div_add_mod d1 (3600 * P)
  have e3 := Nat.div_add_mod d2 (60 * P)
  rw [← hD, ← h1] at e1
  rw [← hH, ← h2] at e2
  rw [← hM, ← h3] at e3
  have f1 : 86400 * P * D = D * P * 86400 := by rw [Nat.mul_comm _ D, Nat.mul_comm 86400 P, Nat.mul_assoc]
  have f2 : 3600 * P * H = H * P * 3600 := by rw [Nat.mul_comm _ H, Nat.mul_comm 3600 P, Nat.mul_assoc]
  have f3 : 60 * P * M = M * P * 60 := by rw [Nat.mul_comm _ M, Nat.mul_comm 60 P, Nat.mul_assoc]
  omega
theorem split_of {d : Nat} (hd : d < P50) : ∃ D H M s, Split d D H M s := by
  obtain ⟨D, hD⟩ : ∃ D, D = d / (86400 * P20) := ⟨_, rfl⟩
  obtain ⟨d1, hd1⟩ : ∃ d1, d1 = d % (86400 * P20) := ⟨_, rfl⟩
  obtain ⟨H, hH⟩ : ∃ H, H = d1 / (3600 * P20) := ⟨_, rfl⟩
  obtain ⟨d2, hd2⟩ : ∃ d2, d2 = d1 % (3600 * P20) := ⟨_, rfl⟩
  obtain ⟨M, hM⟩ : ∃ M, M = d2 / (60 * P20) := ⟨_, rfl⟩
  obtain ⟨d3, hd3⟩ : ∃ d3, d3 = d2 % (60 * P20) := ⟨_, rfl⟩
  have b1 : d1 < P50 := by rw [hd1]; exact Nat.lt_of_le_of_lt (Nat.mod_le _ _) hd
  have b2 : d2 < P50 := by rw [hd2]; exact Nat.lt_of_le_of_lt (Nat.mod_le _ _) b1
  have b3 : d3 < P50 := by rw [hd3]; exact Nat.lt_of_le_of_lt (Nat.mod_le _ _) b2
  have p1 := piece_day hd
  have p2 := piece_hour b1
  have p3 := piece_min b2
  rw [← hD, ← hd1] at p1
  rw [← hH, ← hd2] at p2
  rw [← hM, ← hd3] at p3
  refine ⟨D, H, M, d3, fun neg => secT_form p1 p2 p3 b3, split_sum P20 d D d1 H d2 M d3 hD hd1 hH hd2 hM hd3, ?_, ?_, ?_⟩
  · have h : d1 < 24 * (3600 * P20) := by rw [hd1]; exact Nat.lt_of_lt_of_le (Nat.mod_lt _ (by decide)) (by decide)
    rw [hH]; exact Nat.div_lt_of_lt_mul (by rw [Nat.mul_comm]; exact h)
  · have h : d2 < 60 * (60 * P20) := by rw [hd2]; exact Nat.lt_of_lt_of_le (Nat.mod_lt _ (by decide)) (by decide)
    rw [hM]; exact Nat.div_lt_of_lt_mul (by rw [Nat.mul_comm]; exact h)
  · rw [hd3, ← s_min]; exact Nat.mod_lt _ (by decide)
theorem k_small {H : Nat} (h : H < 60) : H * P20 < 10 ^ 25 := Nat.lt_of_lt_of_le (Nat.mul_lt_mul_of_pos_right h (by decide)) (by decide)
theorem p25 : (10 : Nat) ^ 25 < P50 := by decide
theorem secForm_len (neg : Bool) (D H M S : List UInt8) : (secForm neg D (opt 72 H ++ (opt 77 M ++ opt 83 S))).length ≤ D.length + H.length + M.length + S.length + 7 := by
  unfold secForm
  obtain ⟨T, hT⟩ : ∃ T, T = opt 72 H ++ (opt 77 M ++ opt 83 S) := ⟨_, rfl⟩
  have hTl : T.length ≤ (H.length + 1) + ((M.length + 1) + (S.length + 1)) := by
    rw [hT, List.length_append, List.length_append]
    have := opt_len 72 H
    have := opt_len 77 M
    have := opt_len 83 S
    omega
  rw [← hT]
  have hlen := sgn_len neg (opt 68 D) (if T = [] then [] else 84 :: T)
  have q1 := opt_len 68 D
  have q5 : (if T = [] then [] else 84 :: T).length ≤ T.length + 1 := by split <;> simp
  omega
theorem tx_sign {neg : Bool} {d : Nat} : ((textN ⟨neg, d⟩).head? == some 45) = neg ∧ (if neg = true then (textN ⟨neg, d⟩).drop 1 else textN ⟨neg, d⟩) = tx d := by
  cases neg
  · exact ⟨beq_eq_false_iff_ne.2 (tx_head d), rfl⟩
  · rw [tx_neg]; exact ⟨rfl, rfl⟩
/-- The text of the parts, read. -/
theorem split_back {d D H M s : Nat} (neg : Bool) (hd : d < P50) (h0 : 0 < d) (h : Split d D H M s) : (secT neg (tx d)).length < 200 ∧ secondsP (secT neg (tx d)) = (textN ⟨neg, d⟩, 0) := by
  obtain ⟨w, f, h1, h2, h3, h4, h5, h6, h7⟩ := tx_parts s
  have bD : D * P20 < P50 := by have := h.sum; have : D * P20 ≤ D * P20 * 86400 := Nat.le_mul_of_pos_right _ (by decide); omega
  have kH := k_small (show H < 60 by have := h.bH; omega)
  have kM := k_small h.bM
  have ks : s < 10 ^ 25 := Nat.lt_trans h.bs (by decide)
  have lD : (pt (D * P20)).length ≤ 30 := pt_len (tx_whole_len (K := 50) bD (by decide))
  have lH : (pt (H * P20)).length ≤ 5 := pt_len (tx_whole_len kH (by decide))
  have lM : (pt (M * P20)).length ≤ 5 := pt_len (tx_whole_len kM (by decide))
  have lS : (pt s).length ≤ 26 := pt_len (tx_len ks (by decide))
  have bH : H * P20 < P50 := Nat.lt_trans kH p25
  have bM : M * P20 < P50 := Nat.lt_trans kM p25
  have bs : s < P50 := Nat.lt_trans ks p25
  have hS : pt s = [] ∨ pt s = w ++ dot f := by
    unfold pt; split
    · exact .inl rfl
    · exact .inr h2
  have hne : ¬ (pt (D * P20) = [] ∧ pt (H * P20) = [] ∧ pt (M * P20) = [] ∧ pt s = []) := by
    rintro ⟨e1, e2, e3, e4⟩
    have e1 := (pt_val bD).2 e1
    have e2 := (pt_val bH).2 e2
    have e3 := (pt_val bM).2 e3
    have e4 := (pt_val bs).2 e4
    have := h.sum
    rw [e1, e2, e3, e4] at this
    omega
  have main := seconds_sum neg (pt_dig D) (pt_dig H) (pt_dig M) h3 h4 h1 hS hne (by omega) (pt_val bD) (pt_val bH) (pt_val bM) (pt_val bs) (by rw [h.sum]; exact hd)
  rw [h.sum] at main
  rw [h.text neg]
  refine ⟨?_, ?_⟩
  · have := secForm_len neg (pt (D * P20)) (pt (H * P20)) (pt (M * P20)) (pt s)
    omega
  · rw [main]
    have : (neg && decide (0 < d)) = neg := by simp [h0]
    rw [this]
theorem back_zero : ([80, 84, 48, 83] : List UInt8).length < 200 ∧ secondsP [80, 84, 48, 83] = ([48], 0) := by decide +kernel
/-- A number of seconds is read from its canonical text. -/
theorem seconds_back {x : Num} (hx : NumP.Good x) : (textSP (textN x)).2 = 0 ∧ (textSP (textN x)).1.length < 200 ∧ secondsP (textSP (textN x)).1 = (textN x, 0) := by
  rw [textSP_yes (by rw [parseT_text hx]; simp)]
  by_cases h48 : textN x = [48]
  · rw [if_pos h48, h48]; exact ⟨rfl, back_zero⟩
  · rw [if_neg h48]
    obtain ⟨neg, d⟩ := x
    have hd : d < P50 := hx.1
    have hd0 : 0 < d := by
      cases neg
      · rcases Nat.eq_zero_or_pos d with h | h
        · rw [h] at h48; exact absurd tx_zero.symm h48
        · exact h
      · exact hx.2 rfl
    rw [tx_sign.1, tx_sign.2]
    obtain ⟨D, H, M, s, hsp⟩ := split_of hd
    exact ⟨rfl, split_back neg hd hd0 hsp⟩
theorem textSP_inj {x y : Num} (hx : NumP.Good x) (hy : NumP.Good y) (h : (textSP (textN x)).1 = (textSP (textN y)).1) : textN x = textN y := by
  have h1 := (seconds_back hx).2.2
  rw [h, (seconds_back hy).2.2] at h1
  exact (congrArg Prod.fst h1).symm
/-- What is read is a canonical text, or there is an error and no text. -/
def Fine (r : List UInt8 × Int) : Prop := (∃ x, NumP.Good x ∧ r = (textN x, 0)) ∨ ∃ k, k ≠ 0 ∧ r = ([], k)
theorem addUp_fine : ∀ (ps ts : List (List UInt8)) (x : Num), NumP.Good x → Fine (addUp ps ts (textN x))
  | [], ts, x, h => by rw [addUp_nil]; exact .inl ⟨x, h, rfl⟩
  | p :: ps, [], x, h => .inl ⟨x, h, rfl⟩
  | p :: ps, t :: ts, x, h => by
    by_cases hp : p = []
    · rw [hp, addUp_skip]; exact addUp_fine ps ts x h
    · by_cases h1 : (parseT p).2 = 0
      · by_cases h2 : (mulT (parseT p).1 t).2 = 0
        · by_cases h3 : (addT (textN x) (mulT (parseT p).1 t).1).2 = 0
          · rw [addUp_next ps ts t _ hp h1 h2 h3]
            unfold addT at h3 ⊢
            cases hr : bothN (textN x) (mulT (parseT p).1 t).1 sumN with
            | error k =>
              rw [hr] at h3
              have hk : k ≠ 0 := by
                unfold bothN at hr
                split at hr
                · unfold sumN at hr
                  split at hr
                  · rw [checkedN_err hr]; decide
                  · split at hr <;> (rw [checkedN_err hr]; decide)
                · cases hr; decide
              exact absurd h3 hk
            | ok z =>
              have hz : NumP.Good z := by
                unfold bothN at hr
                split at hr
                · exact sumN_good hr
                · cases hr
              exact addUp_fine ps ts z hz
          · rw [addUp_err3 ps ts t _ hp h1 h2 h3]; exact .inr ⟨40, by decide, rfl⟩
        · rw [addUp_err2 ps ts t _ hp h1 h2]; exact .inr ⟨40, by decide, rfl⟩
      · rw [addUp_err1 ps ts t _ hp h1]; exact .inr ⟨40, by decide, rfl⟩
theorem neg_good {x : Num} (h : NumP.Good x) : NumP.Good ⟨!x.neg && decide (0 < x.d), x.d⟩ := ⟨h.1, fun e => by simp at e; exact e.2⟩
theorem endS_fine {neg : Bool} {r : List UInt8 × Int} (h : Fine r) : Fine (endS neg r) := by
  unfold endS
  rcases h with ⟨x, hx, rfl⟩ | ⟨k, hk, rfl⟩
  · rw [if_neg (by simp)]
    cases neg
    · exact .inl ⟨x, hx, rfl⟩
    · rw [if_pos rfl]; exact .inl ⟨_, neg_good hx, negT_text hx⟩
  · rw [if_pos hk]; exact .inr ⟨k, hk, rfl⟩
theorem secondsR_fine (mi ok is : Bool) (parts more : List (List UInt8)) (R : List UInt8) : Fine (secondsR mi ok is parts more R) := by
  unfold secondsR
  split
  · exact .inr ⟨5, by decide, rfl⟩
  · split
    · exact .inr ⟨5, by decide, rfl⟩
    · have := addUp_fine parts sizes ⟨false, 0⟩ (good_pos (by decide))
      rw [show textN ⟨false, 0⟩ = [48] from tx_zero.symm] at this
      exact endS_fine this
theorem secondsR_neg (ok is : Bool) (parts more : List (List UInt8)) (R : List UInt8) : secondsR true ok is parts more R = endS true (secondsR false ok is parts more R) := by
  unfold secondsR
  split
  · rfl
  · split
    · rfl
    · by_cases h : (addUp parts sizes [48]).2 = 0
      · rw [if_neg (by omega), if_pos rfl]
        show _ = if _ then _ else _
        simp [h]
      · rw [if_pos h]
        unfold endS
        simp [h]
theorem seconds_cases (b1 : List UInt8) : ∃ is parts more R, ∀ l' mi, ¬ 200 < l'.length → mi = (l'.head? == some 45) → b1 = (if mi = true then l'.drop 1 else l') → secondsP l' = secondsR mi (b1.head? == some 80) is parts more R := by
  obtain ⟨b2, hb2⟩ : ∃ b2, b2 = if (b1.head? == some 80) = true then b1.drop 1 else b1 := ⟨_, rfl⟩
  obtain ⟨ps, c2, hc⟩ : ∃ ps c2, cutP [68] b2 = (ps, c2) := ⟨_, _, rfl⟩
  obtain ⟨more, R, hm⟩ : ∃ more R, cutP [72, 77, 83] (c2.drop 1) = (more, R) := ⟨_, _, rfl⟩
  by_cases h84 : (c2.head? == some 84) = true
  · exact ⟨true, ps ++ more, more, R, fun l' mi hl' hmi hb => secondsP_is hl' hmi hb rfl hb2 hc h84 hm⟩
  · exact ⟨false, ps, [], c2, fun l' mi hl' hmi hb => secondsP_not hl' hmi hb rfl hb2 hc (by simpa using h84)⟩
theorem secondsP_fine (l : List UInt8) : Fine (secondsP l) := by
  by_cases h : 200 < l.length
  · unfold secondsP; rw [if_pos h]; exact .inr ⟨2, by decide, rfl⟩
  · obtain ⟨is, parts, more, R, hf⟩ := seconds_cases (if (l.head? == some 45) = true then l.drop 1 else l)
    rw [hf l _ h rfl rfl]; exact secondsR_fine ..
/-- A minus sign turns the seconds into the opposite. -/
theorem seconds_minus (l : List UInt8) (hl : l.length ≤ 199) (h : l.head? ≠ some 45) : secondsP (45 :: l) = endS true (secondsP l) := by
  obtain ⟨is, parts, more, R, hf⟩ := seconds_cases l
  rw [hf l false (by omega) (by simp [h]) (by simp), hf (45 :: l) true (by simp; omega) rfl (by simp)]
  exact secondsR_neg ..
end Go.Proofs.YtjndcehkgfbagaaGreatDoor.DurP
