/- Package dur: ParseSeconds, the plain part. Package dur: ParseSeconds. Package dur: the walk of ParseSeconds (printed by gensec.py). The examples that every statement on durations checks besides (the function works of package chisellaw06): they hold. Package dur: plain laws of the forms: parts, months, signs. Package dur: plain laws of the forms: seconds. -/
import Derived.Test.YtjndcehkgfbagaaGreatDoorNh
import Derived.Laws.AppendOwnNone
import Derived.Test.YtjndcehkgfbagaaGreatDoorNg

namespace Go.Proofs.YtjndcehkgfbagaaGreatDoor
open Go.RowKit NumP DurP Go.Proofs.YtjndcehkgfbagaaGreatDoorW.PrintWords
set_option linter.unusedVariables false

/-- What ParseSeconds returns, by its parts. -/
def secondsR (mi ok is : Bool) (parts more : List (List UInt8)) (R : List UInt8) : List UInt8 × Int :=
  if is = true ∧ someP more = false then ([], 5) else
    if ok = false ∨ R ≠ [] ∨ someP parts = false then ([], 5) else
      if (addUp parts sizes [48]).2 ≠ 0 then addUp parts sizes [48] else if mi then negT (addUp parts sizes [48]).1 else addUp parts sizes [48]
theorem secondsP_is {l b1 b2 c2 R : List UInt8} {ps more : List (List UInt8)} {mi ok : Bool} (hl : ¬ 200 < l.length) (h1 : mi = (l.head? == some 45)) (h2 : b1 = if mi = true then l.drop 1 else l) (h3 : ok = (b1.head? == some 80)) (h4 : b2 = if ok = true then b1.drop 1 else b1)
    (h5 : cutP [68] b2 = (ps, c2)) (h6 : (c2.head? == some 84) = true) (h7 : cutP [72, 77, 83] (c2.drop 1) = (more, R)) : secondsP l = secondsR mi ok true (ps ++ more) more R := by
  unfold secondsP
  rw [if_neg hl]
  simp only [← h1, ← h2, ← h3, ← h4, h5, h6, h7]
  unfold secondsR
  simp
theorem secondsP_not {l b1 b2 c2 : List UInt8} {ps : List (List UInt8)} {mi ok : Bool} (hl : ¬ 200 < l.length) (h1 : mi = (l.head? == some 45)) (h2 : b1 = if mi = true then l.drop 1 else l) (h3 : ok = (b1.head? == some 80)) (h4 : b2 = if ok = true then b1.drop 1 else b1)
    (h5 : cutP [68] b2 = (ps, c2)) (h6 : (c2.head? == some 84) = false) : secondsP l = secondsR mi ok false ps [] c2 := by
  unfold secondsP
  rw [if_neg hl]
  simp only [← h1, ← h2, ← h3, ← h4, h5, h6]
  unfold secondsR
  simp
/-- One round of the sum. -/
theorem addUp_nil (ts : List (List UInt8)) (sum : List UInt8) : addUp [] ts sum = (sum, 0) := by cases ts <;> rfl
theorem addUp_skip (ps ts : List (List UInt8)) (t sum : List UInt8) : addUp ([] :: ps) (t :: ts) sum = addUp ps ts sum := by
  rw [addUp, if_pos rfl]
theorem addUp_err1 {p : List UInt8} (ps ts : List (List UInt8)) (t sum : List UInt8) (hp : p ≠ []) (h : (parseT p).2 ≠ 0) : addUp (p :: ps) (t :: ts) sum = ([], 40) := by
  rw [addUp, if_neg hp]; simp only; rw [if_pos h]
theorem addUp_err2 {p : List UInt8} (ps ts : List (List UInt8)) (t sum : List UInt8) (hp : p ≠ []) (h : (parseT p).2 = 0) (h2 : (mulT (parseT p).1 t).2 ≠ 0) : addUp (p :: ps) (t :: ts) sum = ([], 40) := by
  rw [addUp, if_neg hp]; simp only; rw [if_neg (by rw [h]; decide), if_pos h2]
theorem addUp_err3 {p : List UInt8} (ps ts : List (List UInt8)) (t sum : List UInt8) (hp : p ≠ []) (h : (parseT p).2 = 0) (h2 : (mulT (parseT p).1 t).2 = 0) (h3 : (addT sum (mulT (parseT p).1 t).1).2 ≠ 0) : addUp (p :: ps) (t :: ts) sum = ([], 40) := by
  rw [addUp, if_neg hp]; simp only; rw [if_neg (by rw [h]; decide), if_neg (by rw [h2]; decide), if_pos h3]
theorem addUp_next {p : List UInt8} (ps ts : List (List UInt8)) (t sum : List UInt8) (hp : p ≠ []) (h : (parseT p).2 = 0) (h2 : (mulT (parseT p).1 t).2 = 0) (h3 : (addT sum (mulT (parseT p).1 t).1).2 = 0) :
    addUp (p :: ps) (t :: ts) sum = addUp ps ts (addT sum (mulT (parseT p).1 t).1).1 := by
  rw [addUp, if_neg hp]; simp only; rw [if_neg (by rw [h]; decide), if_neg (by rw [h2]; decide), if_neg (by rw [h3]; decide)]
end Go.Proofs.YtjndcehkgfbagaaGreatDoor

namespace Go.Proofs.YtjndcehkgfbagaaGreatDoor
open Go.RowKit NumP DurP Go.Proofs.YtjndcehkgfbagaaGreatDoorW.PrintWords
set_option linter.unusedVariables false

set_option maxHeartbeats 2000000 in
set_option maxRecDepth 100000 in
theorem seconds_long (s : ByteArray) (W : World) (hs : s.size ≤ maxLen) (h : 200 < s.size) : Calls Tryz.prog 18 #[.string s] W (StrPost W (secondsP s.data.toList)) := by
  unfold maxLen at hs
  have hR : Hid (secondsP s.data.toList = ([], 2)) := Lib.hid (by unfold secondsP; rw [if_pos (by rw [list_len]; exact h)])
  have h1 : (s.size : Int) > 200 := by omega
  go_enter Tryz.func18, Tryz.ntmps18
  go_wp2_with fail
  go_ret2
  exact ⟨by rw [hR.out]; rfl, Below.refl _ _⟩
set_option maxHeartbeats 2000000 in
set_option maxRecDepth 100000 in
/-- The number of one part, with its size: what three calls give. -/
theorem part_calls (p t sum : ByteArray) (W : World) (hL : LaidW W) (hp : p.size ≤ 1000) (ht : t.size ≤ 1000) (hs : sum.size ≤ 1000) :
    (∀ w, Below W.heap.size W w → Calls Tryz.prog 25 #[.string p] w fun e w' => e = .returned (.tuple #[.string ⟨(parseT p.data.toList).1.toArray⟩, .int .i64 (parseT p.data.toList).2]) ∧ Below w.heap.size w w') ∧
    (∀ w (x : List UInt8), x.length ≤ 60 → Below W.heap.size W w → Calls Tryz.prog 38 #[.string ⟨x.toArray⟩, .string t] w fun e w' => e = .returned (.tuple #[.string ⟨(mulT x t.data.toList).1.toArray⟩, .int .i64 (mulT x t.data.toList).2]) ∧ Below w.heap.size w w') ∧
    (∀ w (y : List UInt8), y.length ≤ 60 → Below W.heap.size W w → Calls Tryz.prog 39 #[.string sum, .string ⟨y.toArray⟩] w fun e w' => e = .returned (.tuple #[.string ⟨(addT sum.data.toList y).1.toArray⟩, .int .i64 (addT sum.data.toList y).2]) ∧ Below w.heap.size w w') := by
  have hx : ∀ x : List UInt8, x.length ≤ 60 → (⟨x.toArray⟩ : ByteArray).size ≤ maxLen := fun x h => by
    rw [← list_len]; show x.length ≤ 2 ^ 63 - 1; omega
  refine ⟨fun w hb => Parse_b p w (hL.below hb hL.size) (by unfold maxLen; omega), fun w x h hb => ?_, fun w y h hb => ?_⟩
  · have := mul_b ⟨x.toArray⟩ t w (hL.below hb hL.size) (hx x h) (by unfold maxLen; omega)
    rw [show (⟨x.toArray⟩ : ByteArray).data.toList = x by simp] at this
    exact this
  · have := add_b sum ⟨y.toArray⟩ w (hL.below hb hL.size) (by unfold maxLen; omega) (hx y h)
    rw [show (⟨y.toArray⟩ : ByteArray).data.toList = y by simp] at this
    exact this
theorem mulT_len (a b : List UInt8) : (mulT a b).1.length ≤ 60 := outN_len fun z h => bothN_lt (fun x y z h => checkedN_lt h) h
theorem addT_len (a b : List UInt8) : (addT a b).1.length ≤ 60 := outN_len fun z h => bothN_lt (fun x y z h => by
  unfold sumN at h
  split at h
  · exact checkedN_lt h
  · split at h <;> exact checkedN_lt h) h
end Go.Proofs.YtjndcehkgfbagaaGreatDoor

namespace Go.Proofs.YtjndcehkgfbagaaGreatDoor
open Go.RowKit NumP DurP Go.Proofs.YtjndcehkgfbagaaGreatDoorW.PrintWords
set_option linter.unusedVariables false

/-- What ParseSeconds returns, once the parts are there. -/
def tailR (mi ok : Bool) (parts : List (List UInt8)) (R : List UInt8) : List UInt8 × Int :=
  if ok = false ∨ R ≠ [] ∨ someP parts = false then ([], 5) else
    if (addUp parts sizes [48]).2 ≠ 0 then addUp parts sizes [48] else if mi then negT (addUp parts sizes [48]).1 else addUp parts sizes [48]
theorem tailR_not (mi ok : Bool) (ps more : List (List UInt8)) (R : List UInt8) : secondsR mi ok false ps more R = tailR mi ok ps R := by
  unfold secondsR; rw [if_neg (by simp)]; rfl
theorem tailR_is {mi ok : Bool} {ps more : List (List UInt8)} {R : List UInt8} (h : someP more = true) : secondsR mi ok true ps more R = tailR mi ok ps R := by
  unfold secondsR; rw [if_neg (by rw [h]; simp)]; rfl
theorem cutP_each : ∀ (ls l : List UInt8), ∀ p ∈ (cutP ls l).1, p.length ≤ l.length
  | [], l, p, h => by simp [cutP] at h
  | c :: ls, l, p, h => by
    rw [cutP] at h
    rcases List.mem_cons.1 h with rfl | h
    · exact partP_len c l
    · exact Nat.le_trans (cutP_each ls _ p h) (partP_rest c l)
theorem sizes_at : ∀ k, k < 4 → ∃ t, sizes[k]? = some t ∧ t.length ≤ 5 ∧ sizes.drop k = t :: sizes.drop (k + 1)
  | 0, _ => ⟨_, rfl, by decide, rfl⟩
  | 1, _ => ⟨_, rfl, by decide, rfl⟩
  | 2, _ => ⟨_, rfl, by decide, rfl⟩
  | 3, _ => ⟨_, rfl, by decide, rfl⟩
set_option maxHeartbeats 2000000 in
set_option maxRecDepth 100000 in
theorem seconds_d (s : ByteArray) (W : World) (hL : LaidW W) (hs : ¬ 200 < s.size) : Calls Tryz.prog 18 #[.string s] W (StrPost W (secondsP s.data.toList)) := by
  have hp1 := (Tryz.strings_CutPrefix s ⟨#[45]⟩ W).mono (fun e w' h => (⟨h.1, h.2.symm⟩ : _ ∧ W = w'))
  rw [show (⟨#[45]⟩ : ByteArray).data.toList = [45] from rfl, has_one, trim_if] at hp1
  obtain ⟨mi, hmi⟩ : ∃ mi, mi = (s.data.toList.head? == some 45) := ⟨_, rfl⟩
  obtain ⟨b1, hb1⟩ : ∃ b1, b1 = (if mi = true then s.data.toList.drop 1 else s.data.toList) := ⟨_, rfl⟩
  rw [← hmi, ← hb1] at hp1
  have hb1l : b1.length ≤ 200 := by
    have : s.data.toList.length ≤ 200 := by rw [list_len]; omega
    rw [hb1]; split
    · rw [List.length_drop]; omega
    · exact this
  obtain ⟨B1, hB1⟩ : ∃ B1 : ByteArray, B1 = ⟨b1.toArray⟩ := ⟨_, rfl⟩
  have hB1d : B1.data.toList = b1 := by rw [hB1]
  have hp2 := (Tryz.strings_CutPrefix B1 ⟨#[80]⟩ W).mono (fun e w' h => (⟨h.1, h.2.symm⟩ : _ ∧ W = w'))
  rw [show (⟨#[80]⟩ : ByteArray).data.toList = [80] from rfl, has_one, trim_if, hB1d] at hp2
  rw [← hB1] at hp1
  obtain ⟨ok, hok⟩ : ∃ ok, ok = (b1.head? == some 80) := ⟨_, rfl⟩
  obtain ⟨b2, hb2⟩ : ∃ b2, b2 = (if ok = true then b1.drop 1 else b1) := ⟨_, rfl⟩
  rw [← hok, ← hb2] at hp2
  have hb2l : b2.length ≤ 200 := by
    rw [hb2]; split
    · rw [List.length_drop]; omega
    · exact hb1l
  obtain ⟨B2, hB2⟩ : ∃ B2 : ByteArray, B2 = ⟨b2.toArray⟩ := ⟨_, rfl⟩
  have hB2d : B2.data.toList = b2 := by rw [hB2]
  rw [← hB2] at hp2
  obtain ⟨Y, hY⟩ : ∃ Y, Y = (partP 68 b2).1 := ⟨_, rfl⟩
  obtain ⟨c2, hc2⟩ : ∃ c2, c2 = (partP 68 b2).2 := ⟨_, rfl⟩
  have h5 : cutP [68] b2 = ([Y], c2) := by rw [hY, hc2]; rfl
  have hYl : Y.length ≤ 200 := by rw [hY]; exact Nat.le_trans (partP_len _ _) hb2l
  have hcl : c2.length ≤ 200 := by rw [hc2]; exact Nat.le_trans (partP_rest _ _) hb2l
  have hlr : ¬ 200 < s.data.toList.length := by rw [list_len]; exact hs
  have hIs : (c2.head? == some 84) = true → ∀ more R, cutP [72, 77, 83] (c2.drop 1) = (more, R) → secondsP s.data.toList = secondsR mi ok true ([Y] ++ more) more R := fun h6 more R h7 => secondsP_is hlr hmi hb1 hok hb2 h5 h6 h7
  have hNot : (c2.head? == some 84) = false → secondsP s.data.toList = secondsR mi ok false [Y] [] c2 := fun h6 => secondsP_not hlr hmi hb1 hok hb2 h5 h6
  obtain ⟨W1, hW1⟩ : ∃ W1, W1 = W.alloc (.cells #[.int .u8 68] 5) := ⟨_, rfl⟩
  have hbe1 : Below W.heap.size W W1 := by rw [hW1]; exact (Below.refl _ _).alloc (Nat.le_refl _) _
  have hx1 : W1.heap[W.heap.size]? = some (.cells #[.int .u8 68] 5 (0, 0)) := by rw [hW1]; exact (MapKept.heap_alloc _ _).1
  have hcu := cut_d B2 [68] W1 W.heap.size (heap_lt hx1) (fun i h => by
    rw [Lib.cell_of_heap hx1]
    match i, h with
    | 0, _ => rfl) (by decide) (by rw [← list_len, hB2d]; omega)
  rw [hB2d, h5] at hcu
  obtain ⟨C2, hC2⟩ : ∃ C2 : ByteArray, C2 = ⟨c2.toArray⟩ := ⟨_, rfl⟩
  have hC2d : C2.data.toList = c2 := by rw [hC2]
  obtain ⟨is, his⟩ : ∃ is, is = (c2.head? == some 84) := ⟨_, rfl⟩
  obtain ⟨c3, hc3⟩ : ∃ c3, c3 = (if is = true then c2.drop 1 else c2) := ⟨_, rfl⟩
  have hct : Hid (∀ w, Calls Tryz.prog 27 #[.string C2, .string ⟨#[84]⟩] w fun e w' => e = .returned (.tuple #[.string ⟨c3.toArray⟩, .bool is]) ∧ w = w') := Lib.hid (fun w => (Tryz.strings_CutPrefix C2 ⟨#[84]⟩ w).mono (fun e w' h => ⟨by
    rw [h.1, show (⟨#[84]⟩ : ByteArray).data.toList = [84] from rfl, has_one, trim_if, hC2d, ← his, ← hc3], h.2.symm⟩))
  rw [← his] at hIs hNot
  replace hIs := Lib.hid hIs
  replace hNot := Lib.hid hNot
  replace hc3 := Lib.hid hc3
  replace his := Lib.hid his
  replace hL := Lib.hid hL
  clear hB1d hB2d hY hc2 h5 hb1l hb2l hmi hb1 hok hb2 hB1 hB2 hx1 hlr hC2d
  have h0 : ¬ ((s.size : Int) > 200) := by omega
  clear hs
  go_enter Tryz.func18, Tryz.ntmps18
  go_wp2_with fail
  refine hp1.mono ?_
  rintro e w ⟨rfl, rfl⟩
  clear hp1
  go_wp2_with fail
  refine hp2.mono ?_
  rintro e w ⟨rfl, rfl⟩
  clear hp2
  go_wp2_with fail
  rw [← hW1]
  refine hcu.mono ?_
  rintro e w2 ⟨v, rfl, ho, hbe2⟩
  clear hcu hW1
  rw [← hC2]
  replace hC2 := Lib.hid hC2
  obtain ⟨g, cap, rfl⟩ := own_form1 ho (by decide)
  have hbW2 : Hid (Below W.heap.size W w2) := Lib.hid (hbe1.trans (hbe2.mono hbe1.size))
  have hW1s : W.heap.size ≤ W1.heap.size := hbe1.size
  replace ho := Lib.hid ho
  clear hbe1 hbe2
  go_wp2_with fail
  refine (hct.out _).mono ?_
  rintro e w ⟨rfl, rfl⟩
  clear hct
  cases is with
  | false =>
    obtain ⟨ps, hps⟩ : ∃ ps, ps = [Y] := ⟨_, rfl⟩
    have hres : Hid (secondsP s.data.toList = tailR mi ok ps c2) := Lib.hid (by rw [hNot.out rfl, tailR_not, hps])
    have hpl : Hid (∀ p ∈ ps, p.length ≤ 1000) := Lib.hid (fun p hp => by rw [hps] at hp; rw [List.mem_singleton.1 hp]; omega)
    have hn : 1 = ps.length := by rw [hps]; rfl
    rw [show (strsL ([Y], c2).1) = strsL ps by rw [hps]] at ho
    have hso := some_d ps 1 g cap w2 _ ho.out hn (by rw [hps]; simp) (by rw [hps]; simp; omega)
    obtain ⟨R, hR⟩ : ∃ R, R = c2 := ⟨_, rfl⟩
    rw [← hR] at hres
    have hRl : C2.toList = R := by rw [hC2.out, ByteArray.toList_mk, hR]
    obtain ⟨RB, hRB⟩ : ∃ RB, RB = C2 := ⟨_, rfl⟩
    rw [← hRB] at hRl ⊢
    obtain ⟨wT, hwT⟩ : ∃ wT, wT = w2 := ⟨_, rfl⟩
    rw [← hwT] at hso ho hbW2 ⊢
    have hbT := hbW2
    clear hbW2 hNot hIs hc3 his hps hR hC2 hRB hwT hcl hYl
    replace hn := Lib.hid hn
    obtain ⟨sm, hsm⟩ : ∃ sm, sm = someP ps := ⟨_, rfl⟩
    cases ok with
    | false =>
      have hQ : Hid (tailR mi false ps R = ([], 5)) := Lib.hid (by unfold tailR; rw [if_pos (.inl rfl)])
      clear hRl
      replace hsm := Lib.hid hsm
      go_wp2_with fail
      go_ret2
      exact ⟨by rw [hres.out, hQ.out]; rfl, hbT.out⟩
    | true =>
      by_cases hRe : R = []
      · have g1 : (RB.toList == []) = true := by rw [hRl, hRe]; rfl
        clear hRl
        cases sm with
        | false =>
          have hQ : Hid (tailR mi true ps R = ([], 5)) := Lib.hid (by unfold tailR; rw [if_pos (.inr (.inr hsm.symm))])
          replace hsm := Lib.hid hsm
          replace hRe := Lib.hid hRe
          go_wp2_with fail
          rw [← hsm.out] at hso
          refine hso.mono ?_
          rintro e w3 ⟨rfl, hb3⟩
          clear hso
          go_wp2_with fail
          go_ret2
          exact ⟨by rw [hres.out, hQ.out]; rfl, hbT.out.trans (hb3.mono hbT.out.size)⟩
        | true =>
          have hQ : Hid (tailR mi true ps R = if (addUp ps sizes [48]).2 ≠ 0 then addUp ps sizes [48] else if mi then negT (addUp ps sizes [48]).1 else addUp ps sizes [48]) := Lib.hid (by
            unfold tailR
            rw [if_neg]
            rintro (h | h | h)
            · cases h
            · exact h hRe
            · rw [← hsm] at h; cases h)
          replace hsm := Lib.hid hsm
          replace hRe := Lib.hid hRe
          go_wp2_with fail
          rw [← hsm.out] at hso
          refine hso.mono ?_
          rintro e w3 ⟨rfl, hb3⟩
          clear hso
          have hb03 := Lib.hid (hbT.out.trans (hb3.mono hbT.out.size))
          have ho3 := own_below ho.out hb3
          have hL3 := Lib.hid (hL.out.below hb03.out hL.out.size)
          have hg3 := Lib.hid (ho3.lt g rfl).2
          have hcell : Hid (∀ k p, ps[k]? = some p → w3.cell? ⟨g, k, none⟩ = some (.string ⟨p.toArray⟩)) := Lib.hid (fun k p hp => by
            have h2 := ho3.cells (g := g) rfl k (.string ⟨p.toArray⟩) (by rw [strsL, List.getElem?_map, hp]; rfl)
            rw [show (⟨g, k, none⟩ : Addr) = (⟨g, 0, none⟩ : Addr).add k by cases k <;> simp [Addr.add]]
            exact h2)
          clear hb3 ho3
          go_wp2_with fail
          go_loopw [12, 67] (fun sv i wr => ∃ (k : Nat) (sum : List UInt8), sv = .string ⟨sum.toArray⟩ ∧ i = .int .i64 k ∧ k ≤ 1 ∧ Hid (sum.length ≤ 60 ∧ addUp ps sizes [48] = addUp (ps.drop k) (sizes.drop k) sum) ∧ Hid (Below w3.heap.size w3 wr)) (fun _ i _ => 1 - (intOf i).toNat)
          case atStart => exact ⟨0, [48], rfl, rfl, by decide, Lib.hid ⟨by decide, rfl⟩, Lib.hid (Below.refl _ _)⟩
          case round =>
            obtain ⟨k, sum, rfl, rfl, hk, hka, hbr⟩ := hrel
            have hb0r := Lib.hid (hb03.out.trans (hbr.out.mono hb03.out.size))
            by_cases hlt : k < 1
            · obtain ⟨p, hp⟩ : ∃ p, ps[k]? = some p := ⟨ps[k]'(by rw [← hn.out]; exact hlt), List.getElem?_eq_getElem _⟩
              have hdr : Hid (ps.drop k = p :: ps.drop (k + 1)) := Lib.hid (by
                obtain ⟨h1, h2⟩ := List.getElem?_eq_some_iff.1 hp
                rw [← h2]; exact List.drop_eq_getElem_cons h1)
              obtain ⟨t, ht1, ht2, ht3⟩ := sizes_at k (by omega)
              replace ht3 := Lib.hid ht3
              have q0 : wr.cell? ⟨g, k, none⟩ = some (.string ⟨p.toArray⟩) := (hbr.out.cell (p := ⟨g, k, none⟩) hg3.out).trans (hcell.out k p hp)
              have hpl' : p.length ≤ 1000 := hpl.out p (List.mem_of_getElem? hp)
              replace hp := Lib.hid hp
              have hkk : (k : Int) < 1 := by omega
              obtain ⟨P, hP⟩ : ∃ P : ByteArray, P = ⟨p.toArray⟩ := ⟨_, rfl⟩
              have hPd : P.data.toList = p := by rw [hP]
              have hPs : P.size ≤ 1000 := by rw [← list_len, hPd]; exact hpl'
              rw [← hP] at q0
              replace hP := Lib.hid hP
              by_cases hpe : p = []
              · have g2 : (P.toList == []) = true := by rw [ByteArray.toList_eq, hPd, hpe]; rfl
                have hadd : addUp ps sizes [48] = addUp (ps.drop (k + 1)) (sizes.drop (k + 1)) sum := by rw [hka.out.2, hdr.out, ht3.out, hpe, addUp_skip]
                replace hadd := Lib.hid hadd
                replace hpe := Lib.hid hpe
                clear hPd ht1 ht2 hpl'
                go_wp2_with fail
                exact ⟨⟨k + 1, sum, rfl, by simp, by omega, Lib.hid ⟨hka.out.1, hadd.out⟩, hbr⟩, by simp [intOf]; omega⟩
              · have g2 : (P.toList == []) = false := by rw [ByteArray.toList_eq, hPd]; simpa using hpe
                have hLr := hL3.out.below hbr.out hL3.out.size
                obtain ⟨c1, c2, c3⟩ := part_calls P ⟨t.toArray⟩ ⟨sum.toArray⟩ wr hLr hPs (by rw [← list_len]; show t.length ≤ 1000; omega) (by rw [← list_len]; show sum.length ≤ 1000; have := hka.out.1; omega)
                rw [hPd] at c1
                rw [show (⟨t.toArray⟩ : ByteArray).data.toList = t by simp] at c2
                rw [show (⟨sum.toArray⟩ : ByteArray).data.toList = sum by simp] at c3
                replace c1 := c1 wr (Below.refl _ _)
                obtain ⟨x, hx⟩ : ∃ x, x = (parseT p).1 := ⟨_, rfl⟩
                obtain ⟨e1, he1⟩ : ∃ e1, e1 = (parseT p).2 := ⟨_, rfl⟩
                rw [← hx, ← he1] at c1
                have hxl : x.length ≤ 60 := by rw [hx]; exact parseT_len p
                obtain ⟨y, hy⟩ : ∃ y, y = (mulT x t).1 := ⟨_, rfl⟩
                obtain ⟨e2, he2⟩ : ∃ e2, e2 = (mulT x t).2 := ⟨_, rfl⟩
                have hyl : y.length ≤ 60 := by rw [hy]; exact mulT_len _ _
                obtain ⟨z, hz⟩ : ∃ z, z = (addT sum y).1 := ⟨_, rfl⟩
                obtain ⟨e3, he3⟩ : ∃ e3, e3 = (addT sum y).2 := ⟨_, rfl⟩
                have hzl : z.length ≤ 60 := by rw [hz]; exact addT_len _ _
                have c2' := Lib.hid (fun w hb => c2 w x hxl hb)
                rw [← hy, ← he2] at c2'
                have c3' := Lib.hid (fun w hb => c3 w y hyl hb)
                rw [← hz, ← he3] at c3'
                have r1 : Hid (e1 ≠ 0 → addUp ps sizes [48] = ([], 40)) := Lib.hid (fun h => by rw [hka.out.2, hdr.out, ht3.out, addUp_err1 _ _ _ _ hpe (by rw [← he1]; exact h)])
                have r2 : Hid (e1 = 0 → e2 ≠ 0 → addUp ps sizes [48] = ([], 40)) := Lib.hid (fun h1 h => by rw [hka.out.2, hdr.out, ht3.out, addUp_err2 _ _ _ _ hpe (by rw [← he1]; exact h1) (by rw [← hx, ← he2]; exact h)])
                have r3 : Hid (e1 = 0 → e2 = 0 → e3 ≠ 0 → addUp ps sizes [48] = ([], 40)) := Lib.hid (fun h1 h2 h => by rw [hka.out.2, hdr.out, ht3.out, addUp_err3 _ _ _ _ hpe (by rw [← he1]; exact h1) (by rw [← hx, ← he2]; exact h2) (by rw [← hx, ← hy, ← he3]; exact h)])
                have r4 : Hid (e1 = 0 → e2 = 0 → e3 = 0 → addUp ps sizes [48] = addUp (ps.drop (k + 1)) (sizes.drop (k + 1)) z) := Lib.hid (fun h1 h2 h => by rw [hka.out.2, hdr.out, ht3.out, addUp_next _ _ _ _ hpe (by rw [← he1]; exact h1) (by rw [← hx, ← he2]; exact h2) (by rw [← hx, ← hy, ← he3]; exact h), ← hx, ← hy, ← hz])
                replace hx := Lib.hid hx
                replace he1 := Lib.hid he1
                replace hy := Lib.hid hy
                replace he2 := Lib.hid he2
                replace hz := Lib.hid hz
                replace he3 := Lib.hid he3
                clear c2 c3 hPd hpl' hPs hxl hyl
                have hq5 : ∀ w : World, (w.alloc (.cells #[.string ⟨#[56, 54, 52, 48, 48]⟩, .string ⟨#[51, 54, 48, 48]⟩, .string ⟨#[54, 48]⟩, .string ⟨#[49]⟩] 9)).cell? ⟨w.heap.size, k, none⟩ = some (.string ⟨t.toArray⟩) := fun w => by
                  rw [World.cell?_alloc_at _ _ _ _ rfl]
                  have : k = 0 ∨ k = 1 ∨ k = 2 ∨ k = 3 := by omega
                  rcases this with rfl | rfl | rfl | rfl <;> (injection ht1 with ht1; rw [← ht1]; rfl)
                replace hq5 := Lib.hid hq5
                replace ht1 := Lib.hid ht1
                clear ht2
                go_wp2_with fail
                refine c1.mono ?_
                rintro e w4 ⟨rfl, hb4⟩
                clear c1
                by_cases h1 : e1 = 0
                · subst h1
                  have hq6 := hq5.out w4
                  have hkk4 : (k : Int) < 4 := by omega
                  go_wp2_with fail
                  refine (c2'.out _ (hb4.alloc hb4.size _)).mono ?_
                  rintro e w5 ⟨rfl, hb5⟩
                  have hbr5 : Below wr.heap.size wr w5 := (hb4.alloc hb4.size _).trans (hb5.mono (hb4.alloc hb4.size _).size)
                  clear hb5 hb4 hq6
                  by_cases h2 : e2 = 0
                  · subst h2
                    go_wp2_with fail
                    refine (c3'.out _ hbr5).mono ?_
                    rintro e w6 ⟨rfl, hb6⟩
                    have hbr6 := hbr5.trans (hb6.mono hbr5.size)
                    clear hb6 hbr5
                    by_cases h3 : e3 = 0
                    · subst h3
                      have hz60 := Lib.hid hzl
                      go_wp2_with fail
                      exact ⟨⟨k + 1, z, rfl, by simp, by omega, Lib.hid ⟨hz60.out, r4.out (by simp) (by simp) (by simp)⟩, Lib.hid (hbr.out.trans (hbr6.mono hbr.out.size))⟩, by simp [intOf]; omega⟩
                    · have g3 : (e3 == 0) = false := by simpa using h3
                      have hr := r3.out (by simp) (by simp) h3
                      have hv : Hid (tailR mi true ps R = ([], 40)) := Lib.hid (by rw [hQ.out, hr]; rfl)
                      clear hr
                      replace h3 := Lib.hid h3
                      go_wp2_with fail
                      go_ret2
                      exact ⟨by rw [hres.out, hv.out]; rfl, hb0r.out.trans (hbr6.mono hb0r.out.size)⟩
                  · have g3 : (e2 == 0) = false := by simpa using h2
                    have hr := r2.out (by simp) h2
                    have hv : Hid (tailR mi true ps R = ([], 40)) := Lib.hid (by rw [hQ.out, hr]; rfl)
                    clear hr
                    replace h2 := Lib.hid h2
                    go_wp2_with fail
                    go_ret2
                    exact ⟨by rw [hres.out, hv.out]; rfl, hb0r.out.trans (hbr5.mono hb0r.out.size)⟩
                · have g3 : (e1 == 0) = false := by simpa using h1
                  have hr := r1.out h1
                  have hv : Hid (tailR mi true ps R = ([], 40)) := Lib.hid (by rw [hQ.out, hr]; rfl)
                  clear hr
                  replace h1 := Lib.hid h1
                  go_wp2_with fail
                  go_ret2
                  exact ⟨by rw [hres.out, hv.out]; rfl, hb0r.out.trans (hb4.mono hb0r.out.size)⟩
            · have hkn : k = 1 := by omega
              have hadd : addUp ps sizes [48] = (sum, 0) := by rw [hka.out.2, hkn, hn.out, List.drop_length, addUp_nil]
              have hv : Hid (tailR mi true ps R = if mi then negT sum else (sum, 0)) := Lib.hid (by rw [hQ.out, hadd]; rfl)
              subst hkn
              have hneg := neg_b ⟨sum.toArray⟩ wr (hL3.out.below hbr.out hL3.out.size) (by rw [← list_len]; show sum.length ≤ 2 ^ 63 - 1; have := hka.out.1; omega)
              rw [show (⟨sum.toArray⟩ : ByteArray).data.toList = sum by simp] at hneg
              clear hadd
              cases mi with
              | false =>
                clear hneg
                go_wp2_with fail
                go_ret2
                exact ⟨by rw [hres.out, hv.out]; rfl, hb0r.out⟩
              | true =>
                go_wp2_with fail
                refine hneg.mono ?_
                rintro e w6 ⟨rfl, hb6⟩
                go_wp2_with fail
                go_ret2
                exact ⟨by rw [hres.out, hv.out]; rfl, hb0r.out.trans (hb6.mono hb0r.out.size)⟩
      · have g1 : (RB.toList == []) = false := by rw [hRl]; simpa using hRe
        have hQ : Hid (tailR mi true ps R = ([], 5)) := Lib.hid (by unfold tailR; rw [if_pos (.inr (.inl hRe))])
        clear hRl
        replace hsm := Lib.hid hsm
        replace hRe := Lib.hid hRe
        go_wp2_with fail
        go_ret2
        exact ⟨by rw [hres.out, hQ.out]; rfl, hbT.out⟩
  | true =>
    have hc3' : c3 = c2.drop 1 := by rw [hc3.out]; rfl
    obtain ⟨C3, hC3⟩ : ∃ C3 : ByteArray, C3 = ⟨c3.toArray⟩ := ⟨_, rfl⟩
    have hC3d : C3.data.toList = c3 := by rw [hC3]
    have hc3l : c3.length ≤ 200 := by rw [hc3', List.length_drop]; omega
    obtain ⟨more, hmore⟩ : ∃ more, more = (cutP [72, 77, 83] c3).1 := ⟨_, rfl⟩
    obtain ⟨R, hR⟩ : ∃ R, R = (cutP [72, 77, 83] c3).2 := ⟨_, rfl⟩
    have h7 : cutP [72, 77, 83] c3 = (more, R) := by rw [hmore, hR]
    have hml : more.length = 3 := by rw [hmore, cutP_len]; rfl
    have hmp : ∀ p ∈ more, p.length ≤ 200 := fun p hp => Nat.le_trans (cutP_each _ _ p (by rw [← hmore]; exact hp)) hc3l
    have hmain : Hid (secondsP s.data.toList = secondsR mi ok true ([Y] ++ more) more R) := Lib.hid (hIs.out rfl more R (by rw [← hc3']; exact h7))
    obtain ⟨W3, hW3⟩ : ∃ W3, W3 = w2.alloc (.cells #[.int .u8 72, .int .u8 77, .int .u8 83] 5) := ⟨_, rfl⟩
    have hbe3 : Below w2.heap.size w2 W3 := by rw [hW3]; exact (Below.refl _ _).alloc (Nat.le_refl _) _
    have hx3 : W3.heap[w2.heap.size]? = some (.cells #[.int .u8 72, .int .u8 77, .int .u8 83] 5 (0, 0)) := by rw [hW3]; exact (MapKept.heap_alloc _ _).1
    have hcu2 := cut_d C3 [72, 77, 83] W3 w2.heap.size (heap_lt hx3) (fun i h => by
      rw [Lib.cell_of_heap hx3]
      match i, h with
      | 0, _ => rfl
      | 1, _ => rfl
      | 2, _ => rfl) (by decide) (by rw [← list_len, hC3d]; omega)
    rw [hC3d, h7] at hcu2
    have ho3 := own_below ho.out hbe3
    have hbW3 := hbW2.out.trans (hbe3.mono hbW2.out.size)
    rw [← hC3]
    obtain ⟨i0, hi, hz0, hz1, hz2⟩ := info_parts info_str
    clear hC3d hc3' hc3l hmore hR h7 hIs hNot hc3 his hx3 ho hbe3 hbW2 hcl hC2
    replace ho3 := Lib.hid ho3
    replace hbW3 := Lib.hid hbW3
    replace hml := Lib.hid hml
    replace hC3 := Lib.hid hC3
    go_wp2_with fail
    rw [← hW3]
    refine hcu2.mono ?_
    rintro e w4 ⟨v2, rfl, ho4, hb4⟩
    clear hcu2 hW3
    obtain ⟨g2, cap2, rfl⟩ := own_form1 ho4 (by decide)
    have hoY := own_below ho3.out hb4
    have hbW4 := hbW3.out.trans (hb4.mono hbW3.out.size)
    have hso2 := some_d more 3 g2 cap2 w4 _ ho4 hml.out.symm (by rw [hml.out]; decide) (by
      have : ∀ (l : List (List UInt8)), (∀ p ∈ l, p.length ≤ 200) → l.flatten.length ≤ 200 * l.length := by
        intro l
        induction l with
        | nil => intro _; simp
        | cons x l ih =>
          intro h
          have h1 := h x (List.mem_cons_self ..)
          have h2 := ih fun p hp => h p (List.mem_cons_of_mem _ hp)
          rw [List.flatten_cons, List.length_append, List.length_cons]; omega
      have := this more hmp
      rw [hml.out] at this; omega)
    obtain ⟨sm2, hsm2⟩ : ∃ sm2, sm2 = someP more := ⟨_, rfl⟩
    rw [← hsm2] at hso2
    obtain ⟨RB, hRB⟩ : ∃ RB : ByteArray, RB = ⟨R.toArray⟩ := ⟨_, rfl⟩
    have hRl : RB.toList = R := by rw [hRB, ByteArray.toList_mk]
    rw [← hRB]
    replace ho4 := Lib.hid ho4
    replace hoY := Lib.hid hoY
    replace hbW4 := Lib.hid hbW4
    replace hRl := Lib.hid hRl
    clear hb4 hRB hbW3
    go_wp2_with fail
    refine hso2.mono ?_
    rintro e w5 ⟨rfl, hb5⟩
    clear hso2
    have hbW5 := Lib.hid (hbW4.out.trans (hb5.mono hbW4.out.size))
    have ho5 := own_below ho4.out hb5
    have hoY5 := own_below hoY.out hb5
    clear hb5 ho4 hoY hbW4
    cases sm2 with
    | false =>
      have hQ : Hid (secondsP s.data.toList = ([], 5)) := Lib.hid (by rw [hmain.out]; unfold secondsR; rw [if_pos ⟨rfl, hsm2.symm⟩])
      replace hsm2 := Lib.hid hsm2
      clear ho5 hoY5
      go_wp2_with fail
      go_ret2
      exact ⟨by rw [hQ.out]; rfl, hbW5.out⟩
    | true =>
      obtain ⟨ps, hps⟩ : ∃ ps, ps = [Y] ++ more := ⟨_, rfl⟩
      have hres : Hid (secondsP s.data.toList = tailR mi ok ps R) := Lib.hid (by rw [hmain.out, tailR_is hsm2.symm, hps])
      have hpl : Hid (∀ p ∈ ps, p.length ≤ 1000) := Lib.hid (fun p hp => by
        rw [hps] at hp
        rcases List.mem_append.1 hp with h | h
        · rw [List.mem_singleton.1 h]; omega
        · have := hmp p h; omega)
      have hn : 4 = ps.length := by rw [hps, List.length_append, hml.out]; rfl
      have hfl : ps.flatten.length ≤ 100000 := by
        have : ∀ (l : List (List UInt8)), (∀ p ∈ l, p.length ≤ 1000) → l.flatten.length ≤ 1000 * l.length := by
          intro l
          induction l with
          | nil => intro _; simp
          | cons x l ih =>
            intro h
            have h1 := h x (List.mem_cons_self ..)
            have h2 := ih fun p hp => h p (List.mem_cons_of_mem _ hp)
            rw [List.flatten_cons, List.length_append, List.length_cons]; omega
        have := this ps hpl.out
        rw [← hn] at this; omega
      have hnews : ∀ j u, (strsL more)[j]? = some u → w5.cell? (Addr.add ⟨g2, 0, none⟩ j) = some u := fun j u hu => ho5.cells (g := g2) rfl j u hu
      have hone : ∀ u ∈ strsL more, u.oneCell' = true := fun u hu => by
        rw [strsL, List.mem_map] at hu
        obtain ⟨p, _, rfl⟩ := hu
        rfl
      have hsl : (strsL more).length = 3 * 1 := by rw [strsL_len, hml.out]
      have hbase : W1.heap.size + 1 ≤ w5.heap.size := by have := (hoY5.lt g rfl).2; have := (hoY5.lt g rfl).1; omega
      replace hsm2 := Lib.hid hsm2
      replace hps := Lib.hid hps
      replace hn := Lib.hid hn
      clear ho5 hmp hmain
      replace hRl := hRl.out
      obtain ⟨sm, hsm⟩ : ∃ sm, sm = someP ps := ⟨_, rfl⟩
      cases ok with
      | false =>
        have hQ : Hid (tailR mi false ps R = ([], 5)) := Lib.hid (by unfold tailR; rw [if_pos (.inl rfl)])
        clear hRl
        replace hsm := Lib.hid hsm
        go_wp2_with (at_builtin; go_loud (refine wpList_append_own _ rfl _ _ 32 rfl (W1.heap.size + 1) 9 i0 (.string ⟨#[]⟩) 1 16 Tryz.underlying32 hi hz0 hz1 hz2 rfl (by decide) _ _ _ rfl hoY5 ⟨g2, 0, none⟩ 3 cap2 (strsL more) rfl hsl hnews hone (by decide) (by decide) hbase ?_); intro v' wT hown' hgrow3 hnil3)
        have hbT : Hid (Below W.heap.size W wT) := Lib.hid (Below.grown hbW5.out hgrow3 hbW5.out.size (fun j hj => by have := (hoY5.lt _ hj).1; omega))
        have ho : Hid (wT.ownsRow (W1.heap.size + 1) 9 1 v' 4 (strsL ps)) := Lib.hid (by rw [hps.out]; simpa [strsL] using hown')
        clear hown' hgrow3 hnil3 hoY5 hnews hone hsl
        go_ret2
        exact ⟨by rw [hres.out, hQ.out]; rfl, hbT.out⟩
      | true =>
        by_cases hRe : R = []
        · have g1 : (RB.toList == []) = true := by rw [hRl, hRe]; rfl
          clear hRl
          cases sm with
          | false =>
            have hQ : Hid (tailR mi true ps R = ([], 5)) := Lib.hid (by unfold tailR; rw [if_pos (.inr (.inr hsm.symm))])
            replace hsm := Lib.hid hsm
            replace hRe := Lib.hid hRe
            go_wp2_with (at_builtin; go_loud (refine wpList_append_own _ rfl _ _ 32 rfl (W1.heap.size + 1) 9 i0 (.string ⟨#[]⟩) 1 16 Tryz.underlying32 hi hz0 hz1 hz2 rfl (by decide) _ _ _ rfl hoY5 ⟨g2, 0, none⟩ 3 cap2 (strsL more) rfl hsl hnews hone (by decide) (by decide) hbase ?_); intro v' wT hown' hgrow3 hnil3)
            have hbT : Hid (Below W.heap.size W wT) := Lib.hid (Below.grown hbW5.out hgrow3 hbW5.out.size (fun j hj => by have := (hoY5.lt _ hj).1; omega))
            have ho : Hid (wT.ownsRow (W1.heap.size + 1) 9 1 v' 4 (strsL ps)) := Lib.hid (by rw [hps.out]; simpa [strsL] using hown')
            clear hown' hgrow3 hnil3 hoY5 hnews hone hsl
            obtain ⟨g, cap, rfl⟩ := own_form1 ho.out (by decide)
            have hso := some_d ps 4 g cap wT _ ho.out hn.out (by rw [← hn.out]; decide) hfl
            rw [← hsm.out] at hso
            refine hso.mono ?_
            rintro e w3 ⟨rfl, hb3⟩
            clear hso
            go_wp2_with fail
            go_ret2
            exact ⟨by rw [hres.out, hQ.out]; rfl, hbT.out.trans (hb3.mono hbT.out.size)⟩
          | true =>
            have hQ : Hid (tailR mi true ps R = if (addUp ps sizes [48]).2 ≠ 0 then addUp ps sizes [48] else if mi then negT (addUp ps sizes [48]).1 else addUp ps sizes [48]) := Lib.hid (by
              unfold tailR
              rw [if_neg]
              rintro (h | h | h)
              · cases h
              · exact h hRe
              · rw [← hsm] at h; cases h)
            replace hsm := Lib.hid hsm
            replace hRe := Lib.hid hRe
            go_wp2_with (at_builtin; go_loud (refine wpList_append_own _ rfl _ _ 32 rfl (W1.heap.size + 1) 9 i0 (.string ⟨#[]⟩) 1 16 Tryz.underlying32 hi hz0 hz1 hz2 rfl (by decide) _ _ _ rfl hoY5 ⟨g2, 0, none⟩ 3 cap2 (strsL more) rfl hsl hnews hone (by decide) (by decide) hbase ?_); intro v' wT hown' hgrow3 hnil3)
            have hbT : Hid (Below W.heap.size W wT) := Lib.hid (Below.grown hbW5.out hgrow3 hbW5.out.size (fun j hj => by have := (hoY5.lt _ hj).1; omega))
            have ho : Hid (wT.ownsRow (W1.heap.size + 1) 9 1 v' 4 (strsL ps)) := Lib.hid (by rw [hps.out]; simpa [strsL] using hown')
            clear hown' hgrow3 hnil3 hoY5 hnews hone hsl
            obtain ⟨g, cap, rfl⟩ := own_form1 ho.out (by decide)
            have hso := some_d ps 4 g cap wT _ ho.out hn.out (by rw [← hn.out]; decide) hfl
            rw [← hsm.out] at hso
            refine hso.mono ?_
            rintro e w3 ⟨rfl, hb3⟩
            clear hso
            have hb03 := Lib.hid (hbT.out.trans (hb3.mono hbT.out.size))
            have ho3 := own_below ho.out hb3
            have hL3 := Lib.hid (hL.out.below hb03.out hL.out.size)
            have hg3 := Lib.hid (ho3.lt g rfl).2
            have hcell : Hid (∀ k p, ps[k]? = some p → w3.cell? ⟨g, k, none⟩ = some (.string ⟨p.toArray⟩)) := Lib.hid (fun k p hp => by
              have h2 := ho3.cells (g := g) rfl k (.string ⟨p.toArray⟩) (by rw [strsL, List.getElem?_map, hp]; rfl)
              rw [show (⟨g, k, none⟩ : Addr) = (⟨g, 0, none⟩ : Addr).add k by cases k <;> simp [Addr.add]]
              exact h2)
            clear hb3 ho3
            go_wp2_with fail
            go_loopw [12, 67] (fun sv i wr => ∃ (k : Nat) (sum : List UInt8), sv = .string ⟨sum.toArray⟩ ∧ i = .int .i64 k ∧ k ≤ 4 ∧ Hid (sum.length ≤ 60 ∧ addUp ps sizes [48] = addUp (ps.drop k) (sizes.drop k) sum) ∧ Hid (Below w3.heap.size w3 wr)) (fun _ i _ => 4 - (intOf i).toNat)
            case atStart => exact ⟨0, [48], rfl, rfl, by decide, Lib.hid ⟨by decide, rfl⟩, Lib.hid (Below.refl _ _)⟩
            case round =>
              obtain ⟨k, sum, rfl, rfl, hk, hka, hbr⟩ := hrel
              have hb0r := Lib.hid (hb03.out.trans (hbr.out.mono hb03.out.size))
              by_cases hlt : k < 4
              · obtain ⟨p, hp⟩ : ∃ p, ps[k]? = some p := ⟨ps[k]'(by rw [← hn.out]; exact hlt), List.getElem?_eq_getElem _⟩
                have hdr : Hid (ps.drop k = p :: ps.drop (k + 1)) := Lib.hid (by
                  obtain ⟨h1, h2⟩ := List.getElem?_eq_some_iff.1 hp
                  rw [← h2]; exact List.drop_eq_getElem_cons h1)
                obtain ⟨t, ht1, ht2, ht3⟩ := sizes_at k (by omega)
                replace ht3 := Lib.hid ht3
                have q0 : wr.cell? ⟨g, k, none⟩ = some (.string ⟨p.toArray⟩) := (hbr.out.cell (p := ⟨g, k, none⟩) hg3.out).trans (hcell.out k p hp)
                have hpl' : p.length ≤ 1000 := hpl.out p (List.mem_of_getElem? hp)
                replace hp := Lib.hid hp
                have hkk : (k : Int) < 4 := by omega
                obtain ⟨P, hP⟩ : ∃ P : ByteArray, P = ⟨p.toArray⟩ := ⟨_, rfl⟩
                have hPd : P.data.toList = p := by rw [hP]
                have hPs : P.size ≤ 1000 := by rw [← list_len, hPd]; exact hpl'
                rw [← hP] at q0
                replace hP := Lib.hid hP
                by_cases hpe : p = []
                · have g2 : (P.toList == []) = true := by rw [ByteArray.toList_eq, hPd, hpe]; rfl
                  have hadd : addUp ps sizes [48] = addUp (ps.drop (k + 1)) (sizes.drop (k + 1)) sum := by rw [hka.out.2, hdr.out, ht3.out, hpe, addUp_skip]
                  replace hadd := Lib.hid hadd
                  replace hpe := Lib.hid hpe
                  clear hPd ht1 ht2 hpl'
                  go_wp2_with fail
                  exact ⟨⟨k + 1, sum, rfl, by simp, by omega, Lib.hid ⟨hka.out.1, hadd.out⟩, hbr⟩, by simp [intOf]; omega⟩
                · have g2 : (P.toList == []) = false := by rw [ByteArray.toList_eq, hPd]; simpa using hpe
                  have hLr := hL3.out.below hbr.out hL3.out.size
                  obtain ⟨c1, c2, c3⟩ := part_calls P ⟨t.toArray⟩ ⟨sum.toArray⟩ wr hLr hPs (by rw [← list_len]; show t.length ≤ 1000; omega) (by rw [← list_len]; show sum.length ≤ 1000; have := hka.out.1; omega)
                  rw [hPd] at c1
                  rw [show (⟨t.toArray⟩ : ByteArray).data.toList = t by simp] at c2
                  rw [show (⟨sum.toArray⟩ : ByteArray).data.toList = sum by simp] at c3
                  replace c1 := c1 wr (Below.refl _ _)
                  obtain ⟨x, hx⟩ : ∃ x, x = (parseT p).1 := ⟨_, rfl⟩
                  obtain ⟨e1, he1⟩ : ∃ e1, e1 = (parseT p).2 := ⟨_, rfl⟩
                  rw [← hx, ← he1] at c1
                  have hxl : x.length ≤ 60 := by rw [hx]; exact parseT_len p
                  obtain ⟨y, hy⟩ : ∃ y, y = (mulT x t).1 := ⟨_, rfl⟩
                  obtain ⟨e2, he2⟩ : ∃ e2, e2 = (mulT x t).2 := ⟨_, rfl⟩
                  have hyl : y.length ≤ 60 := by rw [hy]; exact mulT_len _ _
                  obtain ⟨z, hz⟩ : ∃ z, z = (addT sum y).1 := ⟨_, rfl⟩
                  obtain ⟨e3, he3⟩ : ∃ e3, e3 = (addT sum y).2 := ⟨_, rfl⟩
                  have hzl : z.length ≤ 60 := by rw [hz]; exact addT_len _ _
                  have c2' := Lib.hid (fun w hb => c2 w x hxl hb)
                  rw [← hy, ← he2] at c2'
                  have c3' := Lib.hid (fun w hb => c3 w y hyl hb)
                  rw [← hz, ← he3] at c3'
                  have r1 : Hid (e1 ≠ 0 → addUp ps sizes [48] = ([], 40)) := Lib.hid (fun h => by rw [hka.out.2, hdr.out, ht3.out, addUp_err1 _ _ _ _ hpe (by rw [← he1]; exact h)])
                  have r2 : Hid (e1 = 0 → e2 ≠ 0 → addUp ps sizes [48] = ([], 40)) := Lib.hid (fun h1 h => by rw [hka.out.2, hdr.out, ht3.out, addUp_err2 _ _ _ _ hpe (by rw [← he1]; exact h1) (by rw [← hx, ← he2]; exact h)])
                  have r3 : Hid (e1 = 0 → e2 = 0 → e3 ≠ 0 → addUp ps sizes [48] = ([], 40)) := Lib.hid (fun h1 h2 h => by rw [hka.out.2, hdr.out, ht3.out, addUp_err3 _ _ _ _ hpe (by rw [← he1]; exact h1) (by rw [← hx, ← he2]; exact h2) (by rw [← hx, ← hy, ← he3]; exact h)])
                  have r4 : Hid (e1 = 0 → e2 = 0 → e3 = 0 → addUp ps sizes [48] = addUp (ps.drop (k + 1)) (sizes.drop (k + 1)) z) := Lib.hid (fun h1 h2 h => by rw [hka.out.2, hdr.out, ht3.out, addUp_next _ _ _ _ hpe (by rw [← he1]; exact h1) (by rw [← hx, ← he2]; exact h2) (by rw [← hx, ← hy, ← he3]; exact h), ← hx, ← hy, ← hz])
                  replace hx := Lib.hid hx
                  replace he1 := Lib.hid he1
                  replace hy := Lib.hid hy
                  replace he2 := Lib.hid he2
                  replace hz := Lib.hid hz
                  replace he3 := Lib.hid he3
                  clear c2 c3 hPd hpl' hPs hxl hyl
                  have hq5 : ∀ w : World, (w.alloc (.cells #[.string ⟨#[56, 54, 52, 48, 48]⟩, .string ⟨#[51, 54, 48, 48]⟩, .string ⟨#[54, 48]⟩, .string ⟨#[49]⟩] 9)).cell? ⟨w.heap.size, k, none⟩ = some (.string ⟨t.toArray⟩) := fun w => by
                    rw [World.cell?_alloc_at _ _ _ _ rfl]
                    have : k = 0 ∨ k = 1 ∨ k = 2 ∨ k = 3 := by omega
                    rcases this with rfl | rfl | rfl | rfl <;> (injection ht1 with ht1; rw [← ht1]; rfl)
                  replace hq5 := Lib.hid hq5
                  replace ht1 := Lib.hid ht1
                  clear ht2
                  go_wp2_with fail
                  refine c1.mono ?_
                  rintro e w4 ⟨rfl, hb4⟩
                  clear c1
                  by_cases h1 : e1 = 0
                  · subst h1
                    have hq6 := hq5.out w4
                    have hkk4 : (k : Int) < 4 := by omega
                    go_wp2_with fail
                    refine (c2'.out _ (hb4.alloc hb4.size _)).mono ?_
                    rintro e w5 ⟨rfl, hb5⟩
                    have hbr5 : Below wr.heap.size wr w5 := (hb4.alloc hb4.size _).trans (hb5.mono (hb4.alloc hb4.size _).size)
                    clear hb5 hb4 hq6
                    by_cases h2 : e2 = 0
                    · subst h2
                      go_wp2_with fail
                      refine (c3'.out _ hbr5).mono ?_
                      rintro e w6 ⟨rfl, hb6⟩
                      have hbr6 := hbr5.trans (hb6.mono hbr5.size)
                      clear hb6 hbr5
                      by_cases h3 : e3 = 0
                      · subst h3
                        have hz60 := Lib.hid hzl
                        go_wp2_with fail
                        exact ⟨⟨k + 1, z, rfl, by simp, by omega, Lib.hid ⟨hz60.out, r4.out (by simp) (by simp) (by simp)⟩, Lib.hid (hbr.out.trans (hbr6.mono hbr.out.size))⟩, by simp [intOf]; omega⟩
                      · have g3 : (e3 == 0) = false := by simpa using h3
                        have hr := r3.out (by simp) (by simp) h3
                        have hv : Hid (tailR mi true ps R = ([], 40)) := Lib.hid (by rw [hQ.out, hr]; rfl)
                        clear hr
                        replace h3 := Lib.hid h3
                        go_wp2_with fail
                        go_ret2
                        exact ⟨by rw [hres.out, hv.out]; rfl, hb0r.out.trans (hbr6.mono hb0r.out.size)⟩
                    · have g3 : (e2 == 0) = false := by simpa using h2
                      have hr := r2.out (by simp) h2
                      have hv : Hid (tailR mi true ps R = ([], 40)) := Lib.hid (by rw [hQ.out, hr]; rfl)
                      clear hr
                      replace h2 := Lib.hid h2
                      go_wp2_with fail
                      go_ret2
                      exact ⟨by rw [hres.out, hv.out]; rfl, hb0r.out.trans (hbr5.mono hb0r.out.size)⟩
                  · have g3 : (e1 == 0) = false := by simpa using h1
                    have hr := r1.out h1
                    have hv : Hid (tailR mi true ps R = ([], 40)) := Lib.hid (by rw [hQ.out, hr]; rfl)
                    clear hr
                    replace h1 := Lib.hid h1
                    go_wp2_with fail
                    go_ret2
                    exact ⟨by rw [hres.out, hv.out]; rfl, hb0r.out.trans (hb4.mono hb0r.out.size)⟩
              · have hkn : k = 4 := by omega
                have hadd : addUp ps sizes [48] = (sum, 0) := by rw [hka.out.2, hkn, hn.out, List.drop_length, addUp_nil]
                have hv : Hid (tailR mi true ps R = if mi then negT sum else (sum, 0)) := Lib.hid (by rw [hQ.out, hadd]; rfl)
                subst hkn
                have hneg := neg_b ⟨sum.toArray⟩ wr (hL3.out.below hbr.out hL3.out.size) (by rw [← list_len]; show sum.length ≤ 2 ^ 63 - 1; have := hka.out.1; omega)
                rw [show (⟨sum.toArray⟩ : ByteArray).data.toList = sum by simp] at hneg
                clear hadd
                cases mi with
                | false =>
                  clear hneg
                  go_wp2_with fail
                  go_ret2
                  exact ⟨by rw [hres.out, hv.out]; rfl, hb0r.out⟩
                | true =>
                  go_wp2_with fail
                  refine hneg.mono ?_
                  rintro e w6 ⟨rfl, hb6⟩
                  go_wp2_with fail
                  go_ret2
                  exact ⟨by rw [hres.out, hv.out]; rfl, hb0r.out.trans (hb6.mono hb0r.out.size)⟩
        · have g1 : (RB.toList == []) = false := by rw [hRl]; simpa using hRe
          have hQ : Hid (tailR mi true ps R = ([], 5)) := Lib.hid (by unfold tailR; rw [if_pos (.inr (.inl hRe))])
          clear hRl
          replace hsm := Lib.hid hsm
          replace hRe := Lib.hid hRe
          go_wp2_with (at_builtin; go_loud (refine wpList_append_own _ rfl _ _ 32 rfl (W1.heap.size + 1) 9 i0 (.string ⟨#[]⟩) 1 16 Tryz.underlying32 hi hz0 hz1 hz2 rfl (by decide) _ _ _ rfl hoY5 ⟨g2, 0, none⟩ 3 cap2 (strsL more) rfl hsl hnews hone (by decide) (by decide) hbase ?_); intro v' wT hown' hgrow3 hnil3)
          have hbT : Hid (Below W.heap.size W wT) := Lib.hid (Below.grown hbW5.out hgrow3 hbW5.out.size (fun j hj => by have := (hoY5.lt _ hj).1; omega))
          have ho : Hid (wT.ownsRow (W1.heap.size + 1) 9 1 v' 4 (strsL ps)) := Lib.hid (by rw [hps.out]; simpa [strsL] using hown')
          clear hown' hgrow3 hnil3 hoY5 hnews hone hsl
          go_ret2
          exact ⟨by rw [hres.out, hQ.out]; rfl, hbT.out⟩
end Go.Proofs.YtjndcehkgfbagaaGreatDoor

namespace Go.Proofs.YtjndcehkgfbagaaGreatDoor
open Go.RowKit NumP DurP Go.Proofs.YtjndcehkgfbagaaGreatDoorW.PrintWords
set_option linter.unusedVariables false

theorem ParseSeconds_d (s : ByteArray) (W : World) (hL : LaidW W) (hs : s.size ≤ maxLen) : Calls Tryz.prog 18 #[.string s] W (StrPost W (secondsP s.data.toList)) := by
  by_cases h : 200 < s.size
  · exact seconds_long s W hs h
  · exact seconds_d s W hL h
def IntAt (W : World) (n k : Int) (e : Ending) (w' : World) : Prop := e = .returned (.tuple #[.int .i64 n, .int .i64 k]) ∧ Below W.heap.size W w'
def StrAt (W : World) (t : ByteArray) (k : Int) (e : Ending) (w' : World) : Prop := e = .returned (.tuple #[.string t, .int .i64 k]) ∧ Below W.heap.size W w'
theorem ParseMonths_at {s : ByteArray} {l : List UInt8} {n k : Int} (hd : s.data.toList = l) (h : monthsP l = (n, k)) (W : World) (hs : s.size ≤ maxLen) : Calls Tryz.prog 13 #[.string s] W (IntAt W n k) := by
  have := ParseMonths_d s W hs
  rw [hd, h] at this
  exact this
theorem TextMonths_at {n k : Int} {t : ByteArray} {l : List UInt8} (hd : t.data.toList = l) (h : textMP n = (l, k)) (W : World) (hL : LaidD W) : Calls Tryz.prog 16 #[.int .i64 n] W (StrAt W t k) := by
  have := TextMonths_d n W hL.itoa
  rw [h, ← hd] at this
  rw [show t = ⟨t.data.toList.toArray⟩ by simp]
  exact this
theorem ParseSeconds_at {s t : ByteArray} {l m : List UInt8} {k : Int} (hd : s.data.toList = l) (ht : t.data.toList = m) (h : secondsP l = (m, k)) (W : World) (hL : LaidD W) (hs : s.size ≤ maxLen) : Calls Tryz.prog 18 #[.string s] W (StrAt W t k) := by
  have := ParseSeconds_d s W hL.num hs
  rw [hd, h, ← ht] at this
  rw [show t = ⟨t.data.toList.toArray⟩ by simp]
  exact this
theorem TextSeconds_at {s t : ByteArray} {l m : List UInt8} {k : Int} (hd : s.data.toList = l) (ht : t.data.toList = m) (h : textSP l = (m, k)) (W : World) (hL : LaidD W) (hs : s.size ≤ maxLen) : Calls Tryz.prog 20 #[.string s] W (StrAt W t k) := by
  have := TextSeconds_d s W hL.num hs
  rw [hd, h, ← ht] at this
  rw [show t = ⟨t.data.toList.toArray⟩ by simp]
  exact this
set_option maxRecDepth 100000 in
set_option maxHeartbeats 2000000 in
theorem works_calls (W : World) (hL : LaidD W) : Calls Tryz.prog 15 #[] W fun e w' => e = .returned (.bool true) ∧ Below W.heap.size W w' := by
  obtain ⟨p1, p2, p3, p4⟩ := works_plain
  have c1 := fun W => ParseMonths_at (s := ⟨#[80, 49, 89, 50, 77]⟩) rfl p1 W (by decide)
  have c2 := fun W hL => TextMonths_at (t := ⟨#[80, 49, 89, 50, 77]⟩) rfl p2 W hL
  have c3 := fun W hL => ParseSeconds_at (s := ⟨#[80, 49, 68, 84, 50, 72, 51, 77, 52, 46, 53, 83]⟩) (t := ⟨#[57, 51, 55, 56, 52, 46, 53]⟩) rfl rfl p3 W hL (by decide)
  have c4 := fun W hL => TextSeconds_at (s := ⟨#[57, 51, 55, 56, 52, 46, 53]⟩) (t := ⟨#[80, 49, 68, 84, 50, 72, 51, 77, 52, 46, 53, 83]⟩) rfl rfl p4 W hL (by decide)
  replace c1 := Lib.hid c1
  replace c2 := Lib.hid c2
  replace c3 := Lib.hid c3
  replace c4 := Lib.hid c4
  replace hL := Lib.hid hL
  clear p1 p2 p3 p4
  go_enter Tryz.func15, Tryz.ntmps15
  go_wp2_with fail
  refine (c1.out W).mono ?_
  rintro e w1 ⟨rfl, hb1⟩
  have hL1 := Lib.hid (hL.out.below hb1 hL.out.num.size)
  go_wp2_with fail
  refine (c2.out w1 hL1.out).mono ?_
  rintro e w2 ⟨rfl, hb2⟩
  have hL2 := Lib.hid (hL1.out.below hb2 hL1.out.num.size)
  go_wp2_with fail
  refine (c3.out w2 hL2.out).mono ?_
  rintro e w3 ⟨rfl, hb3⟩
  have hL3 := Lib.hid (hL2.out.below hb3 hL2.out.num.size)
  go_wp2_with fail
  refine (c4.out w3 hL3.out).mono ?_
  rintro e w4 ⟨rfl, hb4⟩
  go_wp2_with fail
  go_ret
  have b2 := hb1.trans (hb2.mono hb1.size)
  have b3 := b2.trans (hb3.mono b2.size)
  exact ⟨rfl, b3.trans (hb4.mono b3.size)⟩
end Go.Proofs.YtjndcehkgfbagaaGreatDoor

namespace Go.Proofs.YtjndcehkgfbagaaGreatDoor.DurP
open NumP Go.Proofs.YtjndcehkgfbagaaGreatDoor
set_option linter.unusedVariables false

def Dig (q : List UInt8) : Prop := ∀ c ∈ q, isDig c = true
theorem dig_nil : Dig [] := fun _ h => by cases h
end Go.Proofs.YtjndcehkgfbagaaGreatDoor.DurP

namespace Go.Proofs.YtjndcehkgfbagaaGreatDoor.DurP
open NumP Go.Proofs.YtjndcehkgfbagaaGreatDoor
set_option linter.unusedVariables false

/-- The text of a number that is not negative. -/
def tx (d : Nat) : List UInt8 := textN ⟨false, d⟩
/-- The digits of a part. -/
def pt (d : Nat) : List UInt8 := if d = 0 then [] else tx d
end Go.Proofs.YtjndcehkgfbagaaGreatDoor.DurP
