/- The methods of a collation's table that read lines, walked: what each does to the table, as the plain functions of CollPure say. The methods level and add of a collation's table, walked. The words of a line: strings.FieldsFunc at blanks, and what its pieces are like. coll.Parse, walked: what it returns, as a plain Lean function of the text. -/
import Derived.Test.YtibhifjehbajnaaDoorMa

namespace Go.Proofs.YtibhifjehbajnaaDoor
open Go.RowKit Go.Maps
set_option linter.unusedVariables false

theorem info_rune : (Tryd.prog.info? 21).map (fun i => (i.zero, i.size, i.bytes)) = some (some (.int .i32 0), 1, 4) := by kernel_rfl
theorem ownsRow_below {w w' : World} {base : Nat} {e : TypeId} {size : Nat} {v : Value} {n : Nat} {xs : List Value} (h : w.ownsRow base e size v n xs) (hb : Below w.heap.size w w') : w'.ownsRow base e size v n xs :=
  h.kept (row := none) ⟨hb.os, hb.tape, hb.output, hb.size, fun k hk _ => hb.block k hk⟩ (by cases v.ownBlock <;> simp)
def runes (cs : List Int) : List Value := cs.map (Value.int .i32)

theorem isCharB_range {c : Int} (h : isCharB c = true) : 0 ≤ c ∧ c ≤ 1114111 := by
  simp [isCharB] at h
  omega
theorem charOf_range {w : ByteArray} {c : Int} (h : charOf w = some c) : 0 ≤ c ∧ c ≤ 1114111 := by
  unfold charOf at h
  simp only at h
  split at h
  · split at h
    · split at h
      · injection h with h; subst h; exact isCharB_range ‹_›
      · cases h
    · cases h
  · split at h
    · injection h with h; subst h
      have := decode_max w 0
      unfold rune0; omega
    · cases h
theorem charsOf_range : ∀ {l : List ByteArray} {cs : List Int}, charsOf l = some cs → ∀ c ∈ cs, 0 ≤ c ∧ c ≤ 1114111
  | [], cs, h => by simp [charsOf] at h; subst h; simp
  | w :: l, cs, h => by
    simp only [charsOf] at h
    cases h1 : charOf w with
    | none => rw [h1] at h; cases h
    | some c =>
      rw [h1] at h
      cases h2 : charsOf l with
      | none => rw [h2] at h; cases h
      | some cs' =>
        rw [h2] at h
        simp at h
        subst h
        intro x hx
        rcases List.mem_cons.1 hx with rfl | hx
        · exact charOf_range h1
        · exact charsOf_range h2 x hx
theorem wf_rune {c : Int} (h : 0 ≤ c ∧ c ≤ 1114111) : (Lit.int .i32 c).wf = true := WalkArith.wf_i32 (by omega)
/-- Cells of a new row of runes. -/
theorem rune_cells {w : World} {g : Nat} {cur : Array Value} {cs : List Int} (hg : w.heap[g]? = some (.cells cur 21 (0, 0))) (hc : cur.toList.take (cs.length * 1) = runes cs) (k : Nat) (hk : k < cs.length) : w.cell? ⟨g, k, none⟩ = some (.int .i32 (cs[k]'hk)) := by
  have h1 : (cur.toList.take (cs.length * 1))[k]? = some (.int .i32 (cs[k]'hk)) := by rw [hc]; simp [runes, hk]
  rw [List.getElem?_take, if_pos (by omega)] at h1
  simp only [World.cell?, hg]
  simpa using h1

set_option maxRecDepth 100000 in
theorem ignore_calls (W : World) (b m A o cp : Nat) (t : CT) (h : TabAt W b m t.M t.last t.st) (ws : List ByteArray) (hA : StrsAt W A o ws) (hn : ws.length ≤ cp) (hAb : A ≠ b) (hAm : A ≠ m) (hL : LaidW W) (hb8 : 8 ≤ b) (hm8 : 8 ≤ m)
    (hsz : ∀ x ∈ ws, x.size ≤ 1048576) (hwn : ws.length ≤ 1048577) (hMn : t.M.length ≤ 4096) :
    Calls Tryd.prog 60 #[.pointer (some ⟨b, 0, none⟩), .slice (some ⟨A, o, none⟩) ws.length cp] W fun e w' => ∃ t' : CT, e = .returned (.int .i64 (ignoreP t ws).2) ∧ TabAt w' b m t'.M t'.last t'.st ∧ Only W w' b m ∧ ((ignoreP t ws).2 = 0 → t' = (ignoreP t ws).1) := by
  obtain ⟨i0, hi, hz0, hz1, hz2⟩ := info_parts info_rune
  go_enter Tryd.func60, Tryd.ntmps60
  go_wp2_with fail
  go_loopw [5, 15] (fun v i wr => ∃ (k : Nat) (acc : List Int), k ≤ ws.length ∧ i = .int .i64 k ∧ Hid (charsOf (ws.take k) = some acc) ∧ Hid (acc.length = k) ∧ wr.ownsRow W.heap.size 21 1 v acc.length (runes acc) ∧ Below W.heap.size W wr) (fun _ i _ => ws.length - (intOf i).toNat)
  case atStart => exact ⟨0, [], Nat.zero_le _, rfl, rfl, rfl, World.ownsRow_nil _ _ _ _, Below.refl _ _⟩
  case round =>
    obtain ⟨k, acc, hk, rfl, hch, hlen, hown, hbw⟩ := hrel
    by_cases hlt : k < ws.length
    · obtain ⟨x, hx⟩ : ∃ x, x = ws[k] := ⟨_, rfl⟩
      have hcell : wr.cell? ⟨A, o + k, none⟩ = some (.string x) := by rw [hx]; exact (hA.below hbw).at_ k hlt
      have hxs : x.size ≤ 1048576 := by rw [hx]; exact hsz _ (List.getElem_mem _)
      have hlen' : acc.length ≤ k := Nat.le_of_eq hlen.out
      have hL' := hL.below hbw hL.size
      have hsnoc : ws.take (k + 1) = ws.take k ++ [x] := by rw [List.take_succ_eq_append_getElem hlt, hx]
      have hS := Lib.hid hsnoc
      have hX := Lib.hid hx
      clear hsnoc hx
      cases hc : charOf x with
      | none =>
        have hc' := Lib.hid hc
        clear hc
        go_wp2_with (go_at_call 84; refine (char_no x _ hL' hxs hc'.out).mono ?_; rintro e w1 ⟨⟨r, rfl⟩, hb1⟩)
        go_ret
        have e5 : (ignoreP t ws).2 = 5 := by
          have h1 : charsOf ws = none := by
            rw [← List.take_append_drop (k + 1) ws]
            refine charsOf_app_none _ _ ?_
            rw [hS.out, charsOf_snoc, hch.out]
            simp [hc'.out]
          simp [ignoreP, h1]
        exact ⟨t, by rw [e5]; rfl, h.below (hbw.trans (hb1.mono hbw.size)) h.mapLt.2.1 h.mapLt.1, Only.of_below b m (hbw.trans (hb1.mono hbw.size)), fun hh => by rw [e5] at hh; cases hh⟩
      | some c =>
        have hc' := Lib.hid hc
        clear hc
        go_wp2_with (first | (go_at_call 84; refine (char_yes x _ hL' hxs c hc'.out).mono ?_; rintro e w1 ⟨rfl, hb1⟩; have hown1 := ownsRow_below hown hb1; have hb2 : Below W.heap.size W w1 := hbw.trans (hb1.mono hbw.size); clear hown hbw hb1) | (at_builtin; refine wpList_append_own _ rfl _ _ 54 rfl W.heap.size 21 i0 (.int .i32 0) 1 4 Tryd.underlying54 hi hz0 hz1 hz2 rfl (by decide) _ _ _ rfl (hown1.alloc _) ⟨w1.heap.size, 0, none⟩ 1 1 [.int .i32 c] rfl rfl (cell_one_new _ _ _) (fun y hy => by simp at hy; subst hy; rfl) (by unfold maxLen; omega) (by omega) (by have := hb2.size; simp; omega) ?_; intro v' w3 hown' hgrow3 hnil3))
        have hb3 : Below W.heap.size W w3 := Below.grown (hb2.alloc hb2.size _) hgrow3 (by have := hb2.size; simp; omega) (fun j hj => by have := (hown1.lt _ hj).1; omega)
        go_roundw
        case rel =>
          refine ⟨k + 1, acc ++ [c], by omega, by go_num, ?_, ?_, ?_, hb3⟩
          · show charsOf _ = _
            rw [hS.out, charsOf_snoc, hch.out]
            simp [hc'.out]
          · show (acc ++ [c]).length = k + 1
            simp [hlen.out]
          · have e : (acc ++ [c]).length = acc.length + 1 := by simp
            rw [e]
            simpa [runes] using hown'
        case measure => simp [intOf]; omega
    · obtain rfl : k = ws.length := by omega
      have hch' : Hid (charsOf ws = some acc) := by have := hch.out; rw [List.take_length] at this; exact this
      clear hch
      have hlen' : acc.length ≤ ws.length := Nat.le_of_eq hlen.out
      have hT1 : TabAt wr b m t.M t.last t.st := h.below hbw h.mapLt.2.1 h.mapLt.1
      cases acc with
      | nil =>
        have e5 : (ignoreP t ws).2 = 5 := by simp [ignoreP, hch'.out]
        rcases hown.2 with ⟨rfl, _⟩ | ⟨g, cap, cur, rfl, _⟩
        all_goals
          go_wp2_with fail
          go_ret
          exact ⟨t, by rw [e5]; rfl, hT1, Only.of_below b m hbw, fun hh => by rw [e5] at hh; cases hh⟩
      | cons c cs =>
        rcases hown.2 with ⟨_, hn0⟩ | ⟨g, cap, cur, rfl, hgB, hgb, hgn, hcapm, hcsz, hcur⟩
        · simp at hn0
        go_wp2_with fail
        obtain ⟨wo, rfl⟩ : ∃ wo : World, wo = wr := ⟨_, rfl⟩
        have hcs : cs.length + 1 ≤ 1048577 := by simp at hlen'; omega
        obtain ⟨hlt1, hlt2, hlt3⟩ := h.mapLt
        have hrg := charsOf_range hch'.out
        have hrc := fun (k : Nat) (hk : k < (c :: cs).length) (W' : World) (e : W'.heap[g]? = wo.heap[g]?) => rune_cells (w := W') (g := g) (cs := c :: cs) (e.trans hgb) hcur k hk
        have hrg' := Lib.hid hrg
        have hrc' := Lib.hid hrc
        have hcz : ∀ wx, (Instr.build 44 #[]).run Tryd.prog wx = .ok (wv (0, 0, 0)) wx := fun wx => by kernel_rfl
        clear hrg hrc hcur hcsz hown
        go_loopw [36] (fun i w' => ∃ (k : Nat) (M' : List (Int × W3)), k ≤ cs.length + 1 ∧ i = .int .i64 k ∧ Hid (putAll M' (((c :: cs).drop k).map fun c => (c, (0, 0, 0))) = putAll t.M ((c :: cs).map fun c => (c, (0, 0, 0)))) ∧ TabAt w' b m M' t.last t.st ∧ Only W w' b m ∧ w'.heap[g]? = wo.heap[g]? ∧ M'.length ≤ 4096 + k) (fun i _ => (cs.length + 1) - (intOf i).toNat)
        case atStart => exact ⟨0, t.M, Nat.zero_le _, rfl, rfl, hT1, Only.of_below b m hbw, rfl, by omega⟩
        case round =>
          obtain ⟨k, M', hk, rfl, hput, hT, hO, hgg, hM'⟩ := hrel
          by_cases hlt : k < cs.length + 1
          · obtain ⟨x, hx⟩ : ∃ x, x = (c :: cs)[k] := ⟨_, rfl⟩
            have hcell : wr.cell? ⟨g, k, none⟩ = some (.int .i32 x) := by rw [hx]; exact hrc'.out k hlt wr hgg
            have hwf : (Lit.int .i32 x).wf = true := wf_rune (hrg'.out x (by rw [hx]; exact List.getElem_mem _))
            have hdrop : (c :: cs).drop k = x :: (c :: cs).drop (k + 1) := by rw [hx]; exact List.drop_eq_getElem_cons hlt
            have hD := Lib.hid hdrop
            have hMb0 : M'.length < 4294967296 := by simp at hlen'; omega
            have hMb := Lib.hid hMb0
            clear hdrop hx hMb0
            cases hin : inM M' x with
            | true =>
              go_wp2_with (go_at_call 85; refine (put_no _ b m M' t.last t.st hT x (0, 0, 0) hin hwf).mono ?_; rintro e w3 ⟨rfl, hb3⟩)
              go_ret
              have e4 : (ignoreP t ws).2 = 4 := by
                have : putAll t.M ((c :: cs).map fun c => (c, (0, 0, 0))) = none := by rw [← hput.out, hD.out]; simp [putAll, hin]
                simp only [ignoreP, hch'.out, this]
              have hb3' := hb3
              exact ⟨{ t with M := M' }, by rw [e4]; rfl, hT.below hb3 hT.mapLt.2.1 hT.mapLt.1, hO.trans (Only.of_below b m hb3), fun hh => by rw [e4] at hh; cases hh⟩
            | false =>
              go_wp2_with (go_at_call 85; refine (put_yes _ b m M' t.last t.st hT x (0, 0, 0) hin hwf hMb.out).mono ?_; rintro e w3 ⟨rfl, hT3, hg3⟩)
              go_roundw
              case rel =>
                have hp2 : Hid (putAll (M' ++ [(x, (0, 0, 0))]) (((c :: cs).drop (k + 1)).map fun c => (c, (0, 0, 0))) = putAll t.M ((c :: cs).map fun c => (c, (0, 0, 0)))) := by
                  show putAll _ _ = _
                  rw [← hput.out, hD.out]
                  simp [putAll, hin]
                have hgg3 : w3.heap[g]? = wo.heap[g]? := by
                  rw [hg3.block g (Array.getElem?_eq_some_iff.1 (hgg.trans hgb)).1 (by simp; omega)]; exact hgg
                repeat apply Exists.intro
                exact ⟨⟨k + 1, M' ++ [(x, (0, 0, 0))], by omega, by go_num, hp2, hT3, hO.trans (Only.of_grown hg3), hgg3, by simp; omega⟩, rfl⟩
              case measure => simp [intOf]; omega
          · obtain rfl : k = cs.length + 1 := by omega
            go_wp2_with (go_at_call 86; refine (full_calls _ b m M' t.last t.st hT).mono ?_; rintro e w3 ⟨rfl, rfl⟩)
            go_ret
            have ep : putAll t.M ((c :: cs).map fun c => (c, (0, 0, 0))) = some M' := by
              rw [← hput.out, List.drop_of_length_le (by simp)]
              rfl
            have e0 : ignoreP t ws = ({ t with M := M' }, fullE M'.length) := by simp only [ignoreP, hch'.out, ep]
            exact ⟨{ t with M := M' }, by rw [e0]; rfl, hT, hO, fun _ => by rw [e0]⟩

theorem formL_range : ∀ {b : Bool} {l : List ByteArray} {cs : List Int}, formL b l = some cs → ∀ c ∈ cs, 0 ≤ c ∧ c ≤ 1114111
  | _, [], cs, h => by simp [formL] at h; subst h; simp
  | true, w :: l, cs, h => by
    simp only [formL] at h
    split at h
    · exact formL_range h
    · cases h
  | false, w :: l, cs, h => by
    simp only [formL] at h
    cases h1 : charOf w with
    | none => rw [h1] at h; cases h
    | some c =>
      rw [h1] at h
      cases h2 : formL true l with
      | none => rw [h2] at h; cases h
      | some cs' =>
        rw [h2] at h
        simp at h
        subst h
        intro x hx
        rcases List.mem_cons.1 hx with rfl | hx
        · exact charOf_range h1
        · exact formL_range h2 x hx

theorem formL_len : ∀ {b : Bool} {l : List ByteArray} {cs : List Int}, formL b l = some cs → cs.length = (if b then l.length / 2 else (l.length + 1) / 2)
  | b, [], cs, h => by simp [formL] at h; subst h; cases b <;> simp
  | true, w :: l, cs, h => by
    simp only [formL] at h
    split at h
    · have := formL_len h
      simpa using this
    · cases h
  | false, w :: l, cs, h => by
    simp only [formL] at h
    cases h1 : charOf w with
    | none => rw [h1] at h; cases h
    | some c =>
      rw [h1] at h
      cases h2 : formL true l with
      | none => rw [h2] at h; cases h
      | some cs' =>
        rw [h2] at h
        simp at h
        subst h
        have := formL_len h2
        simp at this
        simp
        omega

/-- The weights of the last listed character, written anew. -/
theorem TabAt.setLast {W : World} {b m : Nat} {M : List (Int × W3)} {l : W3} {st : Int} (h : TabAt W b m M l st) (x : W3) :
    TabAt (((W.setCell ⟨b, 1, none⟩ (.int .i64 x.1)).setCell ⟨b, 2, none⟩ (.int .i64 x.2.1)).setCell ⟨b, 3, none⟩ (.int .i64 x.2.2)) b m M x st := by
  obtain ⟨D, hm, hD⟩ := h.map
  have hne := h.mapLt.2.2
  refine ⟨?_, D, ((hm.setCell (Ne.symm hne) _).setCell (Ne.symm hne) _).setCell (Ne.symm hne) _, hD⟩
  simp [World.setCell, Array.getElem?_modify, h.blk]
theorem TabAt.frozenS {W : World} {b m : Nat} {M : List (Int × W3)} {l : W3} {st : Int} (h : TabAt W b m M l st) (k j : Nat) (u : Value) (ob : Obj) : ((W.setCell ⟨b, j, none⟩ u).alloc ob).frozen? ⟨b, k, none⟩ = false := by
  rw [World.frozen?_alloc_old _ _ _ (by have := h.mapLt.2.1; simp [World.setCell]; omega), World.frozen?_setCell]
  exact h.frozen k
theorem TabAt.frozenSS {W : World} {b m : Nat} {M : List (Int × W3)} {l : W3} {st : Int} (h : TabAt W b m M l st) (k j j' : Nat) (u u' : Value) (ob : Obj) : (((W.setCell ⟨b, j, none⟩ u).setCell ⟨b, j', none⟩ u').alloc ob).frozen? ⟨b, k, none⟩ = false := by
  rw [World.frozen?_alloc_old _ _ _ (by have := h.mapLt.2.1; simp [World.setCell]; omega), World.frozen?_setCell, World.frozen?_setCell]
  exact h.frozen k
theorem Only.setCell {w w' : World} {b m : Nat} (h : Only w w' b m) (j : Nat) (u : Value) : Only w (w'.setCell ⟨b, j, none⟩ u) b m :=
  h.trans ⟨rfl, rfl, rfl, by simp [World.setCell], fun k _ h1 _ => Below.heap_setCell _ _ _ _ h1⟩

set_option maxRecDepth 100000 in
set_option maxHeartbeats 4000000 in
theorem list_calls (W : World) (b m A o cp : Nat) (t : CT) (h : TabAt W b m t.M t.last t.st) (hok : t.ok) (ws : List ByteArray) (hA : StrsAt W A o ws) (hn : ws.length ≤ cp) (hAb : A ≠ b) (hAm : A ≠ m) (hL : LaidW W) (hb8 : 8 ≤ b) (hm8 : 8 ≤ m)
    (hsz : ∀ x ∈ ws, x.size ≤ 1048576) (hwn : ws.length ≤ 1048577) (hMn : t.M.length ≤ 4096) :
    Calls Tryd.prog 61 #[.pointer (some ⟨b, 0, none⟩), .slice (some ⟨A, o, none⟩) ws.length cp] W fun e w' => ∃ t' : CT, e = .returned (.int .i64 (listP t ws).2) ∧ TabAt w' b m t'.M t'.last t'.st ∧ Only W w' b m ∧ ((listP t ws).2 = 0 → t' = (listP t ws).1) := by
  obtain ⟨i0, hi, hz0, hz1, hz2⟩ := info_parts info_rune
  go_enter Tryd.func61, Tryd.ntmps61
  go_wp2_with fail
  go_loopw [5, 17] (fun v i wr => ∃ (k : Nat) (acc : List Int), k ≤ ws.length ∧ i = .int .i64 k ∧ Hid (formL false (ws.take k) = some acc) ∧ acc.length ≤ k ∧ wr.ownsRow W.heap.size 21 1 v acc.length (runes acc) ∧ Below W.heap.size W wr) (fun _ i _ => ws.length - (intOf i).toNat)
  case atStart => exact ⟨0, [], Nat.zero_le _, rfl, rfl, Nat.le_refl _, World.ownsRow_nil _ _ _ _, Below.refl _ _⟩
  case round =>
    obtain ⟨k, acc, hk, rfl, hch, hlen, hown, hbw⟩ := hrel
    by_cases hlt : k < ws.length
    · obtain ⟨x, hx⟩ : ∃ x, x = ws[k] := ⟨_, rfl⟩
      have hcell : wr.cell? ⟨A, o + k, none⟩ = some (.string x) := by rw [hx]; exact (hA.below hbw).at_ k hlt
      have hxs : x.size ≤ 1048576 := by rw [hx]; exact hsz _ (List.getElem_mem _)
      have hL' := hL.below hbw hL.size
      have hS : Hid (formL false (ws.take (k + 1)) = stepL (k % 2 == 1) acc x) := by
        show formL _ _ = _
        rw [List.take_succ_eq_append_getElem hlt, ← hx, formL_snoc false _ _ acc hch.out, List.length_take, Nat.min_eq_left hk]
        simp
      have hno : Hid (stepL (k % 2 == 1) acc x = none → (listP t ws).2 = 5) := by
        intro hq
        have h1 : formL false ws = none := by
          rw [← List.take_append_drop (k + 1) ws]
          exact formL_app_none _ _ _ (hS.out.trans hq)
        simp [listP, h1]
      have hX := Lib.hid hx
      clear hx
      rcases Nat.mod_two_eq_zero_or_one k with ev | ev
      · have hev : ((k : Int) % 2 == 1) = false := by simp; omega
        have hev' := Lib.hid ev
        clear ev
        cases hc : charOf x with
        | none =>
          have hc' := Lib.hid hc
          clear hc
          go_wp2_with (go_at_call 84; refine (char_no x _ hL' hxs hc'.out).mono ?_; rintro e w1 ⟨⟨r, rfl⟩, hb1⟩)
          go_ret
          have e5 : (listP t ws).2 = 5 := hno.out (by simp [stepL, hev'.out, hc'.out])
          exact ⟨t, by rw [e5]; rfl, h.below (hbw.trans (hb1.mono hbw.size)) h.mapLt.2.1 h.mapLt.1, Only.of_below b m (hbw.trans (hb1.mono hbw.size)), fun hh => by rw [e5] at hh; cases hh⟩
        | some c =>
          have hc' := Lib.hid hc
          clear hc
          go_wp2_with (first | (go_at_call 84; refine (char_yes x _ hL' hxs c hc'.out).mono ?_; rintro e w1 ⟨rfl, hb1⟩; have hown1 := ownsRow_below hown hb1; have hb2 : Below W.heap.size W w1 := hbw.trans (hb1.mono hbw.size); clear hown hbw hb1) | (at_builtin; refine wpList_append_own _ rfl _ _ 54 rfl W.heap.size 21 i0 (.int .i32 0) 1 4 Tryd.underlying54 hi hz0 hz1 hz2 rfl (by decide) _ _ _ rfl (hown1.alloc _) ⟨w1.heap.size, 0, none⟩ 1 1 [.int .i32 c] rfl rfl (cell_one_new _ _ _) (fun y hy => by simp at hy; subst hy; rfl) (by unfold maxLen; omega) (by omega) (by have := hb2.size; simp; omega) ?_; intro v' w3 hown' hgrow3 hnil3))
          have hb3 : Below W.heap.size W w3 := Below.grown (hb2.alloc hb2.size _) hgrow3 (by have := hb2.size; simp; omega) (fun j hj => by have := (hown1.lt _ hj).1; omega)
          go_roundw
          case rel =>
            refine ⟨k + 1, acc ++ [c], by omega, by go_num, ?_, by simp; omega, ?_, hb3⟩
            · show formL _ _ = _
              rw [hS.out]
              simp [stepL, hev'.out, hc'.out]
            · have e : (acc ++ [c]).length = acc.length + 1 := by simp
              rw [e]
              simpa [runes] using hown'
          case measure => simp [intOf]; omega
      · have hev : ((k : Int) % 2 == 1) = true := by simp; omega
        have hev' := Lib.hid ev
        clear ev
        cases hs : signB x with
        | true =>
          go_wp2_with (go_at_call 87; refine (sign_calls x _).mono ?_; rintro e w1 ⟨rfl, rfl⟩; rw [hs])
          go_roundw
          case rel =>
            refine ⟨k + 1, acc, by omega, by go_num, ?_, by omega, hown, hbw⟩
            show formL _ _ = _
            rw [hS.out]
            simp [stepL, hev'.out, hs]
          case measure => simp [intOf]; omega
        | false =>
          go_wp2_with (go_at_call 87; refine (sign_calls x _).mono ?_; rintro e w1 ⟨rfl, rfl⟩; rw [hs])
          go_ret
          have e5 : (listP t ws).2 = 5 := hno.out (by simp [stepL, hev'.out, hs])
          exact ⟨t, by rw [e5]; rfl, h.below hbw h.mapLt.2.1 h.mapLt.1, Only.of_below b m hbw, fun hh => by rw [e5] at hh; cases hh⟩
    · obtain rfl : k = ws.length := by omega
      have hch' : Hid (formL false ws = some acc) := by have := hch.out; rw [List.take_length] at this; exact this
      clear hch
      have hT1 : TabAt wr b m t.M t.last t.st := h.below hbw h.mapLt.2.1 h.mapLt.1
      rcases Nat.mod_two_eq_zero_or_one ws.length with ev | ev
      · have hev : ((ws.length : Int) % 2 == 0) = true := by simp; omega
        have e5 : (listP t ws).2 = 5 := by simp [listP, hch'.out, ev]
        have hev' := Lib.hid ev
        have e5' := Lib.hid e5
        clear ev e5
        go_wp2_with fail
        go_ret
        exact ⟨t, by rw [e5'.out]; rfl, hT1, Only.of_below b m hbw, fun hh => by rw [e5'.out] at hh; cases hh⟩
      · have hev : ((ws.length : Int) % 2 == 0) = false := by simp; omega
        have hev' := Lib.hid ev
        clear ev
        rcases hown.2 with ⟨rfl, hn0⟩ | ⟨g, cap, cur, rfl, hgB, hgb, hgn, hcapm, hcsz, hcur⟩
        · exfalso
          have h0 := formL_len hch'.out
          have h1 := hev'.out
          simp at h0
          omega
        · obtain ⟨wo, rfl⟩ : ∃ wo : World, wo = wr := ⟨_, rfl⟩
          obtain ⟨hlt1, hlt2, hlt3⟩ := h.mapLt
          have hrg' := Lib.hid (formL_range hch'.out)
          have hrc' := Lib.hid (fun (k : Nat) (hk : k < acc.length) (W' : World) (e : W'.heap[g]? = wo.heap[g]?) => rune_cells (w := W') (g := g) (cs := acc) (e.trans hgb) hcur k hk)
          clear hcur hcsz hown
          go_wp2_with fail
          go_loopw [46] (fun i w' => ∃ (k : Nat) (t' : CT), k ≤ acc.length ∧ i = .int .i64 k ∧ Hid (listPut ws k (acc.drop k) t' = listPut ws 0 acc t) ∧ TabAt w' b m t'.M t'.last t'.st ∧ Only W w' b m ∧ w'.heap[g]? = wo.heap[g]? ∧ t'.M.length ≤ 4096 + k ∧ Hid t'.ok) (fun i _ => acc.length - (intOf i).toNat)
          case atStart => exact ⟨0, t, Nat.zero_le _, rfl, rfl, hT1, Only.of_below b m hbw, rfl, by omega, hok⟩
          case round =>
            obtain ⟨k, t', hk, rfl, hput, hT, hO, hgg, hM', hok'⟩ := hrel
            by_cases hlt : k < acc.length
            · obtain ⟨x, hx⟩ : ∃ x, x = acc[k] := ⟨_, rfl⟩
              have hcell : wr.cell? ⟨g, k, none⟩ = some (.int .i32 x) := by rw [hx]; exact hrc'.out k hlt wr hgg
              have hwf : (Lit.int .i32 x).wf = true := wf_rune (hrg'.out x (by rw [hx]; exact List.getElem_mem _))
              have hdrop : acc.drop k = x :: acc.drop (k + 1) := by rw [hx]; exact List.drop_eq_getElem_cons hlt
              have hD := Lib.hid hdrop
              have hMb0 : t'.M.length < 4294967296 := by omega
              have hMb := Lib.hid hMb0
              have hcl := hT.cell
              obtain ⟨-, cl1, cl2, cl3, -⟩ := hcl
              have ca1 := fun (ob : Obj) => (hT.alloc ob).cell.2.1
              have ca2 := fun (ob : Obj) => (hT.alloc ob).cell.2.2.1
              have ca3 := fun (ob : Obj) => (hT.alloc ob).cell.2.2.2.1
              have fa1 := fun (ob : Obj) => (hT.alloc ob).frozen 1
              have fa2 := fun (ob : Obj) => (hT.alloc ob).frozen 2
              have fa3 := fun (ob : Obj) => (hT.alloc ob).frozen 3
              have fs2 := fun u ob => hT.frozenS 2 1 u ob
              have fs3 := fun u u' ob => hT.frozenSS 3 1 2 u u' ob
              have hbz := hT.mapLt.2.1
              obtain ⟨q1, q2, q3, q4, q5, q6⟩ := hok'.out
              have r1 : t'.last.1 ≤ 2000000 := by omega
              have r2 : t'.last.2.1 ≤ 2000000 := by omega
              have r3 : t'.last.2.2 ≤ 2000000 := by omega
              clear q2 q4 q6
              clear hdrop hx hMb0
              by_cases hk0 : k = 0
              · subst hk0
                have hX3 : afterW t'.last (signAt ws 0) = (t'.last.1 + 1, 1, 1) := by simp [afterW, signAt]
                have hX := Lib.hid hX3
                have hT2 := hT.setLast (t'.last.1 + 1, 1, 1)
                have hO2 := ((hO.setCell 1 (Value.int .i64 (t'.last.1 + 1))).setCell 2 (Value.int .i64 1)).setCell 3 (Value.int .i64 1)
                clear hX3
                cases hin : inM t'.M x with
                | true =>
                  go_wp2_with (go_at_call 85; refine (put_no _ b m t'.M (t'.last.1 + 1, 1, 1) t'.st (hT2.alloc _) x (t'.last.1 + 1, 1, 1) hin hwf).mono ?_; rintro e w3 ⟨rfl, hb3⟩)
                  go_ret
                  have e4 : (listP t ws).2 = 4 := by
                    have : listPut ws 0 acc t = none := by rw [← hput.out, hD.out]; simp [listPut, hin]
                    simp [listP, hch'.out, this, hev'.out]
                  exact ⟨{ t' with last := (t'.last.1 + 1, 1, 1) }, by rw [e4]; rfl, (hT2.alloc _).below hb3 (hT2.alloc _).mapLt.2.1 (hT2.alloc _).mapLt.1, (hO2.alloc _).trans (Only.of_below b m hb3), fun hh => by rw [e4] at hh; cases hh⟩
                | false =>
                  go_wp2_with (go_at_call 85; refine (put_yes _ b m t'.M (t'.last.1 + 1, 1, 1) t'.st (hT2.alloc _) x (t'.last.1 + 1, 1, 1) hin hwf hMb.out).mono ?_; rintro e w3 ⟨rfl, hT3, hg3⟩)
                  go_roundw
                  case rel =>
                    have hp2 : Hid (listPut ws (0 + 1) (acc.drop (0 + 1)) { t' with last := (t'.last.1 + 1, 1, 1), M := t'.M ++ [(x, (t'.last.1 + 1, 1, 1))] } = listPut ws 0 acc t) := by
                      show listPut _ _ _ _ = _
                      rw [← hput.out, hD.out]
                      simp only [listPut, hin]
                      rw [hX.out]; rfl
                    have hgg3 : w3.heap[g]? = wo.heap[g]? := by
                      have hsz := hO2.size
                      have hgw : g < wr.heap.size := (Array.getElem?_eq_some_iff.1 (hgg.trans hgb)).1
                      rw [hg3.block g (by simp [World.setCell]; omega) (by simp; omega), Below.heap_alloc _ _ _ (by simp [World.setCell]; omega), Below.heap_setCell _ _ _ _ (by show g ≠ b; omega), Below.heap_setCell _ _ _ _ (by show g ≠ b; omega), Below.heap_setCell _ _ _ _ (by show g ≠ b; omega)]
                      exact hgg
                    have hk3 : Hid (CT.ok { t' with last := (t'.last.1 + 1, 1, 1), M := t'.M ++ [(x, (t'.last.1 + 1, 1, 1))] }) := by
                      have := CT.ok_after hok'.out (signAt ws 0) x
                      rw [hX.out] at this
                      exact this
                    have hO3 := (hO2.alloc (.cells #[.int .i64 t'.last.1, .int .i64 t'.last.2.1, .int .i64 t'.last.2.2] 44)).trans (Only.of_grown hg3)
                    exact ⟨0 + 1, { t' with last := (t'.last.1 + 1, 1, 1), M := t'.M ++ [(x, (t'.last.1 + 1, 1, 1))] }, by omega, by go_num, hp2, hT3, hO3, hgg3, by simp; omega, hk3⟩
                  case measure => simp [intOf]; omega
              · have h0 := formL_len hch'.out
                have h1 := hev'.out
                simp at h0
                have h2 : 2 * k - 1 < ws.length := by omega
                have hcs : wr.cell? ⟨A, o + (2 * k - 1), none⟩ = some (.string (signAt ws k)) := by
                  have h3 := (hA.only hO hAb hAm).at_ (2 * k - 1) h2
                  rw [h3]
                  simp [signAt, hk0, h2]
                have hix0 : (0 : Int) ≤ 2 * (k : Int) - 1 := by omega
                have hix1 : 2 * (k : Int) - 1 < (ws.length : Int) := by omega
                obtain ⟨s, hs⟩ : ∃ s, s = signAt ws k := ⟨_, rfl⟩
                rw [← hs] at hcs
                have hS := Lib.hid hs
                clear hs h0 h1 h2
                have hkp : 0 < k := by omega
                by_cases h60 : s.toList = [60]
                · have h60' : (s.toList == [60]) = true := by simp [h60]
                  have h60h := Lib.hid h60
                  clear h60
                  have hX3 : afterW t'.last s = (t'.last.1 + 1, 1, 1) := by simp [afterW, h60h.out]
                  have hX := Lib.hid hX3
                  have hT2 := hT.setLast (t'.last.1 + 1, 1, 1)
                  have hO2 := ((hO.setCell 1 (Value.int .i64 (t'.last.1 + 1))).setCell 2 (Value.int .i64 1)).setCell 3 (Value.int .i64 1)
                  clear hX3
                  cases hin : inM t'.M x with
                  | true =>
                    go_wp2_with (go_at_call 85; refine (put_no _ b m t'.M (t'.last.1 + 1, 1, 1) t'.st (hT2.alloc _) x (t'.last.1 + 1, 1, 1) hin hwf).mono ?_; rintro e w3 ⟨rfl, hb3⟩)
                    go_ret
                    have e4 : (listP t ws).2 = 4 := by
                      have : listPut ws 0 acc t = none := by rw [← hput.out, hD.out]; simp [listPut, hin]
                      simp [listP, hch'.out, this, hev'.out]
                    exact ⟨{ t' with last := (t'.last.1 + 1, 1, 1) }, by rw [e4]; rfl, (hT2.alloc _).below hb3 (hT2.alloc _).mapLt.2.1 (hT2.alloc _).mapLt.1, (hO2.alloc _).trans (Only.of_below b m hb3), fun hh => by rw [e4] at hh; cases hh⟩
                  | false =>
                    go_wp2_with (go_at_call 85; refine (put_yes _ b m t'.M (t'.last.1 + 1, 1, 1) t'.st (hT2.alloc _) x (t'.last.1 + 1, 1, 1) hin hwf hMb.out).mono ?_; rintro e w3 ⟨rfl, hT3, hg3⟩)
                    go_roundw
                    case rel =>
                      have hp2 : Hid (listPut ws (k + 1) (acc.drop (k + 1)) { t' with last := (t'.last.1 + 1, 1, 1), M := t'.M ++ [(x, (t'.last.1 + 1, 1, 1))] } = listPut ws 0 acc t) := by
                        show listPut _ _ _ _ = _
                        rw [← hput.out, hD.out]
                        simp only [listPut, hin]
                        rw [← hS.out, hX.out]; rfl
                      have hgg3 : w3.heap[g]? = wo.heap[g]? := by
                        have hsz := hO2.size
                        have hgw : g < wr.heap.size := (Array.getElem?_eq_some_iff.1 (hgg.trans hgb)).1
                        rw [hg3.block g (by simp [World.setCell]; omega) (by simp; omega), Below.heap_alloc _ _ _ (by simp [World.setCell]; omega), Below.heap_setCell _ _ _ _ (by show g ≠ b; omega), Below.heap_setCell _ _ _ _ (by show g ≠ b; omega), Below.heap_setCell _ _ _ _ (by show g ≠ b; omega)]
                        exact hgg
                      have hk3 : Hid (CT.ok { t' with last := (t'.last.1 + 1, 1, 1), M := t'.M ++ [(x, (t'.last.1 + 1, 1, 1))] }) := by
                        have := CT.ok_after hok'.out s x
                        rw [hX.out] at this
                        exact this
                      have hO3 := (hO2.alloc (.cells #[.int .i64 t'.last.1, .int .i64 t'.last.2.1, .int .i64 t'.last.2.2] 44)).trans (Only.of_grown hg3)
                      exact ⟨k + 1, { t' with last := (t'.last.1 + 1, 1, 1), M := t'.M ++ [(x, (t'.last.1 + 1, 1, 1))] }, by omega, by go_num, hp2, hT3, hO3, hgg3, by simp; omega, hk3⟩
                    case measure => simp [intOf]; omega
                · have h60' : (s.toList == [60]) = false := by simp [h60]
                  have h60h := Lib.hid h60
                  clear h60
                  by_cases h44 : s.toList = [44]
                  · have h44' : (s.toList == [44]) = true := by simp [h44]
                    have h44h := Lib.hid h44
                    clear h44
                    have hX3 : afterW t'.last s = (t'.last.1, t'.last.2.1 + 1, 1) := by simp [afterW, h44h.out]
                    have hX := Lib.hid hX3
                    have hT2 := hT.setLast (t'.last.1, t'.last.2.1 + 1, 1)
                    have hO2 := ((hO.setCell 1 (Value.int .i64 t'.last.1)).setCell 2 (Value.int .i64 (t'.last.2.1 + 1))).setCell 3 (Value.int .i64 1)
                    clear hX3
                    cases hin : inM t'.M x with
                    | true =>
                      go_wp2_with (go_at_call 85; refine (put_no _ b m t'.M (t'.last.1, t'.last.2.1 + 1, 1) t'.st (hT2.alloc _) x (t'.last.1, t'.last.2.1 + 1, 1) hin hwf).mono ?_; rintro e w3 ⟨rfl, hb3⟩)
                      go_ret
                      have e4 : (listP t ws).2 = 4 := by
                        have : listPut ws 0 acc t = none := by rw [← hput.out, hD.out]; simp [listPut, hin]
                        simp [listP, hch'.out, this, hev'.out]
                      exact ⟨{ t' with last := (t'.last.1, t'.last.2.1 + 1, 1) }, by rw [e4]; rfl, (hT2.alloc _).below hb3 (hT2.alloc _).mapLt.2.1 (hT2.alloc _).mapLt.1, (hO2.alloc _).trans (Only.of_below b m hb3), fun hh => by rw [e4] at hh; cases hh⟩
                    | false =>
                      go_wp2_with (go_at_call 85; refine (put_yes _ b m t'.M (t'.last.1, t'.last.2.1 + 1, 1) t'.st (hT2.alloc _) x (t'.last.1, t'.last.2.1 + 1, 1) hin hwf hMb.out).mono ?_; rintro e w3 ⟨rfl, hT3, hg3⟩)
                      go_roundw
                      case rel =>
                        have hp2 : Hid (listPut ws (k + 1) (acc.drop (k + 1)) { t' with last := (t'.last.1, t'.last.2.1 + 1, 1), M := t'.M ++ [(x, (t'.last.1, t'.last.2.1 + 1, 1))] } = listPut ws 0 acc t) := by
                          show listPut _ _ _ _ = _
                          rw [← hput.out, hD.out]
                          simp only [listPut, hin]
                          rw [← hS.out, hX.out]; rfl
                        have hgg3 : w3.heap[g]? = wo.heap[g]? := by
                          have hsz := hO2.size
                          have hgw : g < wr.heap.size := (Array.getElem?_eq_some_iff.1 (hgg.trans hgb)).1
                          rw [hg3.block g (by simp [World.setCell]; omega) (by simp; omega), Below.heap_alloc _ _ _ (by simp [World.setCell]; omega), Below.heap_setCell _ _ _ _ (by show g ≠ b; omega), Below.heap_setCell _ _ _ _ (by show g ≠ b; omega), Below.heap_setCell _ _ _ _ (by show g ≠ b; omega)]
                          exact hgg
                        have hk3 : Hid (CT.ok { t' with last := (t'.last.1, t'.last.2.1 + 1, 1), M := t'.M ++ [(x, (t'.last.1, t'.last.2.1 + 1, 1))] }) := by
                          have := CT.ok_after hok'.out s x
                          rw [hX.out] at this
                          exact this
                        have hO3 := (hO2.alloc (.cells #[.int .i64 t'.last.1, .int .i64 t'.last.2.1, .int .i64 t'.last.2.2] 44)).trans (Only.of_grown hg3)
                        exact ⟨k + 1, { t' with last := (t'.last.1, t'.last.2.1 + 1, 1), M := t'.M ++ [(x, (t'.last.1, t'.last.2.1 + 1, 1))] }, by omega, by go_num, hp2, hT3, hO3, hgg3, by simp; omega, hk3⟩
                      case measure => simp [intOf]; omega
                  · have h44' : (s.toList == [44]) = false := by simp [h44]
                    have h44h := Lib.hid h44
                    clear h44
                    have hX3 : afterW t'.last s = (t'.last.1, t'.last.2.1, t'.last.2.2 + 1) := by simp [afterW, h60h.out, h44h.out]
                    have hX := Lib.hid hX3
                    have hT2 := hT.setLast (t'.last.1, t'.last.2.1, t'.last.2.2 + 1)
                    have hO2 := ((hO.setCell 1 (Value.int .i64 t'.last.1)).setCell 2 (Value.int .i64 t'.last.2.1)).setCell 3 (Value.int .i64 (t'.last.2.2 + 1))
                    clear hX3
                    cases hin : inM t'.M x with
                    | true =>
                      go_wp2_with (go_at_call 85; refine (put_no _ b m t'.M (t'.last.1, t'.last.2.1, t'.last.2.2 + 1) t'.st (hT2.alloc _) x (t'.last.1, t'.last.2.1, t'.last.2.2 + 1) hin hwf).mono ?_; rintro e w3 ⟨rfl, hb3⟩)
                      go_ret
                      have e4 : (listP t ws).2 = 4 := by
                        have : listPut ws 0 acc t = none := by rw [← hput.out, hD.out]; simp [listPut, hin]
                        simp [listP, hch'.out, this, hev'.out]
                      exact ⟨{ t' with last := (t'.last.1, t'.last.2.1, t'.last.2.2 + 1) }, by rw [e4]; rfl, (hT2.alloc _).below hb3 (hT2.alloc _).mapLt.2.1 (hT2.alloc _).mapLt.1, (hO2.alloc _).trans (Only.of_below b m hb3), fun hh => by rw [e4] at hh; cases hh⟩
                    | false =>
                      go_wp2_with (go_at_call 85; refine (put_yes _ b m t'.M (t'.last.1, t'.last.2.1, t'.last.2.2 + 1) t'.st (hT2.alloc _) x (t'.last.1, t'.last.2.1, t'.last.2.2 + 1) hin hwf hMb.out).mono ?_; rintro e w3 ⟨rfl, hT3, hg3⟩)
                      go_roundw
                      case rel =>
                        have hp2 : Hid (listPut ws (k + 1) (acc.drop (k + 1)) { t' with last := (t'.last.1, t'.last.2.1, t'.last.2.2 + 1), M := t'.M ++ [(x, (t'.last.1, t'.last.2.1, t'.last.2.2 + 1))] } = listPut ws 0 acc t) := by
                          show listPut _ _ _ _ = _
                          rw [← hput.out, hD.out]
                          simp only [listPut, hin]
                          rw [← hS.out, hX.out]; rfl
                        have hgg3 : w3.heap[g]? = wo.heap[g]? := by
                          have hsz := hO2.size
                          have hgw : g < wr.heap.size := (Array.getElem?_eq_some_iff.1 (hgg.trans hgb)).1
                          rw [hg3.block g (by simp [World.setCell]; omega) (by simp; omega), Below.heap_alloc _ _ _ (by simp [World.setCell]; omega), Below.heap_setCell _ _ _ _ (by show g ≠ b; omega), Below.heap_setCell _ _ _ _ (by show g ≠ b; omega), Below.heap_setCell _ _ _ _ (by show g ≠ b; omega)]
                          exact hgg
                        have hk3 : Hid (CT.ok { t' with last := (t'.last.1, t'.last.2.1, t'.last.2.2 + 1), M := t'.M ++ [(x, (t'.last.1, t'.last.2.1, t'.last.2.2 + 1))] }) := by
                          have := CT.ok_after hok'.out s x
                          rw [hX.out] at this
                          exact this
                        have hO3 := (hO2.alloc (.cells #[.int .i64 t'.last.1, .int .i64 t'.last.2.1, .int .i64 t'.last.2.2] 44)).trans (Only.of_grown hg3)
                        exact ⟨k + 1, { t' with last := (t'.last.1, t'.last.2.1, t'.last.2.2 + 1), M := t'.M ++ [(x, (t'.last.1, t'.last.2.1, t'.last.2.2 + 1))] }, by omega, by go_num, hp2, hT3, hO3, hgg3, by simp; omega, hk3⟩
                      case measure => simp [intOf]; omega
            · obtain rfl : k = acc.length := by omega
              go_wp2_with (go_at_call 86; refine (full_calls _ b m t'.M t'.last t'.st hT).mono ?_; rintro e w3 ⟨rfl, rfl⟩)
              go_ret
              have ep : listPut ws 0 acc t = some t' := by
                rw [← hput.out, List.drop_of_length_le (by simp)]
                rfl
              have e0 : listP t ws = (t', fullE t'.M.length) := by simp [listP, hch'.out, ep, hev'.out]
              exact ⟨t', by rw [e0]; rfl, hT, hO, fun _ => by rw [e0]⟩

end Go.Proofs.YtibhifjehbajnaaDoor

namespace Go.Proofs.YtibhifjehbajnaaDoor
open Go.RowKit Go.Maps
set_option linter.unusedVariables false

theorem TabAt.setSt {W : World} {b m : Nat} {M : List (Int × W3)} {l : W3} {st : Int} (h : TabAt W b m M l st) (x : Int) : TabAt (W.setCell ⟨b, 4, none⟩ (.int .i64 x)) b m M l x := by
  obtain ⟨D, hm, hD⟩ := h.map
  have hne := h.mapLt.2.2
  refine ⟨?_, D, hm.setCell (Ne.symm hne) _, hD⟩
  simp [World.setCell, Array.getElem?_modify, h.blk]

set_option maxRecDepth 100000 in
theorem level_other (W : World) (b A o cp n : Nat) (hn : n ≠ 2) (hm : n ≤ 1048577) :
    Calls Tryd.prog 59 #[.pointer (some ⟨b, 0, none⟩), .slice (some ⟨A, o, none⟩) n cp] W fun e w' => e = .returned (.int .i64 5) ∧ W = w' := by
  have hx : ((n : Int) != 2) = true := by simp; omega
  go_enter Tryd.func59, Tryd.ntmps59
  go_wp2_with fail
  go_ret
  exact ⟨rfl, rfl⟩

/-- What a line leaves: the error, the table (whatever it is, where there is an error), all else as it was. -/
def TabPost (W : World) (b m : Nat) (R : CT × Int) (e : Ending) (w' : World) : Prop :=
  ∃ t' : CT, e = .returned (.int .i64 R.2) ∧ TabAt w' b m t'.M t'.last t'.st ∧ Only W w' b m ∧ (R.2 = 0 → t' = R.1)
theorem bytes_eq {d : ByteArray} {l : List UInt8} (h : d.toList = l) : d = ⟨l.toArray⟩ := by
  rw [← h, Lib.toList_data]

set_option maxRecDepth 100000 in
set_option maxHeartbeats 1000000 in
theorem level_two (W : World) (b m A o cp : Nat) (t : CT) (h : TabAt W b m t.M t.last t.st) (x d : ByteArray) (hA : StrsAt W A o [x, d]) :
    Calls Tryd.prog 59 #[.pointer (some ⟨b, 0, none⟩), .slice (some ⟨A, o, none⟩) 2 cp] W fun e w' => TabPost W b m (levelP t [x, d]) e w' := by
  have c4 := h.cell.2.2.2.2
  have f4 := h.frozen 4
  have hd : W.cell? ⟨A, o + 1, none⟩ = some (.string d) := hA.at_ 1 (by simp)
  have hi49 : ∀ h, ((⟨#[49]⟩ : ByteArray)[0]'h).toNat = 49 := fun _ => rfl
  have hi50 : ∀ h, ((⟨#[50]⟩ : ByteArray)[0]'h).toNat = 50 := fun _ => rfl
  have hi51 : ∀ h, ((⟨#[51]⟩ : ByteArray)[0]'h).toNat = 51 := fun _ => rfl
  have hS : ∀ n, Hid (TabAt (W.setCell ⟨b, 4, none⟩ (.int .i64 n)) b m t.M t.last n) := fun n => h.setSt n
  have hO : ∀ n, Hid (Only W (W.setCell ⟨b, 4, none⟩ (.int .i64 n)) b m) := fun n => (Only.refl W b m).setCell 4 _
  by_cases h1 : d.toList = [49]
  · obtain rfl := bytes_eq h1
    have hso : strengthOf ⟨[49].toArray⟩ = some 1 := by simp [strengthOf, Lib.toList_data]
    have hso' := Lib.hid hso
    clear hso h1
    by_cases hst : 0 < t.st
    · have hsn : ¬ t.st ≤ 0 := by omega
      have e4 : Hid ((levelP t [x, ⟨[49].toArray⟩]).2 = 4) := by show _ = _; simp [levelP, hso'.out, hst]
      go_enter Tryd.func59, Tryd.ntmps59
      go_wp2_with fail
      go_ret
      exact ⟨t, by rw [e4.out]; rfl, h, Only.refl _ _ _, fun hh => by rw [e4.out] at hh; cases hh⟩
    · have hsn : t.st ≤ 0 := by omega
      have e0 : Hid (levelP t [x, ⟨[49].toArray⟩] = ({ t with st := 1 }, 0)) := by show _ = _; simp [levelP, hso'.out, hst]
      go_enter Tryd.func59, Tryd.ntmps59
      go_wp2_with fail
      go_ret
      exact ⟨{ t with st := 1 }, by rw [e0.out]; rfl, (hS 1).out, (hO 1).out, fun _ => by rw [e0.out]⟩
  by_cases h2 : d.toList = [50]
  · obtain rfl := bytes_eq h2
    have hso : strengthOf ⟨[50].toArray⟩ = some 2 := by simp [strengthOf, Lib.toList_data]
    have hso' := Lib.hid hso
    clear hso h2
    by_cases hst : 0 < t.st
    · have hsn : ¬ t.st ≤ 0 := by omega
      have e4 : Hid ((levelP t [x, ⟨[50].toArray⟩]).2 = 4) := by show _ = _; simp [levelP, hso'.out, hst]
      go_enter Tryd.func59, Tryd.ntmps59
      go_wp2_with fail
      go_ret
      exact ⟨t, by rw [e4.out]; rfl, h, Only.refl _ _ _, fun hh => by rw [e4.out] at hh; cases hh⟩
    · have hsn : t.st ≤ 0 := by omega
      have e0 : Hid (levelP t [x, ⟨[50].toArray⟩] = ({ t with st := 2 }, 0)) := by show _ = _; simp [levelP, hso'.out, hst]
      go_enter Tryd.func59, Tryd.ntmps59
      go_wp2_with fail
      go_ret
      exact ⟨{ t with st := 2 }, by rw [e0.out]; rfl, (hS 2).out, (hO 2).out, fun _ => by rw [e0.out]⟩
  by_cases h3 : d.toList = [51]
  · obtain rfl := bytes_eq h3
    have hso : strengthOf ⟨[51].toArray⟩ = some 3 := by simp [strengthOf, Lib.toList_data]
    have hso' := Lib.hid hso
    clear hso h3
    by_cases hst : 0 < t.st
    · have hsn : ¬ t.st ≤ 0 := by omega
      have e4 : Hid ((levelP t [x, ⟨[51].toArray⟩]).2 = 4) := by show _ = _; simp [levelP, hso'.out, hst]
      go_enter Tryd.func59, Tryd.ntmps59
      go_wp2_with fail
      go_ret
      exact ⟨t, by rw [e4.out]; rfl, h, Only.refl _ _ _, fun hh => by rw [e4.out] at hh; cases hh⟩
    · have hsn : t.st ≤ 0 := by omega
      have e0 : Hid (levelP t [x, ⟨[51].toArray⟩] = ({ t with st := 3 }, 0)) := by show _ = _; simp [levelP, hso'.out, hst]
      go_enter Tryd.func59, Tryd.ntmps59
      go_wp2_with fail
      go_ret
      exact ⟨{ t with st := 3 }, by rw [e0.out]; rfl, (hS 3).out, (hO 3).out, fun _ => by rw [e0.out]⟩
  have e5 : Hid ((levelP t [x, d]).2 = 5) := by show _ = _; simp [levelP, strengthOf, h1, h2, h3]
  have g1 : (d.toList != [49]) = true := by simp [h1]
  have g2 : (d.toList != [50]) = true := by simp [h2]
  have g3 : (d.toList != [51]) = true := by simp [h3]
  have g4 : (d.toList == [49]) = false := by simp [h1]
  have g5 : (d.toList == [50]) = false := by simp [h2]
  have g6 : (d.toList == [51]) = false := by simp [h3]
  clear h1 h2 h3
  go_enter Tryd.func59, Tryd.ntmps59
  go_wp2_with fail
  go_ret
  exact ⟨t, by rw [e5.out]; rfl, h, Only.refl _ _ _, fun hh => by rw [e5.out] at hh; cases hh⟩

set_option maxRecDepth 100000 in
set_option maxHeartbeats 1000000 in
theorem add_calls (W : World) (b m A : Nat) (t : CT) (h : TabAt W b m t.M t.last t.st) (hok : t.ok) (ws : List ByteArray) (hA : StrsAt W A 0 ws) (hAb : A ≠ b) (hAm : A ≠ m) (hL : LaidW W) (hb8 : 8 ≤ b) (hm8 : 8 ≤ m)
    (hsz : ∀ x ∈ ws, x.size ≤ 1048576) (hpos : ∀ x ∈ ws, 0 < x.size) (hwn : ws.length ≤ 1048577) (hMn : t.M.length ≤ 4096) :
    Calls Tryd.prog 36 #[.pointer (some ⟨b, 0, none⟩), .slice (some ⟨A, 0, none⟩) ws.length ws.length] W fun e w' => TabPost W b m (addP t ws) e w' := by
  cases ws with
  | nil =>
    have e0 : Hid (addP t [] = (t, 0)) := by show _ = _; simp [addP]
    simp only [List.length_nil]
    go_enter Tryd.func36, Tryd.ntmps36
    go_wp2_with fail
    go_ret
    exact ⟨t, by rw [e0.out]; rfl, h, Only.refl _ _ _, fun _ => by rw [e0.out]⟩
  | cons x r =>
    have hx0 : W.cell? ⟨A, 0, none⟩ = some (.string x) := hA.at_ 0 (by simp)
    have hxs : 0 < x.size := hpos x (by simp)
    have hlen : ((r.length : Int) + 1 == 0) = false := by simp; omega
    have hhd : x.data.toList.head? = some (x[0]'hxs) := by
      rw [List.head?_eq_getElem?]
      simp [hxs]
      rfl
    have hix0 : (0 : Int) < (x.size : Int) := by omega
    have hb35 : Hid (((x[0]'hxs).toNat : Int) = 35 ↔ x.data.toList.head? = some 35) := by
      show _ ↔ _
      rw [hhd]
      constructor
      · intro hq
        have h5 : (x[0]'hxs).toNat = (35 : UInt8).toNat := by show _ = 35; omega
        rw [UInt8.toNat_inj.1 h5]
      · intro hq
        injection hq with hq
        rw [hq]; rfl
    clear hhd
    simp only [List.length_cons]
    by_cases h35 : ((x[0]'hxs).toNat : Int) = 35
    · have e0 : Hid (addP t (x :: r) = (t, 0)) := by show _ = _; simp [addP, hb35.out.1 h35]
      go_enter Tryd.func36, Tryd.ntmps36
      go_wp2_with fail
      go_ret
      exact ⟨t, by rw [e0.out]; rfl, h, Only.refl _ _ _, fun _ => by rw [e0.out]⟩
    · have n35 : ¬ x.data.toList.head? = some 35 := fun hq => h35 (hb35.out.2 hq)
      have n35' := Lib.hid n35
      have hq35 : (((x[0]'hxs).toNat : Int) == 35) = false := by simp; omega
      clear n35 h35
      by_cases hst : x.toList = [115, 116, 114, 101, 110, 103, 116, 104]
      · have hs1 : (x.toList == [115, 116, 114, 101, 110, 103, 116, 104]) = true := by simp [hst]
        have e0 : Hid (addP t (x :: r) = levelP t (x :: r)) := by show _ = _; simp [addP, n35'.out, hst]
        clear hst
        by_cases h2 : r.length = 1
        · obtain ⟨d, rfl⟩ : ∃ d, r = [d] := by
            match r, h2 with
            | [d], _ => exact ⟨d, rfl⟩
          simp only [List.length_cons, List.length_nil] at hlen ⊢
          clear h2
          go_enter Tryd.func36, Tryd.ntmps36
          go_wp2_with (go_at_call 59; refine (level_two _ b m A 0 2 t h x d hA).mono ?_; rintro e w3 ⟨t', rfl, hT, hO, hz⟩)
          go_ret
          exact ⟨t', by rw [e0.out]; rfl, hT, hO, by rw [e0.out]; exact hz⟩
        · have e1 : Hid (levelP t (x :: r) = (t, 5)) := by
            show _ = _
            match r, h2 with
            | [], _ => rfl
            | _ :: _ :: _, _ => rfl
          have hn2 : r.length + 1 ≠ 2 := by omega
          have hn3 : r.length + 1 ≤ 1048577 := by simpa using hwn
          have hn2' := Lib.hid hn2
          clear hn2 h2
          go_enter Tryd.func36, Tryd.ntmps36
          go_wp2_with (go_at_call 59; refine (level_other _ b A 0 _ _ hn2'.out hn3).mono ?_; rintro e w3 ⟨rfl, rfl⟩)
          go_ret
          exact ⟨t, by rw [e0.out, e1.out]; rfl, h, Only.refl _ _ _, fun _ => by rw [e0.out, e1.out]⟩
      · have hs1 : (x.toList == [115, 116, 114, 101, 110, 103, 116, 104]) = false := by simp [hst]
        by_cases hig : x.toList = [105, 103, 110, 111, 114, 101]
        · have hs2 : (x.toList == [105, 103, 110, 111, 114, 101]) = true := by simp [hig]
          have e0 : Hid (addP t (x :: r) = ignoreP t r) := by show _ = _; simp [addP, n35'.out, hig]
          clear hig hst
          have hsr : ∀ y ∈ r, y.size ≤ 1048576 := fun y hy => hsz y (List.mem_cons_of_mem _ hy)
          have hwr : r.length ≤ 1048577 := by simp at hwn; omega
          cases r with
          | nil =>
            have hA0 : StrsAt W A 0 [] := ⟨hA.lt, fun j hj => by simp at hj⟩
            have hx1 : ((0 : Int) + 1) = 1 := rfl
            simp only [List.length_nil] at hlen ⊢
            go_enter Tryd.func36, Tryd.ntmps36
            go_wp2_with (go_at_call 60; refine (ignore_calls _ b m A 0 0 t h [] hA0 (Nat.le_refl _) hAb hAm hL hb8 hm8 hsr hwr hMn).mono ?_; rintro e w3 ⟨t', rfl, hT, hO, hz⟩)
            go_ret
            exact ⟨t', by rw [e0.out]; rfl, hT, hO, by rw [e0.out]; exact hz⟩
          | cons y r =>
            have hA1 : StrsAt W A 1 (y :: r) := ⟨hA.lt, fun j hj => by
              have := hA.at_ (j + 1) (by simp at hj ⊢; omega)
              rw [show 1 + j = 0 + (j + 1) by omega, this]
              rfl⟩
            have hcap : ¬ (1 : Int) = (r.length : Int) + 1 + 1 := by omega
            go_enter Tryd.func36, Tryd.ntmps36
            go_wp2_with (go_at_call 60; refine (ignore_calls _ b m A 1 (r.length + 1) t h (y :: r) hA1 (Nat.le_refl _) hAb hAm hL hb8 hm8 hsr hwr hMn).mono ?_; rintro e w3 ⟨t', rfl, hT, hO, hz⟩)
            go_ret
            exact ⟨t', by rw [e0.out]; rfl, hT, hO, by rw [e0.out]; exact hz⟩
        · have hs2 : (x.toList == [105, 103, 110, 111, 114, 101]) = false := by simp [hig]
          have e0 : Hid (addP t (x :: r) = listP t (x :: r)) := by show _ = _; unfold addP; simp only [if_neg n35'.out, if_neg hst, if_neg hig]
          clear hig hst
          go_enter Tryd.func36, Tryd.ntmps36
          go_wp2_with (go_at_call 61; refine (list_calls _ b m A 0 (x :: r).length t h hok (x :: r) hA (Nat.le_refl _) hAb hAm hL hb8 hm8 hsz hwn hMn).mono ?_; rintro e w3 ⟨t', rfl, hT, hO, hz⟩)
          go_ret
          exact ⟨t', by rw [e0.out]; rfl, hT, hO, by rw [e0.out]; exact hz⟩
end Go.Proofs.YtibhifjehbajnaaDoor

namespace Go.Proofs.YtibhifjehbajnaaDoor
open Go.RowKit Go.Maps
set_option linter.unusedVariables false

def wordsOf (s : ByteArray) : List ByteArray := Lib.goFieldsP (fun r => r == 32) s

theorem width_le (s : ByteArray) (pos : Nat) (h : pos < s.size) : pos + (Utf8.decode s pos).2 ≤ s.size := by
  have := Lib.decodeN_le_n' (s.size - pos) (s.get! pos).toNat (s.get! (pos + 1)).toNat (s.get! (pos + 2)).toNat (s.get! (pos + 3)).toNat (by omega)
  rw [Lib.decode_at]
  omega
theorem spans_ok (p : Nat → Bool) (s : ByteArray) : ∀ (f pos : Nat) (st : Option Nat) (acc : List (Nat × Nat)), (∀ x ∈ acc, x.1 < x.2 ∧ x.2 ≤ s.size) → (∀ a, st = some a → a < pos) → pos ≤ s.size → acc.length ≤ pos → s.size ≤ pos + f →
    (∀ x ∈ (Lib.spansFromP p s f pos st acc).1, x.1 < x.2 ∧ x.2 ≤ s.size) ∧ (∀ a, (Lib.spansFromP p s f pos st acc).2 = some a → a < s.size) ∧ (Lib.spansFromP p s f pos st acc).1.length ≤ s.size
  | 0, pos, st, acc, h1, h2, h3, h4, h5 => by
    simp only [Lib.spansFromP]
    exact ⟨h1, fun a ha => by have := h2 a ha; omega, by omega⟩
  | f + 1, pos, st, acc, h1, h2, h3, h4, h5 => by
    by_cases hp : pos < s.size
    · have hw1 := Lib.decode_width_pos s pos hp
      have hw2 := width_le s pos hp
      simp only [Lib.spansFromP, if_pos hp]
      split
      · cases st with
        | none => exact spans_ok p s f _ none acc h1 (fun a ha => by cases ha) hw2 (by omega) (by omega)
        | some a =>
          refine spans_ok p s f _ none _ (fun x hx => ?_) (fun a ha => by cases ha) hw2 (by simp; omega) (by omega)
          rcases List.mem_append.1 hx with hx | hx
          · exact h1 x hx
          · simp at hx; subst hx
            exact ⟨h2 a rfl, by show pos ≤ _; omega⟩
      · cases st with
        | none => exact spans_ok p s f _ (some pos) acc h1 (fun a ha => by cases ha; omega) hw2 (by omega) (by omega)
        | some a => exact spans_ok p s f _ (some a) acc h1 (fun b hb => by cases hb; have := h2 a rfl; omega) hw2 (by omega) (by omega)
    · rw [Lib.spansFromP_end _ _ _ _ _ _ hp]
      refine ⟨h1, fun a ha => ?_, by simp only; omega⟩
      have := h2 a ha
      omega
theorem spansOf_ok (p : Nat → Bool) (s : ByteArray) : (∀ x ∈ Lib.spansOfP p s, x.1 < x.2 ∧ x.2 ≤ s.size) ∧ (Lib.spansOfP p s).length ≤ s.size + 1 := by
  have h := spans_ok p s s.size 0 none [] (by simp) (fun a ha => by cases ha) (Nat.zero_le _) (by simp) (by omega)
  unfold Lib.spansOfP Lib.closeSpans
  obtain ⟨h1, h2, h3⟩ := h
  split
  · rename_i a ha
    refine ⟨fun x hx => ?_, by simp; omega⟩
    rcases List.mem_append.1 hx with hx | hx
    · exact h1 x hx
    · simp at hx; subst hx
      exact ⟨h2 a ha, Nat.le_refl _⟩
  · exact ⟨h1, by omega⟩
theorem wordsOf_ok (s : ByteArray) : (∀ x ∈ wordsOf s, 0 < x.size ∧ x.size ≤ s.size) ∧ (wordsOf s).length ≤ s.size + 1 := by
  obtain ⟨h1, h2⟩ := spansOf_ok (fun r => r == 32) s
  unfold wordsOf Lib.goFieldsP
  refine ⟨fun x hx => ?_, by simpa using h2⟩
  obtain ⟨y, hy, rfl⟩ := List.mem_map.1 hx
  have := h1 y hy
  simp only [ByteArray.size_extract]
  omega

theorem blank_pred (w : World) : PredAt Tryd.prog 63 #[] encR (fun r => r == 32) w := fun W r _ => by
  unfold FnGives
  by_cases h1 : r = 32
  all_goals
    have z1 : ((r : Int) == 32) = (r == 32) := by rw [Bool.eq_iff_iff]; simp; omega
    go_enter Tryd.func63, Tryd.ntmps63
    go_wp2_with fail
    go_ret
    exact ⟨by simp [h1], 0, rfl⟩

theorem strs_of_owns {w : World} {A n cp base : Nat} {ws : List ByteArray} (h : w.ownsRow base 9 1 (.slice (some ⟨A, 0, none⟩) n cp) ws.length (ws.map Value.string)) (hA : A < w.heap.size) : StrsAt w A 0 ws := by
  refine ⟨hA, fun j hj => ?_⟩
  have := h.cells (g := A) rfl j (.string ws[j]) (by simp [hj])
  have e : ((⟨A, 0, none⟩ : Addr).add j) = ⟨A, 0 + j, none⟩ := by
    cases j <;> simp [Addr.add]
  rw [e] at this
  exact this

theorem words_calls (s : ByteArray) (W : World) (hs : s.size ≤ 4294967296) :
    Calls Tryd.prog 37 #[.string s] W fun e w' => ∃ A, e = .returned (.slice (some ⟨A, 0, none⟩) (wordsOf s).length (wordsOf s).length) ∧ W.heap.size ≤ A ∧ StrsAt w' A 0 (wordsOf s) ∧ Below W.heap.size W w' := by
  go_enter Tryd.func37, Tryd.ntmps37
  go_wp2_with (go_at_call 62; refine (Tryd.strings_FieldsFunc 63 #[] (enters_of Tryd.func63 (by kernel_rfl) rfl) (fun r => r == 32) s W hs (blank_pred W)).mono ?_; rintro e w1 ⟨A, rfl, hA, hown, hb⟩)
  go_ret
  exact ⟨A, rfl, hA, strs_of_owns hown (by have := hown.lt A rfl; exact this.2), hb⟩
end Go.Proofs.YtibhifjehbajnaaDoor

namespace Go.Proofs.YtibhifjehbajnaaDoor
open Go.RowKit Go.Maps
set_option linter.unusedVariables false

def nl : ByteArray := ⟨#[10]⟩
def linesOf (s : ByteArray) : List ByteArray := Lib.splitB nl 0 (Lib.countB s nl) s
def t0 : CT := ⟨[], (0, 0, 0), 0⟩
/-- The lines from number i on (counted from 0), for a table: the number of the line that is wrong (from 1 on) and its error, or the table. -/
def parseL : Nat → CT → List ByteArray → Int × Int × CT
  | _, t, [] => (0, 0, t)
  | i, t, l :: ls => if (addP t (wordsOf l)).2 = 0 then parseL (i + 1) (addP t (wordsOf l)).1 ls else ((i : Int) + 1, (addP t (wordsOf l)).2, t)
/-- What Parse returns: the line, the error, the table. -/
def parseP (s : ByteArray) : Int × Int × CT :=
  if 1048576 < s.size then (0, 2, t0) else if isText s = false then (0, 10, t0) else
    let r := parseL 0 t0 (linesOf s)
    (r.1, r.2.1, { r.2.2 with st := if r.2.2.st = 0 then 3 else r.2.2.st })

theorem fullE_zero {n : Nat} (h : fullE n = 0) : n ≤ 4096 := by
  unfold fullE at h
  split at h
  · cases h
  · omega
theorem putAll_ok : ∀ {M : List (Int × W3)} {l M' : List (Int × W3)}, putAll M l = some M' → M.length ≤ M'.length
  | M, [], M', h => by simp [putAll] at h; subst h; exact Nat.le_refl _
  | M, x :: l, M', h => by
    simp only [putAll] at h
    split at h
    · cases h
    · have := putAll_ok h
      simp at this
      omega
theorem listPut_ok {ws : List ByteArray} : ∀ {l : List Int} {i : Nat} {t t' : CT}, listPut ws i l t = some t' → t.ok → t'.ok
  | [], i, t, t', h, ho => by simp [listPut] at h; subst h; exact ho
  | c :: l, i, t, t', h, ho => by
    simp only [listPut] at h
    split at h
    · cases h
    · exact listPut_ok h (CT.ok_after ho _ c)
theorem addP_ok {t : CT} {ws : List ByteArray} (h : (addP t ws).2 = 0) (ho : t.ok) (hM : t.M.length ≤ 4096) : (addP t ws).1.ok ∧ (addP t ws).1.M.length ≤ 4096 := by
  cases ws with
  | nil => exact ⟨ho, hM⟩
  | cons x r =>
    unfold addP at h ⊢
    simp only at h ⊢
    split
    · exact ⟨ho, hM⟩
    · rename_i h1
      rw [if_neg h1] at h
      split
      · rename_i h2
        rw [if_pos h2] at h
        unfold levelP at h ⊢
        split
        · split
          · exact ⟨ho, hM⟩
          · split
            · exact ⟨ho, hM⟩
            · exact ⟨ho, hM⟩
        · exact ⟨ho, hM⟩
      · rename_i h2
        rw [if_neg h2] at h
        split
        · rename_i h3
          rw [if_pos h3] at h
          unfold ignoreP at h ⊢
          split
          · exact ⟨ho, hM⟩
          · exact ⟨ho, hM⟩
          · rename_i c cs hc
            rw [hc] at h
            simp only at h
            split
            · exact ⟨ho, hM⟩
            · rename_i M hp
              rw [hp] at h
              have h5 := putAll_ok hp
              have h6 := fullE_zero h
              simp only [CT.ok] at ho ⊢
              omega
        · rename_i h3
          rw [if_neg h3] at h
          unfold listP at h ⊢
          split
          · exact ⟨ho, hM⟩
          · rename_i cs hc
            rw [hc] at h
            simp only at h
            split
            · exact ⟨ho, hM⟩
            · rename_i h4
              rw [if_neg h4] at h
              split
              · exact ⟨ho, hM⟩
              · rename_i t' hp
                rw [hp] at h
                exact ⟨listPut_ok hp ho, fullE_zero h⟩

theorem linesOf_len (s : ByteArray) : (linesOf s).length = Lib.countB s nl + 1 := Lib.splitB_all nl (by decide) 0 _ s rfl
theorem linesOf_le (s : ByteArray) : (linesOf s).length ≤ s.size + 1 := by
  rw [linesOf_len]
  have := Lib.countB_le nl (by decide) s.size s (Nat.le_refl _)
  omega
theorem splitB_size (sep : ByteArray) : ∀ (k : Nat) (s : ByteArray), ∀ x ∈ Lib.splitB sep 0 k s, x.size ≤ s.size
  | 0, s, x, hx => by simp [Lib.splitB_zero] at hx; subst hx; exact Nat.le_refl _
  | k + 1, s, x, hx => by
    simp only [Lib.splitB] at hx
    split at hx
    · simp at hx; subst hx; exact Nat.le_refl _
    · rcases List.mem_cons.1 hx with rfl | hx
      · simp only [ByteArray.size_extract]; omega
      · have := splitB_size sep k _ x hx
        simp only [ByteArray.size_extract] at this
        omega
theorem linesOf_size (s : ByteArray) : ∀ x ∈ linesOf s, x.size ≤ s.size := splitB_size nl _ s

/-- What Parse leaves: the table (its block and its map's are new), or nil with the line and the error. -/
def ParsePost (W : World) (R : Int × Int × CT) (e : Ending) (w' : World) : Prop :=
  Below W.heap.size W w' ∧ ((R.2.1 = 0 ∧ ∃ b m, e = .returned (.tuple #[.pointer (some ⟨b, 0, none⟩), .int .i64 0, .int .i64 0]) ∧ W.heap.size ≤ b ∧ W.heap.size ≤ m ∧ TabAt w' b m R.2.2.M R.2.2.last R.2.2.st) ∨
    (R.2.1 ≠ 0 ∧ e = .returned (.tuple #[.pointer none, .int .i64 R.1, .int .i64 R.2.1])))

set_option maxRecDepth 100000 in
set_option maxHeartbeats 1000000 in
theorem Parse_calls (s : ByteArray) (W : World) (hL : LaidW W) (hs : s.size ≤ 140737488351232) :
    Calls Tryd.prog 16 #[.string s] W (ParsePost W (parseP s)) := by
  have hmm := @run_makeMap Tryd.prog
  by_cases hbig : 1048576 < s.size
  · have e0 : Hid (parseP s = (0, 2, t0)) := by show _ = _; unfold parseP; rw [if_pos hbig]
    go_enter Tryd.func16, Tryd.ntmps16
    go_wp2_with fail
    go_ret3
    exact ⟨Below.refl _ _, .inr (by rw [e0.out]; exact ⟨by decide, rfl⟩)⟩
  · cases ht : isText s with
    | false =>
      have e0 : Hid (parseP s = (0, 10, t0)) := by show _ = _; unfold parseP; rw [if_neg hbig, if_pos ht]
      go_enter Tryd.func16, Tryd.ntmps16
      go_wp2_with (go_at_call 24; refine (IsText_calls _ _).mono ?_; rintro e w1 ⟨rfl, hb1⟩; rw [ht])
      go_ret3
      exact ⟨hb1, .inr (by rw [e0.out]; exact ⟨by decide, rfl⟩)⟩
    | true =>
      go_enter Tryd.func16, Tryd.ntmps16
      go_wp2_with (go_at_call 24; refine (IsText_calls _ _).mono ?_; rintro e w1 ⟨rfl, hb1⟩; rw [ht])
      obtain ⟨W2, hW2⟩ : ∃ W2, W2 = ((w1.alloc (.map #[] 0)).alloc (.cells #[.map (some w1.heap.size), .int .i64 0, .int .i64 0, .int .i64 0, .int .i64 0] 46)) := ⟨_, rfl⟩
      have hb2 : Below W.heap.size W W2 := by rw [hW2]; exact (hb1.alloc hb1.size _).alloc (by have := hb1.size; simp; omega) _
      have hT2 : TabAt W2 (w1.heap.size + 1) w1.heap.size t0.M t0.last t0.st := by
        rw [hW2]
        refine ⟨(by rw [show w1.heap.size + 1 = (w1.alloc (.map #[] 0)).heap.size from by simp]; exact (MapKept.heap_alloc _ _).1), .map [], ?_, MapIs.empty⟩
        exact (World.ownsMap_made _ _ _ _).alloc _
      have hL2 : LaidW W2 := hL.below hb2 hL.size
      obtain ⟨mx, hmx⟩ := hL2.maxlen
      rw [← hW2]
      refine (Tryd.strings_Split s nl mx W2 (by omega) hmx (by decide)).mono ?_
      rintro e w3 ⟨rfl, rfl⟩
      rw [← linesOf_len]
      have hLs : (Lib.splitB nl 0 (Lib.countB s nl) s) = linesOf s := rfl
      rw [hLs]
      obtain ⟨W3, hW3⟩ : ∃ W3, W3 = W2.alloc (.cells ((linesOf s).map Value.string).toArray 9) := ⟨_, rfl⟩
      have hA3 : StrsAt W3 W2.heap.size 0 (linesOf s) := by
        rw [hW3]
        refine ⟨by simp, fun j hj => ?_⟩
        rw [World.cell?_alloc_at _ _ _ _ rfl]
        simp [hj]
      have hb3 : Below W.heap.size W W3 := by rw [hW3]; exact hb2.alloc hb2.size _
      have hT3 : TabAt W3 (w1.heap.size + 1) w1.heap.size t0.M t0.last t0.st := by rw [hW3]; exact hT2.alloc _
      have hW2s : W2.heap.size = w1.heap.size + 2 := by rw [hW2]; simp
      have hps : Hid (parseP s = ((parseL 0 t0 (linesOf s)).1, (parseL 0 t0 (linesOf s)).2.1, { (parseL 0 t0 (linesOf s)).2.2 with st := if (parseL 0 t0 (linesOf s)).2.2.st = 0 then 3 else (parseL 0 t0 (linesOf s)).2.2.st })) := by
        show _ = _
        unfold parseP
        rw [if_neg hbig, if_neg (by simp [ht])]
      have hll := linesOf_le s
      have hlz := Lib.hid (linesOf_size s)
      have hLW := Lib.hid hL
      have h1s := hb1.size
      have hL8 := hL.size
      have hn1 : (linesOf s).length ≤ 1048577 := by omega
      have hq8 : 8 ≤ w1.heap.size := by omega
      obtain ⟨q, hq⟩ : ∃ q, q = w1.heap.size := ⟨_, rfl⟩
      rw [← hq] at hT3 hW2s h1s hq8
      rw [← hW3]
      rw [hW2s] at hA3 ⊢
      rw [← hq]
      clear hW3 hW2 hT2 hL2 hmx hb2 hb1 hLs hL hL8 hq hW2s
      go_wp2_with fail
      go_loopw [2, 22] (fun pt i wr => ∃ (k : Nat) (t : CT), k ≤ (linesOf s).length ∧ pt = .pointer (some ⟨q + 1, 0, none⟩) ∧ i = .int .i64 k ∧ Hid (parseL k t ((linesOf s).drop k) = parseL 0 t0 (linesOf s)) ∧ TabAt wr (q + 1) q t.M t.last t.st ∧ Below W.heap.size W wr ∧ StrsAt wr (q + 2) 0 (linesOf s) ∧ Hid (t.ok ∧ t.M.length ≤ 4096)) (fun _ i _ => (linesOf s).length - (intOf i).toNat)
      case atStart => exact ⟨0, t0, Nat.zero_le _, rfl, rfl, rfl, hT3, hb3, hA3, by show _ ∧ _; simp [CT.ok, t0]⟩
      case round =>
        obtain ⟨k, t, hk, rfl, rfl, hpl, hT, hbw, hA, hok⟩ := hrel
        by_cases hlt : k < (linesOf s).length
        · obtain ⟨x, hx⟩ : ∃ x, x = (linesOf s)[k] := ⟨_, rfl⟩
          have hcell : wr.cell? ⟨q + 2, k, none⟩ = some (.string x) := by
            have := hA.at_ k hlt
            rw [Nat.zero_add] at this
            rw [hx]; exact this
          have hxs : x.size ≤ 1048576 := by have := hlz.out x (by rw [hx]; exact List.getElem_mem _); omega
          have hdrop : (linesOf s).drop k = x :: (linesOf s).drop (k + 1) := by rw [hx]; exact List.drop_eq_getElem_cons hlt
          have hD := Lib.hid hdrop
          obtain ⟨hw1, hw2⟩ := wordsOf_ok x
          have hwz : Hid (∀ y ∈ wordsOf x, y.size ≤ 1048576) := fun y hy => by have := hw1 y hy; omega
          have hwp : Hid (∀ y ∈ wordsOf x, 0 < y.size) := fun y hy => (hw1 y hy).1
          have hwl : Hid ((wordsOf x).length ≤ 1048577) := by show _ ≤ _; omega
          have hLr : LaidW W := hLW.out
          have hLr2 := Lib.hid (hLr.below hbw hLr.size)
          clear hx hdrop hw1 hw2 hLr
          cases hR : (addP t (wordsOf x)).2 == 0 with
          | true =>
            have hR0 := Lib.hid (beq_iff_eq.1 hR)
            clear hR
            go_wp2_with (go_at_call 37; refine (words_calls x _ (by omega)).mono ?_; rintro e w4 ⟨B, rfl, hB, hwA, hb4⟩)
            have hT4 := hT.below hb4 hT.mapLt.2.1 hT.mapLt.1
            have hml := hT.mapLt
            have hB1 : B ≠ q + 1 := by omega
            have hB2 : B ≠ q := by omega
            have hq81 : 8 ≤ q + 1 := by omega
            refine (add_calls _ (q + 1) q B t hT4 hok.out.1 (wordsOf x) hwA hB1 hB2 (hLr2.out.below hb4 hLr2.out.size) hq81 hq8 hwz.out hwp.out hwl.out hok.out.2).mono ?_
            rintro e w5 ⟨t', rfl, hT5, hO5, hz5⟩
            have hb5 : Below W.heap.size W w5 := (hbw.trans (hb4.mono hbw.size)).trans (hO5.below (by omega) (by omega) (by have := hbw.size; have := hb4.size; omega))
            have hA5 : StrsAt w5 (q + 2) 0 (linesOf s) := (hA.below hb4).only hO5 (by omega) (by omega)
            obtain rfl := hz5 hR0.out
            rw [hR0.out]
            go_wp2_with fail
            go_roundw
            case rel =>
              refine ⟨k + 1, _, by omega, rfl, by go_num, ?_, hT5, hb5, hA5, addP_ok hR0.out hok.out.1 hok.out.2⟩
              show parseL _ _ _ = _
              rw [← hpl.out, hD.out]
              rw [parseL, if_pos hR0.out]
            case measure => simp [intOf]; omega
          | false =>
            have hR0 := Lib.hid (beq_eq_false_iff_ne.1 hR)
            clear hR
            go_wp2_with (go_at_call 37; refine (words_calls x _ (by omega)).mono ?_; rintro e w4 ⟨B, rfl, hB, hwA, hb4⟩)
            have hT4 := hT.below hb4 hT.mapLt.2.1 hT.mapLt.1
            have hml := hT.mapLt
            have hB1 : B ≠ q + 1 := by omega
            have hB2 : B ≠ q := by omega
            have hq81 : 8 ≤ q + 1 := by omega
            refine (add_calls _ (q + 1) q B t hT4 hok.out.1 (wordsOf x) hwA hB1 hB2 (hLr2.out.below hb4 hLr2.out.size) hq81 hq8 hwz.out hwp.out hwl.out hok.out.2).mono ?_
            rintro e w5 ⟨t', rfl, hT5, hO5, hz5⟩
            have hb5 : Below W.heap.size W w5 := (hbw.trans (hb4.mono hbw.size)).trans (hO5.below (by omega) (by omega) (by have := hbw.size; have := hb4.size; omega))
            have hpe : Hid (parseL 0 t0 (linesOf s) = ((k : Int) + 1, (addP t (wordsOf x)).2, t)) := by
              show _ = _
              rw [← hpl.out, hD.out, parseL, if_neg hR0.out]
            obtain ⟨er, her⟩ : ∃ er, er = (addP t (wordsOf x)).2 := ⟨_, rfl⟩
            have hne : (er != 0) = true := by rw [her]; simpa using hR0.out
            rw [← her]
            have her' := Lib.hid her
            clear her
            go_wp2_with fail
            go_ret3
            refine ⟨hb5, .inr ?_⟩
            rw [hps.out, hpe.out]
            exact ⟨hR0.out, by rw [← her'.out]; rfl⟩
        · obtain rfl : k = (linesOf s).length := by omega
          have hpe : Hid (parseL 0 t0 (linesOf s) = (0, 0, t)) := by
            show _ = _
            rw [← hpl.out, List.drop_of_length_le (by simp), parseL]
          have c4 := hT.cell.2.2.2.2
          have f4 := hT.frozen 4
          by_cases hst : t.st = 0
          · have hst1 : (t.st == 0) = true := by simp [hst]
            have hst' := Lib.hid hst
            clear hst
            go_wp2_with fail
            go_ret3
            refine ⟨Below.setCell hbw (by show W.heap.size ≤ q + 1; omega) _, .inl ?_⟩
            rw [hps.out, hpe.out]
            exact ⟨rfl, q + 1, q, rfl, by omega, by omega, by simp only [if_pos hst'.out]; exact hT.setSt 3⟩
          · have hst1 : (t.st == 0) = false := by simp [hst]
            have hst' := Lib.hid hst
            clear hst
            go_wp2_with fail
            go_ret3
            refine ⟨hbw, .inl ?_⟩
            rw [hps.out, hpe.out]
            exact ⟨rfl, q + 1, q, rfl, by omega, by omega, by simp only [if_neg hst'.out]; exact hT⟩
end Go.Proofs.YtibhifjehbajnaaDoor
