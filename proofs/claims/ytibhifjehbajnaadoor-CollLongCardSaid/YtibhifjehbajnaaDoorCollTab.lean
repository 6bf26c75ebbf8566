/- The methods of a collation's table that read lines, walked: what each does to the table, as the plain functions of CollPure say. -/
import Derived.Test.YtibhifjehbajnaaDoorCollChar
namespace Go.Proofs.YtibhifjehbajnaaDoor
open Go.RowKit Go.Maps
set_option linter.unusedVariables false

theorem info_rune : (Tryd.prog.info? 21).map (fun i => (i.zero, i.size, i.bytes)) = some (some (.int .i32 0), 1, 4) := by kernel_rfl
theorem ownsRow_below {w w' : World} {base : Nat} {e : TypeId} {size : Nat} {v : Value} {n : Nat} {xs : List Value} (h : w.ownsRow base e size v n xs) (hb : Below w.heap.size w w') : w'.ownsRow base e size v n xs :=
  h.kept (row := none) ⟨hb.os, hb.tape, hb.output, hb.size, fun k hk _ => hb.block k hk⟩ (by cases v.ownBlock <;> simp)
def runes (cs : List Int) : List Value := cs.map (Value.int .i32)

theorem isCharB_range {c : Int} (h : isCharB c = true) : 0 ≤ c ∧ c ≤ 1114111 := by
  simp [isCharB] at h
  omega
theorem charOf_range {w : ByteArray} {c : Int} (h : charOf w = some c) : 0 ≤ c ∧ c ≤ 1114111 := by
  unfold charOf at h
  simp only at h
  split at h
  · split at h
    · split at h
      · injection h with h; subst h; exact isCharB_range ‹_›
      · cases h
    · cases h
  · split at h
    · injection h with h; subst h
      have := decode_max w 0
      unfold rune0; omega
    · cases h
theorem charsOf_range : ∀ {l : List ByteArray} {cs : List Int}, charsOf l = some cs → ∀ c ∈ cs, 0 ≤ c ∧ c ≤ 1114111
  | [], cs, h => by simp [charsOf] at h; subst h; simp
  | w :: l, cs, h => by
    simp only [charsOf] at h
    cases h1 : charOf w with
    | none => rw [h1] at h; cases h
    | some c =>
      rw [h1] at h
      cases h2 : charsOf l with
      | none => rw [h2] at h; cases h
      | some cs' =>
        rw [h2] at h
        simp at h
        subst h
        intro x hx
        rcases List.mem_cons.1 hx with rfl | hx
        · exact charOf_range h1
        · exact charsOf_range h2 x hx
theorem wf_rune {c : Int} (h : 0 ≤ c ∧ c ≤ 1114111) : (Lit.int .i32 c).wf = true := WalkArith.wf_i32 (by omega)
/-- Cells of a new row of runes. -/
theorem rune_cells {w : World} {g : Nat} {cur : Array Value} {cs : List Int} (hg : w.heap[g]? = some (.cells cur 21 (0, 0))) (hc : cur.toList.take (cs.length * 1) = runes cs) (k : Nat) (hk : k < cs.length) : w.cell? ⟨g, k, none⟩ = some (.int .i32 (cs[k]'hk)) := by
  have h1 : (cur.toList.take (cs.length * 1))[k]? = some (.int .i32 (cs[k]'hk)) := by rw [hc]; simp [runes, hk]
  rw [List.getElem?_take, if_pos (by omega)] at h1
  simp only [World.cell?, hg]
  simpa using h1

set_option maxRecDepth 100000 in
theorem ignore_calls (W : World) (b m A o cp : Nat) (t : CT) (h : TabAt W b m t.M t.last t.st) (ws : List ByteArray) (hA : StrsAt W A o ws) (hn : ws.length ≤ cp) (hAb : A ≠ b) (hAm : A ≠ m) (hL : LaidW W) (hb8 : 8 ≤ b) (hm8 : 8 ≤ m)
    (hsz : ∀ x ∈ ws, x.size ≤ 1048576) (hwn : ws.length ≤ 1048577) (hMn : t.M.length ≤ 4096) :
    Calls Tryd.prog 60 #[.pointer (some ⟨b, 0, none⟩), .slice (some ⟨A, o, none⟩) ws.length cp] W fun e w' => ∃ t' : CT, e = .returned (.int .i64 (ignoreP t ws).2) ∧ TabAt w' b m t'.M t'.last t'.st ∧ Only W w' b m ∧ ((ignoreP t ws).2 = 0 → t' = (ignoreP t ws).1) := by
  obtain ⟨i0, hi, hz0, hz1, hz2⟩ := info_parts info_rune
  go_enter Tryd.func60, Tryd.ntmps60
  go_wp2_with fail
  go_loopw [5, 15] (fun v i wr => ∃ (k : Nat) (acc : List Int), k ≤ ws.length ∧ i = .int .i64 k ∧ Hid (charsOf (ws.take k) = some acc) ∧ Hid (acc.length = k) ∧ wr.ownsRow W.heap.size 21 1 v acc.length (runes acc) ∧ Below W.heap.size W wr) (fun _ i _ => ws.length - (intOf i).toNat)
  case atStart => exact ⟨0, [], Nat.zero_le _, rfl, rfl, rfl, World.ownsRow_nil _ _ _ _, Below.refl _ _⟩
  case round =>
    obtain ⟨k, acc, hk, rfl, hch, hlen, hown, hbw⟩ := hrel
    by_cases hlt : k < ws.length
    · obtain ⟨x, hx⟩ : ∃ x, x = ws[k] := ⟨_, rfl⟩
      have hcell : wr.cell? ⟨A, o + k, none⟩ = some (.string x) := by rw [hx]; exact (hA.below hbw).at_ k hlt
      have hxs : x.size ≤ 1048576 := by rw [hx]; exact hsz _ (List.getElem_mem _)
      have hlen' : acc.length ≤ k := Nat.le_of_eq hlen.out
      have hL' := hL.below hbw hL.size
      have hsnoc : ws.take (k + 1) = ws.take k ++ [x] := by rw [List.take_succ_eq_append_getElem hlt, hx]
      have hS := Lib.hid hsnoc
      have hX := Lib.hid hx
      clear hsnoc hx
      cases hc : charOf x with
      | none =>
        have hc' := Lib.hid hc
        clear hc
        go_wp2_with (go_at_call 84; refine (char_no x _ hL' hxs hc'.out).mono ?_; rintro e w1 ⟨⟨r, rfl⟩, hb1⟩)
        go_ret
        have e5 : (ignoreP t ws).2 = 5 := by
          have h1 : charsOf ws = none := by
            rw [← List.take_append_drop (k + 1) ws]
            refine charsOf_app_none _ _ ?_
            rw [hS.out, charsOf_snoc, hch.out]
            simp [hc'.out]
          simp [ignoreP, h1]
        exact ⟨t, by rw [e5]; rfl, h.below (hbw.trans (hb1.mono hbw.size)) h.mapLt.2.1 h.mapLt.1, Only.of_below b m (hbw.trans (hb1.mono hbw.size)), fun hh => by rw [e5] at hh; cases hh⟩
      | some c =>
        have hc' := Lib.hid hc
        clear hc
        go_wp2_with (first | (go_at_call 84; refine (char_yes x _ hL' hxs c hc'.out).mono ?_; rintro e w1 ⟨rfl, hb1⟩; have hown1 := ownsRow_below hown hb1; have hb2 : Below W.heap.size W w1 := hbw.trans (hb1.mono hbw.size); clear hown hbw hb1) | (at_builtin; refine wpList_append_own _ rfl _ _ 54 rfl W.heap.size 21 i0 (.int .i32 0) 1 4 Tryd.underlying54 hi hz0 hz1 hz2 rfl (by decide) _ _ _ rfl (hown1.alloc _) ⟨w1.heap.size, 0, none⟩ 1 1 [.int .i32 c] rfl rfl (cell_one_new _ _ _) (fun y hy => by simp at hy; subst hy; rfl) (by unfold maxLen; omega) (by omega) (by have := hb2.size; simp; omega) ?_; intro v' w3 hown' hgrow3 hnil3))
        have hb3 : Below W.heap.size W w3 := Below.grown (hb2.alloc hb2.size _) hgrow3 (by have := hb2.size; simp; omega) (fun j hj => by have := (hown1.lt _ hj).1; omega)
        go_roundw
        case rel =>
          refine ⟨k + 1, acc ++ [c], by omega, by go_num, ?_, ?_, ?_, hb3⟩
          · show charsOf _ = _
            rw [hS.out, charsOf_snoc, hch.out]
            simp [hc'.out]
          · show (acc ++ [c]).length = k + 1
            simp [hlen.out]
          · have e : (acc ++ [c]).length = acc.length + 1 := by simp
            rw [e]
            simpa [runes] using hown'
        case measure => simp [intOf]; omega
    · obtain rfl : k = ws.length := by omega
      have hch' : Hid (charsOf ws = some acc) := by have := hch.out; rw [List.take_length] at this; exact this
      clear hch
      have hlen' : acc.length ≤ ws.length := Nat.le_of_eq hlen.out
      have hT1 : TabAt wr b m t.M t.last t.st := h.below hbw h.mapLt.2.1 h.mapLt.1
      cases acc with
      | nil =>
        have e5 : (ignoreP t ws).2 = 5 := by simp [ignoreP, hch'.out]
        rcases hown.2 with ⟨rfl, _⟩ | ⟨g, cap, cur, rfl, _⟩
        all_goals
          go_wp2_with fail
          go_ret
          exact ⟨t, by rw [e5]; rfl, hT1, Only.of_below b m hbw, fun hh => by rw [e5] at hh; cases hh⟩
      | cons c cs =>
        rcases hown.2 with ⟨_, hn0⟩ | ⟨g, cap, cur, rfl, hgB, hgb, hgn, hcapm, hcsz, hcur⟩
        · simp at hn0
        go_wp2_with fail
        obtain ⟨wo, rfl⟩ : ∃ wo : World, wo = wr := ⟨_, rfl⟩
        have hcs : cs.length + 1 ≤ 1048577 := by simp at hlen'; omega
        obtain ⟨hlt1, hlt2, hlt3⟩ := h.mapLt
        have hrg := charsOf_range hch'.out
        have hrc := fun (k : Nat) (hk : k < (c :: cs).length) (W' : World) (e : W'.heap[g]? = wo.heap[g]?) => rune_cells (w := W') (g := g) (cs := c :: cs) (e.trans hgb) hcur k hk
        have hrg' := Lib.hid hrg
        have hrc' := Lib.hid hrc
        have hcz : ∀ wx, (Instr.build 44 #[]).run Tryd.prog wx = .ok (wv (0, 0, 0)) wx := fun wx => by kernel_rfl
        clear hrg hrc hcur hcsz hown
        go_loopw [36] (fun i w' => ∃ (k : Nat) (M' : List (Int × W3)), k ≤ cs.length + 1 ∧ i = .int .i64 k ∧ Hid (putAll M' (((c :: cs).drop k).map fun c => (c, (0, 0, 0))) = putAll t.M ((c :: cs).map fun c => (c, (0, 0, 0)))) ∧ TabAt w' b m M' t.last t.st ∧ Only W w' b m ∧ w'.heap[g]? = wo.heap[g]? ∧ M'.length ≤ 4096 + k) (fun i _ => (cs.length + 1) - (intOf i).toNat)
        case atStart => exact ⟨0, t.M, Nat.zero_le _, rfl, rfl, hT1, Only.of_below b m hbw, rfl, by omega⟩
        case round =>
          obtain ⟨k, M', hk, rfl, hput, hT, hO, hgg, hM'⟩ := hrel
          by_cases hlt : k < cs.length + 1
          · obtain ⟨x, hx⟩ : ∃ x, x = (c :: cs)[k] := ⟨_, rfl⟩
            have hcell : wr.cell? ⟨g, k, none⟩ = some (.int .i32 x) := by rw [hx]; exact hrc'.out k hlt wr hgg
            have hwf : (Lit.int .i32 x).wf = true := wf_rune (hrg'.out x (by rw [hx]; exact List.getElem_mem _))
            have hdrop : (c :: cs).drop k = x :: (c :: cs).drop (k + 1) := by rw [hx]; exact List.drop_eq_getElem_cons hlt
            have hD := Lib.hid hdrop
            have hMb0 : M'.length < 4294967296 := by simp at hlen'; omega
            have hMb := Lib.hid hMb0
            clear hdrop hx hMb0
            cases hin : inM M' x with
            | true =>
              go_wp2_with (go_at_call 85; refine (put_no _ b m M' t.last t.st hT x (0, 0, 0) hin hwf).mono ?_; rintro e w3 ⟨rfl, hb3⟩)
              go_ret
              have e4 : (ignoreP t ws).2 = 4 := by
                have : putAll t.M ((c :: cs).map fun c => (c, (0, 0, 0))) = none := by rw [← hput.out, hD.out]; simp [putAll, hin]
                simp only [ignoreP, hch'.out, this]
              have hb3' := hb3
              exact ⟨{ t with M := M' }, by rw [e4]; rfl, hT.below hb3 hT.mapLt.2.1 hT.mapLt.1, hO.trans (Only.of_below b m hb3), fun hh => by rw [e4] at hh; cases hh⟩
            | false =>
              go_wp2_with (go_at_call 85; refine (put_yes _ b m M' t.last t.st hT x (0, 0, 0) hin hwf hMb.out).mono ?_; rintro e w3 ⟨rfl, hT3, hg3⟩)
              go_roundw
              case rel =>
                have hp2 : Hid (putAll (M' ++ [(x, (0, 0, 0))]) (((c :: cs).drop (k + 1)).map fun c => (c, (0, 0, 0))) = putAll t.M ((c :: cs).map fun c => (c, (0, 0, 0)))) := by
                  show putAll _ _ = _
                  rw [← hput.out, hD.out]
                  simp [putAll, hin]
                have hgg3 : w3.heap[g]? = wo.heap[g]? := by
                  rw [hg3.block g (Array.getElem?_eq_some_iff.1 (hgg.trans hgb)).1 (by simp; omega)]; exact hgg
                repeat apply Exists.intro
                exact ⟨⟨k + 1, M' ++ [(x, (0, 0, 0))], by omega, by go_num, hp2, hT3, hO.trans (Only.of_grown hg3), hgg3, by simp; omega⟩, rfl⟩
              case measure => simp [intOf]; omega
          · obtain rfl : k = cs.length + 1 := by omega
            go_wp2_with (go_at_call 86; refine (full_calls _ b m M' t.last t.st hT).mono ?_; rintro e w3 ⟨rfl, rfl⟩)
            go_ret
            have ep : putAll t.M ((c :: cs).map fun c => (c, (0, 0, 0))) = some M' := by
              rw [← hput.out, List.drop_of_length_le (by simp)]
              rfl
            have e0 : ignoreP t ws = ({ t with M := M' }, fullE M'.length) := by simp only [ignoreP, hch'.out, ep]
            exact ⟨{ t with M := M' }, by rw [e0]; rfl, hT, hO, fun _ => by rw [e0]⟩

theorem formL_range : ∀ {b : Bool} {l : List ByteArray} {cs : List Int}, formL b l = some cs → ∀ c ∈ cs, 0 ≤ c ∧ c ≤ 1114111
  | _, [], cs, h => by simp [formL] at h; subst h; simp
  | true, w :: l, cs, h => by
    simp only [formL] at h
    split at h
    · exact formL_range h
    · cases h
  | false, w :: l, cs, h => by
    simp only [formL] at h
    cases h1 : charOf w with
    | none => rw [h1] at h; cases h
    | some c =>
      rw [h1] at h
      cases h2 : formL true l with
      | none => rw [h2] at h; cases h
      | some cs' =>
        rw [h2] at h
        simp at h
        subst h
        intro x hx
        rcases List.mem_cons.1 hx with rfl | hx
        · exact charOf_range h1
        · exact formL_range h2 x hx

theorem formL_len : ∀ {b : Bool} {l : List ByteArray} {cs : List Int}, formL b l = some cs → cs.length = (if b then l.length / 2 else (l.length + 1) / 2)
  | b, [], cs, h => by simp [formL] at h; subst h; cases b <;> simp
  | true, w :: l, cs, h => by
    simp only [formL] at h
    split at h
    · have := formL_len h
      simpa using this
    · cases h
  | false, w :: l, cs, h => by
    simp only [formL] at h
    cases h1 : charOf w with
    | none => rw [h1] at h; cases h
    | some c =>
      rw [h1] at h
      cases h2 : formL true l with
      | none => rw [h2] at h; cases h
      | some cs' =>
        rw [h2] at h
        simp at h
        subst h
        have := formL_len h2
        simp at this
        simp
        omega

/-- The weights of the last listed character, written anew. -/
theorem TabAt.setLast {W : World} {b m : Nat} {M : List (Int × W3)} {l : W3} {st : Int} (h : TabAt W b m M l st) (x : W3) :
    TabAt (((W.setCell ⟨b, 1, none⟩ (.int .i64 x.1)).setCell ⟨b, 2, none⟩ (.int .i64 x.2.1)).setCell ⟨b, 3, none⟩ (.int .i64 x.2.2)) b m M x st := by
  obtain ⟨D, hm, hD⟩ := h.map
  have hne := h.mapLt.2.2
  refine ⟨?_, D, ((hm.setCell (Ne.symm hne) _).setCell (Ne.symm hne) _).setCell (Ne.symm hne) _, hD⟩
  simp [World.setCell, Array.getElem?_modify, h.blk]
theorem TabAt.frozenS {W : World} {b m : Nat} {M : List (Int × W3)} {l : W3} {st : Int} (h : TabAt W b m M l st) (k j : Nat) (u : Value) (ob : Obj) : ((W.setCell ⟨b, j, none⟩ u).alloc ob).frozen? ⟨b, k, none⟩ = false := by
  rw [World.frozen?_alloc_old _ _ _ (by have := h.mapLt.2.1; simp [World.setCell]; omega), World.frozen?_setCell]
  exact h.frozen k
theorem TabAt.frozenSS {W : World} {b m : Nat} {M : List (Int × W3)} {l : W3} {st : Int} (h : TabAt W b m M l st) (k j j' : Nat) (u u' : Value) (ob : Obj) : (((W.setCell ⟨b, j, none⟩ u).setCell ⟨b, j', none⟩ u').alloc ob).frozen? ⟨b, k, none⟩ = false := by
  rw [World.frozen?_alloc_old _ _ _ (by have := h.mapLt.2.1; simp [World.setCell]; omega), World.frozen?_setCell, World.frozen?_setCell]
  exact h.frozen k
theorem Only.setCell {w w' : World} {b m : Nat} (h : Only w w' b m) (j : Nat) (u : Value) : Only w (w'.setCell ⟨b, j, none⟩ u) b m :=
  h.trans ⟨rfl, rfl, rfl, by simp [World.setCell], fun k _ h1 _ => Below.heap_setCell _ _ _ _ h1⟩

set_option maxRecDepth 100000 in
set_option maxHeartbeats 4000000 in
theorem list_calls (W : World) (b m A o cp : Nat) (t : CT) (h : TabAt W b m t.M t.last t.st) (hok : t.ok) (ws : List ByteArray) (hA : StrsAt W A o ws) (hn : ws.length ≤ cp) (hAb : A ≠ b) (hAm : A ≠ m) (hL : LaidW W) (hb8 : 8 ≤ b) (hm8 : 8 ≤ m)
    (hsz : ∀ x ∈ ws, x.size ≤ 1048576) (hwn : ws.length ≤ 1048577) (hMn : t.M.length ≤ 4096) :
    Calls Tryd.prog 61 #[.pointer (some ⟨b, 0, none⟩), .slice (some ⟨A, o, none⟩) ws.length cp] W fun e w' => ∃ t' : CT, e = .returned (.int .i64 (listP t ws).2) ∧ TabAt w' b m t'.M t'.last t'.st ∧ Only W w' b m ∧ ((listP t ws).2 = 0 → t' = (listP t ws).1) := by
  obtain ⟨i0, hi, hz0, hz1, hz2⟩ := info_parts info_rune
  go_enter Tryd.func61, Tryd.ntmps61
  go_wp2_with fail
  go_loopw [5, 17] (fun v i wr => ∃ (k : Nat) (acc : List Int), k ≤ ws.length ∧ i = .int .i64 k ∧ Hid (formL false (ws.take k) = some acc) ∧ acc.length ≤ k ∧ wr.ownsRow W.heap.size 21 1 v acc.length (runes acc) ∧ Below W.heap.size W wr) (fun _ i _ => ws.length - (intOf i).toNat)
  case atStart => exact ⟨0, [], Nat.zero_le _, rfl, rfl, Nat.le_refl _, World.ownsRow_nil _ _ _ _, Below.refl _ _⟩
  case round =>
    obtain ⟨k, acc, hk, rfl, hch, hlen, hown, hbw⟩ := hrel
    by_cases hlt : k < ws.length
    · obtain ⟨x, hx⟩ : ∃ x, x = ws[k] := ⟨_, rfl⟩
      have hcell : wr.cell? ⟨A, o + k, none⟩ = some (.string x) := by rw [hx]; exact (hA.below hbw).at_ k hlt
      have hxs : x.size ≤ 1048576 := by rw [hx]; exact hsz _ (List.getElem_mem _)
      have hL' := hL.below hbw hL.size
      have hS : Hid (formL false (ws.take (k + 1)) = stepL (k % 2 == 1) acc x) := by
        show formL _ _ = _
        rw [List.take_succ_eq_append_getElem hlt, ← hx, formL_snoc false _ _ acc hch.out, List.length_take, Nat.min_eq_left hk]
        simp
      have hno : Hid (stepL (k % 2 == 1) acc x = none → (listP t ws).2 = 5) := by
        intro hq
        have h1 : formL false ws = none := by
          rw [← List.take_append_drop (k + 1) ws]
          exact formL_app_none _ _ _ (hS.out.trans hq)
        simp [listP, h1]
      have hX := Lib.hid hx
      clear hx
      rcases Nat.mod_two_eq_zero_or_one k with ev | ev
      · have hev : ((k : Int) % 2 == 1) = false := by simp; omega
        have hev' := Lib.hid ev
        clear ev
        cases hc : charOf x with
        | none =>
          have hc' := Lib.hid hc
          clear hc
          go_wp2_with (go_at_call 84; refine (char_no x _ hL' hxs hc'.out).mono ?_; rintro e w1 ⟨⟨r, rfl⟩, hb1⟩)
          go_ret
          have e5 : (listP t ws).2 = 5 := hno.out (by simp [stepL, hev'.out, hc'.out])
          exact ⟨t, by rw [e5]; rfl, h.below (hbw.trans (hb1.mono hbw.size)) h.mapLt.2.1 h.mapLt.1, Only.of_below b m (hbw.trans (hb1.mono hbw.size)), fun hh => by rw [e5] at hh; cases hh⟩
        | some c =>
          have hc' := Lib.hid hc
          clear hc
          go_wp2_with (first | (go_at_call 84; refine (char_yes x _ hL' hxs c hc'.out).mono ?_; rintro e w1 ⟨rfl, hb1⟩; have hown1 := ownsRow_below hown hb1; have hb2 : Below W.heap.size W w1 := hbw.trans (hb1.mono hbw.size); clear hown hbw hb1) | (at_builtin; refine wpList_append_own _ rfl _ _ 54 rfl W.heap.size 21 i0 (.int .i32 0) 1 4 Tryd.underlying54 hi hz0 hz1 hz2 rfl (by decide) _ _ _ rfl (hown1.alloc _) ⟨w1.heap.size, 0, none⟩ 1 1 [.int .i32 c] rfl rfl (cell_one_new _ _ _) (fun y hy => by simp at hy; subst hy; rfl) (by unfold maxLen; omega) (by omega) (by have := hb2.size; simp; omega) ?_; intro v' w3 hown' hgrow3 hnil3))
          have hb3 : Below W.heap.size W w3 := Below.grown (hb2.alloc hb2.size _) hgrow3 (by have := hb2.size; simp; omega) (fun j hj => by have := (hown1.lt _ hj).1; omega)
          go_roundw
          case rel =>
            refine ⟨k + 1, acc ++ [c], by omega, by go_num, ?_, by simp; omega, ?_, hb3⟩
            · show formL _ _ = _
              rw [hS.out]
              simp [stepL, hev'.out, hc'.out]
            · have e : (acc ++ [c]).length = acc.length + 1 := by simp
              rw [e]
              simpa [runes] using hown'
          case measure => simp [intOf]; omega
      · have hev : ((k : Int) % 2 == 1) = true := by simp; omega
        have hev' := Lib.hid ev
        clear ev
        cases hs : signB x with
        | true =>
          go_wp2_with (go_at_call 87; refine (sign_calls x _).mono ?_; rintro e w1 ⟨rfl, rfl⟩; rw [hs])
          go_roundw
          case rel =>
            refine ⟨k + 1, acc, by omega, by go_num, ?_, by omega, hown, hbw⟩
            show formL _ _ = _
            rw [hS.out]
            simp [stepL, hev'.out, hs]
          case measure => simp [intOf]; omega
        | false =>
          go_wp2_with (go_at_call 87; refine (sign_calls x _).mono ?_; rintro e w1 ⟨rfl, rfl⟩; rw [hs])
          go_ret
          have e5 : (listP t ws).2 = 5 := hno.out (by simp [stepL, hev'.out, hs])
          exact ⟨t, by rw [e5]; rfl, h.below hbw h.mapLt.2.1 h.mapLt.1, Only.of_below b m hbw, fun hh => by rw [e5] at hh; cases hh⟩
    · obtain rfl : k = ws.length := by omega
      have hch' : Hid (formL false ws = some acc) := by have := hch.out; rw [List.take_length] at this; exact this
      clear hch
      have hT1 : TabAt wr b m t.M t.last t.st := h.below hbw h.mapLt.2.1 h.mapLt.1
      rcases Nat.mod_two_eq_zero_or_one ws.length with ev | ev
      · have hev : ((ws.length : Int) % 2 == 0) = true := by simp; omega
        have e5 : (listP t ws).2 = 5 := by simp [listP, hch'.out, ev]
        have hev' := Lib.hid ev
        have e5' := Lib.hid e5
        clear ev e5
        go_wp2_with fail
        go_ret
        exact ⟨t, by rw [e5'.out]; rfl, hT1, Only.of_below b m hbw, fun hh => by rw [e5'.out] at hh; cases hh⟩
      · have hev : ((ws.length : Int) % 2 == 0) = false := by simp; omega
        have hev' := Lib.hid ev
        clear ev
        rcases hown.2 with ⟨rfl, hn0⟩ | ⟨g, cap, cur, rfl, hgB, hgb, hgn, hcapm, hcsz, hcur⟩
        · exfalso
          have h0 := formL_len hch'.out
          have h1 := hev'.out
          simp at h0
          omega
        · obtain ⟨wo, rfl⟩ : ∃ wo : World, wo = wr := ⟨_, rfl⟩
          obtain ⟨hlt1, hlt2, hlt3⟩ := h.mapLt
          have hrg' := Lib.hid (formL_range hch'.out)
          have hrc' := Lib.hid (fun (k : Nat) (hk : k < acc.length) (W' : World) (e : W'.heap[g]? = wo.heap[g]?) => rune_cells (w := W') (g := g) (cs := acc) (e.trans hgb) hcur k hk)
          clear hcur hcsz hown
          go_wp2_with fail
          go_loopw [46] (fun i w' => ∃ (k : Nat) (t' : CT), k ≤ acc.length ∧ i = .int .i64 k ∧ Hid (listPut ws k (acc.drop k) t' = listPut ws 0 acc t) ∧ TabAt w' b m t'.M t'.last t'.st ∧ Only W w' b m ∧ w'.heap[g]? = wo.heap[g]? ∧ t'.M.length ≤ 4096 + k ∧ Hid t'.ok) (fun i _ => acc.length - (intOf i).toNat)
          case atStart => exact ⟨0, t, Nat.zero_le _, rfl, rfl, hT1, Only.of_below b m hbw, rfl, by omega, hok⟩
          case round =>
            obtain ⟨k, t', hk, rfl, hput, hT, hO, hgg, hM', hok'⟩ := hrel
            by_cases hlt : k < acc.length
            · obtain ⟨x, hx⟩ : ∃ x, x = acc[k] := ⟨_, rfl⟩
              have hcell : wr.cell? ⟨g, k, none⟩ = some (.int .i32 x) := by rw [hx]; exact hrc'.out k hlt wr hgg
              have hwf : (Lit.int .i32 x).wf = true := wf_rune (hrg'.out x (by rw [hx]; exact List.getElem_mem _))
              have hdrop : acc.drop k = x :: acc.drop (k + 1) := by rw [hx]; exact List.drop_eq_getElem_cons hlt
              have hD := Lib.hid hdrop
              have hMb0 : t'.M.length < 4294967296 := by omega
              have hMb := Lib.hid hMb0
              have hcl := hT.cell
              obtain ⟨-, cl1, cl2, cl3, -⟩ := hcl
              have ca1 := fun (ob : Obj) => (hT.alloc ob).cell.2.1
              have ca2 := fun (ob : Obj) => (hT.alloc ob).cell.2.2.1
              have ca3 := fun (ob : Obj) => (hT.alloc ob).cell.2.2.2.1
              have fa1 := fun (ob : Obj) => (hT.alloc ob).frozen 1
              have fa2 := fun (ob : Obj) => (hT.alloc ob).frozen 2
              have fa3 := fun (ob : Obj) => (hT.alloc ob).frozen 3
              have fs2 := fun u ob => hT.frozenS 2 1 u ob
              have fs3 := fun u u' ob => hT.frozenSS 3 1 2 u u' ob
              have hbz := hT.mapLt.2.1
              obtain ⟨q1, q2, q3, q4, q5, q6⟩ := hok'.out
              have r1 : t'.last.1 ≤ 2000000 := by omega
              have r2 : t'.last.2.1 ≤ 2000000 := by omega
              have r3 : t'.last.2.2 ≤ 2000000 := by omega
              clear q2 q4 q6
              clear hdrop hx hMb0
              by_cases hk0 : k = 0
              · subst hk0
                have hX3 : afterW t'.last (signAt ws 0) = (t'.last.1 + 1, 1, 1) := by simp [afterW, signAt]
                have hX := Lib.hid hX3
                have hT2 := hT.setLast (t'.last.1 + 1, 1, 1)
                have hO2 := ((hO.setCell 1 (Value.int .i64 (t'.last.1 + 1))).setCell 2 (Value.int .i64 1)).setCell 3 (Value.int .i64 1)
                clear hX3
                cases hin : inM t'.M x with
                | true =>
                  go_wp2_with (go_at_call 85; refine (put_no _ b m t'.M (t'.last.1 + 1, 1, 1) t'.st (hT2.alloc _) x (t'.last.1 + 1, 1, 1) hin hwf).mono ?_; rintro e w3 ⟨rfl, hb3⟩)
                  go_ret
                  have e4 : (listP t ws).2 = 4 := by
                    have : listPut ws 0 acc t = none := by rw [← hput.out, hD.out]; simp [listPut, hin]
                    simp [listP, hch'.out, this, hev'.out]
                  exact ⟨{ t' with last := (t'.last.1 + 1, 1, 1) }, by rw [e4]; rfl, (hT2.alloc _).below hb3 (hT2.alloc _).mapLt.2.1 (hT2.alloc _).mapLt.1, (hO2.alloc _).trans (Only.of_below b m hb3), fun hh => by rw [e4] at hh; cases hh⟩
                | false =>
                  go_wp2_with (go_at_call 85; refine (put_yes _ b m t'.M (t'.last.1 + 1, 1, 1) t'.st (hT2.alloc _) x (t'.last.1 + 1, 1, 1) hin hwf hMb.out).mono ?_; rintro e w3 ⟨rfl, hT3, hg3⟩)
                  go_roundw
                  case rel =>
                    have hp2 : Hid (listPut ws (0 + 1) (acc.drop (0 + 1)) { t' with last := (t'.last.1 + 1, 1, 1), M := t'.M ++ [(x, (t'.last.1 + 1, 1, 1))] } = listPut ws 0 acc t) := by
                      show listPut _ _ _ _ = _
                      rw [← hput.out, hD.out]
                      simp only [listPut, hin]
                      rw [hX.out]; rfl
                    have hgg3 : w3.heap[g]? = wo.heap[g]? := by
                      have hsz := hO2.size
                      have hgw : g < wr.heap.size := (Array.getElem?_eq_some_iff.1 (hgg.trans hgb)).1
                      rw [hg3.block g (by simp [World.setCell]; omega) (by simp; omega), Below.heap_alloc _ _ _ (by simp [World.setCell]; omega), Below.heap_setCell _ _ _ _ (by show g ≠ b; omega), Below.heap_setCell _ _ _ _ (by show g ≠ b; omega), Below.heap_setCell _ _ _ _ (by show g ≠ b; omega)]
                      exact hgg
                    have hk3 : Hid (CT.ok { t' with last := (t'.last.1 + 1, 1, 1), M := t'.M ++ [(x, (t'.last.1 + 1, 1, 1))] }) := by
                      have := CT.ok_after hok'.out (signAt ws 0) x
                      rw [hX.out] at this
                      exact this
                    have hO3 := (hO2.alloc (.cells #[.int .i64 t'.last.1, .int .i64 t'.last.2.1, .int .i64 t'.last.2.2] 44)).trans (Only.of_grown hg3)
                    exact ⟨0 + 1, { t' with last := (t'.last.1 + 1, 1, 1), M := t'.M ++ [(x, (t'.last.1 + 1, 1, 1))] }, by omega, by go_num, hp2, hT3, hO3, hgg3, by simp; omega, hk3⟩
                  case measure => simp [intOf]; omega
              · have h0 := formL_len hch'.out
                have h1 := hev'.out
                simp at h0
                have h2 : 2 * k - 1 < ws.length := by omega
                have hcs : wr.cell? ⟨A, o + (2 * k - 1), none⟩ = some (.string (signAt ws k)) := by
                  have h3 := (hA.only hO hAb hAm).at_ (2 * k - 1) h2
                  rw [h3]
                  simp [signAt, hk0, h2]
                have hix0 : (0 : Int) ≤ 2 * (k : Int) - 1 := by omega
                have hix1 : 2 * (k : Int) - 1 < (ws.length : Int) := by omega
                obtain ⟨s, hs⟩ : ∃ s, s = signAt ws k := ⟨_, rfl⟩
                rw [← hs] at hcs
                have hS := Lib.hid hs
                clear hs h0 h1 h2
                have hkp : 0 < k := by omega
                by_cases h60 : s.toList = [60]
                · have h60' : (s.toList == [60]) = true := by simp [h60]
                  have h60h := Lib.hid h60
                  clear h60
                  have hX3 : afterW t'.last s = (t'.last.1 + 1, 1, 1) := by simp [afterW, h60h.out]
                  have hX := Lib.hid hX3
                  have hT2 := hT.setLast (t'.last.1 + 1, 1, 1)
                  have hO2 := ((hO.setCell 1 (Value.int .i64 (t'.last.1 + 1))).setCell 2 (Value.int .i64 1)).setCell 3 (Value.int .i64 1)
                  clear hX3
                  cases hin : inM t'.M x with
                  | true =>
                    go_wp2_with (go_at_call 85; refine (put_no _ b m t'.M (t'.last.1 + 1, 1, 1) t'.st (hT2.alloc _) x (t'.last.1 + 1, 1, 1) hin hwf).mono ?_; rintro e w3 ⟨rfl, hb3⟩)
                    go_ret
                    have e4 : (listP t ws).2 = 4 := by
                      have : listPut ws 0 acc t = none := by rw [← hput.out, hD.out]; simp [listPut, hin]
                      simp [listP, hch'.out, this, hev'.out]
                    exact ⟨{ t' with last := (t'.last.1 + 1, 1, 1) }, by rw [e4]; rfl, (hT2.alloc _).below hb3 (hT2.alloc _).mapLt.2.1 (hT2.alloc _).mapLt.1, (hO2.alloc _).trans (Only.of_below b m hb3), fun hh => by rw [e4] at hh; cases hh⟩
                  | false =>
                    go_wp2_with (go_at_call 85; refine (put_yes _ b m t'.M (t'.last.1 + 1, 1, 1) t'.st (hT2.alloc _) x (t'.last.1 + 1, 1, 1) hin hwf hMb.out).mono ?_; rintro e w3 ⟨rfl, hT3, hg3⟩)
                    go_roundw
                    case rel =>
                      have hp2 : Hid (listPut ws (k + 1) (acc.drop (k + 1)) { t' with last := (t'.last.1 + 1, 1, 1), M := t'.M ++ [(x, (t'.last.1 + 1, 1, 1))] } = listPut ws 0 acc t) := by
                        show listPut _ _ _ _ = _
                        rw [← hput.out, hD.out]
                        simp only [listPut, hin]
                        rw [← hS.out, hX.out]; rfl
                      have hgg3 : w3.heap[g]? = wo.heap[g]? := by
                        have hsz := hO2.size
                        have hgw : g < wr.heap.size := (Array.getElem?_eq_some_iff.1 (hgg.trans hgb)).1
                        rw [hg3.block g (by simp [World.setCell]; omega) (by simp; omega), Below.heap_alloc _ _ _ (by simp [World.setCell]; omega), Below.heap_setCell _ _ _ _ (by show g ≠ b; omega), Below.heap_setCell _ _ _ _ (by show g ≠ b; omega), Below.heap_setCell _ _ _ _ (by show g ≠ b; omega)]
                        exact hgg
                      have hk3 : Hid (CT.ok { t' with last := (t'.last.1 + 1, 1, 1), M := t'.M ++ [(x, (t'.last.1 + 1, 1, 1))] }) := by
                        have := CT.ok_after hok'.out s x
                        rw [hX.out] at this
                        exact this
                      have hO3 := (hO2.alloc (.cells #[.int .i64 t'.last.1, .int .i64 t'.last.2.1, .int .i64 t'.last.2.2] 44)).trans (Only.of_grown hg3)
                      exact ⟨k + 1, { t' with last := (t'.last.1 + 1, 1, 1), M := t'.M ++ [(x, (t'.last.1 + 1, 1, 1))] }, by omega, by go_num, hp2, hT3, hO3, hgg3, by simp; omega, hk3⟩
                    case measure => simp [intOf]; omega
                · have h60' : (s.toList == [60]) = false := by simp [h60]
                  have h60h := Lib.hid h60
                  clear h60
                  by_cases h44 : s.toList = [44]
                  · have h44' : (s.toList == [44]) = true := by simp [h44]
                    have h44h := Lib.hid h44
                    clear h44
                    have hX3 : afterW t'.last s = (t'.last.1, t'.last.2.1 + 1, 1) := by simp [afterW, h44h.out]
                    have hX := Lib.hid hX3
                    have hT2 := hT.setLast (t'.last.1, t'.last.2.1 + 1, 1)
                    have hO2 := ((hO.setCell 1 (Value.int .i64 t'.last.1)).setCell 2 (Value.int .i64 (t'.last.2.1 + 1))).setCell 3 (Value.int .i64 1)
                    clear hX3
                    cases hin : inM t'.M x with
                    | true =>
                      go_wp2_with (go_at_call 85; refine (put_no _ b m t'.M (t'.last.1, t'.last.2.1 + 1, 1) t'.st (hT2.alloc _) x (t'.last.1, t'.last.2.1 + 1, 1) hin hwf).mono ?_; rintro e w3 ⟨rfl, hb3⟩)
                      go_ret
                      have e4 : (listP t ws).2 = 4 := by
                        have : listPut ws 0 acc t = none := by rw [← hput.out, hD.out]; simp [listPut, hin]
                        simp [listP, hch'.out, this, hev'.out]
                      exact ⟨{ t' with last := (t'.last.1, t'.last.2.1 + 1, 1) }, by rw [e4]; rfl, (hT2.alloc _).below hb3 (hT2.alloc _).mapLt.2.1 (hT2.alloc _).mapLt.1, (hO2.alloc _).trans (Only.of_below b m hb3), fun hh => by rw [e4] at hh; cases hh⟩
                    | false =>
                      go_wp2_with (go_at_call 85; refine (put_yes _ b m t'.M (t'.last.1, t'.last.2.1 + 1, 1) t'.st (hT2.alloc _) x (t'.last.1, t'.last.2.1 + 1, 1) hin hwf hMb.out).mono ?_; rintro e w3 ⟨rfl, hT3, hg3⟩)
                      go_roundw
                      case rel =>
                        have hp2 : Hid (listPut ws (k + 1) (acc.drop (k + 1)) { t' with last := (t'.last.1, t'.last.2.1 + 1, 1), M := t'.M ++ [(x, (t'.last.1, t'.last.2.1 + 1, 1))] } = listPut ws 0 acc t) := by
                          show listPut _ _ _ _ = _
                          rw [← hput.out, hD.out]
                          simp only [listPut, hin]
                          rw [← hS.out, hX.out]; rfl
                        have hgg3 : w3.heap[g]? = wo.heap[g]? := by
                          have hsz := hO2.size
                          have hgw : g < wr.heap.size := (Array.getElem?_eq_some_iff.1 (hgg.trans hgb)).1
                          rw [hg3.block g (by simp [World.setCell]; omega) (by simp; omega), Below.heap_alloc _ _ _ (by simp [World.setCell]; omega), Below.heap_setCell _ _ _ _ (by show g ≠ b; omega), Below.heap_setCell _ _ _ _ (by show g ≠ b; omega), Below.heap_setCell _ _ _ _ (by show g ≠ b; omega)]
                          exact hgg
                        have hk3 : Hid (CT.ok { t' with last := (t'.last.1, t'.last.2.1 + 1, 1), M := t'.M ++ [(x, (t'.last.1, t'.last.2.1 + 1, 1))] }) := by
                          have := CT.ok_after hok'.out s x
                          rw [hX.out] at this
                          exact this
                        have hO3 := (hO2.alloc (.cells #[.int .i64 t'.last.1, .int .i64 t'.last.2.1, .int .i64 t'.last.2.2] 44)).trans (Only.of_grown hg3)
                        exact ⟨k + 1, { t' with last := (t'.last.1, t'.last.2.1 + 1, 1), M := t'.M ++ [(x, (t'.last.1, t'.last.2.1 + 1, 1))] }, by omega, by go_num, hp2, hT3, hO3, hgg3, by simp; omega, hk3⟩
                      case measure => simp [intOf]; omega
                  · have h44' : (s.toList == [44]) = false := by simp [h44]
                    have h44h := Lib.hid h44
                    clear h44
                    have hX3 : afterW t'.last s = (t'.last.1, t'.last.2.1, t'.last.2.2 + 1) := by simp [afterW, h60h.out, h44h.out]
                    have hX := Lib.hid hX3
                    have hT2 := hT.setLast (t'.last.1, t'.last.2.1, t'.last.2.2 + 1)
                    have hO2 := ((hO.setCell 1 (Value.int .i64 t'.last.1)).setCell 2 (Value.int .i64 t'.last.2.1)).setCell 3 (Value.int .i64 (t'.last.2.2 + 1))
                    clear hX3
                    cases hin : inM t'.M x with
                    | true =>
                      go_wp2_with (go_at_call 85; refine (put_no _ b m t'.M (t'.last.1, t'.last.2.1, t'.last.2.2 + 1) t'.st (hT2.alloc _) x (t'.last.1, t'.last.2.1, t'.last.2.2 + 1) hin hwf).mono ?_; rintro e w3 ⟨rfl, hb3⟩)
                      go_ret
                      have e4 : (listP t ws).2 = 4 := by
                        have : listPut ws 0 acc t = none := by rw [← hput.out, hD.out]; simp [listPut, hin]
                        simp [listP, hch'.out, this, hev'.out]
                      exact ⟨{ t' with last := (t'.last.1, t'.last.2.1, t'.last.2.2 + 1) }, by rw [e4]; rfl, (hT2.alloc _).below hb3 (hT2.alloc _).mapLt.2.1 (hT2.alloc _).mapLt.1, (hO2.alloc _).trans (Only.of_below b m hb3), fun hh => by rw [e4] at hh; cases hh⟩
                    | false =>
                      go_wp2_with (go_at_call 85; refine (put_yes _ b m t'.M (t'.last.1, t'.last.2.1, t'.last.2.2 + 1) t'.st (hT2.alloc _) x (t'.last.1, t'.last.2.1, t'.last.2.2 + 1) hin hwf hMb.out).mono ?_; rintro e w3 ⟨rfl, hT3, hg3⟩)
                      go_roundw
                      case rel =>
                        have hp2 : Hid (listPut ws (k + 1) (acc.drop (k + 1)) { t' with last := (t'.last.1, t'.last.2.1, t'.last.2.2 + 1), M := t'.M ++ [(x, (t'.last.1, t'.last.2.1, t'.last.2.2 + 1))] } = listPut ws 0 acc t) := by
                          show listPut _ _ _ _ = _
                          rw [← hput.out, hD.out]
                          simp only [listPut, hin]
                          rw [← hS.out, hX.out]; rfl
                        have hgg3 : w3.heap[g]? = wo.heap[g]? := by
                          have hsz := hO2.size
                          have hgw : g < wr.heap.size := (Array.getElem?_eq_some_iff.1 (hgg.trans hgb)).1
                          rw [hg3.block g (by simp [World.setCell]; omega) (by simp; omega), Below.heap_alloc _ _ _ (by simp [World.setCell]; omega), Below.heap_setCell _ _ _ _ (by show g ≠ b; omega), Below.heap_setCell _ _ _ _ (by show g ≠ b; omega), Below.heap_setCell _ _ _ _ (by show g ≠ b; omega)]
                          exact hgg
                        have hk3 : Hid (CT.ok { t' with last := (t'.last.1, t'.last.2.1, t'.last.2.2 + 1), M := t'.M ++ [(x, (t'.last.1, t'.last.2.1, t'.last.2.2 + 1))] }) := by
                          have := CT.ok_after hok'.out s x
                          rw [hX.out] at this
                          exact this
                        have hO3 := (hO2.alloc (.cells #[.int .i64 t'.last.1, .int .i64 t'.last.2.1, .int .i64 t'.last.2.2] 44)).trans (Only.of_grown hg3)
                        exact ⟨k + 1, { t' with last := (t'.last.1, t'.last.2.1, t'.last.2.2 + 1), M := t'.M ++ [(x, (t'.last.1, t'.last.2.1, t'.last.2.2 + 1))] }, by omega, by go_num, hp2, hT3, hO3, hgg3, by simp; omega, hk3⟩
                      case measure => simp [intOf]; omega
            · obtain rfl : k = acc.length := by omega
              go_wp2_with (go_at_call 86; refine (full_calls _ b m t'.M t'.last t'.st hT).mono ?_; rintro e w3 ⟨rfl, rfl⟩)
              go_ret
              have ep : listPut ws 0 acc t = some t' := by
                rw [← hput.out, List.drop_of_length_le (by simp)]
                rfl
              have e0 : listP t ws = (t', fullE t'.M.length) := by simp [listP, hch'.out, ep, hev'.out]
              exact ⟨t', by rw [e0]; rfl, hT, hO, fun _ => by rw [e0]⟩

end Go.Proofs.YtibhifjehbajnaaDoor
