/- The methods level and add of a collation's table, walked. -/
import Derived.Test.YtibhifjehbajnaaDoorCollTab
namespace Go.Proofs.YtibhifjehbajnaaDoor
open Go.RowKit Go.Maps
set_option linter.unusedVariables false

theorem TabAt.setSt {W : World} {b m : Nat} {M : List (Int × W3)} {l : W3} {st : Int} (h : TabAt W b m M l st) (x : Int) : TabAt (W.setCell ⟨b, 4, none⟩ (.int .i64 x)) b m M l x := by
  obtain ⟨D, hm, hD⟩ := h.map
  have hne := h.mapLt.2.2
  refine ⟨?_, D, hm.setCell (Ne.symm hne) _, hD⟩
  simp [World.setCell, Array.getElem?_modify, h.blk]

set_option maxRecDepth 100000 in
theorem level_other (W : World) (b A o cp n : Nat) (hn : n ≠ 2) (hm : n ≤ 1048577) :
    Calls Tryd.prog 59 #[.pointer (some ⟨b, 0, none⟩), .slice (some ⟨A, o, none⟩) n cp] W fun e w' => e = .returned (.int .i64 5) ∧ W = w' := by
  have hx : ((n : Int) != 2) = true := by simp; omega
  go_enter Tryd.func59, Tryd.ntmps59
  go_wp2_with fail
  go_ret
  exact ⟨rfl, rfl⟩

/-- What a line leaves: the error, the table (whatever it is, where there is an error), all else as it was. -/
def TabPost (W : World) (b m : Nat) (R : CT × Int) (e : Ending) (w' : World) : Prop :=
  ∃ t' : CT, e = .returned (.int .i64 R.2) ∧ TabAt w' b m t'.M t'.last t'.st ∧ Only W w' b m ∧ (R.2 = 0 → t' = R.1)
theorem bytes_eq {d : ByteArray} {l : List UInt8} (h : d.toList = l) : d = ⟨l.toArray⟩ := by
  rw [← h, Lib.toList_data]

set_option maxRecDepth 100000 in
set_option maxHeartbeats 1000000 in
theorem level_two (W : World) (b m A o cp : Nat) (t : CT) (h : TabAt W b m t.M t.last t.st) (x d : ByteArray) (hA : StrsAt W A o [x, d]) :
    Calls Tryd.prog 59 #[.pointer (some ⟨b, 0, none⟩), .slice (some ⟨A, o, none⟩) 2 cp] W fun e w' => TabPost W b m (levelP t [x, d]) e w' := by
  have c4 := h.cell.2.2.2.2
  have f4 := h.frozen 4
  have hd : W.cell? ⟨A, o + 1, none⟩ = some (.string d) := hA.at_ 1 (by simp)
  have hi49 : ∀ h, ((⟨#[49]⟩ : ByteArray)[0]'h).toNat = 49 := fun _ => rfl
  have hi50 : ∀ h, ((⟨#[50]⟩ : ByteArray)[0]'h).toNat = 50 := fun _ => rfl
  have hi51 : ∀ h, ((⟨#[51]⟩ : ByteArray)[0]'h).toNat = 51 := fun _ => rfl
  have hS : ∀ n, Hid (TabAt (W.setCell ⟨b, 4, none⟩ (.int .i64 n)) b m t.M t.last n) := fun n => h.setSt n
  have hO : ∀ n, Hid (Only W (W.setCell ⟨b, 4, none⟩ (.int .i64 n)) b m) := fun n => (Only.refl W b m).setCell 4 _
  by_cases h1 : d.toList = [49]
  · obtain rfl := bytes_eq h1
    have hso : strengthOf ⟨[49].toArray⟩ = some 1 := by simp [strengthOf, Lib.toList_data]
    have hso' := Lib.hid hso
    clear hso h1
    by_cases hst : 0 < t.st
    · have hsn : ¬ t.st ≤ 0 := by omega
      have e4 : Hid ((levelP t [x, ⟨[49].toArray⟩]).2 = 4) := by show _ = _; simp [levelP, hso'.out, hst]
      go_enter Tryd.func59, Tryd.ntmps59
      go_wp2_with fail
      go_ret
      exact ⟨t, by rw [e4.out]; rfl, h, Only.refl _ _ _, fun hh => by rw [e4.out] at hh; cases hh⟩
    · have hsn : t.st ≤ 0 := by omega
      have e0 : Hid (levelP t [x, ⟨[49].toArray⟩] = ({ t with st := 1 }, 0)) := by show _ = _; simp [levelP, hso'.out, hst]
      go_enter Tryd.func59, Tryd.ntmps59
      go_wp2_with fail
      go_ret
      exact ⟨{ t with st := 1 }, by rw [e0.out]; rfl, (hS 1).out, (hO 1).out, fun _ => by rw [e0.out]⟩
  by_cases h2 : d.toList = [50]
  · obtain rfl := bytes_eq h2
    have hso : strengthOf ⟨[50].toArray⟩ = some 2 := by simp [strengthOf, Lib.toList_data]
    have hso' := Lib.hid hso
    clear hso h2
    by_cases hst : 0 < t.st
    · have hsn : ¬ t.st ≤ 0 := by omega
      have e4 : Hid ((levelP t [x, ⟨[50].toArray⟩]).2 = 4) := by show _ = _; simp [levelP, hso'.out, hst]
      go_enter Tryd.func59, Tryd.ntmps59
      go_wp2_with fail
      go_ret
      exact ⟨t, by rw [e4.out]; rfl, h, Only.refl _ _ _, fun hh => by rw [e4.out] at hh; cases hh⟩
    · have hsn : t.st ≤ 0 := by omega
      have e0 : Hid (levelP t [x, ⟨[50].toArray⟩] = ({ t with st := 2 }, 0)) := by show _ = _; simp [levelP, hso'.out, hst]
      go_enter Tryd.func59, Tryd.ntmps59
      go_wp2_with fail
      go_ret
      exact ⟨{ t with st := 2 }, by rw [e0.out]; rfl, (hS 2).out, (hO 2).out, fun _ => by rw [e0.out]⟩
  by_cases h3 : d.toList = [51]
  · obtain rfl := bytes_eq h3
    have hso : strengthOf ⟨[51].toArray⟩ = some 3 := by simp [strengthOf, Lib.toList_data]
    have hso' := Lib.hid hso
    clear hso h3
    by_cases hst : 0 < t.st
    · have hsn : ¬ t.st ≤ 0 := by omega
      have e4 : Hid ((levelP t [x, ⟨[51].toArray⟩]).2 = 4) := by show _ = _; simp [levelP, hso'.out, hst]
      go_enter Tryd.func59, Tryd.ntmps59
      go_wp2_with fail
      go_ret
      exact ⟨t, by rw [e4.out]; rfl, h, Only.refl _ _ _, fun hh => by rw [e4.out] at hh; cases hh⟩
    · have hsn : t.st ≤ 0 := by omega
      have e0 : Hid (levelP t [x, ⟨[51].toArray⟩] = ({ t with st := 3 }, 0)) := by show _ = _; simp [levelP, hso'.out, hst]
      go_enter Tryd.func59, Tryd.ntmps59
      go_wp2_with fail
      go_ret
      exact ⟨{ t with st := 3 }, by rw [e0.out]; rfl, (hS 3).out, (hO 3).out, fun _ => by rw [e0.out]⟩
  have e5 : Hid ((levelP t [x, d]).2 = 5) := by show _ = _; simp [levelP, strengthOf, h1, h2, h3]
  have g1 : (d.toList != [49]) = true := by simp [h1]
  have g2 : (d.toList != [50]) = true := by simp [h2]
  have g3 : (d.toList != [51]) = true := by simp [h3]
  have g4 : (d.toList == [49]) = false := by simp [h1]
  have g5 : (d.toList == [50]) = false := by simp [h2]
  have g6 : (d.toList == [51]) = false := by simp [h3]
  clear h1 h2 h3
  go_enter Tryd.func59, Tryd.ntmps59
  go_wp2_with fail
  go_ret
  exact ⟨t, by rw [e5.out]; rfl, h, Only.refl _ _ _, fun hh => by rw [e5.out] at hh; cases hh⟩

set_option maxRecDepth 100000 in
set_option maxHeartbeats 1000000 in
theorem add_calls (W : World) (b m A : Nat) (t : CT) (h : TabAt W b m t.M t.last t.st) (hok : t.ok) (ws : List ByteArray) (hA : StrsAt W A 0 ws) (hAb : A ≠ b) (hAm : A ≠ m) (hL : LaidW W) (hb8 : 8 ≤ b) (hm8 : 8 ≤ m)
    (hsz : ∀ x ∈ ws, x.size ≤ 1048576) (hpos : ∀ x ∈ ws, 0 < x.size) (hwn : ws.length ≤ 1048577) (hMn : t.M.length ≤ 4096) :
    Calls Tryd.prog 36 #[.pointer (some ⟨b, 0, none⟩), .slice (some ⟨A, 0, none⟩) ws.length ws.length] W fun e w' => TabPost W b m (addP t ws) e w' := by
  cases ws with
  | nil =>
    have e0 : Hid (addP t [] = (t, 0)) := by show _ = _; simp [addP]
    simp only [List.length_nil]
    go_enter Tryd.func36, Tryd.ntmps36
    go_wp2_with fail
    go_ret
    exact ⟨t, by rw [e0.out]; rfl, h, Only.refl _ _ _, fun _ => by rw [e0.out]⟩
  | cons x r =>
    have hx0 : W.cell? ⟨A, 0, none⟩ = some (.string x) := hA.at_ 0 (by simp)
    have hxs : 0 < x.size := hpos x (by simp)
    have hlen : ((r.length : Int) + 1 == 0) = false := by simp; omega
    have hhd : x.data.toList.head? = some (x[0]'hxs) := by
      rw [List.head?_eq_getElem?]
      simp [hxs]
      rfl
    have hix0 : (0 : Int) < (x.size : Int) := by omega
    have hb35 : Hid (((x[0]'hxs).toNat : Int) = 35 ↔ x.data.toList.head? = some 35) := by
      show _ ↔ _
      rw [hhd]
      constructor
      · intro hq
        have h5 : (x[0]'hxs).toNat = (35 : UInt8).toNat := by show _ = 35; omega
        rw [UInt8.toNat_inj.1 h5]
      · intro hq
        injection hq with hq
        rw [hq]; rfl
    clear hhd
    simp only [List.length_cons]
    by_cases h35 : ((x[0]'hxs).toNat : Int) = 35
    · have e0 : Hid (addP t (x :: r) = (t, 0)) := by show _ = _; simp [addP, hb35.out.1 h35]
      go_enter Tryd.func36, Tryd.ntmps36
      go_wp2_with fail
      go_ret
      exact ⟨t, by rw [e0.out]; rfl, h, Only.refl _ _ _, fun _ => by rw [e0.out]⟩
    · have n35 : ¬ x.data.toList.head? = some 35 := fun hq => h35 (hb35.out.2 hq)
      have n35' := Lib.hid n35
      have hq35 : (((x[0]'hxs).toNat : Int) == 35) = false := by simp; omega
      clear n35 h35
      by_cases hst : x.toList = [115, 116, 114, 101, 110, 103, 116, 104]
      · have hs1 : (x.toList == [115, 116, 114, 101, 110, 103, 116, 104]) = true := by simp [hst]
        have e0 : Hid (addP t (x :: r) = levelP t (x :: r)) := by show _ = _; simp [addP, n35'.out, hst]
        clear hst
        by_cases h2 : r.length = 1
        · obtain ⟨d, rfl⟩ : ∃ d, r = [d] := by
            match r, h2 with
            | [d], _ => exact ⟨d, rfl⟩
          simp only [List.length_cons, List.length_nil] at hlen ⊢
          clear h2
          go_enter Tryd.func36, Tryd.ntmps36
          go_wp2_with (go_at_call 59; refine (level_two _ b m A 0 2 t h x d hA).mono ?_; rintro e w3 ⟨t', rfl, hT, hO, hz⟩)
          go_ret
          exact ⟨t', by rw [e0.out]; rfl, hT, hO, by rw [e0.out]; exact hz⟩
        · have e1 : Hid (levelP t (x :: r) = (t, 5)) := by
            show _ = _
            match r, h2 with
            | [], _ => rfl
            | _ :: _ :: _, _ => rfl
          have hn2 : r.length + 1 ≠ 2 := by omega
          have hn3 : r.length + 1 ≤ 1048577 := by simpa using hwn
          have hn2' := Lib.hid hn2
          clear hn2 h2
          go_enter Tryd.func36, Tryd.ntmps36
          go_wp2_with (go_at_call 59; refine (level_other _ b A 0 _ _ hn2'.out hn3).mono ?_; rintro e w3 ⟨rfl, rfl⟩)
          go_ret
          exact ⟨t, by rw [e0.out, e1.out]; rfl, h, Only.refl _ _ _, fun _ => by rw [e0.out, e1.out]⟩
      · have hs1 : (x.toList == [115, 116, 114, 101, 110, 103, 116, 104]) = false := by simp [hst]
        by_cases hig : x.toList = [105, 103, 110, 111, 114, 101]
        · have hs2 : (x.toList == [105, 103, 110, 111, 114, 101]) = true := by simp [hig]
          have e0 : Hid (addP t (x :: r) = ignoreP t r) := by show _ = _; simp [addP, n35'.out, hig]
          clear hig hst
          have hsr : ∀ y ∈ r, y.size ≤ 1048576 := fun y hy => hsz y (List.mem_cons_of_mem _ hy)
          have hwr : r.length ≤ 1048577 := by simp at hwn; omega
          cases r with
          | nil =>
            have hA0 : StrsAt W A 0 [] := ⟨hA.lt, fun j hj => by simp at hj⟩
            have hx1 : ((0 : Int) + 1) = 1 := rfl
            simp only [List.length_nil] at hlen ⊢
            go_enter Tryd.func36, Tryd.ntmps36
            go_wp2_with (go_at_call 60; refine (ignore_calls _ b m A 0 0 t h [] hA0 (Nat.le_refl _) hAb hAm hL hb8 hm8 hsr hwr hMn).mono ?_; rintro e w3 ⟨t', rfl, hT, hO, hz⟩)
            go_ret
            exact ⟨t', by rw [e0.out]; rfl, hT, hO, by rw [e0.out]; exact hz⟩
          | cons y r =>
            have hA1 : StrsAt W A 1 (y :: r) := ⟨hA.lt, fun j hj => by
              have := hA.at_ (j + 1) (by simp at hj ⊢; omega)
              rw [show 1 + j = 0 + (j + 1) by omega, this]
              rfl⟩
            have hcap : ¬ (1 : Int) = (r.length : Int) + 1 + 1 := by omega
            go_enter Tryd.func36, Tryd.ntmps36
            go_wp2_with (go_at_call 60; refine (ignore_calls _ b m A 1 (r.length + 1) t h (y :: r) hA1 (Nat.le_refl _) hAb hAm hL hb8 hm8 hsr hwr hMn).mono ?_; rintro e w3 ⟨t', rfl, hT, hO, hz⟩)
            go_ret
            exact ⟨t', by rw [e0.out]; rfl, hT, hO, by rw [e0.out]; exact hz⟩
        · have hs2 : (x.toList == [105, 103, 110, 111, 114, 101]) = false := by simp [hig]
          have e0 : Hid (addP t (x :: r) = listP t (x :: r)) := by show _ = _; unfold addP; simp only [if_neg n35'.out, if_neg hst, if_neg hig]
          clear hig hst
          go_enter Tryd.func36, Tryd.ntmps36
          go_wp2_with (go_at_call 61; refine (list_calls _ b m A 0 (x :: r).length t h hok (x :: r) hA (Nat.le_refl _) hAb hAm hL hb8 hm8 hsz hwn hMn).mono ?_; rintro e w3 ⟨t', rfl, hT, hO, hz⟩)
          go_ret
          exact ⟨t', by rw [e0.out]; rfl, hT, hO, by rw [e0.out]; exact hz⟩
end Go.Proofs.YtibhifjehbajnaaDoor
