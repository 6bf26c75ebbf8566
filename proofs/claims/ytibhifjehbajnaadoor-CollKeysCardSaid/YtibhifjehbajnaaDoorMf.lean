/- The reference's table in memory, and Find. The reference's after: the weights behind a sign. The reference's add: a line of a description. The reference adds one character at a time: what that comes to is what the plain functions say. Small functions of the reference: IsText, three. The reference's Weights. What one step of the reference's add does to its table in memory: an append, a store of the last weights. Plain laws beside the reference: the lines of a text are texts; weights of a table are none or all positive, and small. -/
import Derived.Test.YtibhifjehbajnaaDoorMe
import Derived.Test.YtibhifjehbajnaaDoorMb
import Derived.Laws.ResultCell
import Derived.Deep.RegionLawGrows
import Derived.Test.YtibhifjehbajnaaDoorMc

namespace Go.Proofs.YtibhifjehbajnaaDoor
open Go.RowKit Go.Maps
set_option linter.unusedVariables false

def rcell (p : Int × W3) : List Value := [.int .i64 p.1, .int .i64 p.2.1, .int .i64 p.2.2.1, .int .i64 p.2.2.2]
def rcells (M : List (Int × W3)) : List Value := (M.map rcell).flatten
theorem rcells_len : ∀ M : List (Int × W3), (rcells M).length = M.length * 4
  | [] => rfl
  | p :: M => by
    have := rcells_len M
    simp only [rcells, List.map_cons, List.flatten_cons, List.length_append, List.length_cons] at this ⊢
    rw [this]
    simp [rcell]; omega
theorem rcells_at : ∀ (M : List (Int × W3)) (k j : Nat) (h : k < M.length), j < 4 → (rcells M)[k * 4 + j]? = (rcell (M[k]'h))[j]?
  | p :: M, 0, j, h, hj => by
    simp only [rcells, List.map_cons, List.flatten_cons, Nat.zero_mul, Nat.zero_add, List.getElem_cons_zero]
    rw [List.getElem?_append_left (by simp [rcell]; omega)]
  | p :: M, k + 1, j, h, hj => by
    have ih := rcells_at M k j (by simpa using h) hj
    simp only [rcells, List.map_cons, List.flatten_cons, List.getElem_cons_succ] at ih ⊢
    rw [List.getElem?_append_right (by simp [rcell]; omega), ← ih]
    congr 1
    simp [rcell]; omega
theorem rcells_app (M : List (Int × W3)) (p : Int × W3) : rcells (M ++ [p]) = rcells M ++ rcell p := by simp [rcells]
/-- A table of the reference in block b; what it owns lies from B on. -/
structure RTab (w : World) (B b : Nat) (M : List (Int × W3)) (last : W3) (st : Int) : Prop where
  ge : B ≤ b
  blk : ∃ v, w.heap[b]? = some (.cells #[v, .int .i64 last.1, .int .i64 last.2.1, .int .i64 last.2.2, .int .i64 st] 31 (0, 0)) ∧ w.ownsRow B 97 4 v M.length (rcells M) ∧ v.ownBlock ≠ some b
def findR : List (Int × W3) → Int → Nat → Int
  | [], _, _ => -1
  | p :: M, c, i => if p.1 = c then (i : Int) else findR M c (i + 1)
theorem findR_in : ∀ (M : List (Int × W3)) (c : Int) (i : Nat), (0 ≤ findR M c i) ↔ inM M c = true
  | [], c, i => by simp [findR, inM]
  | p :: M, c, i => by
    have ih := findR_in M c (i + 1)
    rw [findR]
    by_cases h : p.1 = c
    · rw [if_pos h]
      simp [inM, h]
    · rw [if_neg h, ih]
      simp [inM, h]
theorem findR_drop (M : List (Int × W3)) (c : Int) (k : Nat) (h : k < M.length) : findR (M.drop k) c k = if (M[k]).1 = c then (k : Int) else findR (M.drop (k + 1)) c (k + 1) := by
  rw [List.drop_eq_getElem_cons h, findR]

set_option maxHeartbeats 1000000 in
set_option maxRecDepth 100000 in
theorem Find_calls (W : World) (B b : Nat) (M : List (Int × W3)) (last : W3) (st c : Int) (h : RTab W B b M last st) (hn : M.length ≤ 100000) :
    Calls Tryd.prog 66 #[.pointer (some ⟨b, 0, none⟩), .int .i64 c] W fun e w' => e = .returned (.int .i64 (findR M c 0)) ∧ W = w' := by
  obtain ⟨v, hb, ho, hne⟩ := h.blk
  obtain ⟨L, cap, hv⟩ : ∃ L cap, v = .slice L M.length cap := by
    rcases ho.2 with ⟨hv, h0⟩ | ⟨g, cap, cur', hv, _⟩
    · exact ⟨none, 0, by rw [hv, h0]⟩
    · exact ⟨_, cap, hv⟩
  subst hv
  have c0 : W.cell? ⟨b, 0, none⟩ = some (.slice L M.length cap) := by rw [Lib.cell_of_heap hb]; rfl
  have hat : Hid (∀ k (hk : k < M.length), ∃ g, L = some ⟨g, 0, none⟩ ∧ W.cell? ⟨g, k * 4, none⟩ = some (.int .i64 (M[k]'hk).1)) := by
    intro k hk
    rcases ho.2 with ⟨hv, h0⟩ | ⟨g, cap', cur', hv, _⟩
    · omega
    · cases hv
      refine ⟨g, rfl, ?_⟩
      rw [ho.cellAt (k * 4) (by omega)]
      have := rcells_at M k 0 hk (by omega)
      rw [Nat.add_zero] at this
      rw [this]; rfl
  clear hb ho hne
  go_enter Tryd.func66, Tryd.ntmps66
  go_wp2_with fail
  go_loop [5] (fun i => ∃ k : Nat, i = .int .i64 k ∧ k ≤ M.length ∧ Hid (findR M c 0 = findR (M.drop k) c k)) (fun i => M.length - (intOf i).toNat)
  case atStart => exact ⟨0, rfl, Nat.zero_le _, rfl⟩
  case round =>
    obtain ⟨k, rfl, hk, hh⟩ := hrel
    by_cases hlt : k < M.length
    · obtain ⟨g, rfl, hc⟩ := hat.out k hlt
      have hd := findR_drop M c k hlt
      obtain ⟨q, hq⟩ : ∃ q, q = (M[k]'hlt).1 := ⟨_, rfl⟩
      rw [← hq] at hc hd
      clear hq
      by_cases he : q = c
      · have heq : (q == c) = true := beq_iff_eq.2 he
        rw [if_pos he] at hd
        have hh := Lib.hid (hh.out.trans hd)
        clear hd
        go_wp2
        go_ret
        exact ⟨by rw [hh.out]; rfl, rfl⟩
      · have heq : (q == c) = false := beq_eq_false_iff_ne.2 he
        rw [if_neg he] at hd
        have hh := Lib.hid (hh.out.trans hd)
        clear hd
        go_wp2
        go_round
        case rel => exact ⟨k + 1, by go_num, by omega, hh⟩
        case measure => simp [intOf]; omega
    · obtain rfl : k = M.length := by omega
      have hh := Lib.hid (hh.out.trans (show findR (M.drop M.length) c M.length = -1 by rw [List.drop_of_length_le (Nat.le_refl _)]; rfl))
      go_wp2
      go_ret
      exact ⟨by rw [hh.out]; rfl, rfl⟩
end Go.Proofs.YtibhifjehbajnaaDoor

namespace Go.Proofs.YtibhifjehbajnaaDoor
open Go.RowKit Go.Maps
set_option linter.unusedVariables false

/-- One result, in a cell. -/
theorem res_one {fn : Func} {p : Tmp} {ty : TypeId} (h : fn.results = #[.cell p ty]) (tmps : Array Value) (P : Program) (w : World) :
    (results fn tmps).run P w = ((asAddr (tmps.getD p undef)).run P w).andThen fun a w₁ => (loadVar ty a).run P w₁ := by
  simp only [results, h]
  simp [Sem.run_bind, Result.andThen]
/-- Three results, the first in a cell. -/
theorem res_three {fn : Func} {p u t : Tmp} {ty : TypeId} (h : fn.results = #[.cell p ty, .tmp u, .tmp t]) (tmps : Array Value) (P : Program) (w : World) :
    (results fn tmps).run P w = ((asAddr (tmps.getD p undef)).run P w).andThen fun a w₁ => ((loadVar ty a).run P w₁).andThen fun v w₂ => .ok (.tuple #[v, tmps.getD u undef, tmps.getD t undef]) w₂ := by
  simp only [results, h]
  simp [Sem.run_bind, Result.andThen]
def afterR (w : W3) (s : ByteArray) : W3 := if s.toList = [44] then (w.1, w.2.1 + 1, 1) else if s.toList = [59] then (w.1, w.2.1, w.2.2 + 1) else (w.1 + 1, 1, 1)
set_option maxHeartbeats 1000000 in
set_option maxRecDepth 100000 in
theorem after_calls (W : World) (x : W3) (s : ByteArray) (h0 : 0 ≤ x.1 ∧ x.1 ≤ 1000000) (h1 : 0 ≤ x.2.1 ∧ x.2.1 ≤ 1000000) (h2 : 0 ≤ x.2.2 ∧ x.2.2 ≤ 1000000) :
    Calls Tryd.prog 67 #[wv x, .string s] W fun e w' => e = .returned (wv (afterR x s)) ∧ Below W.heap.size W w' := by
  obtain ⟨a, b, c⟩ := x
  simp only at h0 h1 h2
  unfold afterR wv
  by_cases e1 : s.toList = [44]
  · have d1 : (s.toList == [44]) = true := beq_iff_eq.2 e1
    rw [if_pos e1]
    clear e1
    go_enter Tryd.func67, Tryd.ntmps67
    go_wp2
    refine bodyPost_ret (v := .agg #[.int .i64 a, .int .i64 (b + 1), .int .i64 1]) ?ret rfl ?post
    case ret => rw [res_one rfl]; go_simp
    case post => exact ⟨rfl, ((Below.refl _ _).alloc (Nat.le_refl _) _).alloc (by have := alloc_lt W (.cells #[.int .i64 a, .int .i64 b, .int .i64 c] 29); omega) _⟩
  · have d1 : (s.toList == [44]) = false := beq_eq_false_iff_ne.2 e1
    rw [if_neg e1]
    clear e1
    by_cases e2 : s.toList = [59]
    · have d2 : (s.toList == [59]) = true := beq_iff_eq.2 e2
      rw [if_pos e2]
      clear e2
      go_enter Tryd.func67, Tryd.ntmps67
      go_wp2
      refine bodyPost_ret (v := .agg #[.int .i64 a, .int .i64 b, .int .i64 (c + 1)]) ?ret rfl ?post
      case ret => rw [res_one rfl]; go_simp
      case post => exact ⟨rfl, ((Below.refl _ _).alloc (Nat.le_refl _) _).alloc (by have := alloc_lt W (.cells #[.int .i64 a, .int .i64 b, .int .i64 c] 29); omega) _⟩
    · have d2 : (s.toList == [59]) = false := beq_eq_false_iff_ne.2 e2
      rw [if_neg e2]
      clear e2
      go_enter Tryd.func67, Tryd.ntmps67
      go_wp2
      refine bodyPost_ret (v := .agg #[.int .i64 (a + 1), .int .i64 1, .int .i64 1]) ?ret rfl ?post
      case ret => rw [res_one rfl]; go_simp
      case post => exact ⟨rfl, ((Below.refl _ _).alloc (Nat.le_refl _) _).alloc (by have := alloc_lt W (.cells #[.int .i64 a, .int .i64 b, .int .i64 c] 29); omega) _⟩
end Go.Proofs.YtibhifjehbajnaaDoor

namespace Go.Proofs.YtibhifjehbajnaaDoor
open Go.RowKit Go.Maps
set_option linter.unusedVariables false

/-- append to a row of one's own, as one step of a region that draws its order. -/
theorem step_append_own {P : Program} {ops : Array Oper} {o : Oper} {a : Act} {w : World} {K : Act → World → Prop} {Q : Exit → Act → World → Prop} {E : Prop}
    (hg : o.guard = none) (s x : Operand) (t : TypeId) (hop : o.op = Op.call { callee := Callee.builtin Builtin.append, args := #[s, x], argTypes := #[t, t] })
    (base : Nat) (e : TypeId) (i : TypeInfo) (z : Value) (size bytes : Nat) (h1 : P.underlying t = some (.slice e)) (h2 : P.info? e = some i) (h3 : i.zero = some z) (h4 : i.size = size) (h5 : i.bytes = bytes) (h6 : z.cells.size = size) (h7 : 0 < size)
    (v : Value) (n : Nat) (xs : List Value) (hs : a.eval s = v) (hown : w.ownsRow base e size v n xs)
    (ad : Addr) (m c : Nat) (news : List Value) (hx : a.eval x = .slice (some ad) m c) (hn : news.length = m * size) (hc : ∀ j u, news[j]? = some u → w.cell? (ad.add j) = some u) (h1c : ∀ u ∈ news, u.oneCell' = true)
    (b1 : n + m ≤ maxLen) (b2 : (n + m) * bytes ≤ 140737488355328) (hbase : base ≤ w.heap.size)
    (hK : ∀ v' w', w'.ownsRow base e size v' (n + m) (xs ++ news) → w.grownBy w' v.ownBlock → K (a.put o.dst v') w') :
    if Region.wanted o (yielded ops a.tmps) = true then Oper.wp P o a w K Q else E := by
  have hw : Region.wanted o (yielded ops a.tmps) = true := by simp [Region.wanted, hg]
  rw [if_pos hw]
  obtain ⟨v', w', hrun, r1, r2, _⟩ := run_append_own (P := P) w base t o.type e i z size bytes h1 h2 h3 h4 h5 h6 h7 v n xs hown ad m c news hn hc h1c b1 b2 hbase
  unfold Oper.wp
  simp [execOp, hop, resolve, invoke, builtin, hs, hx, hrun, Result.andThen]
  exact hK v' w' r1 r2

open Go.Proofs.YtibhifjehbajnaaDoor.Pform Go.Proofs.YtibhifjehbajnaaDoorW.PrintWords in
theorem own_ints {w : World} {base : Nat} {ok : Nat → Prop} {v : Value} {xs : List Int} (h : (Kd.int .i64).R 3 w base ok v xs) : w.ownsRow base 3 1 v xs.length (xs.map (Value.int .i64)) := by
  have := Kd.own_of_R h
  simpa [encs] using this
open Go.Proofs.YtibhifjehbajnaaDoor.Pform Go.Proofs.YtibhifjehbajnaaDoorW.PrintWords in
theorem C_strs {w : World} {A o : Nat} {ws : List ByteArray} (h : StrsAt w A o ws) (hn : ws.length ≤ 100000) : Kd.string.C w (some ⟨A, o, none⟩) ws.length ws := by
  refine ⟨rfl, by omega, fun _ => ⟨⟨A, o, none⟩, rfl, fun j p hp => ⟨[.string p], rfl, rfl, fun i u hu => ?_⟩⟩⟩
  obtain ⟨hj, hp⟩ := List.getElem?_eq_some_iff.1 hp
  cases i with
  | succ i => simp at hu
  | zero =>
    simp at hu
    subst hu
    have := h.at_ j hj
    rw [hp] at this
    have e : (Addr.add ⟨A, o, none⟩ (j * 1 + 0)) = ⟨A, o + j, none⟩ := by unfold Addr.add; split <;> simp_all
    show w.cell? (Addr.add ⟨A, o, none⟩ (j * 1 + 0)) = _
    rw [e]
    exact this
/-- form, as a contract. -/
theorem rform_calls (W : World) (A o cp : Nat) (w : ByteArray) (r : List ByteArray) (hA : StrsAt W A o (w :: r)) (hn : (w :: r).length ≤ cp) (hl : (w :: r).length ≤ 100000) (hs : ∀ x ∈ w :: r, x.size ≤ 100000) :
    Calls Tryd.prog 65 #[.slice (some ⟨A, o, none⟩) (w :: r).length cp] W fun e w' => ∃ v, e = .returned (.tuple #[v, .bool (formP w r).2]) ∧ w'.ownsRow W.heap.size 3 1 v (formP w r).1.length ((formP w r).1.map (Value.int .i64)) ∧ Below W.heap.size W w' := by
  refine (Pform.chiselref03_form.calls 300000 (some ⟨A, o, none⟩) cp (w :: r) (formP w r).1 (formP w r).2 W (C_strs hA hl) hn (form_pos w r hl hs)).mono ?_
  rintro e w' ⟨v, rfl, ho, hb⟩
  exact ⟨v, rfl, own_ints ho, hb⟩
/-- Points, as a contract. -/
theorem rpoints_calls (s : ByteArray) (W : World) (hs : s.size ≤ 100000) :
    Calls Tryd.prog 43 #[.string s] W fun e w' => ∃ v, e = .returned (.tuple #[v, .int .i64 (if isText s then 0 else 10)]) ∧ (isText s = true → w'.ownsRow W.heap.size 3 1 v (runesOf s).length ((runesOf s).map (Value.int .i64))) ∧ Below W.heap.size W w' := by
  have h := points_pos s hs 100012 (by omega)
  cases ht : isText s with
  | true =>
    rw [ht, if_pos rfl] at h
    refine (Pform.chiselref01_Points.calls 100012 s _ _ W h).mono ?_
    rintro e w' ⟨v, rfl, ho, hb⟩
    exact ⟨v, rfl, fun _ => own_ints ho, hb⟩
  | false =>
    rw [ht, if_neg (by decide)] at h
    refine (Pform.chiselref01_Points.calls 100012 s _ _ W h).mono ?_
    rintro e w' ⟨v, rfl, ho, hb⟩
    exact ⟨v, rfl, (fun h => Bool.noConfusion h), hb⟩
end Go.Proofs.YtibhifjehbajnaaDoor

namespace Go.Proofs.YtibhifjehbajnaaDoor
open Go.RowKit Go.Maps
set_option linter.unusedVariables false

def stepR (ig : Bool) (ws : List ByteArray) (i : Nat) (c : Int) (t : CT) : CT :=
  if ig then { t with M := t.M ++ [(c, (0, 0, 0))] } else { t with last := afterR t.last (signAt ws i), M := t.M ++ [(c, afterR t.last (signAt ws i))] }
def runR (ig : Bool) (ws : List ByteArray) : Nat → List Int → CT → Option CT
  | _, [], t => some t
  | i, c :: cs, t => if inM t.M c then none else runR ig ws (i + 1) cs (stepR ig ws i c t)
theorem run_ig (ws : List ByteArray) : ∀ (cs : List Int) (i : Nat) (t : CT), runR true ws i cs t = (putAll t.M (cs.map fun c => (c, (0, 0, 0)))).map fun M => { t with M := M }
  | [], i, t => rfl
  | c :: cs, i, t => by
    rw [runR, List.map_cons, putAll]
    split
    · rfl
    · rw [run_ig ws cs (i + 1)]
      rfl
theorem afterR_eq (w : W3) (s : ByteArray) (h : signB s = true) : afterR w s = afterW w s := by
  unfold signB at h
  unfold afterR afterW
  by_cases h1 : s.toList = [44]
  · simp [h1]
  · by_cases h2 : s.toList = [59]
    · simp [h2]
    · simp [h1, h2] at h
      simp [h]
theorem run_li (ws : List ByteArray) : ∀ (cs : List Int) (i : Nat) (t : CT), (∀ j, j < cs.length → signB (signAt ws (i + j)) = true) → runR false ws i cs t = listPut ws i cs t
  | [], i, t, _ => rfl
  | c :: cs, i, t, h => by
    rw [runR, listPut]
    split
    · rfl
    · have h0 := h 0 (by simp)
      rw [Nat.add_zero] at h0
      rw [run_li ws cs (i + 1) _ (fun j hj => by have := h (j + 1) (by simpa using hj); rw [show i + 1 + j = i + (j + 1) by omega]; exact this)]
      unfold stepR
      rw [afterR_eq _ _ h0]
      rfl
theorem signs_true : ∀ (l : List ByteArray) (cs : List Int), formL true l = some cs → ∀ j, j < cs.length → signB (l.getD (2 * j) ByteArray.empty) = true ∧ 2 * j < l.length
  | [], cs, h, j, hj => by simp [formL] at h; subst h; simp at hj
  | [s], cs, h, j, hj => by
    simp only [formL] at h
    split at h
    · cases h; simp at hj
    · cases h
  | s :: w :: l, cs, h, j, hj => by
    simp only [formL] at h
    split at h
    · rename_i hs
      cases hc : charOf w with
      | none => rw [hc] at h; cases h
      | some c =>
        rw [hc] at h
        cases hl : formL true l with
        | none => rw [hl] at h; cases h
        | some cs' =>
          rw [hl] at h
          simp at h
          subst h
          cases j with
          | zero => exact ⟨by simpa using hs, by simp⟩
          | succ j =>
            have := signs_true l cs' hl j (by simpa using hj)
            refine ⟨?_, by simp only [List.length_cons]; omega⟩
            rw [show 2 * (j + 1) = 2 * j + 1 + 1 by omega]
            simpa using this.1
    · cases h
theorem form_signs {ws : List ByteArray} {cs : List Int} (h : formL false ws = some cs) (j : Nat) (hj : j < cs.length) : signB (signAt ws j) = true ∧ (0 < j → 2 * j - 1 < ws.length) := by
  cases j with
  | zero =>
    have h0 : signB ⟨#[60]⟩ = true := by decide +kernel
    exact ⟨h0, fun h => by omega⟩
  | succ j =>
    cases ws with
    | nil => simp [formL] at h; subst h; simp at hj
    | cons w l =>
      simp only [formL] at h
      cases hc : charOf w with
      | none => rw [hc] at h; cases h
      | some c =>
        rw [hc] at h
        cases hl : formL true l with
        | none => rw [hl] at h; cases h
        | some cs' =>
          rw [hl] at h
          simp at h
          subst h
          have := signs_true l cs' hl j (by simpa using hj)
          refine ⟨?_, fun _ => by simp only [List.length_cons]; omega⟩
          unfold signAt
          rw [if_neg (by omega), show 2 * (j + 1) - 1 = 2 * j + 1 by omega]
          simpa using this.1
def isIg (w : ByteArray) : Bool := w.toList == [105, 103, 110, 111, 114, 101]
def addR (t : CT) (w : ByteArray) (r : List ByteArray) : CT × Int :=
  if (formP w r).2 = false then (t, 5) else match runR (isIg w) (w :: r) 0 (formP w r).1 t with
    | none => (t, 4)
    | some t' => (t', fullE t'.M.length)
theorem addR_eq (t : CT) (w : ByteArray) (r : List ByteArray) (h1 : ¬ w.data.toList.head? = some 35) (h2 : w.toList ≠ [115, 116, 114, 101, 110, 103, 116, 104]) : addP t (w :: r) = addR t w r := by
  unfold addP addR formP isIg
  simp only
  rw [if_neg h1, if_neg h2]
  by_cases h3 : w.toList = [105, 103, 110, 111, 114, 101]
  · rw [if_pos h3, if_pos h3, h3]
    unfold ignoreP
    cases hc : charsOf r with
    | none => simp
    | some cs =>
      cases cs with
      | nil => simp
      | cons c cs =>
        simp only [List.length_cons, Nat.zero_lt_succ, decide_true, Bool.true_eq_false, if_false, beq_self_eq_true]
        rw [run_ig]
        cases putAll t.M ((c :: cs).map fun c => (c, (0, 0, 0))) with
        | none => rfl
        | some M => rfl
  · rw [if_neg h3, if_neg h3]
    have h3' : (w.toList == [105, 103, 110, 111, 114, 101]) = false := beq_eq_false_iff_ne.2 h3
    rw [h3']
    unfold listP
    cases hc : formL false (w :: r) with
    | none => simp
    | some cs =>
      simp only
      have hl := formL_len hc
      simp only [Bool.false_eq_true, if_false] at hl
      have hpos : 0 < cs.length := by rw [hl, List.length_cons]; omega
      rw [decide_eq_true hpos, Bool.true_and]
      by_cases h4 : (w :: r).length % 2 = 0
      · rw [if_pos h4, decide_eq_false (by omega), if_pos rfl]
      · rw [if_neg h4, decide_eq_true (by omega), if_neg (by decide)]
        rw [run_li _ _ _ _ (fun j hj => by rw [Nat.zero_add]; exact (form_signs hc j hj).1)]
        cases listPut (w :: r) 0 cs t with
        | none => rfl
        | some t' => rfl
end Go.Proofs.YtibhifjehbajnaaDoor

namespace Go.Proofs.YtibhifjehbajnaaDoor
open Go.RowKit Go.Maps
set_option linter.unusedVariables false

set_option maxHeartbeats 1000000 in
set_option maxRecDepth 100000 in
theorem risText_calls (s : ByteArray) (W : World) (hs : s.size ≤ 100000) :
    Calls Tryd.prog 38 #[.string s] W fun e w' => e = .returned (.bool (isText s)) ∧ Below W.heap.size W w' := by
  have hp := rpoints_calls s W hs
  cases ht : isText s with
  | true =>
    rw [ht, if_pos rfl] at hp
    clear ht
    go_enter Tryd.func38, Tryd.ntmps38
    go_wp2_with fail
    refine hp.mono ?_
    rintro e w1 ⟨v, rfl, -, hb⟩
    go_wp2_with fail
    go_ret
    exact ⟨rfl, hb⟩
  | false =>
    rw [ht, if_neg (by decide)] at hp
    clear ht
    go_enter Tryd.func38, Tryd.ntmps38
    go_wp2_with fail
    refine hp.mono ?_
    rintro e w1 ⟨v, rfl, -, hb⟩
    go_wp2_with fail
    go_ret
    exact ⟨rfl, hb⟩
def threeR (n : Int) : List Int := [n / 65536, n / 256 % 256, n % 256]
set_option maxHeartbeats 1000000 in
set_option maxRecDepth 100000 in
theorem three_calls (n : Int) (W : World) (h0 : 0 ≤ n) (h1 : n < 16777216) :
    Calls Tryd.prog 44 #[.int .i64 n] W fun e w' => e = .returned (.slice (some ⟨W.heap.size, 0, none⟩) 3 3) ∧ w' = W.alloc (.cells ((threeR n).map (Value.int .u8)).toArray 5) := by
  have q0 : n.tdiv 65536 = n / 65536 := Int.tdiv_eq_ediv_of_nonneg h0
  have q1 : n.tdiv 256 = n / 256 := Int.tdiv_eq_ediv_of_nonneg h0
  have q2 : (n / 256).tmod 256 = n / 256 % 256 := Int.tmod_eq_emod_of_nonneg (by omega)
  have q3 : n.tmod 256 = n % 256 := Int.tmod_eq_emod_of_nonneg h0
  have q4 : (n / 65536) % 256 = n / 65536 := by omega
  go_enter Tryd.func44, Tryd.ntmps44
  go_wp2
  go_ret
  exact ⟨rfl, rfl⟩

theorem threeR_eq (n : Int) (h0 : 0 ≤ n) (h1 : n < 16777216) : threeR n = three n := by
  unfold threeR three
  rw [show n / 65536 % 256 = n / 65536 by omega]
theorem findR_get (M : List (Int × W3)) (c : Int) (z : W3) : ∀ i : Nat, (findR M c i < 0 ∧ getW M c z = z) ∨ ∃ j, ∃ h : j < M.length, findR M c i = ((i + j : Nat) : Int) ∧ getW M c z = (M[j]'h).2 := by
  induction M with
  | nil => intro i; exact .inl ⟨by simp [findR], rfl⟩
  | cons p M ih =>
    intro i
    rw [findR]
    by_cases h : p.1 = c
    · rw [if_pos h]
      refine .inr ⟨0, by simp, by simp, ?_⟩
      simp [getW, h]
    · rw [if_neg h]
      have hg : getW (p :: M) c z = getW M c z := by
        unfold getW
        rw [List.find?_cons]
        have : (p.1 == c) = false := beq_eq_false_iff_ne.2 h
        rw [this]
      rcases ih (i + 1) with ⟨h1, h2⟩ | ⟨j, hj, h1, h2⟩
      · exact .inl ⟨h1, by rw [hg]; exact h2⟩
      · refine .inr ⟨j + 1, by simpa using hj, by rw [h1]; congr 1; omega, by rw [hg, h2]; simp⟩
end Go.Proofs.YtibhifjehbajnaaDoor

namespace Go.Proofs.YtibhifjehbajnaaDoor
open Go.RowKit Go.Maps
set_option linter.unusedVariables false

theorem RTab.below {w w' : World} {B b : Nat} {M : List (Int × W3)} {last : W3} {st : Int} (h : RTab w B b M last st) (hb : Below w.heap.size w w') : RTab w' B b M last st := by
  obtain ⟨v, h1, h2, h3⟩ := h.blk
  refine ⟨h.ge, v, ?_, ownsRow_below h2 hb, h3⟩
  rw [hb.block b (Array.getElem?_eq_some_iff.1 h1).1]
  exact h1
theorem put3 {w : World} {q : Nat} {T : TypeId} {x y z : Value} (h : w.heap[q]? = some (.cells #[x, y, z] T (0, 0))) (a b c : Value) {B : Nat} (hB : B ≤ q) :
    ∃ W5, W5 = ((w.setCell ⟨q, 0, none⟩ a).setCell ⟨q, 1, none⟩ b).setCell ⟨q, 2, none⟩ c ∧ W5.heap[q]? = some (.cells #[a, b, c] T (0, 0)) ∧ Below B w W5 := by
  refine ⟨_, rfl, ?_, ?_⟩
  · have h1 := Lib.heap_setCell_same (i := 0) h a
    have h2 := Lib.heap_setCell_same (i := 1) h1 b
    have h3 := Lib.heap_setCell_same (i := 2) h2 c
    exact h3
  · exact (((Below.refl B w).setCell (p := ⟨q, 0, none⟩) hB a).setCell (p := ⟨q, 1, none⟩) hB b).setCell (p := ⟨q, 2, none⟩) hB c
set_option maxHeartbeats 1000000 in
set_option maxRecDepth 100000 in
theorem Weights_calls (W : World) (B b : Nat) (M : List (Int × W3)) (last : W3) (st c : Int) (h : RTab W B b M last st) (hn : M.length ≤ 100000) (hc : 0 ≤ c ∧ c ≤ 1114111) (hl : 0 ≤ last.1 ∧ last.1 ≤ 1000000) :
    Calls Tryd.prog 45 #[.pointer (some ⟨b, 0, none⟩), .int .i64 c] W fun e w' => e = .returned (wv (weightOf ⟨M, last, st⟩ c)) ∧ Below W.heap.size W w' := by
  obtain ⟨W1, hW1⟩ : ∃ W1, W1 = W.alloc (.cells #[.int .i64 0, .int .i64 0, .int .i64 0] 29) := ⟨_, rfl⟩
  have hb1 : Below W.heap.size W W1 := by rw [hW1]; exact (Below.refl _ _).alloc (Nat.le_refl _) _
  have h1 : RTab W1 B b M last st := h.below hb1
  have hfind := Find_calls W1 B b M last st c h1 hn
  have hin := findR_in M c 0
  have hget := findR_get M c (0, 0, 0) 0
  obtain ⟨v, hblk, hown, hne⟩ := h1.blk
  have hbl : b < W.heap.size := by
    obtain ⟨_, h2, _⟩ := h.blk
    exact (Array.getElem?_eq_some_iff.1 h2).1
  have hnb : W.heap.size ≠ b := by omega
  have hnb2 : b ≠ W.heap.size := by omega
  have k0 : W1.cell? ⟨b, 0, none⟩ = some v := by rw [Lib.cell_of_heap hblk]; rfl
  have k1 : W1.cell? ⟨b, 1, none⟩ = some (.int .i64 last.1) := by rw [Lib.cell_of_heap hblk]; rfl
  have r0 : W1.cell? ⟨W.heap.size, 0, none⟩ = some (.int .i64 0) := by rw [hW1, World.cell?_alloc_at _ _ _ _ rfl]; rfl
  have r1 : W1.cell? ⟨W.heap.size, 1, none⟩ = some (.int .i64 0) := by rw [hW1, World.cell?_alloc_at _ _ _ _ rfl]; rfl
  have r2 : W1.cell? ⟨W.heap.size, 2, none⟩ = some (.int .i64 0) := by rw [hW1, World.cell?_alloc_at _ _ _ _ rfl]; rfl
  have hres : W1.heap[W.heap.size]? = some (.cells #[.int .i64 0, .int .i64 0, .int .i64 0] 29 (0, 0)) := by rw [hW1]; exact (MapKept.heap_alloc _ _).1
  have f0 : W1.frozen? ⟨W.heap.size, 0, none⟩ = false := Lib.frozen_of_heap hres 0
  have f1 : W1.frozen? ⟨W.heap.size, 1, none⟩ = false := Lib.frozen_of_heap hres 1
  have f2 : W1.frozen? ⟨W.heap.size, 2, none⟩ = false := Lib.frozen_of_heap hres 2
  have hresh := Lib.hid hres
  clear hres
  obtain ⟨f, hf⟩ : ∃ f, f = findR M c 0 := ⟨_, rfl⟩
  rw [← hf] at hfind hin hget
  clear hf
  by_cases h0 : 0 ≤ f
  · have hge : f ≥ 0 := h0
    have hi : inM M c = true := hin.1 h0
    obtain ⟨j, hj, e1, e2⟩ := hget.resolve_left (fun q => by omega)
    obtain ⟨x, hx⟩ : ∃ x, x = (M[j]'hj).2 := ⟨_, rfl⟩
    have hw : weightOf ⟨M, last, st⟩ c = x := by
      unfold weightOf
      simp only [hi, if_true]
      rw [e2, hx]
    rw [hw]
    obtain ⟨g, cap, rfl⟩ : ∃ g cap, v = .slice (some ⟨g, 0, none⟩) M.length cap := by
      rcases hown.2 with ⟨_, h0⟩ | ⟨g, cap, cur', hv, _⟩
      · omega
      · exact ⟨g, cap, hv⟩
    have at1 : ∀ i, i < 4 → W1.cell? ⟨g, j * 4 + i, none⟩ = (rcell (M[j]'hj))[i]? := fun i hi => by
      rw [hown.cellAt (j * 4 + i) (by omega), rcells_at M j i hj hi]
    have a1 : W1.cell? ⟨g, j * 4 + 1, none⟩ = some (.int .i64 x.1) := by rw [at1 1 (by omega), hx]; rfl
    have a2 : W1.cell? ⟨g, j * 4 + 1 + 1, none⟩ = some (.int .i64 x.2.1) := by rw [show j * 4 + 1 + 1 = j * 4 + 2 by omega, at1 2 (by omega), hx]; rfl
    have a3 : W1.cell? ⟨g, j * 4 + 1 + 2, none⟩ = some (.int .i64 x.2.2) := by rw [show j * 4 + 1 + 2 = j * 4 + 3 by omega, at1 3 (by omega), hx]; rfl
    rw [Nat.zero_add] at e1
    subst e1
    clear hw hi hin hget e2 hx at1 hown hblk hne h1 k1 h
    obtain ⟨xa, xb, xc⟩ := x
    unfold wv
    simp only at a1 a2 a3 ⊢
    go_enter Tryd.func45, Tryd.ntmps45
    go_wp2_with fail
    rw [← hW1]
    refine hfind.mono ?_
    rintro e w2 ⟨rfl, rfl⟩
    clear hW1
    go_wp2
    obtain ⟨W5, hW5, h5, hb5⟩ := put3 hresh.out (.int .i64 xa) (.int .i64 xb) (.int .i64 xc) (Nat.le_refl W.heap.size)
    rw [← hW5]
    clear hW5 f0 f1 f2 r0 r1 r2
    have y0 : W5.cell? ⟨W.heap.size, 0, none⟩ = some (.int .i64 xa) := by rw [Lib.cell_of_heap h5]; rfl
    have y1 : W5.cell? ⟨W.heap.size, 1, none⟩ = some (.int .i64 xb) := by rw [Lib.cell_of_heap h5]; rfl
    have y2 : W5.cell? ⟨W.heap.size, 2, none⟩ = some (.int .i64 xc) := by rw [Lib.cell_of_heap h5]; rfl
    refine bodyPost_ret (v := .agg #[.int .i64 xa, .int .i64 xb, .int .i64 xc]) ?ret rfl ?post
    case ret => rw [res_one rfl]; go_simp
    case post => exact ⟨rfl, hb1.trans hb5⟩
  · have hge : ¬ (f ≥ 0) := h0
    have hi : inM M c = false := by
      cases hi : inM M c with
      | false => rfl
      | true => exact absurd (hin.2 hi) h0
    have hw : weightOf ⟨M, last, st⟩ c = (c + last.1 + 1, 1, 1) := by
      unfold weightOf
      simp only [hi, Bool.false_eq_true, if_false]
    rw [hw]
    clear hw hi hin hget
    unfold wv
    simp only
    go_enter Tryd.func45, Tryd.ntmps45
    go_wp2_with fail
    rw [← hW1]
    refine hfind.mono ?_
    rintro e w2 ⟨rfl, rfl⟩
    clear hW1
    go_wp2
    obtain ⟨W5, hW5, h5, hb5⟩ := put3 hresh.out (.int .i64 (c + last.1 + 1)) (.int .i64 1) (.int .i64 1) (Nat.le_refl W.heap.size)
    rw [← hW5]
    clear hW5 f0 f1 f2 r0 r1 r2
    have y0 : W5.cell? ⟨W.heap.size, 0, none⟩ = some (.int .i64 (c + last.1 + 1)) := by rw [Lib.cell_of_heap h5]; rfl
    have y1 : W5.cell? ⟨W.heap.size, 1, none⟩ = some (.int .i64 1) := by rw [Lib.cell_of_heap h5]; rfl
    have y2 : W5.cell? ⟨W.heap.size, 2, none⟩ = some (.int .i64 1) := by rw [Lib.cell_of_heap h5]; rfl
    refine bodyPost_ret (v := .agg #[.int .i64 (c + last.1 + 1), .int .i64 1, .int .i64 1]) ?ret rfl ?post
    case ret => rw [res_one rfl]; go_simp
    case post => exact ⟨rfl, hb1.trans hb5⟩
end Go.Proofs.YtibhifjehbajnaaDoor

namespace Go.Proofs.YtibhifjehbajnaaDoor
open Go.RowKit Go.Maps
set_option linter.unusedVariables false

/-- No block but b and those of characters has changed. -/
def KeptT (b : Nat) (W w' : World) : Prop := ∀ (j : Nat) (cur : Array Value) (T : TypeId) (z : Nat × Nat), j ≠ b → T ≠ 97 → W.heap[j]? = some (.cells cur T z) → w'.heap[j]? = W.heap[j]?
theorem heap_lt {W : World} {j : Nat} {o : Obj} (h : W.heap[j]? = some o) : j < W.heap.size := (Array.getElem?_eq_some_iff.1 h).1
theorem KeptT.refl (q : Nat) (W : World) : KeptT q W W := fun _ _ _ _ _ _ _ => rfl
theorem KeptT.trans {q : Nat} {a b c : World} (h : KeptT q a b) (k : KeptT q b c) : KeptT q a c := fun j cur T z h1 h2 hj => by
  have e := h j cur T z h1 h2 hj
  rw [k j cur T z h1 h2 (e.trans hj), e]
theorem KeptT.of_below {q : Nat} {a b : World} (h : Below a.heap.size a b) : KeptT q a b := fun j cur T z _ _ hj => h.block j (heap_lt hj)
theorem KeptT.of_grown {q : Nat} {w w' : World} {v : Value} {B n size : Nat} {xs : List Value} (ho : w.ownsRow B 97 size v n xs) (h : w.grownBy w' v.ownBlock) : KeptT q w w' := fun j cur T z _ h1 hj => by
  refine h.block j (heap_lt hj) (fun e => ?_)
  rcases ho.2 with ⟨rfl, _⟩ | ⟨g, cap, cur', rfl, _, hg, _⟩
  · simp [Value.ownBlock] at e
  · simp [Value.ownBlock] at e
    subst e
    rw [hg] at hj
    injection hj with hj
    injection hj with _ hj _
    exact h1 hj.symm
theorem KeptT.setCell (b : Nat) (w : World) (i : Nat) (u : Value) : KeptT b w (w.setCell ⟨b, i, none⟩ u) := fun j cur T z' h1 _ hj => Below.heap_setCell _ _ _ _ h1
theorem tag_ne {w : World} {j b : Nat} {cs cs' : Array Value} {T T' : TypeId} {z z' : Nat × Nat} (h : w.heap[j]? = some (.cells cs T z)) (hb : w.heap[b]? = some (.cells cs' T' z')) (hne : T ≠ T') : j ≠ b := fun e => by
  subst e
  rw [h] at hb
  injection hb with hb
  injection hb with _ hb _
  exact hne hb

structure RTabV (w : World) (B b : Nat) (v : Value) (M : List (Int × W3)) (last : W3) (st : Int) : Prop where
  ge : B ≤ b
  blk : w.heap[b]? = some (.cells #[v, .int .i64 last.1, .int .i64 last.2.1, .int .i64 last.2.2, .int .i64 st] 31 (0, 0))
  own : w.ownsRow B 97 4 v M.length (rcells M)
theorem own_tag {w : World} {B e n size : Nat} {v : Value} {xs : List Value} (h : w.ownsRow B e size v n xs) {b : Nat} {cs : Array Value} {T : TypeId} {z : Nat × Nat} (hb : w.heap[b]? = some (.cells cs T z)) (hne : T ≠ e) : v.ownBlock ≠ some b := by
  rcases h.2 with ⟨rfl, _⟩ | ⟨g, cap, cur', rfl, _, hg, _⟩
  · simp [Value.ownBlock]
  · intro q
    simp [Value.ownBlock] at q
    subst q
    rw [hg] at hb
    injection hb with hb
    injection hb with _ hb _
    exact hne hb.symm
theorem RTabV.ne {w : World} {B b : Nat} {v : Value} {M : List (Int × W3)} {last : W3} {st : Int} (h : RTabV w B b v M last st) : v.ownBlock ≠ some b := own_tag h.own h.blk (by decide)
theorem RTabV.tab {w : World} {B b : Nat} {v : Value} {M : List (Int × W3)} {last : W3} {st : Int} (h : RTabV w B b v M last st) : RTab w B b M last st := ⟨h.ge, v, h.blk, h.own, h.ne⟩
theorem RTabV.below {w w' : World} {B b : Nat} {v : Value} {M : List (Int × W3)} {last : W3} {st : Int} (h : RTabV w B b v M last st) (hb : Below w.heap.size w w') : RTabV w' B b v M last st :=
  ⟨h.ge, by rw [hb.block b (heap_lt h.blk)]; exact h.blk, ownsRow_below h.own hb⟩
theorem RTabV.cells {w : World} {B b : Nat} {v : Value} {M : List (Int × W3)} {last : W3} {st : Int} (h : RTabV w B b v M last st) :
    w.cell? ⟨b, 0, none⟩ = some v ∧ w.cell? ⟨b, 1, none⟩ = some (.int .i64 last.1) ∧ w.cell? ⟨b, 2, none⟩ = some (.int .i64 last.2.1) ∧ w.cell? ⟨b, 3, none⟩ = some (.int .i64 last.2.2) ∧ w.cell? ⟨b, 4, none⟩ = some (.int .i64 st) := by
  refine ⟨?_, ?_, ?_, ?_, ?_⟩ <;> (rw [Lib.cell_of_heap h.blk]; rfl)
theorem RTabV.frozen {w : World} {B b : Nat} {v : Value} {M : List (Int × W3)} {last : W3} {st : Int} (h : RTabV w B b v M last st) (i : Nat) : w.frozen? ⟨b, i, none⟩ = false := Lib.frozen_of_heap h.blk i
theorem RTabV.len {w : World} {B b : Nat} {v : Value} {M : List (Int × W3)} {last : W3} {st : Int} (h : RTabV w B b v M last st) : ∃ L cap, v = .slice L M.length cap := by
  rcases h.own.2 with ⟨hv, h0⟩ | ⟨g, cap, cur', hv, _⟩
  · exact ⟨none, 0, by rw [hv, h0]⟩
  · exact ⟨_, cap, hv⟩

/-- Behind an append to the row of a table, before its store. -/
theorem tab_mid {w wc w2 : World} {B b : Nat} {v : Value} {M : List (Int × W3)} {last : W3} {st : Int} (h : RTabV w B b v M last st) (hb : Below w.heap.size w wc) (hg : wc.grownBy w2 v.ownBlock) :
    w2.heap[b]? = some (.cells #[v, .int .i64 last.1, .int .i64 last.2.1, .int .i64 last.2.2, .int .i64 st] 31 (0, 0)) ∧ w2.cell? ⟨b, 0, none⟩ = some v ∧ w2.frozen? ⟨b, 0, none⟩ = false := by
  have h1 := (h.below hb).blk
  have h2 : w2.heap[b]? = some (.cells #[v, .int .i64 last.1, .int .i64 last.2.1, .int .i64 last.2.2, .int .i64 st] 31 (0, 0)) := by
    rw [hg.block b (heap_lt h1) (fun e => h.ne e.symm)]
    exact h1
  exact ⟨h2, by rw [Lib.cell_of_heap h2]; rfl, Lib.frozen_of_heap h2 0⟩
/-- Behind its store. -/
theorem tab_append {w wc w2 : World} {B b : Nat} {v v2 : Value} {M : List (Int × W3)} {last : W3} {st : Int} {x : Int × W3} (h : RTabV w B b v M last st) (hB : B ≤ w.heap.size) (hb : Below w.heap.size w wc) (hg : wc.grownBy w2 v.ownBlock)
    (ho : w2.ownsRow B 97 4 v2 (M.length + 1) (rcells M ++ rcell x)) :
    RTabV (w2.setCell ⟨b, 0, none⟩ v2) B b v2 (M ++ [x]) last st ∧ Below B w (w2.setCell ⟨b, 0, none⟩ v2) ∧ KeptT b w (w2.setCell ⟨b, 0, none⟩ v2) := by
  obtain ⟨h2, _, _⟩ := tab_mid h hb hg
  have hn : v2.ownBlock ≠ some b := own_tag ho h2 (by decide)
  have hbB : Below B w w2 := Below.grown (hb.mono hB) hg (Nat.le_trans hB hb.size) (fun k hk => (h.own.lt k hk).1)
  refine ⟨⟨h.ge, Lib.heap_setCell_same (i := 0) h2 v2, ?_⟩, hbB.setCell (p := ⟨b, 0, none⟩) h.ge _, (KeptT.of_below hb).trans ((KeptT.of_grown (h.below hb).own hg).trans (KeptT.setCell b w2 0 v2))⟩
  rw [List.length_append, List.length_singleton, rcells_app]
  exact ho.kept (row := some b) ⟨rfl, rfl, rfl, by simp [World.setCell], fun k hk hne => Below.heap_setCell _ _ _ _ (fun e => hne (by rw [show k = b from e]))⟩ (.inr hn)
/-- A store of the last weights. -/
theorem tab_last {w : World} {B b : Nat} {v : Value} {M : List (Int × W3)} {last : W3} {st : Int} (h : RTabV w B b v M last st) (x : W3) :
    ∃ w3, w3 = ((w.setCell ⟨b, 1, none⟩ (.int .i64 x.1)).setCell ⟨b, 2, none⟩ (.int .i64 x.2.1)).setCell ⟨b, 3, none⟩ (.int .i64 x.2.2) ∧ RTabV w3 B b v M x st ∧ Below B w w3 ∧ KeptT b w w3 ∧ w3.heap.size = w.heap.size := by
  have h1 := Lib.heap_setCell_same (i := 1) h.blk (.int .i64 x.1)
  have h2 := Lib.heap_setCell_same (i := 2) h1 (.int .i64 x.2.1)
  have h3 := Lib.heap_setCell_same (i := 3) h2 (.int .i64 x.2.2)
  refine ⟨_, rfl, ⟨h.ge, h3, ?_⟩, (((Below.refl B w).setCell (p := ⟨b, 1, none⟩) h.ge _).setCell (p := ⟨b, 2, none⟩) h.ge _).setCell (p := ⟨b, 3, none⟩) h.ge _, (KeptT.setCell b _ 1 _).trans ((KeptT.setCell b _ 2 _).trans (KeptT.setCell b _ 3 _)), by simp [World.setCell]⟩
  exact h.own.kept (row := some b) ⟨rfl, rfl, rfl, by simp [World.setCell], fun k hk hne => by
    have hk : k ≠ b := fun e => hne (by rw [e])
    rw [Below.heap_setCell _ _ _ _ hk, Below.heap_setCell _ _ _ _ hk, Below.heap_setCell _ _ _ _ hk]⟩ (.inr h.ne)
/-- A store of the strength. -/
theorem tab_st {w : World} {B b : Nat} {v : Value} {M : List (Int × W3)} {last : W3} {st : Int} (h : RTabV w B b v M last st) (x : Int) :
    RTabV (w.setCell ⟨b, 4, none⟩ (.int .i64 x)) B b v M last x ∧ Below B w (w.setCell ⟨b, 4, none⟩ (.int .i64 x)) ∧ KeptT b w (w.setCell ⟨b, 4, none⟩ (.int .i64 x)) := by
  refine ⟨⟨h.ge, Lib.heap_setCell_same (i := 4) h.blk _, ?_⟩, (Below.refl B w).setCell (p := ⟨b, 4, none⟩) h.ge _, KeptT.setCell b w 4 _⟩
  exact h.own.kept (row := some b) ⟨rfl, rfl, rfl, by simp [World.setCell], fun k hk hne => Below.heap_setCell _ _ _ _ (fun e => hne (by rw [show k = b from e]))⟩ (.inr h.ne)

theorem info_char : (Tryd.prog.info? 97).map (fun i => (i.zero, i.size, i.bytes)) = some (some (.agg #[.int .i64 0, .int .i64 0, .int .i64 0, .int .i64 0]), 4, 32) := by kernel_rfl
theorem own_form4 {w : World} {base : Nat} {e : TypeId} {size : Nat} {v : Value} {n : Nat} {xs : List Value} (h : w.ownsRow base e size v (n + 1) xs) : ∃ g cap, v = .slice (some ⟨g, 0, none⟩) (n + 1) cap := by
  rcases h.2 with ⟨_, h0⟩ | ⟨g, cap, cur', hv, _⟩
  · omega
  · exact ⟨g, cap, hv⟩
/-- Where the loop over the characters of a line stands. -/
structure AddRel (W wr : World) (B b : Nat) (v' : Value) (t t' : CT) (k : Nat) (ig : Bool) (ws : List ByteArray) (all : List Int) : Prop where
  tab : RTabV wr B b v' t'.M t'.last t'.st
  len : t'.M.length = t.M.length + k
  run : runR ig ws k (all.drop k) t' = runR ig ws 0 all t
  ok : t'.ok
  below : Below B W wr
  kept : KeptT b W wr
theorem afterR_ok {t : CT} (h : t.ok) (s : ByteArray) (c : Int) : CT.ok { t with last := afterR t.last s, M := t.M ++ [(c, afterR t.last s)] } := by
  obtain ⟨h1, h2, h3, h4, h5, h6⟩ := h
  simp only [CT.ok, List.length_append, List.length_singleton]
  unfold afterR
  split
  · simp only; omega
  · split <;> simp only <;> omega
theorem charsOf_len : ∀ {l : List ByteArray} {cs : List Int}, charsOf l = some cs → cs.length = l.length
  | [], cs, h => by simp [charsOf] at h; subst h; rfl
  | w :: l, cs, h => by
    simp only [charsOf] at h
    cases h1 : charOf w with
    | none => rw [h1] at h; cases h
    | some c =>
      rw [h1] at h
      cases h2 : charsOf l with
      | none => rw [h2] at h; cases h
      | some cs' =>
        rw [h2] at h
        simp at h
        subst h
        simp [charsOf_len h2]
theorem formP_len (w : ByteArray) (r : List ByteArray) : (formP w r).1.length ≤ (w :: r).length := by
  unfold formP
  split
  · split
    · rename_i cs hc
      simp only [List.length_cons]
      rw [charsOf_len hc]; omega
    · simp
  · split
    · rename_i cs hc
      have := formL_len hc
      simp only [Bool.false_eq_true, if_false] at this
      simp only [this]; omega
    · simp
end Go.Proofs.YtibhifjehbajnaaDoor

namespace Go.Proofs.YtibhifjehbajnaaDoor
open Go.RowKit Go.Maps
set_option linter.unusedVariables false

theorem enc_no10 {c : Int} (hc : isCharB c = true) (h : c ≠ 10) : (10 : UInt8) ∉ Lib.encodeRune c := by
  intro hm
  have hxb := isCharB_cases hc
  rcases enc_shape hc with ⟨k, b0, e, h0⟩ | ⟨k1, k2, b0, b1, e, h0, h1⟩ | ⟨k1, k2, k3, b0, b1, b2, e, h0, h1, h2⟩ | ⟨k1, k2, b0, b1, b2, b3, e, h0, h1, h2, h3⟩ <;> rw [e] at hm <;> simp only [List.mem_cons, List.not_mem_nil, or_false] at hm
  all_goals
    have ht : ((10 : UInt8).toNat : Int) = 10 := by decide
    first
      | (subst hm; omega)
      | (rcases hm with rfl | rfl <;> omega)
      | (rcases hm with rfl | rfl | rfl <;> omega)
      | (rcases hm with rfl | rfl | rfl | rfl <;> omega)
theorem cut_enc : ∀ (rs : List Int), Chars rs → ∀ x ∈ cut1 10 (encA rs), ∃ r, Chars r ∧ x = encA r
  | [], _, x, hx => by
    have hx : x ∈ [([] : List UInt8)] := hx
    exact ⟨[], fun y hy => (List.not_mem_nil hy).elim, by rw [List.mem_singleton.1 hx]; rfl⟩
  | c :: rs, hc, x, hx => by
    have hrs : Chars rs := fun y hy => hc y (List.mem_cons_of_mem _ hy)
    have hc0 := hc c (List.mem_cons_self ..)
    rw [encA_cons] at hx
    by_cases h10 : c = 10
    · subst h10
      have e10 : Lib.encodeRune 10 = [10] := by decide
      rw [e10] at hx
      have e2 : cut1 10 ([10] ++ encA rs) = [] :: cut1 10 (encA rs) := by
        show cut1 10 (10 :: encA rs) = _
        rw [cut1, if_pos rfl]
      rw [e2] at hx
      rcases List.mem_cons.1 hx with rfl | hx
      · exact ⟨[], fun y hy => (List.not_mem_nil hy).elim, rfl⟩
      · exact cut_enc rs hrs x hx
    · rw [cut1_skip 10 _ _ (enc_no10 hc0 h10)] at hx
      have ih := cut_enc rs hrs
      cases hq : cut1 10 (encA rs) with
      | nil => exact absurd hq (cut1_ne 10 _)
      | cons a t =>
        rw [hq] at hx ih
        simp only [glueL] at hx
        rcases List.mem_cons.1 hx with rfl | hx
        · obtain ⟨r, hr, e⟩ := ih a (List.mem_cons_self ..)
          refine ⟨c :: r, fun y hy => ?_, by rw [encA_cons, e]⟩
          rcases List.mem_cons.1 hy with rfl | hy
          · exact hc0
          · exact hr y hy
        · exact ih x (List.mem_cons_of_mem _ hx)
theorem line_words {s : ByteArray} (h : isText s = true) : ∀ l ∈ linesOf s, wordsR l = wordsOf l := fun l hl => by
  obtain ⟨he, hc⟩ := text_enc h
  have h1 : l.data.toList ∈ (linesOf s).map (·.data.toList) := List.mem_map.2 ⟨l, hl, rfl⟩
  rw [lines_data, he] at h1
  obtain ⟨r, hr, e⟩ := cut_enc _ hc _ h1
  exact wordsR_eq hr e

def WPos (w : W3) : Prop := 0 < w.1 ∧ 0 < w.2.1 ∧ 0 < w.2.2
def WIn (L : Nat) (w : W3) : Prop := w = (0, 0, 0) ∨ (WPos w ∧ w.1 ≤ L ∧ w.2.1 ≤ L ∧ w.2.2 ≤ L)
theorem WIn.mono {L L' : Nat} {w : W3} (h : WIn L w) (hL : L ≤ L') : WIn L' w := by
  rcases h with h | ⟨h1, h2, h3, h4⟩
  · exact .inl h
  · exact .inr ⟨h1, by omega, by omega, by omega⟩
def TIn (M : List (Int × W3)) : Prop := ∀ p ∈ M, WIn M.length p.2
theorem TIn.snoc {M : List (Int × W3)} (h : TIn M) {c : Int} {w : W3} (hw : WIn (M.length + 1) w) : TIn (M ++ [(c, w)]) := fun p hp => by
  rw [List.length_append, List.length_singleton]
  rcases List.mem_append.1 hp with hp | hp
  · exact (h p hp).mono (by omega)
  · rw [List.mem_singleton] at hp
    subst hp
    exact hw
theorem putAll_in : ∀ {cs : List Int} {M M' : List (Int × W3)}, putAll M (cs.map fun c => (c, (0, 0, 0))) = some M' → TIn M → TIn M'
  | [], M, M', h, hi => by simp [putAll] at h; subst h; exact hi
  | c :: cs, M, M', h, hi => by
    simp only [List.map_cons, putAll] at h
    split at h
    · cases h
    · exact putAll_in h (hi.snoc (.inl rfl))
theorem listPut_in {ws : List ByteArray} : ∀ {cs : List Int} {i : Nat} {t t' : CT}, listPut ws i cs t = some t' → t.ok → TIn t.M → (i = 0 ∨ WPos t.last) → TIn t'.M
  | [], i, t, t', h, _, hi, _ => by simp [listPut] at h; subst h; exact hi
  | c :: cs, i, t, t', h, ho, hi, hp => by
    simp only [listPut] at h
    split at h
    · cases h
    · have hok := CT.ok_after ho (signAt ws i) c
      have hpos : WPos (afterW t.last (signAt ws i)) := by
        obtain ⟨h1, h2, h3, h4, h5, h6⟩ := ho
        rcases hp with rfl | ⟨p1, p2, p3⟩
        · have e0 : ((⟨#[60]⟩ : ByteArray).toList == [60]) = true := by decide +kernel
          have e : ((signAt ws 0).toList == [60]) = true := e0
          unfold afterW
          rw [if_pos e]
          simp only [WPos]; omega
        · unfold afterW
          split
          · simp only [WPos]; omega
          · split <;> simp only [WPos] <;> omega
      refine listPut_in h hok ?_ (.inr hpos)
      refine hi.snoc (.inr ⟨hpos, ?_⟩)
      obtain ⟨h1, h2, h3, h4, h5, h6⟩ := hok
      simp only [List.length_append, List.length_singleton] at h2 h4 h6
      exact ⟨h2, h4, h6⟩
theorem addP_in {t : CT} {ws : List ByteArray} (ho : t.ok) (hi : TIn t.M) : TIn (addP t ws).1.M := by
  cases ws with
  | nil => exact hi
  | cons x r =>
    unfold addP
    simp only
    split
    · exact hi
    · split
      · unfold levelP
        split
        · split
          · exact hi
          · split <;> exact hi
        · exact hi
      · split
        · unfold ignoreP
          split
          · exact hi
          · exact hi
          · rename_i c cs hc
            split
            · exact hi
            · rename_i M hp
              exact putAll_in hp hi
        · unfold listP
          split
          · exact hi
          · rename_i cs hc
            split
            · exact hi
            · split
              · exact hi
              · rename_i t' hp
                exact listPut_in hp ho hi (.inl rfl)
theorem parseL_in : ∀ (ls : List ByteArray) (i : Nat) (t : CT), t.ok → t.M.length ≤ 4096 → TIn t.M → TIn (parseL i t ls).2.2.M
  | [], i, t, _, _, hi => hi
  | l :: ls, i, t, ho, hM, hi => by
    rw [parseL]
    split
    · rename_i he
      obtain ⟨h1, h2⟩ := addP_ok he ho hM
      exact parseL_in ls (i + 1) _ h1 h2 (addP_in ho hi)
    · exact hi
theorem parseP_in (s : ByteArray) : TIn (parseP s).2.2.M := by
  have h0 : TIn t0.M := fun p hp => by simp [t0] at hp
  unfold parseP
  split
  · exact h0
  · split
    · exact h0
    · exact parseL_in _ 0 t0 (by simp [CT.ok, t0]) (by simp [t0]) h0
/-- The weights of a character: none, or all positive. -/
theorem weight_in {t : CT} (hi : TIn t.M) (hM : t.M.length ≤ 4096) (hl : 0 ≤ t.last.1 ∧ t.last.1 ≤ 1000000) {c : Int} (hc : 0 ≤ c ∧ c ≤ 1114111) : (0 ≤ (weightOf t c).1 ∧ (weightOf t c).1 ≤ 3000000 ∧ 0 ≤ (weightOf t c).2.1 ∧ (weightOf t c).2.1 ≤ 3000000 ∧ 0 ≤ (weightOf t c).2.2 ∧ (weightOf t c).2.2 ≤ 3000000) ∧ (0 < (weightOf t c).1 ↔ 0 < (weightOf t c).2.1) ∧ (0 < (weightOf t c).1 ↔ 0 < (weightOf t c).2.2) := by
  unfold weightOf
  cases hin : inM t.M c with
  | false => simp only [Bool.false_eq_true, if_false]; omega
  | true =>
    simp only [if_true]
    unfold getW
    cases hf : t.M.find? (fun p => p.1 == c) with
    | none => simp
    | some p =>
      simp only
      have hp := hi p (List.mem_of_find?_eq_some hf)
      rcases hp with hp | ⟨⟨p1, p2, p3⟩, p4, p5, p6⟩
      · rw [hp]; simp
      · omega
end Go.Proofs.YtibhifjehbajnaaDoor
