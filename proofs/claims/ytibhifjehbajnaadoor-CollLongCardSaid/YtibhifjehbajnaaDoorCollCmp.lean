/- coll's Compare, bytes.Compare and bytes.Equal, walked over bytes that a call has made. -/
import Derived.Test.YtibhifjehbajnaaDoorCollKey
namespace Go.Proofs.YtibhifjehbajnaaDoor
open Go.RowKit Go.Maps
set_option linter.unusedVariables false

/-- Key, asked of a table in every later world, gives the key. -/
def KeyGives (W : World) (p : Option Addr) (t : CT) : Prop :=
  ∀ W', Below W.heap.size W W' → ∀ s : ByteArray, s.size ≤ 4294967296 → Calls Tryd.prog 18 #[.pointer p, .string s] W' (KeyPost W' (keyP t s))
theorem keyP_none {t : CT} {s : ByteArray} (h : isText s = false) : keyP t s = [] := by simp [keyP, h]
theorem gives_some {W : World} {b : Nat} {t : CT} (h : TabRd W b t W.heap.size) (hl0 : 0 ≤ t.last.1) (hl1 : t.last.1 ≤ 1000000) (hst3 : t.st ≤ 3) : KeyGives W (some ⟨b, 0, none⟩) t := fun W' hb s hs => by
  cases ht : isText s with
  | false => rw [keyP_none ht]; exact Key_none W' _ s ht
  | true =>
    have h' := h.below hb
    have h2 : TabRd W' b t W'.heap.size := ⟨Nat.lt_of_lt_of_le h.lt hb.size, Nat.le_refl _, by
      obtain ⟨mo, q1, q2⟩ := h'.blk
      refine ⟨mo, q1, ?_⟩
      rcases q2 with q2 | ⟨m, D, q3, q4, q5⟩
      · exact .inl q2
      · exact .inr ⟨m, D, q3, Nat.lt_of_lt_of_le q4 hb.size, q5⟩⟩
    exact Key_some W' b t h2 s ht hl0 hl1 hst3 hs
theorem gives_nil (W : World) : KeyGives W none t0 := fun W' hb s hs => by
  cases ht : isText s with
  | false => rw [keyP_none ht]; exact Key_none W' _ s ht
  | true => exact Key_nil W' s ht hs
theorem KeyGives.later {W W1 : World} {p : Option Addr} {t : CT} (h : KeyGives W p t) (hb : Below W.heap.size W W1) : KeyGives W1 p t := fun W' hb' s hs => h W' (hb.trans (hb'.mono hb.size)) s hs

/-- The bytes that a slice leads to. -/
def BytesRd (w : World) (v : Value) (xs : List Int) : Prop := ∃ p n c, v = .slice p n c ∧ n = xs.length ∧ Lib.BytesIn w p n xs
theorem bytesRd_of {w : World} {base : Nat} {v : Value} {xs : List Int} (h : w.ownsRow base 5 1 v xs.length (byteVs xs)) : BytesRd w v xs := by
  rcases h.2 with ⟨rfl, hn⟩ | ⟨g, cap, cur, rfl, _⟩
  · have : xs = [] := List.eq_nil_of_length_eq_zero hn
    subst this
    exact ⟨none, 0, 0, rfl, rfl, Lib.BytesIn.nil _ _ _⟩
  · refine ⟨_, _, _, rfl, rfl, Lib.BytesIn.of_cells (fun i hi => ?_)⟩
    have := h.cells (g := g) rfl i (.int .u8 xs[i]) (by simp [byteVs, hi])
    rw [this]
    simp [List.getD, hi]
theorem BytesRd.below {w w' : World} {v : Value} {xs : List Int} (h : BytesRd w v xs) (hb : Below w.heap.size w w') : BytesRd w' v xs := by
  obtain ⟨p, n, c, rfl, hn, hx⟩ := h
  refine ⟨p, n, c, rfl, hn, fun hp => ?_⟩
  obtain ⟨b, o, hp', hc⟩ := hx hp
  refine ⟨b, o, hp', fun i hi => ?_⟩
  have h1 := hc i hi
  rw [← h1]
  exact hb.cell (p := ⟨b, o + i, none⟩) (World.block_lt_of_cell? w ⟨b, o + i, none⟩ h1)

/-- How two rows of bytes compare. -/
def cmpB (xs ys : List Int) : Int := Lib.compareBytes (Lib.bytesOf xs) (Lib.bytesOf ys)
def cmpP (t : CT) (a b : ByteArray) : Int := cmpB (keyP t a) (keyP t b)

theorem run_bytesOf {w : World} {v : Value} {xs : List Int} (h : BytesRd w v xs) : (Extern.Bytes.bytesOf v).run Tryd.prog w = .ok ⟨(Lib.bytesOf xs).toArray⟩ w := by
  obtain ⟨p, n, c, rfl, rfl, hx⟩ := h
  cases xs with
  | nil =>
    cases p with
    | none => rfl
    | some a => simp [Extern.Bytes.bytesOf, Extern.Bytes.loadBytes, Lib.bytesOf]; rfl
  | cons x xs =>
    obtain ⟨b, o, rfl, hc⟩ := hx (by simp)
    have hl := Lib.run_loadBytesX (P := Tryd.prog) w (x :: xs) ⟨b, o, none⟩ .empty (fun j y hj => by
      have hjl : j < (x :: xs).length := (List.getElem?_eq_some_iff.1 hj).1
      have e : (⟨b, o, none⟩ : Addr).add j = ⟨b, o + j, none⟩ := by unfold Addr.add; split <;> simp_all
      rw [e, hc j hjl, List.getD_eq_getElem?_getD, hj]
      rfl)
    have he : (⟨ByteArray.empty.data ++ (Lib.bytesOf (x :: xs)).toArray⟩ : ByteArray) = ⟨(Lib.bytesOf (x :: xs)).toArray⟩ := by
      apply ByteArray.ext
      show (#[] : Array UInt8) ++ (Lib.bytesOf (x :: xs)).toArray = (Lib.bytesOf (x :: xs)).toArray
      simp
    rw [he] at hl
    simpa [Extern.Bytes.bytesOf] using hl

set_option maxRecDepth 100000 in
theorem Compare_bytes (w : World) (v1 v2 : Value) (xs ys : List Int) (h1 : BytesRd w v1 xs) (h2 : BytesRd w v2 ys) :
    Calls Tryd.prog 23 #[v1, v2] w fun e w' => e = .returned (.int .i64 (cmpB xs ys)) ∧ w = w' := by
  have hrun : (Extern.BytealgCompare.compare #[v1, v2]).run Tryd.prog w = .ok (.int .i64 (cmpB xs ys)) w := by
    change Sem.run Tryd.prog (do pure (goInt (Extern.BytealgCompare.cmp (← Extern.Bytes.bytesOf v1) (← Extern.Bytes.bytesOf v2)))) w = _
    simp only [Sem.run_bind, Sem.run_pure, Result.andThen, run_bytesOf h1, run_bytesOf h2]
    rw [Lib.cmp_eq]
    rfl
  go_enter Tryd.func23, Tryd.ntmps23
  go_wp2
  rw [run_callFunc_extern Tryd.func46 (by kernel_rfl) (by kernel_rfl) (by kernel_rfl) (e := Extern.BytealgCompare.compare) (by kernel_rfl), hrun]
  simp only [Result.andThen]
  rw [Oper.upon_value]
  go_wp2
  go_ret
  exact ⟨rfl, rfl⟩

set_option maxRecDepth 100000 in
theorem Compare_calls (W : World) (p : Option Addr) (t : CT) (h : KeyGives W p t) (a b : ByteArray) (ha : a.size ≤ 4294967296) (hb : b.size ≤ 4294967296) :
    Calls Tryd.prog 21 #[.pointer p, .string a, .string b] W fun e w' => e = .returned (.int .i64 (cmpP t a b)) ∧ Below W.heap.size W w' := by
  go_enter Tryd.func21, Tryd.ntmps21
  go_wp2_with fail
  refine (h W (Below.refl _ _) a ha).mono ?_
  rintro e w1 ⟨v1, rfl, ho1, hb1⟩
  have hr1 := Lib.hid (bytesRd_of ho1)
  clear ho1
  go_wp2_with fail
  refine (h w1 hb1 b hb).mono ?_
  rintro e w2 ⟨v2, rfl, ho2, hb2⟩
  have hr2 := Lib.hid (bytesRd_of ho2)
  clear ho2
  go_wp2_with fail
  refine (Compare_bytes w2 v1 v2 _ _ (hr1.out.below hb2) hr2.out).mono ?_
  rintro e w3 ⟨rfl, rfl⟩
  go_wp2_with fail
  go_ret
  exact ⟨rfl, hb1.trans (hb2.mono hb1.size)⟩

theorem Equal_bytes (w : World) (v1 v2 : Value) (xs ys : List Int) (h1 : BytesRd w v1 xs) (h2 : BytesRd w v2 ys) :
    Calls Tryd.prog 20 #[v1, v2] w fun e w' => e = .returned (.bool (Lib.bytesOf xs == Lib.bytesOf ys)) ∧ w = w' := by
  obtain ⟨p1, n1, c1, rfl, rfl, hx1⟩ := h1
  obtain ⟨p2, n2, c2, rfl, rfl, hx2⟩ := h2
  refine (Tryd.bytes_Equal_all p1 p2 _ c1 _ c2 xs ys w rfl rfl hx1 hx2).mono ?_
  rintro e w' ⟨rfl, rfl⟩
  exact ⟨rfl, rfl⟩
end Go.Proofs.YtibhifjehbajnaaDoor
