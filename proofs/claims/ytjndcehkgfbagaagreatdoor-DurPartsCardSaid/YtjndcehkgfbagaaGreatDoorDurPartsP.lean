/- DurParts: the plain part. -/
import Derived.Test.YtjndcehkgfbagaaGreatDoorNi
import Derived.Test.YtjndcehkgfbagaaGreatDoorDurDigs
namespace Go.Proofs.YtjndcehkgfbagaaGreatDoor
open Go.RowKit NumP DurP Go.Proofs.YtjndcehkgfbagaaGreatDoorW.PrintWords
set_option linter.unusedVariables false

/-- A bit of a number below 256, as the walk asks for it. -/
def bit (v : Nat) (k : Int) : Bool := bits .and .u8 (v : Int) k != 0
theorem bits_all : ∀ v : Fin 256, (bits .and .u8 (v.val : Int) 3 == 0) = !(bit v.val 1 || bit v.val 2) ∧ (bits .and .u8 (v.val : Int) 3 != 0) = (bit v.val 1 || bit v.val 2) ∧
    (bits .and .u8 (v.val : Int) 56 != 0) = (bit v.val 8 || bit v.val 16 || bit v.val 32) ∧ (bits .and .u8 (v.val : Int) 60 == 0) = !(bit v.val 4 || bit v.val 8 || bit v.val 16 || bit v.val 32) := by decide +kernel
/-- The text so far, with one more part. -/
def more (s : ByteArray) (b : Bool) (q : ByteArray) (c : UInt8) : ByteArray := if b then s ++ q ++ ⟨#[c]⟩ else s
theorem more_size (s : ByteArray) (b : Bool) (q : ByteArray) (c : UInt8) : (more s b q c).size ≤ s.size + q.size + 1 := by
  unfold more; split
  · rw [size_app, size_app]; show _ + _ + 1 ≤ _; omega
  · omega
structure Digs (W : World) (n least : Nat) (q : ByteArray) : Prop where
  gives : ∀ w, Calls Tryz.prog 24 #[.int .i64 (n : Int), .int .i64 (least : Int)] w fun e w' => e = .returned (.string q) ∧ Below w.heap.size w w'
  size : q.size ≤ 20
  is : q.data.toList = dgP n least
theorem digs_of (W : World) (n least : Nat) (hn : n < 1000000000000000) (hl : least ≤ 6) : ∃ q, Digs W n least q := by
  refine ⟨⟨(dgP n least).toArray⟩, fun w => digs_d n least w hn hl, ?_, rfl⟩
  rw [← list_len]
  show (fixD _ n).length ≤ 20
  rw [fixD_len]
  have := (lenD_le n 15).2 hn
  omega
/-- The numbers of the law's digits. -/
theorem dgP_dig (n least : Nat) : Dig (dgP n least) := fixD_dig _ _
theorem dgP_val {n least : Nat} : valD (dgP n least) = n := by
  unfold dgP
  rw [fixD_val]
  exact Nat.mod_eq_of_lt ((lenD_le n _).1 (by omega))
theorem dgP_len (n least : Nat) : (dgP n least).length = max least (lenD n) := fixD_len _ _
theorem dgP_ne {n least : Nat} (h : 1 ≤ least) : dgP n least ≠ [] := fun e => by
  have := dgP_len n least
  rw [e] at this
  simp at this; omega
theorem dgP_short {n least k : Nat} (h : n < 10 ^ k) (hl : least ≤ 6) : (dgP n least).length ≤ max 6 k := by
  have := (lenD_le n k).2 h
  rw [dgP_len]; omega
/-- Whole digits, read. -/
theorem parse_whole {w : List UInt8} {n : Nat} (h0 : w ≠ []) (hd : Dig w) (hl : w.length ≤ 190) (hv : valD w = n) (hn : n * P20 < P50) : parseN w = .ok ⟨false, n * P20⟩ := by
  have := parse_form false w [] h0 hd dig_nil (by simpa using hl)
  rw [List.append_nil, hv] at this
  have e : (if false = true then [45] else []) ++ (w ++ dot []) = w := by
    show w ++ [] = w
    rw [List.append_nil]
  rw [e] at this
  rw [this]
  exact checkedN_pos hn
theorem parse_thou {w f : List UInt8} {n m : Nat} (h0 : w ≠ []) (hd : Dig w) (hf : Dig f) (hl : w.length ≤ 100) (hfl : f.length = 3) (hv : valD w = n) (hm : valD f = m) (hn : (n * 1000 + m) * 100000000000000000 < P50) :
    parseN (w ++ dot f) = .ok ⟨false, (n * 1000 + m) * 100000000000000000⟩ := by
  have := parse_form false w f h0 hd hf (by omega)
  have e : (if false = true then [45] else []) ++ (w ++ dot f) = w ++ dot f := rfl
  rw [e, if_pos (show f.length ≤ 20 by omega), valD_app, hv, hm, hfl, show (10 : Nat) ^ 3 = 1000 from rfl, show (10 : Nat) ^ (20 - 3) = 100000000000000000 from rfl] at this
  rw [this]
  exact checkedN_pos hn
/-- The months of the parts. -/
theorem parts_months (b0 b1 : Bool) {q0 q1 : List UInt8} {n0 n1 : Nat} (d0 : Dig q0) (d1 : Dig q1) (e0 : q0 ≠ []) (e1 : q1 ≠ []) (l0 : q0.length ≤ 11) (l1 : q1.length ≤ 11) (v0 : valD q0 = n0) (v1 : valD q1 = n1) (h0 : n0 < 65536) (h1 : n1 < 65536) {l : List UInt8}
    (hl : l = [80] ++ (if b0 then q0 ++ [89] else []) ++ (if b1 then q1 ++ [77] else [])) : monthsP l = if (b0 || b1) = true then ((((if b0 then 12 * n0 else 0) + (if b1 then n1 else 0) : Nat) : Int), 0) else (0, 5) := by
  subst hl
  cases b0
  · cases b1
    · exact months_none false
    · have := months_form false [] q1 dig_nil d1 ⟨by decide, l1⟩ (fun h => e1 h.2) (by rw [v1, valD_nil]; unfold most; omega)
      unfold opt at this
      rw [if_neg e1, v1, valD_nil] at this
      simpa using this
  · cases b1
    · have := months_form false q0 [] d0 dig_nil ⟨l0, by decide⟩ (fun h => e0 h.1) (by rw [v0, valD_nil]; unfold most; omega)
      unfold opt at this
      rw [if_neg e0, v0, valD_nil] at this
      simpa using this
    · have := months_form false q0 q1 d0 d1 ⟨l0, l1⟩ (fun h => e0 h.1) (by rw [v0, v1]; unfold most; omega)
      unfold opt at this
      rw [if_neg e0, if_neg e1, v0, v1] at this
      simpa using this
def pick (b : Bool) (q : List UInt8) : List UInt8 := if b then q else []
theorem pick_dig {b : Bool} {q : List UInt8} (h : Dig q) : Dig (pick b q) := by cases b; exact dig_nil; exact h
theorem pick_len (b : Bool) (q : List UInt8) : (pick b q).length ≤ q.length := by cases b; exact Nat.zero_le _; exact Nat.le_refl _
theorem pick_val {b : Bool} {q : List UInt8} {n : Nat} (h0 : q ≠ []) (h : parseN q = .ok ⟨false, n⟩) : (pick b q ≠ [] → parseN (pick b q) = .ok ⟨false, if b then n else 0⟩) ∧ (pick b q = [] → (if b then n else 0) = 0) := by
  cases b
  · exact ⟨fun h => absurd rfl h, fun _ => rfl⟩
  · exact ⟨fun _ => h, fun e => absurd e h0⟩
theorem secs_none : secondsP [80] = ([], 5) := by decide +kernel
/-- The text of the parts is a form. -/
theorem parts_text (b2 b3 b4 b5 : Bool) {q2 q3 q4 q5 q6 : List UInt8} (e2 : q2 ≠ []) (e3 : q3 ≠ []) (e4 : q4 ≠ []) (e5 : q5 ≠ []) (e6 : q6 ≠ []) :
    [80] ++ (if b2 then q2 ++ [68] else []) ++ (if (b3 || b4 || b5) then [84] else []) ++ (if b3 then q3 ++ [72] else []) ++ (if b4 then q4 ++ [77] else []) ++ (if b5 then q5 ++ [46] ++ q6 ++ [83] else []) =
      secForm false (pick b2 q2) (opt 72 (pick b3 q3) ++ (opt 77 (pick b4 q4) ++ opt 83 (pick b5 (q5 ++ dot q6)))) := by
  have h5 : q5 ++ dot q6 ≠ [] := fun h => e5 (List.append_eq_nil_iff.1 h).1
  unfold secForm pick opt
  cases b2 <;> cases b3 <;> cases b4 <;> cases b5 <;> simp [e2, e3, e4, e5, e6, dot]
theorem parts_seconds (b2 b3 b4 b5 : Bool) {q2 q3 q4 q5 q6 : List UInt8} {n2 n3 n4 n5 n6 : Nat} (d2 : Dig q2) (d3 : Dig q3) (d4 : Dig q4) (d5 : Dig q5) (d6 : Dig q6) (e2 : q2 ≠ []) (e3 : q3 ≠ []) (e4 : q4 ≠ []) (e5 : q5 ≠ []) (l2 : q2.length ≤ 11) (l3 : q3.length ≤ 11) (l4 : q4.length ≤ 11) (l5 : q5.length ≤ 11) (l6 : q6.length = 3)
    (v2 : valD q2 = n2) (v3 : valD q3 = n3) (v4 : valD q4 = n4) (v5 : valD q5 = n5) (v6 : valD q6 = n6) (h2 : n2 < 65536) (h3 : n3 < 65536) (h4 : n4 < 65536) (h5 : n5 < 65536) (h6 : n6 < 1000) {A : Nat} {l : List UInt8}
    (hA : A = (if b2 then 86400000 * n2 else 0) + (if b3 then 3600000 * n3 else 0) + (if b4 then 60000 * n4 else 0) + (if b5 then 1000 * n5 + n6 else 0))
    (hl : l = [80] ++ (if b2 then q2 ++ [68] else []) ++ (if (b3 || b4 || b5) then [84] else []) ++ (if b3 then q3 ++ [72] else []) ++ (if b4 then q4 ++ [77] else []) ++ (if b5 then q5 ++ [46] ++ q6 ++ [83] else [])) :
    secondsP l = if (b2 || b3 || b4 || b5) = true then (tx (A * 100000000000000000), 0) else ([], 5) := by
  have e6 : q6 ≠ [] := fun e => by rw [e] at l6; cases l6
  have hP : P20 = 100000000000000000000 := by decide
  have hP5 : P50 = 100000000000000000000000000000000000000000000000000 := by decide
  cases hb : (b2 || b3 || b4 || b5)
  · simp only [Bool.or_eq_false_iff] at hb
    obtain ⟨⟨⟨rfl, rfl⟩, rfl⟩, rfl⟩ := hb
    subst hl
    exact secs_none
  · rw [if_pos rfl, hl, parts_text b2 b3 b4 b5 e2 e3 e4 e5 e6]
    have p2 := parse_whole e2 d2 (by omega) v2 (by rw [hP, hP5]; omega)
    have p3 := parse_whole e3 d3 (by omega) v3 (by rw [hP, hP5]; omega)
    have p4 := parse_whole e4 d4 (by omega) v4 (by rw [hP, hP5]; omega)
    have p5 := parse_thou e5 d5 d6 (by omega) l6 v5 v6 (by rw [hP5]; omega)
    have e56 : q5 ++ dot q6 ≠ [] := fun h => e5 (List.append_eq_nil_iff.1 h).1
    have ld : (q5 ++ dot q6).length ≤ 15 := by have := dot_len q6; rw [List.length_append]; omega
    have k2 := pick_len b2 q2
    have k3 := pick_len b3 q3
    have k4 := pick_len b4 q4
    have k5 := pick_len b5 (q5 ++ dot q6)
    have hS : pick b5 (q5 ++ dot q6) = [] ∨ pick b5 (q5 ++ dot q6) = q5 ++ dot q6 := by cases b5; exact .inl rfl; exact .inr rfl
    have hne : ¬ (pick b2 q2 = [] ∧ pick b3 q3 = [] ∧ pick b4 q4 = [] ∧ pick b5 (q5 ++ dot q6) = []) := by
      rintro ⟨f2, f3, f4, f5⟩
      cases b2
      · cases b3
        · cases b4
          · cases b5
            · cases hb
            · exact e56 f5
          · exact e4 f4
        · exact e3 f3
      · exact e2 f2
    obtain ⟨x2, hx2⟩ : ∃ x, x = (if b2 then n2 else 0) := ⟨_, rfl⟩
    obtain ⟨x3, hx3⟩ : ∃ x, x = (if b3 then n3 else 0) := ⟨_, rfl⟩
    obtain ⟨x4, hx4⟩ : ∃ x, x = (if b4 then n4 else 0) := ⟨_, rfl⟩
    obtain ⟨x5, hx5⟩ : ∃ x, x = (if b5 then 1000 * n5 + n6 else 0) := ⟨_, rfl⟩
    have y2 : (if b2 then n2 * P20 else 0) = x2 * P20 := by rw [hx2]; cases b2 <;> simp
    have y3 : (if b3 then n3 * P20 else 0) = x3 * P20 := by rw [hx3]; cases b3 <;> simp
    have y4 : (if b4 then n4 * P20 else 0) = x4 * P20 := by rw [hx4]; cases b4 <;> simp
    have y5 : (if b5 then (n5 * 1000 + n6) * 100000000000000000 else 0) = x5 * 100000000000000000 := by
      rw [hx5, Nat.mul_comm 1000 n5]; cases b5
      · rw [if_neg (by simp), if_neg (by simp), Nat.zero_mul]
      · rw [if_pos rfl, if_pos rfl]
    have z2 : x2 < 65536 := by rw [hx2]; split <;> omega
    have z3 : x3 < 65536 := by rw [hx3]; split <;> omega
    have z4 : x4 < 65536 := by rw [hx4]; split <;> omega
    have z5 : x5 < 70000000 := by rw [hx5]; split <;> omega
    have hA2 : A = 86400000 * x2 + 3600000 * x3 + 60000 * x4 + x5 := by
      rw [hA, hx2, hx3, hx4, hx5]; cases b2 <;> cases b3 <;> cases b4 <;> cases b5 <;> simp
    have hs : x2 * P20 * 86400 + x3 * P20 * 3600 + x4 * P20 * 60 + x5 * 100000000000000000 = A * 100000000000000000 := by rw [hA2, hP]; omega
    have hA3 : A * 100000000000000000 < P50 := by rw [hA2, hP5]; omega
    have w2 := pick_val (b := b2) e2 p2
    have w3 := pick_val (b := b3) e3 p3
    have w4 := pick_val (b := b4) e4 p4
    have w5 := pick_val (b := b5) e56 p5
    rw [y2] at w2
    rw [y3] at w3
    rw [y4] at w4
    rw [y5] at w5
    have main := seconds_sum false (pick_dig d2) (pick_dig d3) (pick_dig d4) d5 d6 e5 hS hne (by omega) w2 w3 w4 w5 (by rw [hs]; exact hA3)
    rw [main, hs, Bool.false_and]
    rfl
/-- A number of thousandths, divided. -/
theorem parts_div {A : Nat} (hA : A < 10000000000000) : parseT (dgP A 1) = (tx (A * P20), 0) ∧ divT (tx (A * P20)) [49, 48, 48, 48] = (tx (A * 100000000000000000), 0) := by
  have hP : P20 = 100000000000000000000 := by decide
  have hP5 : P50 = 100000000000000000000000000000000000000000000000000 := by decide
  have b1 : A * P20 < P50 := by rw [hP, hP5]; omega
  have b2 : A * 100000000000000000 < P50 := by rw [hP5]; omega
  have hl := dgP_short (n := A) (least := 1) (k := 13) hA (by decide)
  refine ⟨?_, ?_⟩
  · unfold parseT
    rw [parse_whole (dgP_ne (Nat.le_refl 1)) (dgP_dig _ _) (by omega) dgP_val b1]; rfl
  · rw [show ([49, 48, 48, 48] : List UInt8) = tx (1000 * P20) by decide +kernel]
    unfold divT tx
    rw [bothN_text (good_pos b1) (good_pos (by decide))]
    unfold divN
    rw [if_neg (by decide)]
    show outN (checkedN ⟨false != false, cutN .even (false != false) (A * P20 * P20) (1000 * P20)⟩) = _
    have e : A * P20 * P20 = A * 100000000000000000 * (1000 * P20) := by
      rw [Nat.mul_assoc A, Nat.mul_assoc A, show P20 * P20 = 100000000000000000 * (1000 * P20) by decide +kernel]
    rw [e, cut_exact _ _ _ _ (by decide), show (false != false) = false from rfl, checkedN_pos b2]; rfl
theorem parts_later {W1 : World} {g : Nat} {a b : Value} (hg : Hid (g < W1.heap.size)) {w w' : World} (h : w.cell? ⟨g, 5, none⟩ = some a ∧ w.cell? ⟨g, 6, none⟩ = some b ∧ Hid (Below W1.heap.size W1 w)) (hb : Below w.heap.size w w') :
    w'.cell? ⟨g, 5, none⟩ = some a ∧ w'.cell? ⟨g, 6, none⟩ = some b ∧ Hid (Below W1.heap.size W1 w') := by
  obtain ⟨h1, h2, h3⟩ := h
  have := hg.out
  have := h3.out.size
  exact ⟨(hb.cell (p := ⟨g, 5, none⟩) (by show g < _; omega)).trans h1, (hb.cell (p := ⟨g, 6, none⟩) (by show g < _; omega)).trans h2, Lib.hid (h3.out.trans (hb.mono h3.out.size))⟩
theorem more_data (s : ByteArray) (b : Bool) (q : ByteArray) (c : UInt8) : (more s b q c).data.toList = s.data.toList ++ (if b then q.data.toList ++ [c] else []) := by
  unfold more; cases b
  · simp
  · simp [ByteArray.data_append]
end Go.Proofs.YtjndcehkgfbagaaGreatDoor
