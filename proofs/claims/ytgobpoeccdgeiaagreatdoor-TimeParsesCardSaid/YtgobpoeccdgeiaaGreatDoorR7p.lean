/- Package chiselref07: Parse as a plain function, and that it reads as the program does. -/
import Derived.Test.YtgobpoeccdgeiaaGreatDoorR7m
namespace Go.Proofs.YtgobpoeccdgeiaaGreatDoor.TimeP
open NumP DurP
set_option linter.unusedVariables false

/-- Whether a byte fits a sign of a form: 68 a digit, 83 plus or minus, any other itself. -/
def fitB (c f : UInt8) : Bool := if f = 68 then isDig c else if f = 83 then c == 43 || c == 45 else c == f
def fitsL : List UInt8 → List UInt8 → Bool
  | [], [] => true
  | c :: s, f :: g => fitB c f && fitsL s g
  | _, _ => false
def dForm : List UInt8 := [68, 68, 68, 68, 45, 68, 68, 45, 68, 68]
def cForm : List UInt8 := [68, 68, 58, 68, 68, 58, 68, 68]
def zForm : List UInt8 := [83, 68, 68, 58, 68, 68]
def fForms : List (List UInt8) := [[], [46, 68], [46, 68, 68], [46, 68, 68, 68], [46, 68, 68, 68, 68], [46, 68, 68, 68, 68, 68], [46, 68, 68, 68, 68, 68, 68]]
def fracOk (f : List UInt8) : Bool := fForms.any (fitsL f)
def zone7 (l : List UInt8) : List UInt8 × Int × Bool × Bool :=
  if l.getLast? = some 90 then (l.take (l.length - 1), 0, true, true)
  else if 6 ≤ l.length ∧ fitsL (l.drop (l.length - 6)) zForm = true ∧ fitsL l dForm = false then
    let h := valD ((l.drop (l.length - 5)).take 2)
    let n := valD (l.drop (l.length - 2))
    (l.take (l.length - 6), if l[l.length - 6]? = some 45 then -((60 * h + n : Nat) : Int) else ((60 * h + n : Nat) : Int), true, decide (h ≤ 14) && decide (n ≤ 59) && decide (60 * h + n ≤ 840))
  else (l, 0, false, true)
def cal7 (s : List UInt8) (m : Mom) : Mom × Bool :=
  if fitsL s dForm = true then ({ m with y := (valD (s.take 4) : Nat), mo := (valD ((s.drop 5).take 2) : Nat), d := (valD (s.drop 8) : Nat) }, true) else (m, false)
def clock7 (s : List UInt8) (m : Mom) : Mom × Bool :=
  if 8 ≤ s.length ∧ fitsL (s.take 8) cForm = true then ({ m with h := (valD (s.take 2) : Nat), mi := (valD ((s.drop 3).take 2) : Nat), s := (parseT (s.drop 6)).1 }, fracOk (s.drop 8)) else (m, false)
def momS : Mom := ⟨1972, 12, 31, 0, 0, [48], 0, false⟩
def parts7 (k : Int) (s : List UInt8) : Mom × Bool :=
  if k = 6 then cal7 s momS else if k = 7 then clock7 s momS else
    if 11 ≤ s.length ∧ s[10]? = some 84 then
      (if (cal7 (s.take 10) momS).2 = true then clock7 (s.drop 11) (cal7 (s.take 10) momS).1 else ((cal7 (s.take 10) momS).1, false))
    else (momS, false)
def tomorrow7 (m : Mom) : Mom :=
  if m.d + 1 ≤ (lenM m.y.toNat m.mo.toNat : Nat) then { m with d := m.d + 1 }
  else if m.mo + 1 ≤ 12 then { m with d := 1, mo := m.mo + 1 }
  else { m with d := 1, mo := 1, y := m.y + 1 }
def tail7 (k : Int) (m : Mom) (inR : Bool) : Mom × Int :=
  let m1 := if m.h = 24 ∧ m.mi = 0 ∧ m.s = [48] then { m with h := 0 } else m
  if inR = false ∨ validP m1 = false then (mom0, 6) else
    let m2 := if (m.h = 24 ∧ m.mi = 0 ∧ m.s = [48]) ∧ k = 8 then tomorrow7 m1 else m1
    if validP m2 = false then (mom0, 6) else (m2, 0)
def parse7 (k : Int) (l : List UInt8) : Mom × Int := if kindOk k = false then (mom0, 1) else
  let zz := zone7 l
  let pp := parts7 k zz.1
  if pp.2 = false then (mom0, 5) else tail7 k { pp.1 with z := zz.2.1, has := zz.2.2.1 } zz.2.2.2

theorem fits_nil {s : List UInt8} : fitsL s [] = true ↔ s = [] := by
  cases s with
  | nil => exact ⟨fun _ => rfl, fun _ => rfl⟩
  | cons c s => exact ⟨fun h => (by cases h), fun h => (by cases h)⟩
theorem fits_ch {f : UInt8} {s g : List UInt8} (h1 : f ≠ 68) (h2 : f ≠ 83) : fitsL s (f :: g) = true ↔ ∃ t, s = f :: t ∧ fitsL t g = true := by
  cases s with
  | nil => exact ⟨fun h => (by cases h), fun ⟨t, h, _⟩ => (by cases h)⟩
  | cons c s =>
    show (fitB c f && fitsL s g) = true ↔ _
    unfold fitB
    rw [if_neg h1, if_neg h2, Bool.and_eq_true, beq_iff_eq]
    constructor
    · rintro ⟨rfl, h⟩; exact ⟨s, rfl, h⟩
    · rintro ⟨t, e, h⟩
      injection e with e1 e2
      exact ⟨e1, by rw [e2]; exact h⟩
theorem fits_sg {s g : List UInt8} : fitsL s (83 :: g) = true ↔ ∃ c t, (c = 43 ∨ c = 45) ∧ s = c :: t ∧ fitsL t g = true := by
  cases s with
  | nil => exact ⟨fun h => (by cases h), fun ⟨c, t, _, h, _⟩ => by cases h⟩
  | cons c s =>
    show (fitB c 83 && fitsL s g) = true ↔ _
    unfold fitB
    rw [if_neg (by decide), if_pos rfl, Bool.and_eq_true, Bool.or_eq_true, beq_iff_eq, beq_iff_eq]
    constructor
    · rintro ⟨h1, h⟩; exact ⟨c, s, h1, rfl, h⟩
    · rintro ⟨c', t, h1, e, h⟩
      injection e with e1 e2
      exact ⟨by rw [e1]; exact h1, by rw [e2]; exact h⟩
theorem fits_dig {g : List UInt8} : ∀ (n : Nat) (s : List UInt8), fitsL s (List.replicate n 68 ++ g) = true ↔ ∃ a b, s = a ++ b ∧ a.length = n ∧ Dig a ∧ fitsL b g = true
  | 0, s => ⟨fun h => ⟨[], s, rfl, rfl, fun c hc => (by cases hc), h⟩, fun ⟨a, b, e, hl, _, h⟩ => by
      obtain rfl := List.length_eq_zero_iff.1 hl
      rw [e]; exact h⟩
  | n + 1, [] => ⟨fun h => (by cases h), fun ⟨a, b, e, hl, _, h⟩ => by
      have := congrArg List.length e
      rw [List.length_append] at this
      simp only [List.length_nil] at this
      omega⟩
  | n + 1, c :: s => by
    show (fitB c 68 && fitsL s (List.replicate n 68 ++ g)) = true ↔ _
    rw [Bool.and_eq_true, fits_dig n s]
    have hf : fitB c 68 = isDig c := rfl
    rw [hf]
    constructor
    · rintro ⟨h1, a, b, e, hl, hd, h⟩
      refine ⟨c :: a, b, by rw [e]; rfl, by rw [List.length_cons, hl], fun x hx => ?_, h⟩
      rcases List.mem_cons.1 hx with rfl | hx
      · exact h1
      · exact hd x hx
    · rintro ⟨a, b, e, hl, hd, h⟩
      cases a with
      | nil => cases hl
      | cons x a =>
        injection e with e1 e2
        refine ⟨by rw [e1]; exact hd x (List.mem_cons_self ..), a, b, e2, Nat.succ.inj hl, fun y hy => hd y (List.mem_cons_of_mem _ hy), h⟩
theorem fits_date {s : List UInt8} : fitsL s dForm = true ↔ ∃ a b c, (Dig a ∧ a.length = 4) ∧ (Dig b ∧ b.length = 2) ∧ (Dig c ∧ c.length = 2) ∧ s = a ++ 45 :: (b ++ 45 :: c) := by
  have e : dForm = List.replicate 4 68 ++ 45 :: (List.replicate 2 68 ++ 45 :: (List.replicate 2 68 ++ [])) := rfl
  rw [e, fits_dig]
  constructor
  · rintro ⟨a, b, rfl, hl, hd, h⟩
    obtain ⟨t, rfl, h⟩ := (fits_ch (by decide) (by decide)).1 h
    obtain ⟨a2, b2, rfl, hl2, hd2, h⟩ := (fits_dig _ _).1 h
    obtain ⟨t2, rfl, h⟩ := (fits_ch (by decide) (by decide)).1 h
    obtain ⟨a3, b3, rfl, hl3, hd3, h⟩ := (fits_dig _ _).1 h
    obtain rfl := fits_nil.1 h
    exact ⟨a, a2, a3, ⟨hd, hl⟩, ⟨hd2, hl2⟩, ⟨hd3, hl3⟩, by rw [List.append_nil]⟩
  · rintro ⟨a, b, c, ⟨hd, hl⟩, ⟨hd2, hl2⟩, ⟨hd3, hl3⟩, rfl⟩
    exact ⟨a, _, rfl, hl, hd, (fits_ch (by decide) (by decide)).2 ⟨_, rfl, (fits_dig _ _).2 ⟨b, _, rfl, hl2, hd2, (fits_ch (by decide) (by decide)).2 ⟨_, rfl, (fits_dig _ _).2 ⟨c, [], by rw [List.append_nil], hl3, hd3, rfl⟩⟩⟩⟩⟩
theorem fits_clock {s : List UInt8} : fitsL s cForm = true ↔ ∃ a b c, (Dig a ∧ a.length = 2) ∧ (Dig b ∧ b.length = 2) ∧ (Dig c ∧ c.length = 2) ∧ s = a ++ 58 :: (b ++ 58 :: c) := by
  have e : cForm = List.replicate 2 68 ++ 58 :: (List.replicate 2 68 ++ 58 :: (List.replicate 2 68 ++ [])) := rfl
  rw [e, fits_dig]
  constructor
  · rintro ⟨a, b, rfl, hl, hd, h⟩
    obtain ⟨t, rfl, h⟩ := (fits_ch (by decide) (by decide)).1 h
    obtain ⟨a2, b2, rfl, hl2, hd2, h⟩ := (fits_dig _ _).1 h
    obtain ⟨t2, rfl, h⟩ := (fits_ch (by decide) (by decide)).1 h
    obtain ⟨a3, b3, rfl, hl3, hd3, h⟩ := (fits_dig _ _).1 h
    obtain rfl := fits_nil.1 h
    exact ⟨a, a2, a3, ⟨hd, hl⟩, ⟨hd2, hl2⟩, ⟨hd3, hl3⟩, by rw [List.append_nil]⟩
  · rintro ⟨a, b, c, ⟨hd, hl⟩, ⟨hd2, hl2⟩, ⟨hd3, hl3⟩, rfl⟩
    exact ⟨a, _, rfl, hl, hd, (fits_ch (by decide) (by decide)).2 ⟨_, rfl, (fits_dig _ _).2 ⟨b, _, rfl, hl2, hd2, (fits_ch (by decide) (by decide)).2 ⟨_, rfl, (fits_dig _ _).2 ⟨c, [], by rw [List.append_nil], hl3, hd3, rfl⟩⟩⟩⟩⟩
theorem fits_zone {s : List UInt8} : fitsL s zForm = true ↔ ∃ x a b, (x = 43 ∨ x = 45) ∧ (Dig a ∧ a.length = 2) ∧ (Dig b ∧ b.length = 2) ∧ s = x :: (a ++ 58 :: b) := by
  have e : zForm = 83 :: (List.replicate 2 68 ++ 58 :: (List.replicate 2 68 ++ [])) := rfl
  rw [e, fits_sg]
  constructor
  · rintro ⟨x, t, hx, rfl, h⟩
    obtain ⟨a2, b2, rfl, hl2, hd2, h⟩ := (fits_dig _ _).1 h
    obtain ⟨t2, rfl, h⟩ := (fits_ch (by decide) (by decide)).1 h
    obtain ⟨a3, b3, rfl, hl3, hd3, h⟩ := (fits_dig _ _).1 h
    obtain rfl := fits_nil.1 h
    exact ⟨x, a2, a3, hx, ⟨hd2, hl2⟩, ⟨hd3, hl3⟩, by rw [List.append_nil]⟩
  · rintro ⟨x, b, c, hx, ⟨hd2, hl2⟩, ⟨hd3, hl3⟩, rfl⟩
    exact ⟨x, _, hx, rfl, (fits_dig _ _).2 ⟨b, _, rfl, hl2, hd2, (fits_ch (by decide) (by decide)).2 ⟨_, rfl, (fits_dig _ _).2 ⟨c, [], by rw [List.append_nil], hl3, hd3, rfl⟩⟩⟩⟩
theorem fits_pt {s : List UInt8} (n : Nat) : fitsL s (46 :: List.replicate n 68) = true ↔ ∃ g, Dig g ∧ g.length = n ∧ s = 46 :: g := by
  rw [fits_ch (by decide) (by decide), show List.replicate n (68 : UInt8) = List.replicate n 68 ++ [] by rw [List.append_nil]]
  constructor
  · rintro ⟨t, rfl, h⟩
    obtain ⟨a2, b2, rfl, hl2, hd2, h⟩ := (fits_dig _ _).1 h
    obtain rfl := fits_nil.1 h
    exact ⟨a2, hd2, hl2, by rw [List.append_nil]⟩
  · rintro ⟨g, hd, hl, rfl⟩
    exact ⟨_, rfl, (fits_dig _ _).2 ⟨g, [], by rw [List.append_nil], hl, hd, rfl⟩⟩
theorem frac_iff {f : List UInt8} : fracOk f = true ↔ ∃ g, Dig g ∧ g.length ≤ 6 ∧ f = dot g := by
  have e : fForms = [] :: (List.range 6).map (fun i => 46 :: List.replicate (i + 1) 68) := rfl
  unfold fracOk
  rw [e, List.any_cons, Bool.or_eq_true, fits_nil, List.any_eq_true]
  constructor
  · rintro (rfl | ⟨x, hx, h⟩)
    · exact ⟨[], fun c hc => (by cases hc), by decide, rfl⟩
    · rw [List.mem_map] at hx
      obtain ⟨i, hi, rfl⟩ := hx
      rw [List.mem_range] at hi
      obtain ⟨g, hd, hl, rfl⟩ := (fits_pt _).1 h
      refine ⟨g, hd, by omega, ?_⟩
      unfold dot
      rw [if_neg (fun e => by rw [e] at hl; cases hl)]
  · rintro ⟨g, hd, hl, rfl⟩
    cases g with
    | nil => exact .inl rfl
    | cons x g =>
      refine .inr ⟨46 :: List.replicate (x :: g).length 68, ?_, (fits_pt _).2 ⟨x :: g, hd, rfl, rfl⟩⟩
      rw [List.mem_map]
      exact ⟨g.length, by rw [List.mem_range]; rw [List.length_cons] at hl; omega, rfl⟩
theorem numR_some : ∀ (n a : Nat) (l r : List UInt8) (v : Nat), numR n a l = some (v, r) → ∃ p, l = p ++ r ∧ p.length = n ∧ Dig p ∧ v = valF a p
  | 0, a, l, r, v, h => by
    injection h with h
    injection h with h1 h2
    exact ⟨[], by rw [h2]; rfl, rfl, fun c hc => (by cases hc), h1.symm⟩
  | n + 1, a, [], r, v, h => by cases h
  | n + 1, a, c :: l, r, v, h => by
    by_cases hc : isDig c = true
    · have h : (if isDig c then numR n (10 * a + (c.toNat - 48)) l else none) = some (v, r) := h
      rw [if_pos hc] at h
      obtain ⟨p, e, hl, hd, hv⟩ := numR_some n _ l r v h
      refine ⟨c :: p, by rw [e]; rfl, by rw [List.length_cons, hl], fun x hx => ?_, hv⟩
      rcases List.mem_cons.1 hx with rfl | hx
      · exact hc
      · exact hd x hx
    · have h : (if isDig c then numR n (10 * a + (c.toNat - 48)) l else none) = some (v, r) := h
      rw [if_neg hc] at h
      cases h
theorem num_some {n : Nat} {l r : List UInt8} {v : Nat} (h : numR n 0 l = some (v, r)) : ∃ p, l = p ++ r ∧ p.length = n ∧ Dig p ∧ v = valD p := numR_some n 0 l r v h
theorem oneR_some {set l r : List UInt8} {c : UInt8} (h : oneR set l = some (c, r)) : l = c :: r ∧ set.contains c = true := by
  cases l with
  | nil => cases h
  | cons x l =>
    have h : (if set.contains x then some (x, l) else none) = some (c, r) := h
    by_cases hx : set.contains x = true
    · rw [if_pos hx] at h
      injection h with h
      injection h with h1 h2
      exact ⟨by rw [h1, h2], by rw [← h1]; exact hx⟩
    · rw [if_neg hx] at h; cases h
theorem one_some {x : UInt8} {l r : List UInt8} {c : UInt8} (h : oneR [x] l = some (c, r)) : l = x :: r := by
  obtain ⟨e, hc⟩ := oneR_some h
  have : c = x := by simpa using hc
  rw [e, this]
theorem one_app (x : UInt8) (r : List UInt8) : oneR [x] (x :: r) = some (x, r) := by
  show (if [x].contains x then some (x, r) else none) = _
  rw [if_pos (by simp)]
theorem drop_sep {a : List UInt8} {n : Nat} (h : a.length = n) (x : UInt8) (r : List UInt8) : (a ++ x :: r).drop (n + 1) = r := by
  rw [show a ++ x :: r = (a ++ [x]) ++ r by simp]
  exact List.drop_left' (by rw [List.length_append, h]; rfl)
theorem dateR_app {a b c r : List UInt8} (ha : Dig a ∧ a.length = 4) (hb : Dig b ∧ b.length = 2) (hc : Dig c ∧ c.length = 2) : dateR (a ++ 45 :: (b ++ 45 :: (c ++ r))) = some (valD a, valD b, valD c, r) := by
  unfold dateR
  rw [num_dig ha.1 ha.2 rfl]
  simp only
  rw [one_app]
  simp only
  rw [num_dig hb.1 hb.2 rfl]
  simp only
  rw [one_app]
  simp only
  rw [num_dig hc.1 hc.2 rfl]
theorem dateR_some {l r : List UInt8} {y m d : Nat} (h : dateR l = some (y, m, d, r)) : ∃ a b c, (Dig a ∧ a.length = 4) ∧ (Dig b ∧ b.length = 2) ∧ (Dig c ∧ c.length = 2) ∧ l = a ++ 45 :: (b ++ 45 :: (c ++ r)) ∧ y = valD a ∧ m = valD b ∧ d = valD c := by
  unfold dateR at h
  split at h
  · cases h
  rename_i v1 r1 h1
  split at h
  · cases h
  rename_i x1 r2 h2
  split at h
  · cases h
  rename_i v3 r3 h3
  split at h
  · cases h
  rename_i x2 r4 h4
  split at h
  · cases h
  rename_i v5 r5 h5
  injection h with h
  injection h with e1 h
  injection h with e2 h
  injection h with e3 e4
  obtain ⟨a, rfl, la, da, va⟩ := num_some h1
  obtain rfl := one_some h2
  obtain ⟨b, rfl, lb, db, vb⟩ := num_some h3
  obtain rfl := one_some h4
  obtain ⟨c, rfl, lc, dc, vc⟩ := num_some h5
  exact ⟨a, b, c, ⟨da, la⟩, ⟨db, lb⟩, ⟨dc, lc⟩, by rw [e4], by rw [← e1, va], by rw [← e2, vb], by rw [← e3, vc]⟩
theorem cal7_app {a b c : List UInt8} (ha : Dig a ∧ a.length = 4) (hb : Dig b ∧ b.length = 2) (hc : Dig c ∧ c.length = 2) (m : Mom) : cal7 (a ++ 45 :: (b ++ 45 :: c)) m = ({ m with y := (valD a : Nat), mo := (valD b : Nat), d := (valD c : Nat) }, true) := by
  unfold cal7
  rw [if_pos (fits_date.2 ⟨a, b, c, ha, hb, hc, rfl⟩)]
  have e1 : (a ++ 45 :: (b ++ 45 :: c)).take 4 = a := List.take_left' ha.2
  have e2 : (a ++ 45 :: (b ++ 45 :: c)).drop 5 = b ++ 45 :: c := drop_sep ha.2 45 _
  have e3 : (b ++ 45 :: c).take 2 = b := List.take_left' hb.2
  have e4 : (a ++ 45 :: (b ++ 45 :: c)).drop 8 = c := by
    rw [show (8 : Nat) = 5 + 3 from rfl, ← List.drop_drop, e2]
    exact drop_sep hb.2 45 _
  rw [e1, e2, e3, e4]
theorem parse_pad {c g : List UInt8} (hc : Dig c ∧ c.length = 2) (hg : Dig g) (hl : g.length ≤ 6) : parseT (decP (valD c) ++ dot g) = parseT (c ++ dot g) := by
  have hv := valD_lt c hc.1
  rw [hc.2] at hv
  obtain ⟨hdd, hd0, hdv⟩ := decP_dig (n := valD c) (by omega)
  have hdl : (decP (valD c)).length ≤ 2 := decF_short 20 (valD c) 1 (by omega)
  have hd : valD (c ++ g) * 10 ^ (20 - g.length) < P50 := by
    have h1 := valD_lt (c ++ g) (dig_app hc.1 hg)
    have h2 : 10 ^ (c ++ g).length * 10 ^ (20 - g.length) = 10 ^ 22 := by
      rw [← Nat.pow_add, List.length_append, hc.2]
      congr 1
      omega
    have h3 : valD (c ++ g) * 10 ^ (20 - g.length) < 10 ^ 22 := by
      rw [← h2]
      exact Nat.mul_lt_mul_of_pos_right h1 (Nat.pow_pos (by decide))
    exact Nat.lt_trans h3 (by decide)
  have hvf : valD (decP (valD c) ++ g) = valD (c ++ g) := by rw [valD_app, valD_app, hdv]
  rw [parse_tx hdd hg hd0 (by omega) (by omega) rfl (by rw [hvf]; exact hd), parse_tx hc.1 hg (fun e => by rw [e] at hc; cases hc.2) (by omega) (by omega) rfl hd, hvf]
theorem secR_app {c g r : List UInt8} (hc : Dig c ∧ c.length = 2) (hg : Dig g) (hl : g.length ≤ 6) (hr : ∀ x, r.head? = some x → isDig x = false ∧ x ≠ 46) : secR (c ++ (dot g ++ r)) = some ((parseT (c ++ dot g)).1, r) := by
  have hp := parse_pad hc hg hl
  unfold secR
  rw [num_dig hc.1 hc.2 rfl]
  simp only
  cases g with
  | nil =>
    have e : dot ([] : List UInt8) = [] := rfl
    rw [e, List.append_nil] at hp
    rw [e, List.nil_append, if_neg (fun h => (hr 46 h).2 rfl), hp]
  | cons x g =>
    have e : dot (x :: g) = 46 :: (x :: g) := rfl
    rw [e] at hp ⊢
    rw [if_pos (show (46 :: (x :: g) ++ r).head? = some 46 from rfl)]
    show (if digN (x :: g ++ r) = 0 ∨ 6 < digN (x :: g ++ r) then none else some ((parseT (decP (valD c) ++ 46 :: (x :: g ++ r).take (digN (x :: g ++ r)))).1, (x :: g ++ r).drop (digN (x :: g ++ r)))) = _
    rw [digN_app hg (fun y hy => (hr y hy).1), if_neg (by rw [List.length_cons] at hl ⊢; omega), List.take_left, List.drop_left, hp]
theorem dig_while : ∀ l : List UInt8, Dig (l.takeWhile isDig)
  | [] => fun c hc => (by cases hc)
  | x :: l => fun c hc => by
    rw [List.takeWhile_cons] at hc
    split at hc
    · rename_i hx
      rcases List.mem_cons.1 hc with rfl | hc
      · exact hx
      · exact dig_while l c hc
    · cases hc
theorem secR_some {l r s : List UInt8} (h : secR l = some (s, r)) : ∃ c g, (Dig c ∧ c.length = 2) ∧ (Dig g ∧ g.length ≤ 6) ∧ l = c ++ (dot g ++ r) ∧ s = (parseT (c ++ dot g)).1 := by
  unfold secR at h
  split at h
  · cases h
  rename_i v r1 h1
  obtain ⟨c, rfl, lc, dc, vc⟩ := num_some h1
  split at h
  · rename_i h46
    simp only at h
    split at h
    · cases h
    rename_i hk
    injection h with h
    injection h with e1 e2
    cases r1 with
    | nil => cases h46
    | cons x t =>
      injection h46 with h46
      subst h46
      have ht : List.drop 1 (46 :: t) = t := rfl
      rw [ht] at hk e1 e2
      have hdig : Dig (t.take (digN t)) := by
        rw [take_digN]
        exact dig_while t
      have hlen : (t.take (digN t)).length = digN t := by
        rw [List.length_take]
        have := digN_le t
        omega
      have hdot : dot (t.take (digN t)) = 46 :: t.take (digN t) := by
        unfold dot
        rw [if_neg (fun e => by rw [e] at hlen; simp at hlen; omega)]
      refine ⟨c, t.take (digN t), ⟨dc, lc⟩, ⟨hdig, by omega⟩, ?_, ?_⟩
      · rw [hdot, ← e2]
        show _ = c ++ 46 :: (t.take (digN t) ++ t.drop (digN t))
        rw [List.take_append_drop]
      · rw [← e1, ← parse_pad ⟨dc, lc⟩ hdig (by omega), hdot, vc]
  · injection h with h
    injection h with e1 e2
    refine ⟨c, [], ⟨dc, lc⟩, ⟨fun x hx => (by cases hx), by decide⟩, by rw [← e2]; rfl, ?_⟩
    have hp := parse_pad (g := []) ⟨dc, lc⟩ (fun x hx => (by cases hx)) (by decide)
    rw [← hp, ← e1, vc]
    show _ = (parseT (decP (valD c) ++ [])).1
    rw [List.append_nil]
/-- The text of a clock. -/
def clk (a b c g : List UInt8) : List UInt8 := a ++ 58 :: (b ++ 58 :: (c ++ dot g))
theorem clockR_app {a b c g r : List UInt8} (ha : Dig a ∧ a.length = 2) (hb : Dig b ∧ b.length = 2) (hc : Dig c ∧ c.length = 2) (hg : Dig g) (hl : g.length ≤ 6) (hr : ∀ x, r.head? = some x → isDig x = false ∧ x ≠ 46) : clockR (clk a b c g ++ r) = some (valD a, valD b, (parseT (c ++ dot g)).1, r) := by
  have e : clk a b c g ++ r = a ++ 58 :: (b ++ 58 :: (c ++ (dot g ++ r))) := by unfold clk; simp
  rw [e]
  unfold clockR
  rw [num_dig ha.1 ha.2 rfl]
  simp only
  rw [one_app]
  simp only
  rw [num_dig hb.1 hb.2 rfl]
  simp only
  rw [one_app]
  simp only
  rw [secR_app hc hg hl hr]
theorem clockR_some {l r s : List UInt8} {h m : Nat} (e : clockR l = some (h, m, s, r)) : ∃ a b c g, (Dig a ∧ a.length = 2) ∧ (Dig b ∧ b.length = 2) ∧ (Dig c ∧ c.length = 2) ∧ (Dig g ∧ g.length ≤ 6) ∧ l = clk a b c g ++ r ∧ h = valD a ∧ m = valD b ∧ s = (parseT (c ++ dot g)).1 := by
  unfold clockR at e
  split at e
  · cases e
  rename_i v1 r1 h1
  split at e
  · cases e
  rename_i x1 r2 h2
  split at e
  · cases e
  rename_i v3 r3 h3
  split at e
  · cases e
  rename_i x2 r4 h4
  split at e
  · cases e
  rename_i v5 r5 h5
  injection e with e
  injection e with e1 e
  injection e with e2 e
  injection e with e3 e4
  obtain ⟨a, rfl, la, da, va⟩ := num_some h1
  obtain rfl := one_some h2
  obtain ⟨b, rfl, lb, db, vb⟩ := num_some h3
  obtain rfl := one_some h4
  obtain ⟨c, g, hc, hg, rfl, hs⟩ := secR_some h5
  exact ⟨a, b, c, g, ⟨da, la⟩, ⟨db, lb⟩, hc, hg, by unfold clk; rw [← e4]; simp, by rw [← e1, va], by rw [← e2, vb], by rw [← e3, hs]⟩
theorem clock7_app {a b c g : List UInt8} (ha : Dig a ∧ a.length = 2) (hb : Dig b ∧ b.length = 2) (hc : Dig c ∧ c.length = 2) (hg : Dig g ∧ g.length ≤ 6) (m : Mom) : clock7 (clk a b c g) m = ({ m with h := (valD a : Nat), mi := (valD b : Nat), s := (parseT (c ++ dot g)).1 }, true) := by
  have e8 : clk a b c g = (a ++ 58 :: (b ++ 58 :: c)) ++ dot g := by unfold clk; simp
  have l8 : (a ++ 58 :: (b ++ 58 :: c)).length = 8 := by
    rw [List.length_append, List.length_cons, List.length_append, List.length_cons, ha.2, hb.2, hc.2]
  have t8 : (clk a b c g).take 8 = a ++ 58 :: (b ++ 58 :: c) := by rw [e8]; exact List.take_left' l8
  have d8 : (clk a b c g).drop 8 = dot g := by rw [e8]; exact List.drop_left' l8
  have t2 : (clk a b c g).take 2 = a := List.take_left' ha.2
  have d3 : (clk a b c g).drop 3 = b ++ 58 :: (c ++ dot g) := drop_sep ha.2 58 _
  have t3 : (b ++ 58 :: (c ++ dot g)).take 2 = b := List.take_left' hb.2
  have d6 : (clk a b c g).drop 6 = c ++ dot g := by
    rw [show (6 : Nat) = 3 + 3 from rfl, ← List.drop_drop, d3]
    exact drop_sep hb.2 58 _
  unfold clock7
  rw [if_pos ⟨by rw [e8, List.length_append, l8]; omega, by rw [t8]; exact fits_clock.2 ⟨a, b, c, ha, hb, hc, rfl⟩⟩, t2, d3, t3, d6, d8, frac_iff.2 ⟨g, hg.1, hg.2, rfl⟩]
theorem cal7_some {s : List UInt8} {m : Mom} (h : (cal7 s m).2 = true) : ∃ a b c, (Dig a ∧ a.length = 4) ∧ (Dig b ∧ b.length = 2) ∧ (Dig c ∧ c.length = 2) ∧ s = a ++ 45 :: (b ++ 45 :: c) := by
  unfold cal7 at h
  by_cases hf : fitsL s dForm = true
  · exact fits_date.1 hf
  · rw [if_neg hf] at h; cases h
theorem clock7_some {s : List UInt8} {m : Mom} (h : (clock7 s m).2 = true) : ∃ a b c g, (Dig a ∧ a.length = 2) ∧ (Dig b ∧ b.length = 2) ∧ (Dig c ∧ c.length = 2) ∧ (Dig g ∧ g.length ≤ 6) ∧ s = clk a b c g := by
  unfold clock7 at h
  by_cases hf : 8 ≤ s.length ∧ fitsL (s.take 8) cForm = true
  · rw [if_pos hf] at h
    obtain ⟨g, hg, hl, hd⟩ := frac_iff.1 h
    obtain ⟨a, b, c, ha, hb, hc, ht⟩ := fits_clock.1 hf.2
    refine ⟨a, b, c, g, ha, hb, hc, ⟨hg, hl⟩, ?_⟩
    rw [← List.take_append_drop 8 s, ht, hd]
    unfold clk
    simp
  · rw [if_neg hf] at h; cases h
/-- A text that ends in a digit and has no zone at its end. -/
def NoZ (p : List UInt8) : Prop := (∃ y c, p = y ++ [c] ∧ isDig c = true) ∧ ∀ x s a b, (s = 43 ∨ s = 45) → a.length = 2 → b.length = 2 → p ≠ x ++ s :: (a ++ 58 :: b)
theorem two_list {a : List UInt8} (h : a.length = 2) : ∃ x y, a = [x, y] := by
  match a, h with
  | [x, y], _ => exact ⟨x, y, rfl⟩
theorem third {y x a b : List UInt8} {u v w s : UInt8} (ha : a.length = 2) (hb : b.length = 2) (h : y ++ [u, v, w] = x ++ s :: (a ++ 58 :: b)) : u = 58 := by
  obtain ⟨a1, a2, rfl⟩ := two_list ha
  obtain ⟨b1, b2, rfl⟩ := two_list hb
  rw [show x ++ s :: ([a1, a2] ++ 58 :: [b1, b2]) = (x ++ [s, a1, a2]) ++ [58, b1, b2] by simp] at h
  have := (List.append_inj' h rfl).2
  injection this
theorem sixth {y x a b : List UInt8} {u v w t r q s : UInt8} (ha : a.length = 2) (hb : b.length = 2) (h : y ++ [u, v, w, t, r, q] = x ++ s :: (a ++ 58 :: b)) : u = s := by
  obtain ⟨a1, a2, rfl⟩ := two_list ha
  obtain ⟨b1, b2, rfl⟩ := two_list hb
  rw [show x ++ s :: ([a1, a2] ++ 58 :: [b1, b2]) = x ++ [s, a1, a2, 58, b1, b2] by simp] at h
  have := (List.append_inj' h rfl).2
  injection this
theorem noZ_date {a b c : List UInt8} (hb : Dig b ∧ b.length = 2) (hc : Dig c ∧ c.length = 2) : NoZ (a ++ 45 :: (b ++ 45 :: c)) := by
  obtain ⟨b1, b2, rfl⟩ := two_list hb.2
  obtain ⟨c1, c2, rfl⟩ := two_list hc.2
  refine ⟨⟨a ++ [45, b1, b2, 45, c1], c2, by simp, hc.1 c2 (by simp)⟩, fun x s a' b' hs ha' hb' e => ?_⟩
  rw [show a ++ 45 :: ([b1, b2] ++ 45 :: [c1, c2]) = (a ++ [45, b1, b2]) ++ [45, c1, c2] by simp] at e
  have := third ha' hb' e
  exact absurd this (by decide)
theorem dig58 {c : UInt8} (h : isDig c = true) : c ≠ 58 := dig_ne h (by decide)
theorem noZ_clk {x a b c g : List UInt8} (ha : Dig a ∧ a.length = 2) (hb : Dig b ∧ b.length = 2) (hc : Dig c ∧ c.length = 2) (hg : Dig g) : NoZ (x ++ clk a b c g) := by
  obtain ⟨a1, a2, rfl⟩ := two_list ha.2
  obtain ⟨b1, b2, rfl⟩ := two_list hb.2
  obtain ⟨c1, c2, rfl⟩ := two_list hc.2
  have hc1 := hc.1 c1 (by simp)
  have hc2 := hc.1 c2 (by simp)
  rcases g with _ | ⟨g1, _ | ⟨g2, _ | ⟨g3, g⟩⟩⟩
  · refine ⟨⟨x ++ [a1, a2, 58, b1, b2, 58, c1], c2, by simp [clk, dot], hc2⟩, fun x' s a' b' hs ha' hb' e => ?_⟩
    rw [show x ++ clk [a1, a2] [b1, b2] [c1, c2] [] = (x ++ [a1, a2]) ++ [58, b1, b2, 58, c1, c2] by simp [clk, dot]] at e
    have := sixth ha' hb' e
    rcases hs with rfl | rfl <;> exact absurd this (by decide)
  · refine ⟨⟨x ++ [a1, a2, 58, b1, b2, 58, c1, c2, 46], g1, by simp [clk, dot], hg g1 (by simp)⟩, fun x' s a' b' hs ha' hb' e => ?_⟩
    rw [show x ++ clk [a1, a2] [b1, b2] [c1, c2] [g1] = (x ++ [a1, a2, 58, b1, b2, 58, c1]) ++ [c2, 46, g1] by simp [clk, dot]] at e
    exact dig58 hc2 (third ha' hb' e)
  · refine ⟨⟨x ++ [a1, a2, 58, b1, b2, 58, c1, c2, 46, g1], g2, by simp [clk, dot], hg g2 (by simp)⟩, fun x' s a' b' hs ha' hb' e => ?_⟩
    rw [show x ++ clk [a1, a2] [b1, b2] [c1, c2] [g1, g2] = (x ++ [a1, a2, 58, b1, b2, 58, c1, c2]) ++ [46, g1, g2] by simp [clk, dot]] at e
    exact absurd (third ha' hb' e) (by decide)
  · obtain ⟨t, u, v, w, ht⟩ : ∃ t u v w, g1 :: g2 :: g3 :: g = t ++ [u, v, w] := by
      have hr : (g1 :: g2 :: g3 :: g).reverse.length = g.length + 3 := by simp
      match hh : (g1 :: g2 :: g3 :: g).reverse, hr with
      | w :: v :: u :: t, _ =>
        refine ⟨t.reverse, u, v, w, ?_⟩
        have := congrArg List.reverse hh
        rw [List.reverse_reverse] at this
        rw [this]
        simp
    have hu : isDig u = true := hg u (by rw [ht]; simp)
    have hw : isDig w = true := hg w (by rw [ht]; simp)
    have hd : dot (g1 :: g2 :: g3 :: g) = 46 :: (t ++ [u, v, w]) := by rw [← ht]; rfl
    have e0 : x ++ clk [a1, a2] [b1, b2] [c1, c2] (g1 :: g2 :: g3 :: g) = (x ++ [a1, a2, 58, b1, b2, 58, c1, c2, 46] ++ t) ++ [u, v, w] := by
      unfold clk
      rw [hd]
      simp
    rw [e0]
    refine ⟨⟨(x ++ [a1, a2, 58, b1, b2, 58, c1, c2, 46] ++ t) ++ [u, v], w, by simp, hw⟩, fun x' s a' b' hs ha' hb' e => ?_⟩
    exact dig58 hu (third ha' hb' e)
theorem zoneR_some {r : List UInt8} {has inR : Bool} {z : Int} (h : zoneR r = some (has, z, inR)) : (r = [] ∧ has = false ∧ z = 0 ∧ inR = true) ∨ (r = [90] ∧ has = true ∧ z = 0 ∧ inR = true) ∨
    ∃ c a b, (c = 43 ∨ c = 45) ∧ (Dig a ∧ a.length = 2) ∧ (Dig b ∧ b.length = 2) ∧ r = c :: (a ++ 58 :: b) ∧ has = true ∧ z = (if c = 45 then -((60 * valD a + valD b : Nat) : Int) else ((60 * valD a + valD b : Nat) : Int)) ∧ inR = (decide (valD a ≤ 14) && decide (valD b ≤ 59)) := by
  unfold zoneR at h
  by_cases h0 : r = []
  · rw [if_pos h0] at h
    injection h with h
    injection h with e1 h
    injection h with e2 e3
    exact .inl ⟨h0, e1.symm, e2.symm, e3.symm⟩
  · rw [if_neg h0] at h
    right
    split at h
    · cases h
    rename_i c r1 h1
    obtain ⟨rfl, hc⟩ := oneR_some h1
    by_cases h90 : c = 90
    · rw [if_pos h90] at h
      left
      by_cases hr : r1 = []
      · rw [if_pos hr] at h
        injection h with h
        injection h with e1 h
        injection h with e2 e3
        exact ⟨by rw [h90, hr], e1.symm, e2.symm, e3.symm⟩
      · rw [if_neg hr] at h; cases h
    · rw [if_neg h90] at h
      right
      have hc2 : c = 43 ∨ c = 45 := by
        simp only [List.contains_cons, List.contains_nil, Bool.or_false, Bool.or_eq_true, beq_iff_eq] at hc
        rcases hc with hc | hc | hc
        · exact absurd hc h90
        · exact .inl hc
        · exact .inr hc
      split at h
      · cases h
      rename_i v2 r2 h2
      split at h
      · cases h
      rename_i x r3 h3
      split at h
      · cases h
      rename_i v4 r4 h4
      obtain ⟨a, rfl, la, da, va⟩ := num_some h2
      obtain rfl := one_some h3
      obtain ⟨b, rfl, lb, db, vb⟩ := num_some h4
      by_cases hr : r4 = []
      · rw [if_pos hr] at h
        injection h with h
        injection h with e1 h
        injection h with e2 e3
        refine ⟨c, a, b, hc2, ⟨da, la⟩, ⟨db, lb⟩, by rw [hr, List.append_nil], e1.symm, by rw [← e2, va, vb], by rw [← e3, va, vb]⟩
      · rw [if_neg hr] at h; cases h
theorem zoneR_app {c : UInt8} {a b : List UInt8} (hc : c = 43 ∨ c = 45) (ha : Dig a ∧ a.length = 2) (hb : Dig b ∧ b.length = 2) : zoneR (c :: (a ++ 58 :: b)) = some (true, (if c = 45 then -((60 * valD a + valD b : Nat) : Int) else ((60 * valD a + valD b : Nat) : Int)), decide (valD a ≤ 14) && decide (valD b ≤ 59)) := by
  unfold zoneR
  rw [if_neg (by simp)]
  have e1 : oneR [90, 43, 45] (c :: (a ++ 58 :: b)) = some (c, a ++ 58 :: b) := by
    rcases hc with rfl | rfl <;> rfl
  rw [e1]
  simp only
  rw [if_neg (by rcases hc with rfl | rfl <;> decide), num_dig ha.1 ha.2 rfl]
  simp only
  rw [one_app]
  simp only
  have e2 := num_dig (r := []) hb.1 hb.2 rfl
  rw [List.append_nil] at e2
  rw [e2]
  simp only [if_true]
theorem zone_first {r : List UInt8} {t : Bool × Int × Bool} (h : zoneR r = some t) (x : UInt8) (hx : r.head? = some x) : isDig x = false ∧ x ≠ 46 := by
  obtain ⟨has, z, inR⟩ := t
  rcases zoneR_some h with ⟨rfl, -⟩ | ⟨rfl, -⟩ | ⟨c, a, b, hc, ha, hb, rfl, -⟩
  · cases hx
  · injection hx with hx; rw [← hx]; decide
  · injection hx with hx
    rw [← hx]
    rcases hc with rfl | rfl <;> decide
theorem last_app (p : List UInt8) (c : UInt8) : (p ++ [c]).getLast? = some c := by simp
/-- The zone behind a text that has none at its end. -/
theorem zone7_app {p r : List UInt8} {has inR : Bool} {z : Int} (hp : NoZ p) (h : zoneR r = some (has, z, inR)) : ∃ i, zone7 (p ++ r) = (p, z, has, i) ∧ i = (inR && decide (z.natAbs ≤ 840)) := by
  obtain ⟨⟨y, c, hy, hyc⟩, hno⟩ := hp
  rcases zoneR_some h with ⟨rfl, rfl, rfl, rfl⟩ | ⟨rfl, rfl, rfl, rfl⟩ | ⟨s, a, b, hs, ha, hb, rfl, rfl, hz, hi⟩
  · refine ⟨true, ?_, rfl⟩
    rw [List.append_nil]
    unfold zone7
    rw [if_neg (by rw [hy, last_app]; intro e; injection e with e; exact absurd e (dig_ne hyc (by decide))), if_neg ?_]
    rintro ⟨h6, hf, -⟩
    obtain ⟨x, a, b, hx, ha, hb, e⟩ := fits_zone.1 hf
    refine hno (p.take (p.length - 6)) x a b hx ha.2 hb.2 ?_
    rw [← e, List.take_append_drop]
  · refine ⟨true, ?_, rfl⟩
    unfold zone7
    rw [if_pos (last_app p 90)]
    rw [List.length_append]
    show ((p ++ [90]).take (p.length + 1 - 1), _) = _
    rw [Nat.add_sub_cancel, List.take_left]
  · obtain ⟨b1, b2, rfl⟩ := two_list hb.2
    obtain ⟨a1, a2, rfl⟩ := two_list ha.2
    have hn : (p ++ s :: ([a1, a2] ++ 58 :: [b1, b2])).length = p.length + 6 := by simp
    have hd : (p ++ s :: ([a1, a2] ++ 58 :: [b1, b2])).drop (p.length + 6 - 6) = s :: ([a1, a2] ++ 58 :: [b1, b2]) := by
      rw [Nat.add_sub_cancel, List.drop_left]
    have hl : (p ++ s :: ([a1, a2] ++ 58 :: [b1, b2])).getLast? = some b2 := by
      rw [show p ++ s :: ([a1, a2] ++ 58 :: [b1, b2]) = (p ++ [s, a1, a2, 58, b1]) ++ [b2] by simp]
      exact last_app _ _
    refine ⟨_, ?_, rfl⟩
    unfold zone7
    rw [hl, if_neg (by intro e; injection e with e; exact absurd e (dig_ne (hb.1 b2 (by simp)) (by decide))), hn, hd]
    have hnd : fitsL (p ++ s :: ([a1, a2] ++ 58 :: [b1, b2])) dForm = false := by
      cases hf : fitsL (p ++ s :: ([a1, a2] ++ 58 :: [b1, b2])) dForm with
      | false => rfl
      | true =>
        obtain ⟨a', b', c', ha', hb', hc', e⟩ := fits_date.1 hf
        obtain ⟨c1, c2, rfl⟩ := two_list hc'.2
        rw [show a' ++ 45 :: (b' ++ 45 :: [c1, c2]) = (a' ++ 45 :: b') ++ [45, c1, c2] by simp] at e
        have := third (s := s) (a := [a1, a2]) (b := [b1, b2]) rfl rfl e.symm
        exact absurd this (by decide)
    rw [if_pos ⟨by omega, fits_zone.2 ⟨s, _, _, hs, ha, hb, rfl⟩, hnd⟩]
    simp only
    have e1 : (p ++ s :: ([a1, a2] ++ 58 :: [b1, b2])).take (p.length + 6 - 6) = p := by rw [Nat.add_sub_cancel, List.take_left]
    have e2 : ((p ++ s :: ([a1, a2] ++ 58 :: [b1, b2])).drop (p.length + 6 - 5)).take 2 = [a1, a2] := by
      rw [show p.length + 6 - 5 = p.length + 1 by omega, drop_sep rfl]
      rfl
    have e3 : (p ++ s :: ([a1, a2] ++ 58 :: [b1, b2])).drop (p.length + 6 - 2) = [b1, b2] := by
      rw [show p.length + 6 - 2 = (p ++ [s, a1, a2, 58]).length by simp, show p ++ s :: ([a1, a2] ++ 58 :: [b1, b2]) = (p ++ [s, a1, a2, 58]) ++ [b1, b2] by simp, List.drop_left]
    have e4 : (p ++ s :: ([a1, a2] ++ 58 :: [b1, b2]))[p.length + 6 - 6]? = some s := by
      rw [Nat.add_sub_cancel, List.getElem?_append_right (Nat.le_refl _), Nat.sub_self]; rfl
    rw [e1, e2, e3, e4, hi]
    obtain ⟨A, hA⟩ : ∃ A, A = valD [a1, a2] := ⟨_, rfl⟩
    obtain ⟨B, hB⟩ : ∃ B, B = valD [b1, b2] := ⟨_, rfl⟩
    rw [← hA, ← hB] at hz ⊢
    have hzz : (if (some s : Option UInt8) = some 45 then -((60 * A + B : Nat) : Int) else ((60 * A + B : Nat) : Int)) = z := by
      rw [hz]
      by_cases h45 : s = 45
      · rw [if_pos (by rw [h45]), if_pos h45]
      · rw [if_neg (fun e => h45 (Option.some.inj e)), if_neg h45]
    have hna : z.natAbs = 60 * A + B := by
      rw [hz]
      split <;> omega
    rw [hzz, hna]
theorem zone7_some (l : List UInt8) : ∃ r inR, l = (zone7 l).1 ++ r ∧ zoneR r = some ((zone7 l).2.2.1, (zone7 l).2.1, inR) ∧ (zone7 l).2.2.2 = (inR && decide ((zone7 l).2.1.natAbs ≤ 840)) := by
  by_cases h1 : l.getLast? = some 90
  · have e : zone7 l = (l.take (l.length - 1), 0, true, true) := by unfold zone7; rw [if_pos h1]
    rw [e]
    refine ⟨[90], true, ?_, rfl, rfl⟩
    obtain ⟨y, hy⟩ := List.getLast?_eq_some_iff.1 h1
    rw [hy, List.length_append]
    show _ = (y ++ [90]).take (y.length + 1 - 1) ++ [90]
    rw [Nat.add_sub_cancel, List.take_left]
  · by_cases h2 : 6 ≤ l.length ∧ fitsL (l.drop (l.length - 6)) zForm = true ∧ fitsL l dForm = false
    · obtain ⟨s, a, b, hs, ha, hb, e0⟩ := fits_zone.1 h2.2.1
      obtain ⟨p, hp⟩ : ∃ p, p = l.take (l.length - 6) := ⟨_, rfl⟩
      have hl : l = p ++ s :: (a ++ 58 :: b) := by rw [hp, ← e0, List.take_append_drop]
      obtain ⟨b1, b2, rfl⟩ := two_list hb.2
      obtain ⟨a1, a2, rfl⟩ := two_list ha.2
      have hn : l.length = p.length + 6 := by rw [hl]; simp
      have e2 : (l.drop (l.length - 5)).take 2 = [a1, a2] := by
        rw [hn, show p.length + 6 - 5 = p.length + 1 by omega, hl, drop_sep rfl]
        rfl
      have e3 : l.drop (l.length - 2) = [b1, b2] := by
        rw [hn, hl, show p.length + 6 - 2 = (p ++ [s, a1, a2, 58]).length by simp, show p ++ s :: ([a1, a2] ++ 58 :: [b1, b2]) = (p ++ [s, a1, a2, 58]) ++ [b1, b2] by simp, List.drop_left]
      have e4 : l[l.length - 6]? = some s := by
        rw [hn, Nat.add_sub_cancel, hl, List.getElem?_append_right (Nat.le_refl _), Nat.sub_self]; rfl
      have e : zone7 l = (p, (if s = 45 then -((60 * valD [a1, a2] + valD [b1, b2] : Nat) : Int) else ((60 * valD [a1, a2] + valD [b1, b2] : Nat) : Int)), true, decide (valD [a1, a2] ≤ 14) && decide (valD [b1, b2] ≤ 59) && decide (60 * valD [a1, a2] + valD [b1, b2] ≤ 840)) := by
        unfold zone7
        rw [if_neg h1, if_pos h2]
        simp only
        rw [e2, e3, e4, ← hp]
        congr 2
        by_cases h45 : s = 45
        · rw [if_pos (by rw [h45]), if_pos h45]
        · rw [if_neg (fun e => h45 (Option.some.inj e)), if_neg h45]
      rw [e]
      refine ⟨s :: ([a1, a2] ++ 58 :: [b1, b2]), _, hl, zoneR_app hs ha hb, ?_⟩
      simp only
      congr 1
      apply decide_eq_decide.2
      split <;> omega
    · have e : zone7 l = (l, 0, false, true) := by unfold zone7; rw [if_neg h1, if_neg h2]
      rw [e]
      exact ⟨[], true, by rw [List.append_nil], rfl, rfl⟩
/-- What the parts of a text are, read from the left, with a zone behind them. -/
theorem parts_app {k : Int} {p r : List UInt8} (hk : kindOk k = true) (h : (parts7 k p).2 = true) (hr : ∀ x, r.head? = some x → isDig x = false ∧ x ≠ 46) : partsR k (p ++ r) = some ((parts7 k p).1, r) ∧ (parts7 k p).1.z = 0 ∧ (parts7 k p).1.has = false := by
  have hk' : k = 6 ∨ k = 7 ∨ k = 8 := by unfold kindOk at hk; exact of_decide_eq_true hk
  rcases hk' with rfl | rfl | rfl
  · have e : parts7 6 p = cal7 p momS := by unfold parts7; rw [if_pos rfl]
    rw [e] at h ⊢
    obtain ⟨a, b, c, ha, hb, hc, rfl⟩ := cal7_some h
    rw [cal7_app ha hb hc]
    refine ⟨?_, rfl, rfl⟩
    unfold partsR
    rw [if_pos (by decide), show a ++ 45 :: (b ++ 45 :: c) ++ r = a ++ 45 :: (b ++ 45 :: (c ++ r)) by simp, dateR_app ha hb hc]
    simp only
    rw [if_neg (by decide)]
    simp only
    rw [if_neg (by decide)]
    rfl
  · have e : parts7 7 p = clock7 p momS := by unfold parts7; rw [if_neg (by decide), if_pos rfl]
    rw [e] at h ⊢
    obtain ⟨a, b, c, g, ha, hb, hc, hg, rfl⟩ := clock7_some h
    rw [clock7_app ha hb hc hg]
    refine ⟨?_, rfl, rfl⟩
    unfold partsR
    rw [if_neg (by decide)]
    simp only
    rw [if_neg (by decide)]
    simp only
    rw [if_pos (by decide), clockR_app ha hb hc hg.1 hg.2 hr]
    rfl
  · have e : parts7 8 p = if 11 ≤ p.length ∧ p[10]? = some 84 then (if (cal7 (p.take 10) momS).2 = true then clock7 (p.drop 11) (cal7 (p.take 10) momS).1 else ((cal7 (p.take 10) momS).1, false)) else (momS, false) := by
      unfold parts7; rw [if_neg (by decide), if_neg (by decide)]
    rw [e] at h ⊢
    by_cases h1 : 11 ≤ p.length ∧ p[10]? = some 84
    · rw [if_pos h1] at h ⊢
      by_cases h2 : (cal7 (p.take 10) momS).2 = true
      · rw [if_pos h2] at h ⊢
        obtain ⟨a, b, c, ha, hb, hc, ht⟩ := cal7_some h2
        obtain ⟨a', b', c', g, ha', hb', hc', hg, hd⟩ := clock7_some h
        have hp : p = p.take 10 ++ 84 :: p.drop 11 := by
          have hlt : 10 < p.length := by omega
          have h10 : p[10] = 84 := by
            have := h1.2
            rw [List.getElem?_eq_getElem hlt] at this
            exact Option.some.inj this
          rw [← h10, List.getElem_cons_drop, List.take_append_drop]
        rw [ht, cal7_app ha hb hc, hd, clock7_app ha' hb' hc' hg]
        refine ⟨?_, rfl, rfl⟩
        rw [hp, ht, hd]
        unfold partsR
        rw [if_pos (by decide), show a ++ 45 :: (b ++ 45 :: c) ++ 84 :: clk a' b' c' g ++ r = a ++ 45 :: (b ++ 45 :: (c ++ 84 :: (clk a' b' c' g ++ r))) by simp, dateR_app ha hb hc]
        simp only
        rw [if_pos trivial, one_app]
        simp only
        rw [if_pos (by decide), clockR_app ha' hb' hc' hg.1 hg.2 hr]
        rfl
      · rw [if_neg h2] at h; cases h
    · rw [if_neg h1] at h; cases h
theorem parts_some {k : Int} {l r : List UInt8} {m : Mom} (hk : kindOk k = true) (h : partsR k l = some (m, r)) : ∃ p, l = p ++ r ∧ NoZ p ∧ (parts7 k p).2 = true := by
  have hk' : k = 6 ∨ k = 7 ∨ k = 8 := by unfold kindOk at hk; exact of_decide_eq_true hk
  unfold partsR at h
  split at h
  · cases h
  rename_i y mo d r1 h1
  split at h
  · cases h
  rename_i x r2 h2
  split at h
  · cases h
  rename_i hh mi s r3 h3
  injection h with h
  injection h with hm hr
  rcases hk' with rfl | rfl | rfl
  · rw [if_pos (by decide)] at h1
    rw [if_neg (by decide)] at h2
    rw [if_neg (by decide)] at h3
    injection h2 with h2
    injection h2 with h2 h2'
    injection h3 with h3
    injection h3 with h3 h3'
    injection h3' with h3' h3''
    injection h3'' with h4 h5
    obtain ⟨a, b, c, ha, hb, hc, rfl, -⟩ := dateR_some h1
    refine ⟨a ++ 45 :: (b ++ 45 :: c), by rw [← hr, ← h5, ← h2']; simp, noZ_date hb hc, ?_⟩
    unfold parts7
    rw [if_pos rfl, cal7_app ha hb hc]
  · rw [if_neg (by decide)] at h1
    rw [if_neg (by decide)] at h2
    rw [if_pos (by decide)] at h3
    injection h1 with h1
    injection h1 with _ h1
    injection h1 with _ h1
    injection h1 with _ h1
    injection h2 with h2
    injection h2 with h2 h2'
    obtain ⟨a, b, c, g, ha, hb, hc, hg, e, -⟩ := clockR_some h3
    refine ⟨clk a b c g, by rw [h1, h2', e, hr], ?_, ?_⟩
    · have := noZ_clk (x := []) ha hb hc hg.1
      rw [List.nil_append] at this
      exact this
    · unfold parts7
      rw [if_neg (by decide), if_pos rfl, clock7_app ha hb hc hg]
  · rw [if_pos (by decide)] at h1
    rw [if_pos rfl] at h2
    rw [if_pos (by decide)] at h3
    obtain ⟨a, b, c, ha, hb, hc, rfl, -⟩ := dateR_some h1
    obtain rfl := one_some h2
    obtain ⟨a', b', c', g, ha', hb', hc', hg, rfl, -⟩ := clockR_some h3
    have e10 : (a ++ 45 :: (b ++ 45 :: c)).length = 10 := by
      rw [List.length_append, List.length_cons, List.length_append, List.length_cons, ha.2, hb.2, hc.2]
    refine ⟨a ++ 45 :: (b ++ 45 :: c) ++ 84 :: clk a' b' c' g, by rw [hr]; simp, ?_, ?_⟩
    · have := noZ_clk (x := a ++ 45 :: (b ++ 45 :: c) ++ [84]) ha' hb' hc' hg.1
      rw [List.append_assoc] at this
      exact this
    · unfold parts7
      rw [if_neg (by decide), if_neg (by decide), if_pos ?_, List.take_left' e10, cal7_app ha hb hc, if_pos rfl, drop_sep e10, clock7_app ha' hb' hc' hg]
      refine ⟨by rw [List.length_append, List.length_cons, e10]; omega, ?_⟩
      rw [List.getElem?_append_right (by omega), e10]
      rfl
theorem sum_day (N : Nat) : ((N * 86400000000 : Nat) : Int) - epoch + 86400000000 = ((N * 86400000000 + 86400000000 : Nat) : Int) - epoch := by
  obtain ⟨e, he⟩ : ∃ e, e = epoch := ⟨_, rfl⟩
  rw [← he]
  omega
theorem tomorrow_law {m : Mom} (hv : validP m = true) (hh : m.h = 0) (hm : m.mi = 0) (hs : m.s = [48]) : atP m (totalP m + 86400000000) = if validP (tomorrow7 m) = false then (mom0, 6) else (tomorrow7 m, 0) := by
  obtain ⟨y, mo, d, h, mi, n, e, hp, hz⟩ := valid_of hv
  obtain ⟨z, hze⟩ : ∃ z, z = m.z := ⟨_, rfl⟩
  obtain ⟨has, hhe⟩ : ∃ b, b = m.has := ⟨_, rfl⟩
  rw [← hze, ← hhe] at e hz
  subst e
  have hh : (h : Int) = 0 := hh
  have hm : (mi : Int) = 0 := hm
  have hs' : tx (n * P14) = [48] := hs
  obtain rfl : h = 0 := by omega
  obtain rfl : mi = 0 := by omega
  have hn : n = 0 := by
    have h1 := micP_text hp.n2
    rw [hs', tx0, micP_text (by decide)] at h1
    injection h1 with h1
    exact h1.symm
  subst hn
  clear hs hs' hh hm
  rw [total_mk (by decide)]
  obtain ⟨N, hN⟩ : ∃ N, N = dayN y mo d := ⟨_, rfl⟩
  have hU : micU y mo d 0 0 0 = N * 86400000000 := by unfold micU; rw [hN]; omega
  have key : ∀ y' mo' d' : Nat, IsDate y' mo' d' → dayN y' mo' d' = N + 1 → tomorrow7 (mkM y mo d 0 0 0 z has) = mkM y' mo' d' 0 0 0 z has → atP (mkM y mo d 0 0 0 z has) ((micU y mo d 0 0 0 : Int) - epoch + 86400000000) = if validP (tomorrow7 (mkM y mo d 0 0 0 z has)) = false then (mom0, 6) else (tomorrow7 (mkM y mo d 0 0 0 z has), 0) := by
    intro y' mo' d' hd' hN' ht
    rw [ht]
    have hU' : micU y' mo' d' 0 0 0 = N * 86400000000 + 86400000000 := by unfold micU; rw [hN']; omega
    by_cases hy : y' ≤ 9999
    · have hp' : Parts y' mo' d' 0 0 0 := ⟨hd', hy, by decide, by decide, by decide⟩
      have := at_total hp' (mkM y mo d 0 0 0 z has)
      rw [hU'] at this
      rw [valid_mk hp' hz, if_neg (by decide), hU, show ((N * 86400000000 : Nat) : Int) - epoch + 86400000000 = ((N * 86400000000 + 86400000000 : Nat) : Int) - epoch from sum_day N, this]
      rfl
    · have hv' : validP (mkM y' mo' d' 0 0 0 z has) = false := by
        unfold validP mkM
        simp only
        rw [decide_eq_false (by omega)]
        rfl
      rw [hv', if_pos rfl, hU]
      have h1 : ¬ dayN y' mo' d' < 3652059 := by
        intro h
        have := (year_9999 (dayN y' mo' d')).2 h
        rw [dateN_dayN hd'] at this
        exact hy this
      refine at_err (fun h => ?_)
      unfold epoch at h
      omega
  have hd := hp.date
  have d1 := hd.d1
  have d2 := hd.d2
  have m1 := hd.m1
  have m2 := hd.m2
  have y1 := hd.y1
  have hlp := lenM_pos y mo
  by_cases h1 : d + 1 ≤ lenM y mo
  · refine key y mo (d + 1) ⟨y1, m1, m2, by omega, h1⟩ ?_ ?_
    · rw [hN]; unfold dayN; omega
    · unfold tomorrow7 mkM
      simp only
      rw [Int.toNat_natCast, Int.toNat_natCast, if_pos (by omega)]
      rfl
  · have hde : d = lenM y mo := by omega
    by_cases h2 : mo + 1 ≤ 12
    · refine key y (mo + 1) 1 ⟨y1, by omega, h2, by decide, by have := lenM_pos y (mo + 1); omega⟩ ?_ ?_
      · have := monS_step y m1
        rw [hN]; unfold dayN; omega
      · unfold tomorrow7 mkM
        simp only
        rw [Int.toNat_natCast, Int.toNat_natCast, if_neg (by omega), if_pos (by omega)]
        rfl
    · obtain rfl : mo = 12 := by omega
      refine key (y + 1) 1 1 ⟨by omega, by decide, by decide, by decide, by have := lenM_pos (y + 1) 1; omega⟩ ?_ ?_
      · have a1 := monS_12 y
        have a2 := yearS_step y1
        have a3 := monS_one (y + 1)
        rw [hN]; unfold dayN; omega
      · unfold tomorrow7 mkM
        simp only
        rw [Int.toNat_natCast, Int.toNat_natCast, if_neg (by omega), if_neg (by decide)]
        rfl
theorem valid_zone {m : Mom} (h : validP m = true) : m.z.natAbs ≤ 840 := by
  obtain ⟨y, mo, d, hh, mi, n, e, hp, hz⟩ := valid_of h
  have h1 := hz.lo
  have h2 := hz.hi
  omega
theorem valid_hour {m : Mom} (h : m.h = 24) : validP m = false := by
  unfold validP
  rw [decide_eq_false (by omega)]
  rfl
theorem parse7_eq (k : Int) (l : List UInt8) : parse7 k l = parseM k l := by
  unfold parse7 parseM
  by_cases hk : kindOk k = false
  · rw [if_pos hk, if_pos hk]
  rw [if_neg hk, if_neg hk]
  have hk1 : kindOk k = true := by simpa using hk
  simp only
  obtain ⟨r, inR, hl, hz, hi⟩ := zone7_some l
  cases hp : (parts7 k (zone7 l).1).2 with
  | false =>
    rw [if_pos rfl]
    have : readP k l = none := by
      unfold readP
      cases hq : partsR k l with
      | none => rfl
      | some q =>
        obtain ⟨m, r'⟩ := q
        simp only
        cases hz' : zoneR r' with
        | none => rfl
        | some t =>
          obtain ⟨has, z, inR'⟩ := t
          obtain ⟨p, e, hno, ht⟩ := parts_some hk1 hq
          obtain ⟨i, hzz, -⟩ := zone7_app hno hz'
          rw [← e] at hzz
          rw [hzz] at hp
          rw [hp] at ht
          cases ht
    rw [this]
  | true =>
    rw [if_neg (by decide)]
    obtain ⟨hP, hz0, hh0⟩ := parts_app hk1 hp (fun x hx => zone_first hz x hx)
    rw [← hl] at hP
    obtain ⟨m, hm⟩ : ∃ m, m = (parts7 k (zone7 l).1).1 := ⟨_, rfl⟩
    obtain ⟨z, hze⟩ : ∃ z, z = (zone7 l).2.1 := ⟨_, rfl⟩
    obtain ⟨has, hhe⟩ : ∃ z, z = (zone7 l).2.2.1 := ⟨_, rfl⟩
    obtain ⟨i, hie⟩ : ∃ z, z = (zone7 l).2.2.2 := ⟨_, rfl⟩
    rw [← hm] at hP hz0 hh0
    rw [← hze, ← hhe] at hz
    rw [← hie, ← hze] at hi
    rw [← hm, ← hze, ← hhe, ← hie]
    unfold readP
    rw [hP]
    simp only
    rw [hz]
    unfold tail7
    simp only
    obtain ⟨M, hM⟩ : ∃ M : Mom, M = { m with z := z, has := has } := ⟨_, rfl⟩
    have a1 : m.h = M.h := by rw [hM]
    have a2 : m.mi = M.mi := by rw [hM]
    have a3 : m.s = M.s := by rw [hM]
    have hM0 : ({ y := m.y, mo := m.mo, d := m.d, h := 0, mi := m.mi, s := m.s, z := z, has := has } : Mom) = { M with h := 0 } := by rw [hM]
    rw [hM0]
    rw [a1, a2, a3]
    have hMz : M.z = z := by rw [hM]
    have hM1 : ({ y := m.y, mo := m.mo, d := m.d, h := M.h, mi := M.mi, s := M.s, z := z, has := has } : Mom) = M := by rw [hM]
    have hM2 : ({ y := m.y, mo := m.mo, d := m.d, h := 0, mi := M.mi, s := M.s, z := z, has := has } : Mom) = { M with h := 0 } := by rw [hM]
    rw [hM1]
    by_cases h24 : M.h = 24
    · by_cases he : M.mi = 0 ∧ M.s = [48]
      · have c1 : M.h = 24 ∧ M.mi = 0 ∧ M.s = [48] := ⟨h24, he⟩
        have c2 : ¬ (M.h = 24 ∧ (M.mi ≠ 0 ∨ M.s ≠ [48])) := fun c => c.2.elim (fun h => h he.1) (fun h => h he.2)
        rw [if_pos c1, if_neg c2, if_pos h24]
        obtain ⟨Q, hQ⟩ : ∃ Q : Mom, Q = { M with h := 0 } := ⟨_, rfl⟩
        rw [← hQ]
        have hQz : Q.z = z := by rw [hQ]; exact hMz
        cases hv : validP Q with
        | false => rw [if_pos (Or.inr rfl), if_pos (Or.inr rfl)]
        | true =>
          have h840 := valid_zone hv
          rw [hQz] at h840
          rw [decide_eq_true h840, Bool.and_true] at hi
          rw [hi]
          cases inR with
          | false => rw [if_pos (Or.inl rfl), if_pos (Or.inl rfl)]
          | true =>
            rw [if_neg (show ¬ (true = false ∨ true = false) by decide), if_neg (show ¬ (true = false ∨ true = false) by decide)]
            by_cases k8 : k = 8
            · rw [show (if (M.h = 24 ∧ M.mi = 0 ∧ M.s = [48]) ∧ k = 8 then tomorrow7 Q else Q) = tomorrow7 Q from if_pos ⟨c1, k8⟩, show (if M.h = 24 ∧ k = 8 then some (atP Q (totalP Q + 86400000000)) else some (Q, 0)) = some (atP Q (totalP Q + 86400000000)) from if_pos ⟨h24, k8⟩]
              simp only
              rw [tomorrow_law hv (by rw [hQ]) (by rw [hQ]; exact he.1) (by rw [hQ]; exact he.2)]
            · rw [show (if (M.h = 24 ∧ M.mi = 0 ∧ M.s = [48]) ∧ k = 8 then tomorrow7 Q else Q) = Q from if_neg (fun h => k8 h.2), show (if M.h = 24 ∧ k = 8 then some (atP Q (totalP Q + 86400000000)) else some (Q, 0)) = some (Q, 0) from if_neg (fun h => k8 h.2), hv, if_neg (by decide)]
      · rw [show (if M.h = 24 ∧ M.mi = 0 ∧ M.s = [48] then ({ M with h := 0 } : Mom) else M) = M from if_neg (fun c => he c.2), valid_hour h24, if_pos (Or.inr rfl), if_pos]
        refine ⟨h24, ?_⟩
        by_cases h1 : M.mi = 0
        · exact .inr (fun h => he ⟨h1, h⟩)
        · exact .inl h1
    · rw [show (if M.h = 24 ∧ M.mi = 0 ∧ M.s = [48] then ({ M with h := 0 } : Mom) else M) = M from if_neg (fun c => h24 c.1), if_neg (show ¬ (M.h = 24 ∧ (M.mi ≠ 0 ∨ M.s ≠ [48])) from fun c => h24 c.1), show (if M.h = 24 then ({ M with h := 0 } : Mom) else M) = M from if_neg h24]
      cases hv : validP M with
      | false => rw [if_pos (Or.inr rfl), if_pos (Or.inr rfl)]
      | true =>
        have h840 := valid_zone hv
        rw [hMz] at h840
        rw [decide_eq_true h840, Bool.and_true] at hi
        rw [hi]
        cases inR with
        | false => rw [if_pos (Or.inl rfl), if_pos (Or.inl rfl)]
        | true =>
          rw [if_neg (show ¬ (true = false ∨ true = false) by decide), if_neg (show ¬ (true = false ∨ true = false) by decide), show (if (M.h = 24 ∧ M.mi = 0 ∧ M.s = [48]) ∧ k = 8 then tomorrow7 M else M) = M from if_neg (fun h => h24 h.1.1), show (if M.h = 24 ∧ k = 8 then some (atP M (totalP M + 86400000000)) else some (M, 0)) = some (M, 0) from if_neg (fun h => h24 h.1), hv, if_neg (by decide)]
end Go.Proofs.YtgobpoeccdgeiaaGreatDoor.TimeP
