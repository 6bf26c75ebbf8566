/- CollPoints, the plain law: keys of characters that are neither listed nor ignored are in the order of their code points. -/
import Derived.Test.YtibhifjehbajnaaDoorUtf
import Derived.Test.YtibhifjehbajnaaDoorLev
namespace Go.Proofs.YtibhifjehbajnaaDoor
open Go.RowKit Go.Maps
set_option linter.unusedVariables false

theorem cmpI_eq : ∀ {x y : List Int}, cmpI x y = 0 → x = y
  | [], [], _ => rfl
  | [], _ :: _, h => by simp [cmpI] at h
  | _ :: _, [], h => by simp [cmpI] at h
  | a :: x, b :: y, h => by
    rw [cmpI] at h
    by_cases h1 : a < b
    · rw [if_pos h1] at h; omega
    · by_cases h2 : b < a
      · rw [if_neg h1, if_pos h2] at h; omega
      · rw [if_neg h1, if_neg h2] at h
        rw [show a = b by omega, cmpI_eq h]
theorem cmpI_map (f : Int → Int) (hf : ∀ a b, a < b ↔ f a < f b) : ∀ (x y : List Int), cmpI (x.map f) (y.map f) = cmpI x y
  | [], [] => rfl
  | [], _ :: _ => rfl
  | _ :: _, [] => rfl
  | a :: x, b :: y => by
    simp only [List.map_cons, cmpI, cmpI_map f hf x y]
    by_cases h1 : a < b
    · rw [if_pos ((hf a b).1 h1), if_pos h1]
    · rw [if_neg (fun h => h1 ((hf a b).2 h)), if_neg h1]
      by_cases h2 : b < a
      · rw [if_pos ((hf b a).1 h2), if_pos h2]
      · rw [if_neg (fun h => h2 ((hf b a).2 h)), if_neg h2]
theorem bytes_three (n : Int) : Lib.bytesOf (three n) = [(n / 65536 % 256).toNat.toUInt8, (n / 256 % 256).toNat.toUInt8, (n % 256).toNat.toUInt8] := rfl
theorem cb_three_lt (n m : Int) (h0 : 0 < n) (h1 : n < m) (h2 : m < 16777216) (u v : List UInt8) : Lib.compareBytes (Lib.bytesOf (three n) ++ u) (Lib.bytesOf (three m) ++ v) = -1 := by
  have n0 := u8_of (n / 65536 % 256) (by omega) (by omega)
  have n1 := u8_of (n / 256 % 256) (by omega) (by omega)
  have n2 := u8_of (n % 256) (by omega) (by omega)
  have m0 := u8_of (m / 65536 % 256) (by omega) (by omega)
  have m1 := u8_of (m / 256 % 256) (by omega) (by omega)
  have m2 := u8_of (m % 256) (by omega) (by omega)
  rw [bytes_three, bytes_three]
  simp only [List.cons_append, List.nil_append]
  generalize (n / 65536 % 256).toNat.toUInt8 = a0 at *
  generalize (n / 256 % 256).toNat.toUInt8 = a1 at *
  generalize (n % 256).toNat.toUInt8 = a2 at *
  generalize (m / 65536 % 256).toNat.toUInt8 = b0 at *
  generalize (m / 256 % 256).toNat.toUInt8 = b1 at *
  generalize (m % 256).toNat.toUInt8 = b2 at *
  rw [cb_cons]
  by_cases q0 : a0.toNat < b0.toNat
  · rw [if_pos q0]
  · rw [if_neg q0, if_neg (by omega), cb_cons]
    by_cases q1 : a1.toNat < b1.toNat
    · rw [if_pos q1]
    · rw [if_neg q1, if_neg (by omega), cb_cons, if_pos (by omega)]
theorem cb_T : ∀ (x y : List Int), inR x → inR y → Lib.compareBytes (Lib.bytesOf (T x)) (Lib.bytesOf (T y)) = cmpI x y
  | [], [], _, _ => rfl
  | [], m :: y, _, _ => rfl
  | n :: x, [], _, _ => rfl
  | n :: x, m :: y, hx, hy => by
    have h1 := hx n (List.mem_cons_self ..)
    have h2 := hy m (List.mem_cons_self ..)
    rw [T_cons, T_cons, bytes_app', bytes_app', cmpI]
    by_cases q : n < m
    · rw [if_pos q, cb_three_lt n m h1.1 q h2.2]
    · rw [if_neg q]
      by_cases q2 : m < n
      · rw [if_pos q2, cb_anti, cb_three_lt m n h2.1 q2 h1.2]; rfl
      · obtain rfl : n = m := by omega
        rw [if_neg q2, cb_app]
        exact cb_T x y (fun a ha => hx a (List.mem_cons_of_mem _ ha)) (fun a ha => hy a (List.mem_cons_of_mem _ ha))

/-- A table whose weights of the characters at hand are the code points and a constant. -/
def Plain (t : CT) (k : Int) (cs : List Int) : Prop := ∀ c ∈ cs, weightOf t c = (c + k, 1, 1)
theorem lev0_plain {t : CT} {k : Int} (hk : 0 < k) : ∀ cs : List Int, Plain t k cs → (∀ c ∈ cs, 0 ≤ c) → levelOf t 0 cs = T (cs.map (· + k))
  | [], _, _ => rfl
  | c :: cs, h, h0 => by
    have hc := h c (List.mem_cons_self ..)
    have h1 := h0 c (List.mem_cons_self ..)
    have ih := lev0_plain hk cs (fun x hx => h x (List.mem_cons_of_mem _ hx)) (fun x hx => h0 x (List.mem_cons_of_mem _ hx))
    rw [levelOf_cons, ih, List.map_cons, T_cons]
    have : lev1 t 0 c = three (c + k) := by
      unfold lev1
      rw [hc]
      exact if_pos (by show 0 < c + k; omega)
    rw [this]
theorem chars_pos {cs : List Int} (h : Chars cs) : (∀ c ∈ cs, 0 ≤ c) ∧ (∀ c ∈ cs, c ≤ 1114111) := ⟨fun c hc => by have := isCharB_cases (h c hc); omega, fun c hc => by have := isCharB_cases (h c hc); omega⟩
theorem inR_map {k : Int} (h0 : 0 < k) (h1 : k ≤ 100000) {cs : List Int} (h : Chars cs) : inR (cs.map (· + k)) := fun n hn => by
  obtain ⟨c, hc, rfl⟩ := List.mem_map.1 hn
  have := isCharB_cases (h c hc)
  omega
/-- One level: the order of the code points. -/
theorem cmp_one {t : CT} {k : Int} (hk : 0 < k) (hk1 : k ≤ 100000) (x y : List Int) (hx : Chars x) (hy : Chars y) (px : Plain t k x) (py : Plain t k y) : cmpB (keyK t x 1) (keyK t y 1) = cmpI x y := by
  unfold cmpB
  rw [keyK_one, keyK_one, lev0_plain hk x px (chars_pos hx).1, lev0_plain hk y py (chars_pos hy).1, cb_T _ _ (inR_map hk hk1 hx) (inR_map hk hk1 hy), cmpI_map _ (fun a b => by omega)]
theorem keyK3 (t : CT) (cs : List Int) : keyK t cs 3 = levelOf t 0 cs ++ ([0, 0, 0] ++ (levelOf t 1 cs ++ ([0, 0, 0] ++ levelOf t 2 cs))) := by simp [keyK]
/-- Three levels: the order of the code points too. -/
theorem cmp_three {t : CT} {k : Int} (hk : 0 < k) (hk1 : k ≤ 100000) (x y : List Int) (hx : Chars x) (hy : Chars y) (px : Plain t k x) (py : Plain t k y) : cmpB (keyK t x 3) (keyK t y 3) = cmpI x y := by
  have hz : ∀ n, 0 < n → n < 16777216 → ∀ u v, Lib.compareBytes (Lib.bytesOf ([0, 0, 0] ++ u)) (Lib.bytesOf (three n ++ v)) = -1 := fun n h0 h1 u v => cb_zero n h0 h1 u v
  have e := cb_T _ _ (inR_map hk hk1 hx) (inR_map hk hk1 hy)
  rw [cmpI_map _ (fun a b => by omega)] at e
  by_cases h0 : cmpI x y = 0
  · obtain rfl := cmpI_eq h0
    rw [h0]; exact cb_self _
  · unfold cmpB
    rw [keyK3, keyK3, lev0_plain hk x px (chars_pos hx).1, lev0_plain hk y py (chars_pos hy).1, trip _ _ _ _ (inR_map hk hk1 hx) (inR_map hk hk1 hy) hz, e, if_neg h0]

def ptsB : ByteArray := ⟨#[97, 10, 105, 103, 110, 111, 114, 101, 32, 45]⟩
theorem pts_err : (parseP ptsB).2.1 = 0 := by decide +kernel
theorem pts_tab : (parseP ptsB).2.2.M = [(97, (1, 1, 1)), (45, (0, 0, 0))] ∧ (parseP ptsB).2.2.last = (1, 1, 1) ∧ (parseP ptsB).2.2.st = 3 := by decide +kernel
theorem pts_is : tabOf ptsB = ⟨[(97, (1, 1, 1)), (45, (0, 0, 0))], (1, 1, 1), 3⟩ := by
  unfold tabOf
  rw [if_pos pts_err]
  obtain ⟨h1, h2, h3⟩ := pts_tab
  generalize (parseP ptsB).2.2 = t at h1 h2 h3
  cases t
  simp only at h1 h2 h3
  rw [h1, h2, h3]
def ptsT : CT := ⟨[(97, (1, 1, 1)), (45, (0, 0, 0))], (1, 1, 1), 3⟩
theorem pts_plain {cs : List Int} (h : ∀ c ∈ cs, c ≠ 97 ∧ c ≠ 45) : Plain ptsT 2 cs := fun c hc => by
  have := h c hc
  unfold weightOf
  rw [if_neg (by simp [inM, ptsT]; omega)]
  exact Prod.ext (by show c + 1 + 1 = c + 2; omega) rfl
theorem nil_plain (cs : List Int) : Plain t0 1 cs := fun c hc => by
  unfold weightOf
  rw [if_neg (by simp [inM, t0])]
  exact Prod.ext (by show c + 0 + 1 = c + 1; omega) rfl
/-- No byte a and no byte -: none of these characters. -/
theorem enc_byte {c : Int} (h0 : 0 ≤ c) (h1 : c < 128) : Lib.encodeRune c = [c.toNat.toUInt8] := by
  rw [Lib.encodeRune, Lib.encodeRuneZ_one h0 (by omega)]; rfl
theorem no_byte {rs : List Int} {k : Int} (h0 : 0 ≤ k) (h1 : k < 128) (h : k.toNat.toUInt8 ∉ encA rs) : ∀ c ∈ rs, c ≠ k := fun c hc e => by
  subst e
  refine h ?_
  unfold encA
  exact List.mem_flatten.2 ⟨_, List.mem_map.2 ⟨c, hc, rfl⟩, by rw [enc_byte h0 h1]; exact List.mem_singleton.2 rfl⟩
theorem pts_chars {s : ByteArray} (ht : isText s = true) (h1 : (97 : UInt8) ∉ s.data.toList) (h2 : (45 : UInt8) ∉ s.data.toList) : Chars (runesOf s) ∧ ∀ c ∈ runesOf s, c ≠ 97 ∧ c ≠ 45 := by
  have he := text_enc ht
  rw [he.1] at h1 h2
  exact ⟨he.2, fun c hc => ⟨no_byte (k := 97) (by decide) (by decide) h1 c hc, no_byte (k := 45) (by decide) (by decide) h2 c hc⟩⟩
theorem pts_cmp {a b : ByteArray} (ha : isText a = true) (hb : isText b = true) (a1 : (97 : UInt8) ∉ a.data.toList) (a2 : (45 : UInt8) ∉ a.data.toList) (b1 : (97 : UInt8) ∉ b.data.toList) (b2 : (45 : UInt8) ∉ b.data.toList) :
    cmpP (tabOf ptsB) a b = Lib.compareBytes a.data.toList b.data.toList ∧ cmpP t0 a b = Lib.compareBytes a.data.toList b.data.toList := by
  have pa := pts_chars ha a1 a2
  have pb := pts_chars hb b1 b2
  rw [(text_enc ha).1, (text_enc hb).1, cb_enc pa.1 pb.1]
  unfold cmpP keyP
  rw [pts_is, if_pos ha, if_pos hb, if_pos ha, if_pos hb]
  exact ⟨cmp_three (t := ptsT) (k := 2) (by decide) (by decide) _ _ pa.1 pb.1 (pts_plain pa.2) (pts_plain pb.2), cmp_one (t := t0) (k := 1) (by decide) (by decide) _ _ pa.1 pb.1 (nil_plain _) (nil_plain _)⟩
/-- What is listed is ahead. -/
theorem pts_ahead {a : ByteArray} (ha : isText a = true) (h0 : a.size ≠ 0) (a1 : (97 : UInt8) ∉ a.data.toList) (a2 : (45 : UInt8) ∉ a.data.toList) :
    cmpP (tabOf ptsB) ⟨#[97]⟩ a = -1 ∧ cmpP (tabOf ptsB) ⟨#[97, 97, 97]⟩ a = -1 := by
  have pa := pts_chars ha a1 a2
  have he := (text_enc ha).1
  have k1 : keyP (tabOf ptsB) ⟨#[97]⟩ = T [1] ++ ([0, 0, 0] ++ [0, 0, 1, 0, 0, 0, 0, 0, 1]) := by rw [pts_is]; decide +kernel
  have k2 : keyP (tabOf ptsB) ⟨#[97, 97, 97]⟩ = T [1, 1, 1] ++ ([0, 0, 0] ++ [0, 0, 1, 0, 0, 1, 0, 0, 1, 0, 0, 0, 0, 0, 1, 0, 0, 1, 0, 0, 1]) := by rw [pts_is]; decide +kernel
  have k3 : keyP (tabOf ptsB) a = T ((runesOf a).map (· + 2)) ++ ([0, 0, 0] ++ (levelOf ptsT 1 (runesOf a) ++ ([0, 0, 0] ++ levelOf ptsT 2 (runesOf a)))) := by
    unfold keyP
    rw [pts_is, if_pos ha]
    rw [← lev0_plain (t := ptsT) (k := 2) (by decide) _ (pts_plain pa.2) (chars_pos pa.1).1]
    exact keyK3 ptsT (runesOf a)
  have hz : ∀ n, 0 < n → n < 16777216 → ∀ u v, Lib.compareBytes (Lib.bytesOf ([0, 0, 0] ++ u)) (Lib.bytesOf (three n ++ v)) = -1 := fun n h0 h1 u v => cb_zero n h0 h1 u v
  have hr := inR_map (k := 2) (by decide) (by decide) pa.1
  have h1 : inR [1] := fun n hn => by simp at hn; omega
  have h3 : inR [1, 1, 1] := fun n hn => by simp at hn; omega
  cases hrs : runesOf a with
  | nil =>
    rw [hrs] at he
    have : a.data.toList.length = 0 := by rw [he]; rfl
    rw [← Lib.size_eq] at this
    exact absurd this h0
  | cons c cs =>
    have hc := isCharB_cases (pa.1 c (by rw [hrs]; exact List.mem_cons_self ..))
    rw [hrs] at k3 hr
    have e1 : cmpI [1] ((c :: cs).map (· + 2)) = -1 := by
      rw [List.map_cons, cmpI, if_pos (by omega)]
    have e3 : cmpI [1, 1, 1] ((c :: cs).map (· + 2)) = -1 := by
      rw [List.map_cons, cmpI, if_pos (by omega)]
    unfold cmpP cmpB
    rw [k1, k2, k3, trip _ _ _ _ h1 hr hz, trip _ _ _ _ h3 hr hz, cb_T _ _ h1 hr, cb_T _ _ h3 hr, e1, e3]
    exact ⟨rfl, rfl⟩
end Go.Proofs.YtibhifjehbajnaaDoor
