/- CollIgnored: the walk of the statement. -/
import Derived.Test.YtibhifjehbajnaaDoorIgn
import Derived.Test.YtibhifjehbajnaaDoorOrder
import Derived.Test.YtibhifjehbajnaaDoorShelf2
import Derived.Laws.Cover4
import Derived.Laws.Runes
namespace Go.Proofs.YtibhifjehbajnaaDoor
open Go.RowKit Go.Maps
set_option linter.unusedVariables false

def igT (a w : ByteArray) : ByteArray := a ++ (nl ++ (igS ++ w))
theorem ig_is (a w : ByteArray) : (a ++ ⟨#[10, 105, 103, 110, 111, 114, 101, 32]⟩) ++ w = igT a w := by
  apply data_inj
  simp [igT, nl, igS]
theorem igT_size (a w : ByteArray) : (igT a w).size = a.size + 8 + w.size := by
  unfold igT
  rw [size_app, size_app, size_app]
  have : nl.size = 1 := rfl
  have : igS.size = 7 := rfl
  omega
theorem encode_data {c : Int} (hc : isCharB c = true) : (Utf8.encode c).data.toList = Lib.encodeRune c := by
  have hn := isCharB_cases hc
  have hv : Utf8.valid c = true := by rw [validRune_eq]; unfold validRune; simp; omega
  unfold Utf8.encode
  simp only [hv, if_true]
  have key : ∀ z : Int, 0 ≤ z → z < 256 → UInt8.ofNat z.toNat = z.toNat.toUInt8 := fun z _ _ => rfl
  have u8e : ∀ (x : Nat) (z : Int), (x : Int) = z → UInt8.ofNat x = z.toNat.toUInt8 := fun x z h => by subst h; rfl
  rcases (show c < 128 ∨ (128 ≤ c ∧ c ≤ 2047) ∨ (2048 ≤ c ∧ c ≤ 65535) ∨ 65536 ≤ c by omega) with k | k | k | k
  · rw [if_pos (by omega), Lib.encodeRune, Lib.encodeRuneZ_one (by omega) (by omega)]
    simp only [List.map_cons, List.map_nil]
  · rw [if_neg (by omega), if_pos (by omega), Lib.encodeRune, Lib.encodeRuneZ_two (by omega) (by omega)]
    simp only [List.map_cons, List.map_nil]
    rw [u8e _ (192 + c / 64) (by omega), u8e _ (128 + c % 64) (by omega)]
  · rw [if_neg (by omega), if_neg (by omega), if_pos (by omega), Lib.encodeRune, Lib.encodeRuneZ_three (by omega)]
    simp only [List.map_cons, List.map_nil]
    rw [u8e _ (224 + c / 4096) (by omega), u8e _ (128 + c / 64 % 64) (by omega), u8e _ (128 + c % 64) (by omega)]
  · rw [if_neg (by omega), if_neg (by omega), if_neg (by omega), Lib.encodeRune, Lib.encodeRuneZ_four (by omega) (by omega)]
    simp only [List.map_cons, List.map_nil]
    rw [u8e _ (240 + c / 262144) (by omega), u8e _ (128 + c / 4096 % 64) (by omega), u8e _ (128 + c / 64 % 64) (by omega), u8e _ (128 + c % 64) (by omega)]
theorem foldl_data : ∀ (ns : List Int) (s : ByteArray), Chars ns → (ns.foldl (fun r n => r ++ Utf8.encode n) s).data.toList = s.data.toList ++ encA ns
  | [], s, _ => by simp [encA]
  | n :: ns, s, h => by
    rw [List.foldl_cons, foldl_data ns _ (fun x hx => h x (List.mem_cons_of_mem _ hx)), encA_cons]
    have e := encode_data (h n (List.mem_cons_self ..))
    have e2 : (s ++ Utf8.encode n).data.toList = s.data.toList ++ (Utf8.encode n).data.toList := by simp
    rw [e2, e, List.append_assoc]
theorem runesBytes_data {ns : List Int} (h : Chars ns) : (runesBytes ns).data.toList = encA ns := by
  unfold runesBytes
  rw [foldl_data ns _ h]; simp
/-- The runes of a string as Go's conversion lays them. -/
theorem conv_runes (s : ByteArray) : ∀ (f p : Nat) (acc : Array Value), Conv.runesFrom s f p acc = acc ++ ((runesFrom s f p).map (Value.int .i32)).toArray
  | 0, p, acc => by simp [Conv.runesFrom, runesFrom]
  | f + 1, p, acc => by
    simp only [Conv.runesFrom, runesFrom]
    by_cases hp : p < s.size
    · rw [if_pos hp, if_pos hp, conv_runes s f _ _]
      apply Array.ext'
      simp
    · rw [if_neg hp, if_neg hp]; simp
theorem runes_conv2 (s : ByteArray) (W : World) (hs : s.size ≤ 1048576) : ∃ (cap : Nat) (W' : World),
    (convert 9 54 (.string s)).run Tryd.prog W = .ok (.slice (some ⟨W.heap.size, 0, none⟩) (runesOf s).length cap) W' ∧ (∀ i (h : i < (runesOf s).length), W'.cell? ⟨W.heap.size, i, none⟩ = some (.int .i32 ((runesOf s)[i]))) ∧ (runesOf s).length ≤ cap ∧ Below W.heap.size W W' := by
  have hc : Conv.runesFrom s s.size 0 #[] = ((runesOf s).map (Value.int .i32)).toArray := by rw [conv_runes]; simp [runesOf]
  have hz : (Conv.runesFrom s s.size 0 #[]).size = (runesOf s).length := by rw [hc]; simp
  have hl : (runesOf s).length ≤ s.size := by have := runesOf_len s; omega
  have hr := run_runes_of_string (P := Tryd.prog) W 9 54 21 s Tryd.underlying9 Tryd.underlying54 Tryd.underlying21 (by rw [hz]; omega)
  rw [hz, hc] at hr
  refine ⟨_, _, hr, fun i hi => ?_, ?_, ((Below.refl _ W).drew).alloc (by simp) _⟩
  · have e : ∀ cs : Array Value, (W.drew.alloc (.cells cs 21)).heap[W.heap.size]? = some (.cells cs 21 (0, 0)) := fun cs => by
      simp [World.alloc, World.drew, -World.alloc_eq, -World.drew_eq]
    rw [Lib.cell_of_heap (e _), Array.getElem?_append_left (by simpa using hi)]
    simp [hi]
  · exact grownCap_ge W _ 0 21

theorem ign_keys (a s w P1 P2 : ByteArray) (k : Nat) (ha : a.size ≤ 2000) (hs : isText s = true) (hl : lenOf w = 1) (he : (parseP (igT a w)).2.1 = 0) (hk : k ≤ (runesOf s).length)
    (h1 : P1.data.toList = encA ((runesOf s).take k)) (h2 : P2.data.toList = encA ((runesOf s).drop k)) :
    keyP (tabOf (igT a w)) ((P1 ++ w) ++ P2) = keyP (tabOf (igT a w)) s ∧ keyP (tabOf (igT a w)) ⟨(Lib.replaceAll s.data.toList w.data.toList []).toArray⟩ = keyP (tabOf (igT a w)) s := by
  obtain ⟨htw, c, hrw, hc, hw⟩ := lenOf_one hl
  have hwt : weightOf (tabOf (igT a w)) c = (0, 0, 0) := ig_weight a w c ha hc hw hl he
  have hts := text_enc hs
  have hct : Chars ((runesOf s).take k) := fun x hx => hts.2 x (List.mem_of_mem_take hx)
  have hcd : Chars ((runesOf s).drop k) := fun x hx => hts.2 x (List.mem_of_mem_drop hx)
  have e1 : ((P1 ++ w) ++ P2).data.toList = encA ((runesOf s).take k ++ c :: (runesOf s).drop k) := by
    have : ((P1 ++ w) ++ P2).data.toList = P1.data.toList ++ (w.data.toList ++ P2.data.toList) := by simp
    rw [this, h1, h2, hw, encA_app, encA_cons]
  have t1 := enc_text (s := (P1 ++ w) ++ P2) (fun x hx => (List.mem_append.1 hx).elim (hct x) (fun hx => (List.mem_cons.1 hx).elim (fun e => by rw [e]; exact hc) (hcd x))) e1
  have e2 : (⟨(Lib.replaceAll s.data.toList w.data.toList []).toArray⟩ : ByteArray).data.toList = encA ((runesOf s).filter (· != c)) := by
    rw [hts.1, hw, replaceAll_enc hc hts.2]
  have t2 := enc_text (s := ⟨(Lib.replaceAll s.data.toList w.data.toList []).toArray⟩) (fun x hx => hts.2 x (List.mem_filter.1 hx).1) e2
  refine ⟨key_of_levels t1.1 hs fun j => ?_, key_of_levels t2.1 hs fun j => ?_⟩
  · rw [t1.2, level_ig hwt, List.take_append_drop]
  · rw [t2.2, level_out hwt]
end Go.Proofs.YtibhifjehbajnaaDoor
