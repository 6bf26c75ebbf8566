/- An array of seven numbers as an argument: read, and read again. -/
import Derived.Test.YtjndcehkgfbagaaGreatDoorDurFrame
namespace Go.Proofs.YtjndcehkgfbagaaGreatDoor
open Go.ChangeShapes Go.WideShapes Go.ChangeAt Go.RowKit
set_option linter.unusedVariables false

section
variable {H : Type} {enc : TypeId × Value → H} {W : World} {base : Nat} {sp : Nat → Bool} {held : Bool}
theorem size7 : Tryz.prog.cellsOf 36 = 7 := by kernel_rfl
theorem size1 : Tryz.prog.cellsOf 35 = 1 := by kernel_rfl
theorem one_u16 {m : Nat} {cs : List Value} {x : DataW H × List MemPlace} (h : DataW.trod enc Tryz.prog W base sp held m 35 cs = some x) : ∃ n : Nat, cs = [.int .u16 n] ∧ x = (.lit (.int .u16 n), []) ∧ n < 65536 := by
  obtain ⟨n, h1, h2, h3⟩ := DataW.trod_int Tryz.underlying35 h
  have := bounds_u16 h3
  obtain ⟨k, rfl⟩ : ∃ k : Nat, n = (k : Int) := ⟨n.toNat, by omega⟩
  exact ⟨k, h1, h2, by omega⟩
theorem open_arr7 {v : Value} {d : DataW H} {p : List MemPlace} (h : DataW.Trod enc Tryz.prog W base sp held 36 v d p) (hv : ∃ cs : Array Value, v = .agg cs) :
    ∃ n0 n1 n2 n3 n4 n5 n6 : Nat, v = .agg #[.int .u16 n0, .int .u16 n1, .int .u16 n2, .int .u16 n3, .int .u16 n4, .int .u16 n5, .int .u16 n6] ∧ p = [] ∧ d = .agg [.lit (.int .u16 n0), .lit (.int .u16 n1), .lit (.int .u16 n2), .lit (.int .u16 n3), .lit (.int .u16 n4), .lit (.int .u16 n5), .lit (.int .u16 n6)] ∧
      n0 < 65536 ∧ n1 < 65536 ∧ n2 < 65536 ∧ n3 < 65536 ∧ n4 < 65536 ∧ n5 < 65536 ∧ n6 < 65536 := by
  obtain ⟨cs, rfl⟩ := hv
  obtain ⟨fuel, hf⟩ := h
  obtain ⟨xs, m, rfl, hx, hl, hxl, hi⟩ := DataW.trod_array Tryz.underlying36 hf
  rw [size7] at hl
  rw [size1] at hi
  obtain ⟨x0, x1, x2, x3, x4, x5, x6, rfl⟩ : ∃ x0 x1 x2 x3 x4 x5 x6, xs = [x0, x1, x2, x3, x4, x5, x6] := by
    match xs, hxl with
    | [x0, x1, x2, x3, x4, x5, x6], _ => exact ⟨x0, x1, x2, x3, x4, x5, x6, rfl⟩
  obtain ⟨c0, c1, c2, c3, c4, c5, c6, hc⟩ : ∃ c0 c1 c2 c3 c4 c5 c6, cs.toList = [c0, c1, c2, c3, c4, c5, c6] := by
    have hl' : cs.toList.length = 7 := hl
    match cs.toList, hl' with
    | [c0, c1, c2, c3, c4, c5, c6], _ => exact ⟨c0, c1, c2, c3, c4, c5, c6, rfl⟩
  have hcs : (Value.agg cs).cells.toList = [c0, c1, c2, c3, c4, c5, c6] := hc
  rw [hcs] at hi
  obtain ⟨n0, e0, f0, b0⟩ := one_u16 (hi 0 (by decide))
  obtain ⟨n1, e1, f1, b1⟩ := one_u16 (hi 1 (by decide))
  obtain ⟨n2, e2, f2, b2⟩ := one_u16 (hi 2 (by decide))
  obtain ⟨n3, e3, f3, b3⟩ := one_u16 (hi 3 (by decide))
  obtain ⟨n4, e4, f4, b4⟩ := one_u16 (hi 4 (by decide))
  obtain ⟨n5, e5, f5, b5⟩ := one_u16 (hi 5 (by decide))
  obtain ⟨n6, e6, f6, b6⟩ := one_u16 (hi 6 (by decide))
  simp only [List.drop, List.take, List.cons.injEq, and_true] at e0 e1 e2 e3 e4 e5 e6
  subst f0 f1 f2 f3 f4 f5 f6
  rw [e0, e1, e2, e3, e4, e5, e6] at hc
  have hcs2 : cs = #[.int .u16 n0, .int .u16 n1, .int .u16 n2, .int .u16 n3, .int .u16 n4, .int .u16 n5, .int .u16 n6] := by
    have := congrArg List.toArray hc
    simpa using this
  injection hx with hd hp
  exact ⟨n0, n1, n2, n3, n4, n5, n6, by rw [hcs2], by rw [hp]; rfl, by rw [hd]; rfl, b0, b1, b2, b3, b4, b5, b6⟩
theorem shut_arr7 {n0 n1 n2 n3 n4 n5 n6 : Nat} (b0 : n0 < 65536) (b1 : n1 < 65536) (b2 : n2 < 65536) (b3 : n3 < 65536) (b4 : n4 < 65536) (b5 : n5 < 65536) (b6 : n6 < 65536) :
    DataW.Trod enc Tryz.prog W base sp held 36 (.agg #[.int .u16 n0, .int .u16 n1, .int .u16 n2, .int .u16 n3, .int .u16 n4, .int .u16 n5, .int .u16 n6]) (.agg [.lit (.int .u16 n0), .lit (.int .u16 n1), .lit (.int .u16 n2), .lit (.int .u16 n3), .lit (.int .u16 n4), .lit (.int .u16 n5), .lit (.int .u16 n6)]) [] := by
  have hw : ∀ n : Nat, n < 65536 → (Lit.int .u16 (n : Int)).wf = true := fun n h => by
    simp [Lit.wf, IntKind.min, IntKind.max, IntKind.signed, IntKind.bits]; omega
  refine ⟨2, ?_⟩
  simp [DataW.trod, Tryz.underlying36, Tryz.underlying35, size7, size1, Value.cells, hw n0 b0, hw n1 b1, hw n2 b2, hw n3 b3, hw n4 b4, hw n5 b5, hw n6 b6, List.range, List.range.loop]
end
end Go.Proofs.YtjndcehkgfbagaaGreatDoor
