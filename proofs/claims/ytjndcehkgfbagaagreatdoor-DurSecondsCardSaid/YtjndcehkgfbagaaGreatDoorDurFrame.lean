/- What a row's list of variables and the shape of its worlds give the walks on durations; one world that fits. -/
import Derived.Test.YtjndcehkgfbagaaGreatDoorNi
import Derived.Test.YtjndcehkgfbagaaGreatDoorCards
import Derived.Test.YtjndcehkgfbagaaGreatDoorTie
import Derived.ProofKit
import Derived.OpenShut
import Derived.Deep.DeepHandedRow
import Derived.Deep.DeepWitnessRowRef
import Derived.Lib.LaidTab
import Derived.Lay
namespace Go.Proofs.YtjndcehkgfbagaaGreatDoor
open Go.ChangeShapes Go.WideShapes Go.ChangeAt Go.RowKit
set_option linter.unusedVariables false

theorem own : ownKnob Tryz.prog.godebug = none := by kernel_rfl
noncomputable abbrev lst := Rows.durKnownRow.laid
theorem gTabType : (Tryz.prog.globals[4]?).map (·.type) = some 175 := by kernel_rfl
theorem plainL : (lst.filter fun x => x.2.handleName?.isSome) = [] := by kernel_rfl
theorem tab_data {H : Type} : (Rows.laid_internal_strconv_uint64pow10 : DataW H) = Lib.tabData .u64 Lib.pow10Tab := rfl

theorem tab_of {W : World} (hL : laidMetH Tryz.prog lst W) : Lib.TabIs Tryz.prog W "internal/strconv.uint64pow10" .u64 Lib.pow10Tab := by
  unfold laidMetH at hL
  rw [plainL] at hL
  obtain ⟨ps, hv, _⟩ := hL
  obtain ⟨_, _, _, _, _, _, _, _, _, _, hv, _⟩ := hv
  obtain ⟨_, _, _, _, _, _, _, _, _, _, hv, _⟩ := hv
  obtain ⟨g, t, cs, fuel, p, q, hg, ht, hvar, hd, _⟩ := hv
  obtain rfl := Option.some.inj (tab_named.symm.trans hg)
  obtain rfl := Option.some.inj (gTabType.symm.trans ht)
  rw [tab_data] at hd
  have h := Lib.cells_of_tab Tryz.underlying175 Tryz.underlying108 (by kernel_rfl) (by kernel_rfl) hd
  unfold Lib.TabIs
  rw [hvar, ← h]

theorem nGlobals : Tryz.prog.globals.size = 8 := by kernel_rfl
theorem row7 : (((begin Tryz.prog (fun _ _ => 0) default).world.heap[7]?).bind Obj.row?).isSome = true := by kernel_rfl
theorem laidW_of {W : World} (hs : W.ShapedOpen Tryz.prog) (hL : laidMetH Tryz.prog lst W) : LaidD W := by
  refine ⟨⟨?_, cell_of_shapedOpen_int (g := 5) (t := 3) (zero := #[.int .i64 0]) (k := .i64) hs (by rw [nGlobals]; decide) (by kernel_rfl) rfl (by kernel_rfl) (by kernel_rfl) Tryz.underlying3⟩, tab_of hL⟩
  obtain ⟨⟨z, t⟩, hz⟩ := Option.isSome_iff_exists.1 row7
  obtain ⟨cs, hh, _⟩ := hs.1 7 z t (by rw [nGlobals]; decide) hz
  rcases Nat.lt_or_ge 7 W.heap.size with h | h
  · exact h
  · rw [Array.getElem?_eq_none h] at hh; cases hh

/-- One world that fits: the settled one, the listed variables laid. -/
noncomputable def laidWorld (os : Os) : World := World.laidAll Tryz.prog os lst
theorem laid_met (os : Os) (args : Array Value) : laidMetH Tryz.prog lst ((laidWorld os).forCall (fun _ _ => 0) ⟨#[], args, []⟩).memory := by
  unfold laidMetH
  rw [plainL]
  exact laidMet_laidAll args (by kernel_rfl) (by kernel_rfl)
end Go.Proofs.YtjndcehkgfbagaaGreatDoor
