/- What a row's list of variables and the shape of its worlds give the walks on collations; one world that fits. -/
import Derived.Test.YtibhifjehbajnaaDoorMc
import Derived.Test.YtibhifjehbajnaaDoorCards
import Derived.Test.YtibhifjehbajnaaDoorTie
import Derived.ProofKit
import Derived.OpenShut
import Derived.Deep.DeepHandedRow
import Derived.Deep.DeepWitnessRowRef
import Derived.Lib.LaidTab
import Derived.Lay
namespace Go.Proofs.YtibhifjehbajnaaDoor
open Go.ChangeShapes Go.WideShapes Go.ChangeAt Go.RowKit
set_option linter.unusedVariables false

theorem own : ownKnob Tryd.prog.godebug = none := by kernel_rfl
noncomputable abbrev lst := Rows.collKnownRow.laid
theorem gSyn : Tryd.prog.globalNamed "strconv.ErrSyntax" = some 3 := by kernel_rfl
theorem gSynType : (Tryd.prog.globals[3]?).map (·.type) = some 62 := by kernel_rfl
theorem plainL : (lst.filter fun x => x.2.handleName?.isSome) = [] := by kernel_rfl

theorem syn_of {W : World} (hL : laidMetH Tryd.prog lst W) : ∃ ev, W.cell? ⟨3, 0, none⟩ = some ev ∧ (ev = .nilIface ∨ ∃ te pe, ev = .iface te pe) := by
  unfold laidMetH at hL
  rw [plainL] at hL
  obtain ⟨ps, hv, _⟩ := hL
  obtain ⟨_, _, _, _, _, _, _, _, _, _, hv, _⟩ := hv
  obtain ⟨_, _, _, _, _, _, _, _, _, _, hv, _⟩ := hv
  obtain ⟨_, _, _, _, _, _, _, _, _, _, hv, _⟩ := hv
  obtain ⟨_, _, _, _, _, _, _, _, _, _, hv, _⟩ := hv
  obtain ⟨_, _, _, _, _, _, _, _, _, _, hv, _⟩ := hv
  obtain ⟨g, t, cs, fuel, p, q, hg, ht, hvar, hd, _⟩ := hv
  obtain rfl := Option.some.inj (gSyn.symm.trans hg)
  obtain rfl := Option.some.inj (gSynType.symm.trans ht)
  obtain ⟨_, u, v, ec, _⟩ := iface_of_trod (Tryd.underlying62) hd
  refine ⟨.iface u v, ?_, .inr ⟨u, v, rfl⟩⟩
  rw [World.var?_cell gSyn hvar 0]
  have : cs.toList[0]? = some (.iface u v) := by rw [ec]; rfl
  simpa using this

theorem nGlobals : Tryd.prog.globals.size = 8 := by kernel_rfl
theorem row7 : (((begin Tryd.prog (fun _ _ => 0) default).world.heap[7]?).bind Obj.row?).isSome = true := by kernel_rfl
theorem laidW_of {W : World} (hs : W.ShapedOpen Tryd.prog) (hL : laidMetH Tryd.prog lst W) : LaidW W := by
  refine ⟨?_, cell_of_shapedOpen_int (g := 0) (t := 3) (zero := #[.int .i64 0]) (k := .i64) hs (by rw [nGlobals]; decide) (by kernel_rfl) rfl (by kernel_rfl) (by kernel_rfl) Tryd.underlying3, syn_of hL⟩
  obtain ⟨⟨z, t⟩, hz⟩ := Option.isSome_iff_exists.1 row7
  obtain ⟨cs, hh, _⟩ := hs.1 7 z t (by rw [nGlobals]; decide) hz
  rcases Nat.lt_or_ge 7 W.heap.size with h | h
  · exact h
  · rw [Array.getElem?_eq_none h] at hh; cases hh

/-- One world that fits: the settled one, the listed variables laid. -/
noncomputable def laidWorld (os : Os) : World := World.laidAll Tryd.prog os lst
theorem laid_met (os : Os) (args : Array Value) : laidMetH Tryd.prog lst ((laidWorld os).forCall (fun _ _ => 0) ⟨#[], args, []⟩).memory := by
  unfold laidMetH
  rw [plainL]
  exact laidMet_laidAll args (by kernel_rfl) (by kernel_rfl)
end Go.Proofs.YtibhifjehbajnaaDoor
