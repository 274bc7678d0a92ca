/- Layer 37: what the rows' list gives: the variable 'legal' holds its table, cell for cell. -/
import Derived.Test.YtfcihloebncmdaaDoorB
import Derived.Test.YtfcihloebncmdaaDoorCards
import Derived.Test.YtfcihloebncmdaaDoorTie
import Derived.Deep.DeepHandedRow
import Derived.Lib.LaidTab
namespace Go.Proofs.YtfcihloebncmdaaDoor
open Go.ChangeShapes Go.WideShapes Go.ChangeAt Go.RowKit

theorem gTab : Tryd.prog.globalNamed "faas/instance.legal" = some 0 := by kernel_rfl
theorem gTabType : (Tryd.prog.globals[0]?).map (·.type) = some 48 := by kernel_rfl
theorem cells48 : Tryd.prog.cellsOf 48 = 48 := by kernel_rfl
theorem cells47 : Tryd.prog.cellsOf 47 = 8 := by kernel_rfl
theorem cells22 : Tryd.prog.cellsOf 22 = 1 := by kernel_rfl

def legR : List (List Int) := [[0, 0, 0, 0, 0, 0, 0, 0], [0, 2, 0, 0, 0, 0, 0, 5], [0, 0, 3, 0, 4, 0, 5, 5], [0, 0, 0, 2, 0, 0, 0, 5], [0, 0, 0, 0, 0, 2, 5, 5], [0, 0, 0, 0, 0, 0, 0, 0]]
theorem legR_len : ∀ i : Fin 6, (legR.getD i.val []).length = 8 := by decide
theorem legR_at : ∀ i : Fin 6, ∀ j : Fin 8, legT.getD (i.val * 8 + j.val) 0 = (legR.getD i.val []).getD j.val 0 := by decide
theorem legR_dat {H : Type} : (Rows.laid_faas_instance_legal : DataW H) = .agg (legR.map (Lib.tabData .i64)) := rfl

theorem row_cells {H : Type} {enc : TypeId × Value → H} {w : World} {base : Nat} {sp : Nat → Bool} {held : Bool} {fuel : Nat} {cs : List Value} {p : List MemPlace}
    (h : DataW.trod enc Tryd.prog w base sp held fuel 48 cs = some (.agg (legR.map (Lib.tabData .i64)), p)) (k : Nat) (hk : k < 48) : cs[k]? = some (.int .i64 (legT.getD k 0)) := by
  obtain ⟨xs, m, _, hx, hlen, hxl, hrow⟩ := DataW.trod_array Tryd.underlying48 h
  have hi : k / 8 < 6 := by omega
  have hj : k % 8 < 8 := Nat.mod_lt _ (by decide)
  have h1 := hrow (k / 8) hi
  have hx1 : xs.map (·.1) = legR.map (Lib.tabData .i64) := by
    have := congrArg Prod.fst hx
    simpa using this.symm
  have hxi : xs[k / 8]? = some (xs[k / 8]'(by omega)) := List.getElem?_eq_getElem (by omega)
  have hd : (xs[k / 8]'(by omega)).1 = Lib.tabData .i64 (legR.getD (k / 8) []) := by
    have h2 := congrArg (·[k / 8]?) hx1
    simp only [List.getElem?_map, hxi, Option.map_some] at h2
    have h3 : legR[k / 8]? = some (legR.getD (k / 8) []) := by
      rw [List.getElem?_eq_getElem (by show k / 8 < 6; omega)]
      simp [List.getD, List.getElem?_eq_getElem (show k / 8 < legR.length by show k / 8 < 6; omega)]
    rw [h3] at h2
    simpa using h2
  rw [hxi, cells47] at h1
  have h4 : DataW.trod enc Tryd.prog w base sp held m 47 ((cs.drop (k / 8 * 8)).take 8) = some (Lib.tabData .i64 (legR.getD (k / 8) []), (xs[k / 8]'(by omega)).2) := by
    rw [h1, ← hd]
  have h5 := Lib.cells_of_tab Tryd.underlying47 Tryd.underlying22 cells22 cells47 h4
  have h6 := congrArg (·[k % 8]?) h5
  have hll := legR_len ⟨k / 8, hi⟩
  have hat := legR_at ⟨k / 8, hi⟩ ⟨k % 8, hj⟩
  simp only at hll hat
  simp only [List.getElem?_take, List.getElem?_drop, List.getElem?_map, if_pos hj] at h6
  rw [show k / 8 * 8 + k % 8 = k by omega] at h6 hat
  rw [h6, hat]
  clear h6 hat h5 h4 hd h1
  generalize legR.getD (k / 8) [] = r at *
  have hr : k % 8 < r.length := by omega
  simp [List.getD, hr]

/-- What the list of a row gives. -/
theorem tab_of {W : World} (h : laidMet Tryd.prog [("faas/instance.legal", Rows.laid_faas_instance_legal)] W) : Tab W := by
  obtain ⟨ps, ⟨g', t', cs, fuel, p, q, hg', ht', hvar, hd, _, _⟩, _⟩ := h
  obtain rfl := Option.some.inj (gTab.symm.trans hg')
  obtain rfl := Option.some.inj (gTabType.symm.trans ht')
  rw [legR_dat] at hd
  have hc : ∀ i, i < 48 → W.cell? ⟨0, i, none⟩ = some (.int .i64 (legT.getD i 0)) := by
    intro i hi
    have h1 := World.var?_cell gTab hvar i
    have h2 := row_cells hd i hi
    rw [h1]
    simpa using h2
  exact ⟨World.block_lt_of_cell? W ⟨0, 0, none⟩ (hc 0 (by omega)), hc⟩

/-- A world for the witnesses: the settled one, the table as its initialiser lays it. -/
noncomputable def laidWorld (os : Os) : World :=
  { World.holding Tryd.prog os ⟨#[], #[], []⟩ with heap := (World.holding Tryd.prog os ⟨#[], #[], []⟩).heap.modify 0 fun
      | .cells _ t frozen => .cells #[.int .i64 0, .int .i64 0, .int .i64 0, .int .i64 0, .int .i64 0, .int .i64 0, .int .i64 0, .int .i64 0, .int .i64 0, .int .i64 2, .int .i64 0, .int .i64 0, .int .i64 0, .int .i64 0, .int .i64 0, .int .i64 5, .int .i64 0, .int .i64 0, .int .i64 3, .int .i64 0, .int .i64 4, .int .i64 0, .int .i64 5, .int .i64 5, .int .i64 0, .int .i64 0, .int .i64 0, .int .i64 2, .int .i64 0, .int .i64 0, .int .i64 0, .int .i64 5, .int .i64 0, .int .i64 0, .int .i64 0, .int .i64 0, .int .i64 0, .int .i64 2, .int .i64 5, .int .i64 5, .int .i64 0, .int .i64 0, .int .i64 0, .int .i64 0, .int .i64 0, .int .i64 0, .int .i64 0, .int .i64 0] t frozen
      | o => o }
theorem own37 : ownKnob Tryd.prog.godebug = none := by kernel_rfl
theorem laidOut37 : laidOutB Tryd.prog = true := by kernel_rfl
end Go.Proofs.YtfcihloebncmdaaDoor
