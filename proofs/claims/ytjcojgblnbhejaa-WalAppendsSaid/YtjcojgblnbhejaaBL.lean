/- Arguments that are slices of strings; lengths of what splitting finds. -/
import Derived.Test.YtjcojgblnbhejaaBD
import Derived.SliceStrings
import Derived.SizedLaws
namespace Go.Proofs.Ytjcojgblnbhejaa
open Go.ChangeShapes Go.WideShapes Go.ChangeAt Go.RowKit

theorem weights_strs {H : Type} {P : Program} {e : TypeId} {s : ByteArray} : ∀ {ss : List ByteArray}, s ∈ ss → s.size ∈ DataW.weightsAll (H := H) P e (Go.ChangeShapes.strs ss)
  | x :: ss, h => by
    show s.size ∈ DataW.weights P e (.lit (.string x.data.toList)) ++ DataW.weightsAll P e (Go.ChangeShapes.strs ss)
    rw [List.mem_append]
    rcases List.mem_cons.1 h with rfl | h
    · exact .inl (by simp [DataW.weights])
    · exact .inr (weights_strs h)
theorem sized_each {H : Type} {P : Program} {ts : List TypeId} {ds : List (DataW H)} (h : (DataW.weightsEach P ts ds).all (· ≤ reachBytes) = true) {j : Nat} {t : TypeId} {d : DataW H} (ht : ts[j]? = some t) (hd : ds[j]? = some d) : ∀ n ∈ d.weights P t, n ≤ 140737488355328 := fun n hn => by
  have := List.all_eq_true.1 h _ (DataW.weights_mem_each ht hd n hn)
  have h2 : n ≤ reachBytes := by simpa using this
  have := reachBytes_lt
  omega
theorem seg_of_strs {H : Type} {enc : TypeId × Value → H} {P : Program} {w : World} {base : Nat} {spare : Nat → Bool} {held : Bool} {t e : TypeId} {fuel : Nat} {cs : List Value} {x : DataW H × List MemPlace} {A : Option Addr} {len cap : Nat}
    (ht : P.underlying t = some (.slice e)) (he : P.underlying e = some .string) (hc : P.cellsOf e = 1) (hb16 : P.bytesOf e = 16) (h : DataW.trod enc P w base spare held fuel t cs = some x) (hcs : cs = [.slice A len cap]) (hz : ∀ n ∈ x.1.weights P t, n ≤ 140737488355328) :
    ∃ l : List (List UInt8), l.length = len ∧ Strs w (.slice A len cap) l ∧ (∀ y ∈ l, y.length ≤ 140737488355328) ∧ len ≤ 140737488355328 := by
  rcases Go.ChangeShapes.open_strings ht he hc h with ⟨h1, _⟩ | ⟨a, l, c, ss, h1, _, hl, _, hsl, hx, hcell, _⟩
  · rw [hcs] at h1
    simp only [List.cons.injEq, Value.slice.injEq, and_true] at h1
    obtain ⟨rfl, rfl, rfl⟩ := h1
    exact ⟨[], rfl, Strs.nil w, (fun n hn => absurd hn (by simp)), by omega⟩
  · rw [hcs] at h1
    simp only [List.cons.injEq, Value.slice.injEq, and_true] at h1
    obtain ⟨rfl, rfl, rfl⟩ := h1
    have hlen : len ≤ ss.length := by rw [hsl]; split <;> omega
    have hle : ((ss.take len).map fun s => s.data.toList).length = len := by simp; omega
    subst hx
    have hw : DataW.weights P t (.slice (Go.ChangeShapes.strs (H := H) (ss.take len)) (Go.ChangeShapes.strs (ss.drop len))) = ((Go.ChangeShapes.strs (H := H) (ss.take len)).length + (Go.ChangeShapes.strs (H := H) (ss.drop len)).length) * P.bytesOf e :: (DataW.weightsAll P e (Go.ChangeShapes.strs (H := H) (ss.take len)) ++ DataW.weightsAll P e (Go.ChangeShapes.strs (H := H) (ss.drop len))) := by
      simp [DataW.weights, ht]
    simp only [hw] at hz
    have hlz := hz _ List.mem_cons_self
    rw [hb16] at hlz
    have hl1 : (Go.ChangeShapes.strs (H := H) (ss.take len)).length = len := by simp [Go.ChangeShapes.strs]; omega
    refine ⟨(ss.take len).map fun s => s.data.toList, hle, ⟨some a, cap, by rw [hle], fun k hk => ?_, (fun h => by cases h), by rw [hle]; exact hl⟩, fun y hy => ?_, by omega⟩
    · rw [hle] at hk
      have hck := hcell k (by omega)
      obtain ⟨b, off, p⟩ := a
      have hp : p = none := by simpa [Addr.add] using World.cell?_spot (hcell 0 (by omega))
      subst hp
      rw [Go.WideShapes.add_plain] at hck
      refine ⟨b, off, rfl, World.block_lt_of_cell? w ⟨b, off + k, none⟩ hck, ?_⟩
      rw [hck]
      unfold Go.Proofs.Ytjcojgblnbhejaa.strs
      rw [List.getD_eq_getElem?_getD, List.getD_eq_getElem?_getD, List.getElem?_map, List.getElem?_take_of_lt hk, List.getElem?_eq_getElem (show k < ss.length by omega)]
      simp [bs]
    · simp only [List.mem_map] at hy
      obtain ⟨s, hs, rfl⟩ := hy
      rw [Array.length_toList]
      exact hz _ (List.mem_cons_of_mem _ (List.mem_append_left _ (weights_strs hs)))
theorem splitF_len (f : Nat) (s : List UInt8) : (splitF f s).1.length ≤ s.length := by
  induction f generalizing s with
  | zero => simp [splitF]
  | succ f ih =>
    rw [splitF]
    by_cases h : (openV s).e = 0
    · obtain ⟨h1, h2, _⟩ := open_ok h
      rw [if_pos h, List.length_cons]
      have := ih (s.drop (openV s).n)
      rw [List.length_drop] at this
      omega
    · rw [if_neg h]
      simp
theorem splitV_len (s : List UInt8) : (splitV s).1.length ≤ s.length := splitF_len _ s
/-- Equal lists. -/
theorem same_yes (v u : Value) (l : List (List UInt8)) (w : World) (hv : Strs w v l) (hu : Strs w u l) (hmax : l.length ≤ 1000000) : Calls Try.prog 13 #[v, u] w fun e w' => e = .returned (.bool true) ∧ Below w.heap.size w w' := by
  have h := same_any v u l l w hv hu hmax
  rw [decide_eq_true rfl] at h
  exact h
end Go.Proofs.Ytjcojgblnbhejaa
