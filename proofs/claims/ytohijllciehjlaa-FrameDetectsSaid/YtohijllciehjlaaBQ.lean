/- One changed byte, in plain words; a string as bytes, one of them stored, and back. -/
import Derived.Test.YtohijllciehjlaaBM
namespace Go.Proofs.Ytohijllciehjlaa
open Go.ChangeShapes Go.WideShapes Go.ChangeAt Go.RowKit

theorem xor_ne (a d : UInt8) (h : d ≠ 0) : a ^^^ d ≠ a := by
  intro e
  apply h
  have h2 : (a ^^^ d).toNat = a.toNat := by rw [e]
  rw [UInt8.toNat_xor] at h2
  have h3 : a.toNat ^^^ (a.toNat ^^^ d.toNat) = a.toNat ^^^ a.toNat := by rw [h2]
  rw [← Nat.xor_assoc, Nat.xor_self, Nat.zero_xor] at h3
  exact UInt8.toNat_inj.1 h3
theorem set_ne (l : List UInt8) (i : Nat) (x : UInt8) (hi : i < l.length) (hx : x ≠ l.getD i 0) : l.set i x ≠ l := by
  intro e
  apply hx
  have h : (l.set i x)[i]? = l[i]? := by rw [e]
  rw [List.getElem?_set_self hi, List.getElem?_eq_getElem hi] at h
  rw [List.getD_eq_getElem?_getD, List.getElem?_eq_getElem hi]
  exact Option.some.inj h
theorem four_inj (h : List UInt8) (n : Nat) (hl : h.length = 4) (m : List UInt8) (e : val4 (h ++ m) = n) : h = num4 n := by
  have h2 := num4_val4 (h ++ m) (by rw [List.length_append]; omega)
  rw [e, List.take_append_of_le_length (by omega), List.take_of_length_le (by omega)] at h2
  exact h2.symm
theorem open_parts (s : List UInt8) (h0 : (openV s).e = 0) : (openV s).body = (s.drop 8).take (val4 s) ∧ crcV ((s.drop 8).take (val4 s)) = val4 (s.drop 4) ∧ val4 s + 8 ≤ s.length := by
  unfold openV at *
  split at h0
  · cases h0
  · next h1 =>
    rw [if_neg h1]
    split at h0
    · cases h0
    · next h2 =>
      rw [if_neg h2]
      split at h0
      · cases h0
      · next h3 =>
        rw [if_neg h3]
        split at h0
        · next h4 =>
          rw [if_pos h4]
          exact ⟨rfl, h4, by omega⟩
        · cases h0
theorem open_bad (s : List UInt8) (L : Nat) (h1 : val4 s = L) (h2 : L ≤ 262136) (h3 : L + 8 ≤ s.length) (h4 : crcV ((s.drop 8).take L) ≠ val4 (s.drop 4)) : (openV s).e = 13 := by
  unfold openV
  rw [h1, if_neg (by omega), if_neg (by omega), if_neg (by omega), if_neg h4]
/-- The frame of b with byte k changed to x. -/
theorem detect (b more : List UInt8) (k : Nat) (x : UInt8) (hb : b.length ≤ 262136) (hk : k < 8 + b.length) (hx : x ≠ (sealL b).getD k 0) :
    (k < 4 → ¬ ((openV ((sealL b).set k x ++ more)).e = 0 ∧ (openV ((sealL b).set k x ++ more)).body = b)) ∧ (4 ≤ k → (openV ((sealL b).set k x ++ more)).e = 13) := by
  have hc := crcV_lt b
  constructor
  · intro h4 ⟨h0, hbd⟩
    have hs : (sealL b).set k x ++ more = (num4 b.length).set k x ++ (num4 (crcV b) ++ (b ++ more)) := by
      unfold sealL
      rw [List.set_append, if_pos (by rw [num4_len]; exact h4)]
      simp
    have hne : (num4 b.length).set k x ≠ num4 b.length := set_ne _ _ _ (by rw [num4_len]; exact h4) (fun e => hx (by
      rw [e]
      unfold sealL
      rw [List.getD_eq_getElem?_getD, List.getD_eq_getElem?_getD, List.getElem?_append_left (by rw [num4_len]; exact h4)]))
    rw [hs] at h0 hbd
    obtain ⟨p1, p2, p3⟩ := open_parts _ h0
    rw [p1] at hbd
    have hl := congrArg List.length hbd
    rw [List.length_take, List.length_drop] at hl
    refine hne (four_inj _ b.length (by rw [List.length_set, num4_len]) (num4 (crcV b) ++ (b ++ more)) ?_)
    omega
  · intro h4
    by_cases h8 : k < 8
    · have hs : (sealL b).set k x ++ more = num4 b.length ++ ((num4 (crcV b)).set (k - 4) x ++ (b ++ more)) := by
        unfold sealL
        rw [List.set_append, if_neg (by rw [num4_len]; omega), num4_len, List.set_append, if_pos (by rw [num4_len]; omega)]
        simp
      have hne : (num4 (crcV b)).set (k - 4) x ≠ num4 (crcV b) := set_ne _ _ _ (by rw [num4_len]; omega) (fun e => hx (by
        rw [e]
        unfold sealL
        rw [List.getD_eq_getElem?_getD, List.getD_eq_getElem?_getD, List.getElem?_append_right (by rw [num4_len]; exact h4), num4_len, List.getElem?_append_left (by rw [num4_len]; omega)]))
      have hd4 : ((sealL b).set k x ++ more).drop 4 = (num4 (crcV b)).set (k - 4) x ++ (b ++ more) := by
        rw [hs]
        exact List.drop_left' (num4_len _)
      have hd8 : (((sealL b).set k x ++ more).drop 8).take b.length = b := by
        rw [show (8 : Nat) = 4 + 4 by rfl, ← List.drop_drop, hd4, List.drop_left' (by rw [List.length_set, num4_len])]
        exact List.take_left
      refine open_bad _ b.length (by rw [hs]; exact val4_num4 _ (by omega) _) hb (by rw [List.length_append, List.length_set, sealL_len]; omega) ?_
      rw [hd8, hd4]
      intro e
      exact hne (four_inj _ (crcV b) (by rw [List.length_set, num4_len]) _ e.symm)
    · have hs : (sealL b).set k x ++ more = num4 b.length ++ (num4 (crcV b) ++ (b.set (k - 8) x ++ more)) := by
        unfold sealL
        rw [List.set_append, if_neg (by rw [num4_len]; omega), num4_len, List.set_append, if_neg (by rw [num4_len]; omega), num4_len, Nat.sub_sub]
        simp
      have hd4 : ((sealL b).set k x ++ more).drop 4 = num4 (crcV b) ++ (b.set (k - 8) x ++ more) := by
        rw [hs]
        exact List.drop_left' (num4_len _)
      have hd8 : (((sealL b).set k x ++ more).drop 8).take b.length = b.set (k - 8) x := by
        rw [show (8 : Nat) = 4 + 4 by rfl, ← List.drop_drop, hd4, List.drop_left' (num4_len _)]
        exact List.take_left' List.length_set
      refine open_bad _ b.length (by rw [hs]; exact val4_num4 _ (by omega) _) hb (by rw [List.length_append, List.length_set, sealL_len]; omega) ?_
      rw [hd8, hd4, val4_num4 _ hc]
      have hk8 : k - 8 < b.length := by omega
      have hsp : b = b.take (k - 8) ++ b[k - 8] :: b.drop (k - 8 + 1) := by
        rw [List.getElem_cons_drop, List.take_append_drop]
      have hst : b.set (k - 8) x = b.take (k - 8) ++ x :: b.drop (k - 8 + 1) := by
        rw [List.set_eq_take_append_cons_drop, if_pos hk8]
      rw [hst]
      conv => rhs; rw [hsp]
      refine crc_changed _ _ _ _ (fun e => hx ?_)
      rw [e]
      unfold sealL
      rw [List.getD_eq_getElem?_getD, List.getElem?_append_right (by rw [num4_len]; omega), num4_len, List.getElem?_append_right (by rw [num4_len]; omega), num4_len, Nat.sub_sub, List.getElem?_eq_getElem hk8]
      rfl
/-- A block that begins with the bytes s, none of them frozen. -/
def Bytes (w : World) (g : Nat) (s : List UInt8) : Prop := ∀ j, j < s.length → w.cell? ⟨g, j, none⟩ = some (.int .u8 ((s.getD j 0).toNat : Int)) ∧ w.frozen? ⟨g, j, none⟩ = false
theorem bytes_conv (w : World) (s : List UInt8) : ∃ cap w', (convert 9 36 (.string (bs s))).run Try.prog w = .ok (.slice (some ⟨w.heap.size, 0, none⟩) s.length cap) w' ∧ Bytes w' w.heap.size s ∧ Below w.heap.size w w' ∧ w.heap.size < w'.heap.size := by
  have h := run_bytes_of_string (P := Try.prog) w 9 36 5 (bs s) Try.underlying9 Try.underlying36 Try.underlying5
  rw [bs_size] at h
  refine ⟨_, _, h, fun j hj => ?_, ?_, by simp⟩
  · have hr := bytesRow_at (bs s) (grownCap w s.length 0 5) j (show j < (bs s).data.size by simp [bs]; exact hj)
    have hsz : s.length ≤ (bytesRow (bs s) (grownCap w s.length 0 5)).size := by
      unfold bytesRow
      rw [Array.size_append, Array.size_map, show (bs s).data.size = s.length by simp [bs]]
      omega
    have hb : (w.drew.alloc (.cells (bytesRow (bs s) (grownCap w s.length 0 5)) 5 ((bytesRow (bs s) (grownCap w s.length 0 5)).size, (bytesRow (bs s) (grownCap w s.length 0 5)).size + 1))).heap[w.heap.size]? = some (.cells (bytesRow (bs s) (grownCap w s.length 0 5)) 5 ((bytesRow (bs s) (grownCap w s.length 0 5)).size, (bytesRow (bs s) (grownCap w s.length 0 5)).size + 1)) := heap_alloc_new w.drew _
    constructor
    · rw [cell_of_row _ w.heap.size j _ 5 _ hb, hr]
      simp [bs, List.getD_eq_getElem?_getD, hj]
    · simp only [World.frozen?, hb]
      simp
      omega
  · exact below_box ((Below.refl _ w).drew) _
/-- One byte stored. -/
theorem Bytes.set {w : World} {g : Nat} {s : List UInt8} (h : Bytes w g s) (k : Nat) (x : UInt8) (hk : k < s.length) : Bytes (w.setCell ⟨g, k, none⟩ (.int .u8 (x.toNat : Int))) g (s.set k x) := by
  intro j hj
  rw [List.length_set] at hj
  obtain ⟨h1, h2⟩ := h j hj
  constructor
  · by_cases e : k = j
    · subst e
      rw [World.cell?_setCell_same w _ _ h1]
      rw [List.getD_eq_getElem?_getD, List.getElem?_set_self hk]
      rfl
    · rw [World.cell?_setCell_other _ _ _ _ (show (⟨g, k, none⟩ : Addr) ≠ ⟨g, j, none⟩ from fun h => e (by injection h)), h1]
      rw [List.getD_eq_getElem?_getD, List.getD_eq_getElem?_getD, List.getElem?_set_ne e]
  · rw [World.frozen?_setCell]
    exact h2
theorem bytes_back {w : World} {g : Nat} {s : List UInt8} (h : Bytes w g s) (cap : Nat) : (convert 36 9 (.slice (some ⟨g, 0, none⟩) s.length cap)).run Try.prog w = .ok (.string (bs s)) w := by
  refine run_convert_bytes_back (P := Try.prog) w 36 9 5 ⟨g, 0, none⟩ cap s Try.underlying36 Try.underlying5 Try.underlying9 (fun j hj => ?_)
  rw [Go.WideShapes.add_plain, Nat.zero_add, (h j hj).1]
  simp [List.getD_eq_getElem?_getD, hj]
end Go.Proofs.Ytohijllciehjlaa
