/- The examples of the chapter (awake): the walk. -/
import Derived.Test.YtohijllciehjlaaBJ
namespace Go.Proofs.Ytohijllciehjlaa
open Go.ChangeShapes Go.WideShapes Go.ChangeAt Go.RowKit

theorem strs_new2 (w : World) (a b : List UInt8) : Strs (w.alloc (.cells #[.string (bs a), .string (bs b)] 9)) (.slice (some ⟨w.heap.size, 0, none⟩) 2 2) [a, b] := by
  have h := Box.new w 9 #[.string (bs a), .string (bs b)]
  refine ⟨_, 2, rfl, fun k hk => ⟨w.heap.size, 0, rfl, h.lt, ?_⟩, (fun h => by cases h), Nat.le_refl _⟩
  match k, hk with
  | 0, _ => exact h.cell 0 _ rfl
  | 1, _ => exact h.cell 1 _ rfl
theorem strs_new1 (w : World) (a : List UInt8) : Strs (w.alloc (.cells #[.string (bs a)] 9)) (.slice (some ⟨w.heap.size, 0, none⟩) 1 1) [a] := by
  have h := Box.new w 9 #[.string (bs a)]
  refine ⟨_, 1, rfl, fun k hk => ⟨w.heap.size, 0, rfl, h.lt, ?_⟩, (fun h => by cases h), Nat.le_refl _⟩
  match k, hk with
  | 0, _ => exact h.cell 0 _ rfl
theorem ex_pack (W : World) : Calls Try.prog 11 #[.slice (some ⟨W.heap.size, 0, none⟩) 2 2] (W.alloc (.cells #[.string { data := #[97, 98] }, .string { data := #[] }] 9)) fun e w' => e = .returned (.tuple #[.string { data := #[2, 0, 2, 97, 98, 0, 0] }, .int .i64 0]) ∧ Below W.heap.size W w' := by
  have hp : packV [[97, 98], []] = ([2, 0, 2, 97, 98, 0, 0], 0) := by decide
  refine (pack_any _ [[97, 98], []] _ (strs_new2 W [97, 98] [])).mono fun e w' h => ?_
  unfold Packed at h
  rw [hp] at h
  exact ⟨h.1, below_step (below_box (Below.refl _ _) _) h.2⟩
theorem ex_unpack1 (W : World) : Calls Try.prog 13 #[.string { data := #[1, 0, 2, 97] }] W fun e w' => ∃ v, e = .returned (.tuple #[v, .int .i64 14]) ∧ Below W.heap.size W w' := by
  have hp : unpackV [1, 0, 2, 97] = ([], 14) := by decide
  refine (unpack_any { data := #[1, 0, 2, 97] } W (by decide)).mono fun e w' h => ?_
  unfold Unpacked at h
  rw [show unpackV ({ data := #[1, 0, 2, 97] } : ByteArray).data.toList = ([], 14) from hp] at h
  obtain ⟨v, h1, _, h3⟩ := h
  exact ⟨v, h1, h3⟩
theorem ex_unpack2 (W : World) : Calls Try.prog 13 #[.string { data := #[0, 7] }] W fun e w' => ∃ v, e = .returned (.tuple #[v, .int .i64 13]) ∧ Below W.heap.size W w' := by
  have hp : unpackV [0, 7] = ([], 13) := by decide
  refine (unpack_any { data := #[0, 7] } W (by decide)).mono fun e w' h => ?_
  unfold Unpacked at h
  rw [show unpackV ({ data := #[0, 7] } : ByteArray).data.toList = ([], 13) from hp] at h
  obtain ⟨v, h1, _, h3⟩ := h
  exact ⟨v, h1, h3⟩
theorem ex_seal (W : World) : Calls Try.prog 16 #[.string { data := #[] }] W fun e w' => e = .returned (.tuple #[.string { data := #[0, 0, 0, 0, 0, 0, 0, 0] }, .int .i64 0]) ∧ Below W.heap.size W w' := by
  have hp : sealV [] = ([0, 0, 0, 0, 0, 0, 0, 0], 0) := by decide
  have h := seal_any { data := #[] } W
  rw [show sealV ({ data := #[] } : ByteArray).data.toList = _ from hp] at h
  exact h
def ex : List UInt8 := joinL [[97], [98]]
theorem ex_len : (bs ex).size = 18 := by rw [bs_size, ex, joinL_len]; rfl
theorem ex_join (W : World) : Calls Try.prog 20 #[.slice (some ⟨W.heap.size, 0, none⟩) 2 2] (W.alloc (.cells #[.string { data := #[97] }, .string { data := #[98] }] 9)) fun e w' => e = .returned (.tuple #[.string (bs ex), .int .i64 0]) ∧ Below W.heap.size W w' := by
  have hp : joinV [[97], [98]] = (ex, 0) := if_pos (by decide)
  refine (join_any _ [[97], [98]] _ (strs_new2 W [97] [98]) (by decide)).mono fun e w' h => ?_
  unfold Joined at h
  rw [hp] at h
  exact ⟨h.1, below_step (below_box (Below.refl _ _) _) h.2⟩
theorem ex_split (W : World) : Calls Try.prog 22 #[.string ((bs ex).extract 0 17)] W fun e w' => ∃ v, e = .returned (.tuple #[v, .int .i64 9]) ∧ Strs w' v [[97]] ∧ Below W.heap.size W w' := by
  refine (split_any ((bs ex).extract 0 17) W (by rw [ext_size _ _ _ (by rw [ex_len]; decide)]; decide)).mono fun e w' h => ?_
  have hp : splitV ((bs ex).extract 0 17).data.toList = ([[97]], 9) := by
    rw [ext_list, List.drop_zero, show (bs ex).data.toList = joinL [[97], [98]] by simp [bs, ex], split_torn [[97], [98]] _ (fun b hb => by
      simp only [List.mem_cons, List.mem_nil_iff, or_false] at hb
      rcases hb with rfl | rfl <;> decide)]
    rfl
  unfold Splits at h
  rw [hp] at h
  exact h
theorem ex_same (W w2 : World) (v : Value) (h : Strs W v [[97]]) (hw : W = w2) : Calls Try.prog 15 #[v, .slice (some ⟨W.heap.size, 0, none⟩) 1 1] (w2.alloc (.cells #[.string { data := #[97] }] 9)) fun e w' => e = .returned (.bool true) ∧ Below W.heap.size W w' := by
  subst hw
  refine (same_any v _ [[97]] [[97]] _ (h.up (below_box (Below.refl _ _) _)) (strs_new1 W [97]) (by decide)).mono fun e w' h => ?_
  rw [show decide (([[97]] : List (List UInt8)) = [[97]]) = true by decide] at h
  exact ⟨h.1, below_step (below_box (Below.refl _ _) _) h.2⟩
set_option maxRecDepth 100000 in
set_option maxHeartbeats 1000000 in
theorem awake_any (w : World) : Calls Try.prog 10 #[] w fun e w' => e = .returned (.bool true) ∧ Below w.heap.size w w' := by
  go_enter Try.func10, Try.ntmps10
  go_wp2_with fail
  refine (ex_pack _).mono ?_
  rintro _ w1 ⟨rfl, hB⟩
  go_wp2_with fail
  refine (ex_unpack1 _).mono ?_
  rintro _ w2 ⟨v1, rfl, hb⟩
  replace hB := below_step hB hb
  clear hb
  go_wp2_with fail
  refine (ex_unpack2 _).mono ?_
  rintro _ w3 ⟨v2, rfl, hb⟩
  replace hB := below_step hB hb
  clear hb
  go_wp2_with fail
  refine (ex_seal _).mono ?_
  rintro _ w4 ⟨rfl, hb⟩
  replace hB := below_step hB hb
  clear hb
  go_wp2_with fail
  refine (ex_join _).mono ?_
  rintro _ w5 ⟨rfl, hb⟩
  replace hB := below_step hB hb
  clear hb
  have hl : ((bs ex).size : Int) = 18 := by rw [ex_len]; rfl
  go_wp2_with fail
  refine (ex_split _).mono ?_
  rintro _ w6 ⟨v3, rfl, hs, hb⟩
  replace hB := below_step hB hb
  clear hb hl
  go_wp2_with fail
  refine (ex_same _ _ v3 hs rfl).mono ?_
  rintro _ w7 ⟨rfl, hb⟩
  replace hB := below_step hB hb
  clear hb hs
  go_wp2
  go_ret
  exact ⟨rfl, hB⟩
end Go.Proofs.Ytohijllciehjlaa
