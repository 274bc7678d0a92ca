/- A log's records in plain words: what splitting finds in a string, and what a disk then holds. -/
import Derived.Test.YtjcojgblnbhejaaWA
namespace Go.Proofs.Ytjcojgblnbhejaa

theorem open_inv {s : List UInt8} (h : (openV s).e = 0) : s = sealL (openV s).body ++ s.drop (openV s).n ∧ (openV s).body.length ≤ 262136 := by
  unfold openV at *
  split at h
  · cases h
  · next h1 =>
    rw [if_neg h1]
    split at h
    · cases h
    · next h2 =>
      rw [if_neg h2]
      split at h
      · cases h
      · next h3 =>
        rw [if_neg h3]
        split at h
        · next h4 =>
          rw [if_pos h4]
          simp only
          have hb : ((s.drop 8).take (val4 s)).length = val4 s := by rw [List.length_take, List.length_drop]; omega
          refine ⟨?_, by rw [hb]; omega⟩
          unfold sealL
          rw [hb, num4_val4 s (by omega), h4, num4_val4 _ (by rw [List.length_drop]; omega)]
          have e1 : s.drop 8 = (s.drop 4).drop 4 := by rw [List.drop_drop]
          have e2 : s.drop (8 + val4 s) = (s.drop 8).drop (val4 s) := by rw [List.drop_drop]
          rw [e2, List.append_assoc, List.append_assoc, List.take_append_drop, e1, List.take_append_drop, List.take_append_drop]
        · cases h
theorem split_parts (s : List UInt8) : s = joinL (splitV s).1 ++ s.drop (splitV s).2 ∧ (splitV s).2 = (joinL (splitV s).1).length ∧ ∀ b ∈ (splitV s).1, b.length ≤ 262136 := by
  generalize hm : s.length = m
  induction m using Nat.strongRecOn generalizing s with
  | ind m ih =>
    rw [splitV_step]
    by_cases h : (openV s).e = 0
    · rw [if_pos h]
      obtain ⟨h1, h2, h3⟩ := open_ok h
      obtain ⟨h4, h5⟩ := open_inv h
      obtain ⟨k1, k2, k3⟩ := ih _ (by rw [List.length_drop]; omega) (s.drop (openV s).n) rfl
      have hj : joinL ((openV s).body :: (splitV (s.drop (openV s).n)).1) = sealL (openV s).body ++ joinL (splitV (s.drop (openV s).n)).1 := by simp [joinL]
      simp only
      refine ⟨?_, ?_, ?_⟩
      · rw [hj, List.append_assoc, ← List.drop_drop, ← k1]
        exact h4
      · rw [hj, List.length_append, sealL_len, ← k2]
        omega
      · intro b hb
        rcases List.mem_cons.1 hb with rfl | hb
        · exact h5
        · exact k3 b hb
    · rw [if_neg h]
      exact ⟨rfl, rfl, fun b hb => by cases hb⟩
theorem split_app (l : List (List UInt8)) (more : List UInt8) (h : ∀ b ∈ l, b.length ≤ 262136) : splitV (joinL l ++ more) = (l ++ (splitV more).1, (joinL l).length + (splitV more).2) := by
  induction l with
  | nil => simp [joinL]
  | cons b l ih =>
    have hj : joinL (b :: l) = sealL b ++ joinL l := by simp [joinL]
    have hb := h b List.mem_cons_self
    rw [hj, List.append_assoc, splitV_step, open_seal b _ hb, if_pos rfl]
    simp only
    rw [List.drop_left' (sealL_len b), ih (fun x hx => h x (List.mem_cons_of_mem _ hx)), List.length_append, sealL_len]
    simp only [List.cons_append, Prod.mk.injEq, true_and]
    omega
theorem split_none : splitV [] = ([], 0) := rfl
theorem split_join (l : List (List UInt8)) (h : ∀ b ∈ l, b.length ≤ 262136) : splitV (joinL l) = (l, (joinL l).length) := by
  have := split_app l [] h
  rw [List.append_nil, split_none] at this
  rw [this]
  simp
theorem split_le (s : List UInt8) : (splitV s).2 ≤ s.length := by
  obtain ⟨h1, h2, _⟩ := split_parts s
  have := congrArg List.length h1
  rw [List.length_append] at this
  omega
theorem split_take (s : List UInt8) : s.take (splitV s).2 = joinL (splitV s).1 := by
  obtain ⟨h1, h2, _⟩ := split_parts s
  generalize splitV s = p at *
  rw [h1]
  exact List.take_left' h2.symm
/-- What is split off is split whole. -/
theorem split_again (s : List UInt8) : splitV (s.take (splitV s).2) = splitV s := by
  obtain ⟨_, h2, h3⟩ := split_parts s
  rw [split_take, split_join _ h3]
  exact Prod.ext rfl h2.symm
/-- A longer string splits into no fewer records. -/
theorem split_pre (s t : List UInt8) : ∃ m, (splitV (s ++ t)).1 = (splitV s).1 ++ m := by
  obtain ⟨h1, h2, h3⟩ := split_parts s
  have h4 := split_app (splitV s).1 (s.drop (splitV s).2 ++ t) h3
  rw [← List.append_assoc, ← h1] at h4
  exact ⟨_, by rw [h4]⟩
theorem split_snoc (s b : List UInt8) (h : (splitV s).2 = s.length) (hb : b.length ≤ 262136) : splitV (s ++ sealL b) = ((splitV s).1 ++ [b], (s ++ sealL b).length) := by
  obtain ⟨h1, h2, h3⟩ := split_parts s
  have hs : s = joinL (splitV s).1 := by
    have := split_take s
    rwa [h, List.take_length] at this
  have hl : ∀ x ∈ (splitV s).1 ++ [b], x.length ≤ 262136 := by
    intro x hx
    rcases List.mem_append.1 hx with hx | hx
    · exact h3 x hx
    · rw [List.mem_singleton.1 hx]; exact hb
  have := split_join ((splitV s).1 ++ [b]) hl
  have hj : joinL ((splitV s).1 ++ [b]) = s ++ sealL b := by
    conv => rhs; rw [hs]
    simp [joinL]
  rw [hj] at this
  exact this
end Go.Proofs.Ytjcojgblnbhejaa
