/- Plain laws of buckets (layer 39): what Fill, Take and Wait compute. -/
import Derived.Test.YtmfekechdejefaaC
namespace Go.Proofs.Ytmfekechdejefaa

theorem okB_iff (r s l t : Int) : okB r s l t = true ↔ (0 ≤ r ∧ r ≤ 1000000000 ∧ 1 ≤ s ∧ s ≤ 1000000000 ∧ 0 ≤ l ∧ l ≤ s ∧ 0 ≤ t ∧ t ≤ 1073741824) := by simp [okB]

/-- Fill without an error, laid open. -/
theorem fillV_ok (r s l t now : Int) : (fillV r s l t now).e = 0 ↔ (okB r s l t = true ∧ 0 ≤ now ∧ now ≤ 1073741824 ∧ t ≤ now) := by
  unfold fillV
  split
  · split
    · simp; omega
    · split
      · simp; omega
      · simp [*]; omega
  · simp [*]
theorem fillV_val (r s l t now : Int) (h : (fillV r s l t now).e = 0) : fillV r s l t now = ⟨r, s, min s (l + r * (now - t)), now, 0⟩ := by
  obtain ⟨h1, h2, h3, h4⟩ := (fillV_ok r s l t now).1 h
  unfold fillV
  rw [if_pos h1, if_neg (by omega), if_neg (by omega)]
theorem fillV_err (r s l t now : Int) (h : (fillV r s l t now).e ≠ 0) : (fillV r s l t now).r = 0 ∧ (fillV r s l t now).s = 0 ∧ (fillV r s l t now).l = 0 ∧ (fillV r s l t now).t = 0 := by
  revert h
  unfold fillV
  split
  · split
    · simp
    · split
      · simp
      · simp
  · simp

theorem min_min_add (s a b : Int) (h : 0 ≤ b) : min s (min s a + b) = min s (a + b) := by omega

theorem fill_valid (r s l t f : Int) (h : (fillV r s l t f).e = 0) : okB r s (min s (l + r * (f - t))) f = true := by
  obtain ⟨h1, h2, h3, h4⟩ := (fillV_ok r s l t f).1 h
  obtain ⟨a1, a2, a3, a4, a5, a6, a7, a8⟩ := (okB_iff r s l t).1 h1
  have hp : 0 ≤ r * (f - t) := Int.mul_nonneg a1 (by omega)
  refine (okB_iff _ _ _ _).2 ⟨a1, a2, a3, a4, ?_, ?_, h2, h3⟩ <;> omega

theorem fill_fill (r s l t f g : Int) (h : (fillV r s l t f).e = 0) (hfg : f ≤ g) : fillV r s (min s (l + r * (f - t))) f g = fillV r s l t g := by
  have hv := fill_valid r s l t f h
  obtain ⟨h1, h2, h3, h4⟩ := (fillV_ok r s l t f).1 h
  obtain ⟨a1, a2, a3, a4, a5, a6, a7, a8⟩ := (okB_iff r s l t).1 h1
  unfold fillV
  rw [if_pos hv, if_pos h1]
  by_cases hg : g < 0 ∨ 1073741824 < g
  · rw [if_pos hg, if_pos hg]
  · rw [if_neg hg, if_neg hg, if_neg (by omega), if_neg (by omega)]
    have hp : 0 ≤ r * (g - f) := Int.mul_nonneg a1 (by omega)
    have he : l + r * (f - t) + r * (g - f) = l + r * (g - t) := by rw [Int.add_assoc, ← Int.mul_add]; congr 2; omega
    rw [min_min_add _ _ _ hp, he]
theorem fill_back (r s l t f g : Int) (hfg : g < f) : (fillV r s (min s (l + r * (f - t))) f g).e ≠ 0 := by
  intro h'
  have := ((fillV_ok _ _ _ _ _).1 h').2.2.2
  omega

/-- Wait without an error, laid open. -/
theorem wait_laws (r s l t n now : Int) (h : (waitV r s l t n now).e = 0) : ∃ w, (waitV r s l t n now).v = w ∧ 0 ≤ w ∧ 0 ≤ now ∧ now + w ≤ 1073741824 ∧ w ≤ 1073741824 ∧ now ≤ 1073741824 ∧
    (takeV r s l t n (now + w)).e = 0 ∧ (0 < w → (takeV r s l t n (now + w - 1)).e = 17) := by
  have hk : (fillV r s l t now).e = 0 := by
    revert h
    unfold waitV waitW
    split
    · intro _; assumption
    · simp
  have hv := fillV_val r s l t now hk
  obtain ⟨h1, h2, h3, h4⟩ := (fillV_ok r s l t now).1 hk
  obtain ⟨a1, a2, a3, a4, a5, a6, a7, a8⟩ := (okB_iff r s l t).1 h1
  have take_at : ∀ m, now ≤ m → m ≤ 1073741824 → takeV r s l t n m = takeW n r s (min s (min s (l + r * (now - t)) + r * (m - now))) m 0 := by
    intro m hm1 hm2
    have hp : 0 ≤ r * (m - now) := Int.mul_nonneg a1 (by omega)
    have hm : (fillV r s l t m).e = 0 := (fillV_ok r s l t m).2 ⟨h1, by omega, hm2, by omega⟩
    have he : l + r * (now - t) + r * (m - now) = l + r * (m - t) := by rw [Int.add_assoc, ← Int.mul_add]; congr 2; omega
    unfold takeV
    rw [fillV_val r s l t m hm, min_min_add _ _ _ hp, he]
  unfold waitV at h ⊢
  rw [hv] at h ⊢
  simp only at h ⊢
  generalize min s (l + r * (now - t)) = c at *
  unfold waitW at h ⊢
  simp only [if_true] at h ⊢
  by_cases g1 : n < 0 ∨ s < n
  · rw [if_pos g1] at h; simp at h
  rw [if_neg g1] at h ⊢
  by_cases g2 : n ≤ c
  · rw [if_pos g2] at h ⊢
    refine ⟨0, rfl, by omega, h2, by omega, by omega, h3, ?_, by omega⟩
    have h0 := take_at now (Int.le_refl _) h3
    rw [Int.add_zero, h0]
    unfold takeW
    rw [Int.sub_self, Int.mul_zero, Int.add_zero, if_pos rfl, if_neg g1, if_neg (by omega)]
  rw [if_neg g2] at h ⊢
  by_cases g3 : r = 0
  · rw [if_pos g3] at h; simp at h
  rw [if_neg g3] at h ⊢
  by_cases g4 : 1073741824 < now + (n - c + r - 1) / r
  · rw [if_pos g4] at h; simp at h
  rw [if_neg g4] at h ⊢
  have hr : 0 < r := by omega
  have e1 := Int.mul_ediv_add_emod (n - c + r - 1) r
  have e2 := Int.emod_nonneg (n - c + r - 1) (b := r) (by omega)
  have e3 := Int.emod_lt_of_pos (n - c + r - 1) hr
  have hw0 : 0 ≤ (n - c + r - 1) / r := Int.ediv_nonneg (by omega) (by omega)
  generalize (n - c + r - 1) / r = w at *
  generalize (n - c + r - 1) % r = q at *
  refine ⟨w, rfl, hw0, h2, by omega, by omega, h3, ?_, ?_⟩
  · rw [take_at (now + w) (by omega) (by omega), show now + w - now = w by omega]
    unfold takeW
    rw [if_pos rfl, if_neg g1, if_neg (by omega)]
  · intro hw
    have e4 : r * (w - 1) = r * w - r := by rw [Int.mul_sub, Int.mul_one]
    rw [take_at (now + w - 1) (by omega) (by omega), show now + w - 1 - now = w - 1 by omega, e4]
    unfold takeW
    rw [if_pos rfl, if_neg g1, if_pos (by omega)]
end Go.Proofs.Ytmfekechdejefaa
