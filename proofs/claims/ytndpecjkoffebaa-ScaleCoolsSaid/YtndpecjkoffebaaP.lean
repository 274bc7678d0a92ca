/- Plain laws of layer 42 (scale). -/
import Derived.Test.YtndpecjkoffebaaI
namespace Go.Proofs.Ytndpecjkoffebaa

theorem moveV_e (up dn cu cd c ch now d : Int) : (moveV up dn cu cd c ch now d).e = 0 := by
  unfold moveV
  split
  · rfl
  · split <;> rfl
theorem next_err (t mi ma up dn cu cd c ch load now : Int) (h : (nextV t mi ma up dn cu cd c ch load now).e ≠ 0) : (nextV t mi ma up dn cu cd c ch load now).c = 0 ∧ (nextV t mi ma up dn cu cd c ch load now).h = 0 := by
  revert h
  unfold nextV
  split
  · split
    · intro _; exact ⟨rfl, rfl⟩
    · intro h; exact absurd (moveV_e ..) h
  · intro _; exact ⟨rfl, rfl⟩
/-- Next without an error, laid open. -/
theorem next_ok (t mi ma up dn cu cd c ch load now : Int) (h : (nextV t mi ma up dn cu cd c ch load now).e = 0) :
    polB t mi ma up dn cu cd = true ∧ stB mi ma c ch = true ∧ 0 ≤ load ∧ load ≤ 1000000000000 ∧ 0 ≤ now ∧ now ≤ 1073741824 ∧ ch ≤ now ∧ desV t mi ma up dn cu cd load = ⟨desI t mi ma load, 0⟩ ∧ nextV t mi ma up dn cu cd c ch load now = moveV up dn cu cd c ch now (desI t mi ma load) := by
  revert h
  unfold nextV
  split
  · rename_i h0
    obtain ⟨h1, h2, h3, h4, h5⟩ := h0
    obtain ⟨hp, hs⟩ := (stOk_iff t mi ma up dn cu cd c ch).1 h1
    split
    · intro h; simp at h
    · intro _
      refine ⟨hp, hs, h2, h3, h4, h5, by omega, ?_, rfl⟩
      unfold desV desOk
      rw [hp, decide_eq_true ⟨h2, h3⟩]
      rfl
  · intro h; simp at h
/-- One step: within the bounds, towards what is desired and not beyond it. -/
def StepTo (mi ma up dn c ch now d c' h' : Int) : Prop :=
  0 ≤ mi ∧ ma ≤ 1000 ∧ 1 ≤ up ∧ up ≤ 1000 ∧ 1 ≤ dn ∧ dn ≤ 1000 ∧ mi ≤ c ∧ c ≤ ma ∧ mi ≤ d ∧ d ≤ ma ∧ mi ≤ c' ∧ c' ≤ ma ∧
    ((c < c' ∧ c' - c ≤ up ∧ c' ≤ d ∧ h' = now) ∨ (c' < c ∧ c - c' ≤ dn ∧ d ≤ c' ∧ h' = now) ∨ (c' = c ∧ h' = ch))
theorem next_step (t mi ma up dn cu cd c ch load now : Int) (h : (nextV t mi ma up dn cu cd c ch load now).e = 0) :
    desV t mi ma up dn cu cd load = ⟨desI t mi ma load, 0⟩ ∧ StepTo mi ma up dn c ch now (desI t mi ma load) (nextV t mi ma up dn cu cd c ch load now).c (nextV t mi ma up dn cu cd c ch load now).h := by
  obtain ⟨hp, hs, h2, h3, h4, h5, h6, hd, hn⟩ := next_ok t mi ma up dn cu cd c ch load now h
  obtain ⟨p1, p2, p3, p4, p5, p6, p7, p8, p9, pa, pb, pc, pd⟩ := (polB_iff t mi ma up dn cu cd).1 hp
  obtain ⟨s1, s2, s3, s4⟩ := (stB_iff _ _ _ _).1 hs
  have db := desI_bd t mi ma load p4
  refine ⟨hd, ?_⟩
  rw [hn]
  generalize desI t mi ma load = d at *
  clear hd hn h
  unfold StepTo moveV
  split
  · refine ⟨p3, p5, p6, p7, p8, p9, s1, s2, db.1, db.2, ?_, ?_, .inl ⟨?_, ?_, ?_, rfl⟩⟩ <;> simp only <;> omega
  · split
    · refine ⟨p3, p5, p6, p7, p8, p9, s1, s2, db.1, db.2, ?_, ?_, .inr (.inl ⟨?_, ?_, ?_, rfl⟩)⟩ <;> simp only <;> omega
    · exact ⟨p3, p5, p6, p7, p8, p9, s1, s2, db.1, db.2, s1, s2, .inr (.inr ⟨rfl, rfl⟩)⟩

theorem ceilI_mono (a b t : Int) (ht : 1 ≤ t) (h : a ≤ b) : ceilI a t ≤ ceilI b t := by
  unfold ceilI
  exact Int.ediv_le_ediv (by omega) (by omega)
theorem ceilI_room (a t : Int) (ht : 1 ≤ t) : a ≤ ceilI a t * t := by
  unfold ceilI
  have e1 := Int.mul_ediv_add_emod (a + t - 1) t
  have e2 := Int.emod_lt_of_pos (a + t - 1) (b := t) (by omega)
  rw [Int.mul_comm] at e1
  omega
theorem desI_mono (t mi ma a b : Int) (ht : 1 ≤ t) (hm : mi ≤ ma) (h : a ≤ b) : desI t mi ma a ≤ desI t mi ma b := by
  have := ceilI_mono a b t ht h
  unfold desI clampI
  split <;> split <;> (try split) <;> (try split) <;> omega
theorem desI_room (t mi ma a : Int) (ht : 1 ≤ t) (_hm : mi ≤ ma) (h : desI t mi ma a ≠ ma) : a ≤ desI t mi ma a * t := by
  have h1 := ceilI_room a t ht
  revert h
  unfold desI clampI
  split
  · rename_i h2
    intro _
    have h3 : ceilI a t * t ≤ mi * t := Int.mul_le_mul_of_nonneg_right (by omega) (by omega)
    omega
  · split
    · intro h; exact absurd rfl h
    · intro _; exact h1
theorem des_open (t mi ma up dn cu cd load : Int) (h : (desV t mi ma up dn cu cd load).e = 0) : polB t mi ma up dn cu cd = true ∧ 0 ≤ load ∧ load ≤ 1000000000000 ∧ desV t mi ma up dn cu cd load = ⟨desI t mi ma load, 0⟩ := by
  revert h
  unfold desV desOk
  split
  · rename_i h
    simp only [Bool.and_eq_true, decide_eq_true_eq] at h
    intro _
    exact ⟨h.1, h.2.1, h.2.2, rfl⟩
  · intro h; simp at h
end Go.Proofs.Ytndpecjkoffebaa
