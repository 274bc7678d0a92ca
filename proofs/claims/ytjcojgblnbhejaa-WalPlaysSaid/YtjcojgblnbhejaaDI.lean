/- The reference's disk over the same states as the program's; do and does. -/
import Derived.Test.YtjcojgblnbhejaaDH
namespace Go.Proofs.Ytjcojgblnbhejaa
open Go.ChangeShapes Go.WideShapes Go.ChangeAt Go.RowKit
attribute [local go_sem] ownAt ownUpon mixAt mixUpon

def bs (xs : List UInt8) : ByteArray := ⟨xs.toArray⟩
theorem bs_size (xs : List UInt8) : (bs xs).size = xs.length := by simp [bs, ByteArray.size]
theorem bs_nil : ByteArray.empty = bs [] := rfl
theorem bs_list (t : ByteArray) : t = bs t.data.toList := by simp [bs]
theorem bs_app (xs ys : List UInt8) : bs xs ++ bs ys = bs (xs ++ ys) := by
  apply ByteArray.ext
  simp [bs, ByteArray.data_append]
theorem bs_take (xs : List UInt8) (m : Nat) : (bs xs).extract 0 m = bs (xs.take m) := by
  apply ByteArray.ext
  simp [bs, ByteArray.data_extract]
/-- The reference's disk lies in block g. -/
def RefAt (w : World) (g : Nat) (s : DS) : Prop := Box w g 66 #[.int .i64 s.sz, .string (bs s.dur), .string (bs s.app), .bool s.rep, .string (bs s.fre), .bool s.down]
def RLeft (w : World) (g : Nat) (er : Int) (s : DS) (e : Ending) (w' : World) : Prop := e = .returned (.int .i64 er) ∧ RefAt w' g s ∧ Only [g] w w'
theorem RefAt.up {w w' : World} {g : Nat} {s : DS} (h : RefAt w g s) (hb : Below w.heap.size w w') : RefAt w' g s := Box.next h hb
theorem RefAt.same {w : World} {g : Nat} {s : DS} (h : RefAt w g s) (er : Int) : RLeft w g er s (.returned (.int .i64 er)) w := ⟨rfl, h, Only.refl _ _⟩
theorem rready_any (w : World) (g : Nat) (s : DS) (h : RefAt w g s) (h0 : 0 ≤ s.sz) : Calls Try.prog 50 #[.pointer (some ⟨g, 0, none⟩)] w fun e w' => e = .returned (.int .i64 (rdy s)) ∧ w = w' := rready_box w g s.sz _ _ _ s.rep s.down h h0
theorem rcontents_any (w : World) (g : Nat) (s : DS) (h : RefAt w g s) (hf : Fit s) : Calls Try.prog 35 #[.pointer (some ⟨g, 0, none⟩)] w fun e w' => e = .returned (.string (bs (contV s))) ∧ Below w.heap.size w w' := by
  have H := rready_any w g s h hf.lo
  unfold contV
  by_cases h0 : rdy s = 0
  · rw [if_pos h0]
    rw [h0] at H
    obtain ⟨f1, f2, f3, f4⟩ := hf
    refine (rcontents_yes w g s.sz _ _ _ s.rep s.down h (Lib.hid H) (by rw [bs_size, bs_size]; omega)).mono fun e w' ⟨he, hb⟩ => ⟨?_, hb⟩
    rw [he]
    unfold cont
    cases s.rep
    · simp only [Bool.false_eq_true, if_false, bs_app]
    · simp only [if_true]
  · rw [if_neg h0]
    exact (rfail_contents w g (rdy s) (Lib.hid H) (by simpa using h0)).mono fun e w' ⟨he, hw⟩ => by subst hw; exact ⟨he, Below.refl _ _⟩
theorem cont_le (s : DS) (hf : Fit s) : ((cont s).length : Int) ≤ s.sz := by
  obtain ⟨_, _, f3, f4⟩ := hf
  unfold cont
  split
  · exact f4
  · rw [List.length_append]; exact f3
theorem rwrite_any (w : World) (g : Nat) (t : ByteArray) (s : DS) (h : RefAt w g s) (hf : Fit s) (ht : t.size ≤ 1000000) : Calls Try.prog 49 #[.pointer (some ⟨g, 0, none⟩), .string t] w (RLeft w g (writeV s t.data.toList).1 (writeV s t.data.toList).2) := by
  have H := rready_any w g s h hf.lo
  have hc := cont_le s hf
  have hz := hf.hi
  unfold writeV
  by_cases h0 : rdy s = 0
  · rw [if_pos h0, size_toList]
    have HC : Hid (∀ W, Below w.heap.size w W → _) := Lib.hid (fun W hb => rcontents_any W g s (h.up hb) hf)
    rw [h0] at H
    unfold contV at HC
    rw [if_pos h0] at HC
    by_cases hl : ((cont s).length + t.size : Int) ≤ s.sz
    · rw [if_pos hl]
      have hs : (cont s).length ≤ 300000 := by omega
      cases hrep : s.rep
      · rw [if_neg (by simp)]
        have ha : s.app.length ≤ (cont s).length := by unfold cont; rw [hrep]; first | (simp; done) | (simp; omega)
        refine (rwrite_app w g t _ s.sz (bs s.dur) (bs s.app) (bs s.fre) s.down (by rw [← hrep]; exact h) (Lib.hid H) HC (by rw [bs_size]; omega) ht (by rw [bs_size]; exact hl) (by rw [bs_size]; omega)).mono fun e w' ⟨he, hb, ho⟩ => ⟨he, ?_, ho⟩
        unfold RefAt
        rw [bs_list t, bs_app] at hb
        simp only []
        exact hb
      · rw [if_pos rfl]
        have ha : s.fre.length ≤ (cont s).length := by unfold cont; rw [hrep]; simp
        refine (rwrite_rep w g t _ s.sz (bs s.dur) (bs s.app) (bs s.fre) s.down (by rw [← hrep]; exact h) (Lib.hid H) HC (by rw [bs_size]; omega) ht (by rw [bs_size]; exact hl) (by rw [bs_size]; omega)).mono fun e w' ⟨he, hb, ho⟩ => ⟨he, ?_, ho⟩
        unfold RefAt
        rw [bs_list t, bs_app] at hb
        simp only []
        exact hb
    · rw [if_neg hl]
      exact (rwrite_full w g t _ s.sz _ _ _ s.rep s.down h (Lib.hid H) HC (by rw [bs_size]; omega) ht (by rw [bs_size]; omega)).mono fun e w' ⟨he, hb⟩ => ⟨he, h.up hb, Only.of_up hb⟩
  · rw [if_neg h0]
    exact (rfail_write w g t (rdy s) (Lib.hid H) (by simpa using h0)).mono fun e w' ⟨he, hw⟩ => by subst hw; subst he; exact h.same _
theorem rsync_any (w : World) (g : Nat) (s : DS) (h : RefAt w g s) (hf : Fit s) : Calls Try.prog 47 #[.pointer (some ⟨g, 0, none⟩)] w (RLeft w g (syncV s).1 (syncV s).2) := by
  have H := rready_any w g s h hf.lo
  have HC := rcontents_any w g s h hf
  unfold syncV
  by_cases h0 : rdy s = 0
  · rw [if_pos h0]
    rw [h0] at H
    unfold contV at HC
    rw [if_pos h0] at HC
    exact (rsync_yes w g s.sz _ _ _ s.rep s.down _ h (Lib.hid H) (Lib.hid HC)).mono fun e w' ⟨he, hb, ho⟩ => ⟨he, hb, ho⟩
  · rw [if_neg h0]
    exact (rfail_sync w g (rdy s) (Lib.hid H) (by simpa using h0)).mono fun e w' ⟨he, hw⟩ => by subst hw; subst he; exact h.same _
theorem rreplace_any (w : World) (g : Nat) (t : ByteArray) (s : DS) (h : RefAt w g s) (hf : Fit s) : Calls Try.prog 46 #[.pointer (some ⟨g, 0, none⟩), .string t] w (RLeft w g (replaceV s t.data.toList).1 (replaceV s t.data.toList).2) := by
  have H := rready_any w g s h hf.lo
  unfold replaceV
  by_cases h0 : rdy s = 0
  · rw [if_pos h0, size_toList]
    rw [h0] at H
    by_cases hl : (t.size : Int) ≤ s.sz
    · rw [if_pos hl]
      refine (rreplace_yes w g t s.sz _ _ _ s.rep s.down h (Lib.hid H) hl).mono fun e w' ⟨he, hb, ho⟩ => ⟨he, ?_, ho⟩
      unfold RefAt
      rw [← bs_list t]
      exact hb
    · rw [if_neg hl]
      exact (rreplace_full w g t s.sz _ _ _ s.rep s.down h (Lib.hid H) (by omega)).mono fun e w' ⟨he, hw⟩ => by subst hw; subst he; exact h.same _
  · rw [if_neg h0]
    exact (rfail_replace w g t (rdy s) (Lib.hid H) (by simpa using h0)).mono fun e w' ⟨he, hw⟩ => by subst hw; subst he; exact h.same _
theorem rcrash_any (w : World) (g : Nat) (k : Int) (s : DS) (h : RefAt w g s) (hf : Fit s) : Calls Try.prog 31 #[.pointer (some ⟨g, 0, none⟩), .int .i64 k] w (RLeft w g (crashV s k).1 (crashV s k).2) := by
  have H := rready_any w g s h hf.lo
  unfold crashV
  by_cases h0 : rdy s = 0
  · rw [if_pos h0]
    rw [h0] at H
    by_cases hk : k < 0
    · rw [if_pos hk]
      exact (rneg_crash w g k (Lib.hid H) hk).mono fun e w' ⟨he, hw⟩ => by subst hw; subst he; exact h.same _
    · rw [if_neg hk]
      obtain ⟨_, f2, f3, _⟩ := hf
      refine (rcrash_yes w g k (min k.toNat s.app.length) s.sz _ _ _ s.rep s.down h (Lib.hid H) (by omega) (by rw [bs_size]; split <;> omega) (by rw [bs_size, bs_size]; omega)).mono fun e w' ⟨he, hb, ho⟩ => ⟨he, ?_, ho⟩
      have e9 : s.app.take (min k.toNat s.app.length) = s.app.take k.toNat := by
        rcases Nat.le_total k.toNat s.app.length with h | h
        · rw [Nat.min_eq_left h]
        · rw [Nat.min_eq_right h, List.take_of_length_le h, List.take_of_length_le (Nat.le_refl _)]
      rw [bs_take, bs_app, e9] at hb
      exact hb
  · rw [if_neg h0]
    exact (rfail_crash w g k (rdy s) (Lib.hid H) (by simpa using h0)).mono fun e w' ⟨he, hw⟩ => by subst hw; subst he; exact h.same _
theorem rrestart_any (w : World) (g : Nat) (s : DS) (h : RefAt w g s) (hf : Fit s) : Calls Try.prog 33 #[.pointer (some ⟨g, 0, none⟩)] w (RLeft w g (restartV s).1 (restartV s).2) := by
  have f1 := hf.lo
  unfold restartV
  by_cases h0 : rdy s = 22
  · rw [if_pos h0]
    have hsz : s.sz ≠ 0 := by
      intro h
      unfold rdy at h0
      rw [if_pos h] at h0
      omega
    have hd : s.down = true := by
      unfold rdy at h0
      rw [if_neg hsz] at h0
      cases hd : s.down
      · rw [hd] at h0; simp at h0
      · rfl
    refine (rrestart_yes w g s.sz _ _ _ s.rep (by rw [← hd]; exact h) (by omega)).mono fun e w' ⟨he, hb, ho⟩ => ⟨he, hb, ho⟩
  · rw [if_neg h0]
    have hor : s.sz = 0 ∨ s.down = false := by
      by_cases hz : s.sz = 0
      · exact .inl hz
      · right
        unfold rdy at h0
        rw [if_neg hz] at h0
        cases hd : s.down
        · rfl
        · rw [hd] at h0; simp at h0
    exact (rrestart_no w g s.sz _ _ _ s.rep s.down h f1 hor).mono fun e w' ⟨he, hw⟩ => by subst hw; subst he; exact h.same _
/-- What an operation of the statements does. -/
def doV (s : DS) (k : Int) (t : List UInt8) (n : Int) : Int × DS := if k = 0 then writeV s t else if k = 1 then syncV s else if k = 2 then replaceV s t else if k = 3 then crashV s n else restartV s
theorem doV_fit (s : DS) (k : Int) (t : List UInt8) (n : Int) (hf : Fit s) : Fit (doV s k t n).2 ∧ (doV s k t n).2.sz = s.sz := by
  have hc := cont_le s hf
  obtain ⟨f1, f2, f3, f4⟩ := id hf
  unfold doV
  split
  · unfold writeV
    split
    · split
      · next hl =>
        cases hr : s.rep
        · refine ⟨⟨f1, f2, ?_, f4⟩, rfl⟩
          unfold cont at hl
          rw [hr] at hl
          simp only [Bool.false_eq_true, if_false, List.length_append] at hl ⊢
          omega
        · refine ⟨⟨f1, f2, f3, ?_⟩, rfl⟩
          unfold cont at hl
          rw [hr] at hl
          simp only [if_true, List.length_append] at hl ⊢
          omega
      · exact ⟨hf, rfl⟩
    · exact ⟨hf, rfl⟩
  · split
    · unfold syncV
      split
      · refine ⟨⟨f1, f2, ?_, ?_⟩, rfl⟩
        · simp only [List.length_nil, Nat.add_zero]; exact hc
        · simp only [List.length_nil]; omega
      · exact ⟨hf, rfl⟩
    · split
      · unfold replaceV
        split
        · split
          · next hl => exact ⟨⟨f1, f2, f3, hl⟩, rfl⟩
          · exact ⟨hf, rfl⟩
        · exact ⟨hf, rfl⟩
      · split
        · unfold crashV
          split
          · split
            · exact ⟨hf, rfl⟩
            · refine ⟨⟨f1, f2, ?_, ?_⟩, rfl⟩
              · simp only [List.length_append, List.length_take, List.length_nil, Nat.add_zero]; omega
              · simp only [List.length_nil]; omega
          · exact ⟨hf, rfl⟩
        · unfold restartV
          split
          · exact ⟨⟨f1, f2, f3, f4⟩, rfl⟩
          · exact ⟨hf, rfl⟩
end Go.Proofs.Ytjcojgblnbhejaa
