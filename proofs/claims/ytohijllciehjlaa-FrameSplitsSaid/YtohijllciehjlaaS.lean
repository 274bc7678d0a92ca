/- Packed fields in plain words. -/
import Derived.Test.YtohijllciehjlaaR
namespace Go.Proofs.Ytohijllciehjlaa

def enc (f : List UInt8) : List UInt8 := UInt8.ofNat (f.length / 256) :: UInt8.ofNat f.length :: f
def encs (fs : List (List UInt8)) : List UInt8 := fs.flatMap enc
def packL (fs : List (List UInt8)) : List UInt8 := UInt8.ofNat fs.length :: encs fs
def Packs (fs : List (List UInt8)) : Prop := fs.length ≤ 64 ∧ ∀ f ∈ fs, f.length ≤ 4000
theorem enc_len (f : List UInt8) : (enc f).length = f.length + 2 := by simp [enc]
/-- k fields at the beginning of s, which they take whole. -/
def unpF : Nat → List UInt8 → List (List UInt8) × Int
  | 0, s => if s.length = 0 then ([], 0) else ([], 13)
  | k + 1, s =>
    if s.length < 2 then ([], 14) else if 4000 < (s.getD 0 0).toNat * 256 + (s.getD 1 0).toNat then ([], 13) else
      if s.length < (s.getD 0 0).toNat * 256 + (s.getD 1 0).toNat + 2 then ([], 14) else
        if (unpF k (s.drop ((s.getD 0 0).toNat * 256 + (s.getD 1 0).toNat + 2))).2 = 0 then
          ((s.drop 2).take ((s.getD 0 0).toNat * 256 + (s.getD 1 0).toNat) :: (unpF k (s.drop ((s.getD 0 0).toNat * 256 + (s.getD 1 0).toNat + 2))).1, 0)
        else ([], (unpF k (s.drop ((s.getD 0 0).toNat * 256 + (s.getD 1 0).toNat + 2))).2)
def unpackV (s : List UInt8) : List (List UInt8) × Int := if s.length < 1 then ([], 14) else if 64 < (s.getD 0 0).toNat then ([], 13) else unpF (s.getD 0 0).toNat (s.drop 1)
theorem size_enc (f more : List UInt8) (h : f.length ≤ 4000) : ((enc f ++ more).getD 0 0).toNat * 256 + ((enc f ++ more).getD 1 0).toNat = f.length := by
  simp only [enc, List.cons_append, List.getD_cons_zero, List.getD_cons_succ, ofNat_toNat]
  omega
theorem unp_encs (fs : List (List UInt8)) (h : ∀ f ∈ fs, f.length ≤ 4000) : unpF fs.length (encs fs) = (fs, 0) := by
  induction fs with
  | nil => rfl
  | cons f fs ih =>
    have hf := h f List.mem_cons_self
    have he : encs (f :: fs) = enc f ++ encs fs := by simp [encs]
    have hl : (enc f ++ encs fs).length = f.length + 2 + (encs fs).length := by rw [List.length_append, enc_len]
    have hd : (enc f ++ encs fs).drop (f.length + 2) = encs fs := List.drop_left' (enc_len f)
    have ht : ((enc f ++ encs fs).drop 2).take f.length = f := by
      simp only [enc, List.cons_append, List.drop_succ_cons, List.drop_zero]
      exact List.take_left
    rw [List.length_cons, unpF, he, size_enc f _ hf, hl, if_neg (by omega), if_neg (by omega), if_neg (by omega), hd, ht, ih (fun x hx => h x (List.mem_cons_of_mem _ hx))]
    simp
theorem unpack_pack (fs : List (List UInt8)) (h : Packs fs) : unpackV (packL fs) = (fs, 0) := by
  have h64 := h.1
  unfold unpackV packL
  rw [if_neg (by simp)]
  simp only [List.getD_cons_zero, ofNat_toNat, List.drop_succ_cons, List.drop_zero]
  rw [show fs.length % 256 = fs.length by omega, if_neg (by omega)]
  exact unp_encs fs h.2
set_option maxRecDepth 100000 in
theorem unp_ok (k : Nat) (s : List UInt8) (h : (unpF k s).2 = 0) : (unpF k s).1.length = k ∧ encs (unpF k s).1 = s ∧ ∀ f ∈ (unpF k s).1, f.length ≤ 4000 := by
  induction k generalizing s with
  | zero =>
    rw [unpF] at h ⊢
    split at h
    · next h0 =>
      rw [if_pos h0]
      exact ⟨rfl, (List.eq_nil_of_length_eq_zero h0).symm, fun f hf => by cases hf⟩
    · cases h
  | succ k ih =>
    rw [unpF] at h ⊢
    generalize hz : (s.getD 0 0).toNat * 256 + (s.getD 1 0).toNat = z at h ⊢
    by_cases h1 : s.length < 2
    · rw [if_pos h1] at h; cases h
    · rw [if_neg h1] at h ⊢
      by_cases h2 : 4000 < z
      · rw [if_pos h2] at h; cases h
      · rw [if_neg h2] at h ⊢
        by_cases h3 : s.length < z + 2
        · rw [if_pos h3] at h; cases h
        · rw [if_neg h3] at h ⊢
          by_cases h4 : (unpF k (s.drop (z + 2))).2 = 0
          · rw [if_pos h4]
            obtain ⟨i1, i2, i3⟩ := ih _ h4
            have hlt : ((s.drop 2).take z).length = z := by rw [List.length_take, List.length_drop]; omega
            refine ⟨by simp only [List.length_cons, i1], ?_, fun f hf => ?_⟩
            · have he : encs ((s.drop 2).take z :: (unpF k (s.drop (z + 2))).1) = enc ((s.drop 2).take z) ++ encs (unpF k (s.drop (z + 2))).1 := by simp [encs]
              rw [he, i2]
              match s, h1, hz, hlt with
              | a :: b :: s, _, hz, hlt =>
                simp only [List.getD_cons_zero, List.getD_cons_succ, List.drop_succ_cons, List.drop_zero] at hz hlt ⊢
                unfold enc
                rw [hlt]
                have ha := UInt8.toNat_lt a
                have hb := UInt8.toNat_lt b
                have e1 : UInt8.ofNat (z / 256) = a := by
                  apply UInt8.toNat_inj.1
                  rw [ofNat_toNat]
                  omega
                have e2 : UInt8.ofNat z = b := by
                  apply UInt8.toNat_inj.1
                  rw [ofNat_toNat]
                  omega
                rw [e1, e2]
                simp only [List.cons_append]
                rw [List.take_append_drop]
              | [a], h1, _, _ => simp at h1
              | [], h1, _, _ => simp at h1
            · rcases List.mem_cons.1 hf with rfl | hf
              · omega
              · exact i3 f hf
          · rw [if_neg h4] at h
            exact absurd h h4
theorem pack_unpack (s : List UInt8) (h : (unpackV s).2 = 0) : Packs (unpackV s).1 ∧ packL (unpackV s).1 = s := by
  unfold unpackV at *
  split at h
  · cases h
  · next h1 =>
    rw [if_neg h1]
    split at h
    · cases h
    · next h2 =>
      rw [if_neg h2]
      obtain ⟨i1, i2, i3⟩ := unp_ok _ _ h
      refine ⟨⟨by omega, i3⟩, ?_⟩
      unfold packL
      rw [i1, i2]
      match s, h1 with
      | a :: s, _ =>
        simp only [List.getD_cons_zero, List.drop_succ_cons, List.drop_zero]
        congr 1
        apply UInt8.toNat_inj.1
        rw [ofNat_toNat]
        have := UInt8.toNat_lt a
        omega
      | [], h1 => simp at h1
theorem unp_torn (fs : List (List UInt8)) (cut : Nat) (h : ∀ f ∈ fs, f.length ≤ 4000) (hc : cut < (encs fs).length) : (unpF fs.length ((encs fs).take cut)).2 = 14 := by
  induction fs generalizing cut with
  | nil => simp [encs] at hc
  | cons f fs ih =>
    have hf := h f List.mem_cons_self
    have he : encs (f :: fs) = enc f ++ encs fs := by simp [encs]
    rw [he] at hc ⊢
    rw [List.length_append, enc_len] at hc
    have hl : ((enc f ++ encs fs).take cut).length = cut := by rw [List.length_take, List.length_append, enc_len]; omega
    rw [List.length_cons, unpF, hl]
    by_cases h2 : cut < 2
    · rw [if_pos h2]
    · rw [if_neg h2]
      have hsz : (((enc f ++ encs fs).take cut).getD 0 0).toNat * 256 + (((enc f ++ encs fs).take cut).getD 1 0).toNat = f.length := by
        match cut, h2 with
        | c + 2, _ =>
          have := size_enc f (encs fs) hf
          simp only [enc, List.cons_append, List.take_succ_cons, List.getD_cons_zero, List.getD_cons_succ] at this ⊢
          exact this
        | 0, h2 => omega
        | 1, h2 => omega
      rw [hsz, if_neg (by omega)]
      by_cases h3 : cut < f.length + 2
      · rw [if_pos h3]
      · rw [if_neg h3]
        have hd : ((enc f ++ encs fs).take cut).drop (f.length + 2) = (encs fs).take (cut - (f.length + 2)) := by
          rw [List.take_append, List.take_of_length_le (by rw [enc_len]; omega), enc_len]
          exact List.drop_left' (enc_len f)
        rw [hd]
        have i := ih (cut - (f.length + 2)) (fun x hx => h x (List.mem_cons_of_mem _ hx)) (by omega)
        rw [if_neg (by rw [i]; decide)]
        exact i
theorem unpack_torn (fs : List (List UInt8)) (cut : Nat) (h : Packs fs) (hc : cut < (packL fs).length) : (unpackV ((packL fs).take cut)).2 = 14 := by
  have h64 := h.1
  unfold unpackV
  match cut, hc with
  | 0, _ => rfl
  | c + 1, hc =>
    unfold packL at hc ⊢
    simp only [List.length_cons, List.take_succ_cons, List.getD_cons_zero, ofNat_toNat, List.drop_succ_cons, List.drop_zero] at hc ⊢
    rw [if_neg (by omega), show fs.length % 256 = fs.length by omega, if_neg (by omega)]
    exact unp_torn fs c h.2 (by omega)
end Go.Proofs.Ytohijllciehjlaa
