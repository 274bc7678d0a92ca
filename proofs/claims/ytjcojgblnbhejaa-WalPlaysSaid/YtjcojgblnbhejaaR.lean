/- Frames in plain words: sealed bodies, what opening finds, what splitting finds. -/
import Derived.Test.YtjcojgblnbhejaaP
namespace Go.Proofs.Ytjcojgblnbhejaa

def num4 (n : Nat) : List UInt8 := [UInt8.ofNat (n / 16777216), UInt8.ofNat (n / 65536), UInt8.ofNat (n / 256), UInt8.ofNat n]
def val4 (l : List UInt8) : Nat := (((l.getD 0 0).toNat * 256 + (l.getD 1 0).toNat) * 256 + (l.getD 2 0).toNat) * 256 + (l.getD 3 0).toNat
theorem num4_len (n : Nat) : (num4 n).length = 4 := rfl
theorem ofNat_toNat (n : Nat) : (UInt8.ofNat n).toNat = n % 256 := by simp
theorem val4_num4 (n : Nat) (h : n < 4294967296) (m : List UInt8) : val4 (num4 n ++ m) = n := by
  unfold val4 num4
  simp only [List.cons_append, List.getD_cons_zero, List.getD_cons_succ, ofNat_toNat]
  omega
theorem val4_lt (l : List UInt8) : val4 l < 4294967296 := by
  unfold val4
  have h0 := UInt8.toNat_lt (l.getD 0 0)
  have h1 := UInt8.toNat_lt (l.getD 1 0)
  have h2 := UInt8.toNat_lt (l.getD 2 0)
  have h3 := UInt8.toNat_lt (l.getD 3 0)
  omega
/-- The frame of a body. -/
def sealL (b : List UInt8) : List UInt8 := num4 b.length ++ (num4 (crcV b) ++ b)
theorem sealL_len (b : List UInt8) : (sealL b).length = 8 + b.length := by
  unfold sealL
  simp only [List.length_append, num4_len]
  omega
structure OpenR where
  body : List UInt8
  n : Nat
  e : Int
/-- What opening finds. -/
def openV (s : List UInt8) : OpenR :=
  if s.length < 8 then ⟨[], 0, 14⟩ else if 262136 < val4 s then ⟨[], 0, 13⟩ else if s.length < val4 s + 8 then ⟨[], 0, 14⟩ else
    if crcV ((s.drop 8).take (val4 s)) = val4 (s.drop 4) then ⟨(s.drop 8).take (val4 s), 8 + val4 s, 0⟩ else ⟨[], 0, 13⟩
theorem open_seal (b more : List UInt8) (h : b.length ≤ 262136) : openV (sealL b ++ more) = ⟨b, 8 + b.length, 0⟩ := by
  have hl : (sealL b ++ more).length = 8 + b.length + more.length := by rw [List.length_append, sealL_len]
  have hv : val4 (sealL b ++ more) = b.length := by
    unfold sealL
    rw [List.append_assoc]
    exact val4_num4 _ (by omega) _
  have hd4 : (sealL b ++ more).drop 4 = num4 (crcV b) ++ (b ++ more) := by
    unfold sealL
    rw [List.append_assoc, List.append_assoc]
    exact List.drop_left' (num4_len _)
  have hc : val4 ((sealL b ++ more).drop 4) = crcV b := by
    rw [hd4]
    exact val4_num4 _ (by have := crcV_lt b; omega) _
  have hd8 : ((sealL b ++ more).drop 8).take b.length = b := by
    rw [show (8 : Nat) = 4 + 4 by rfl, ← List.drop_drop, hd4, List.drop_left' (num4_len _)]
    exact List.take_left
  unfold openV
  rw [hv, hc, hd8, hl, if_neg (by omega), if_neg (by omega), if_neg (by omega), if_pos rfl]
theorem open_ok {s : List UInt8} (h : (openV s).e = 0) : 8 ≤ (openV s).n ∧ (openV s).n ≤ s.length ∧ (openV s).body.length + 8 = (openV s).n := by
  unfold openV at *
  split at h
  · cases h
  · next h1 =>
    rw [if_neg h1]
    split at h
    · cases h
    · next h2 =>
      rw [if_neg h2]
      split at h
      · cases h
      · next h3 =>
        rw [if_neg h3]
        split at h
        · next h4 =>
          rw [if_pos h4]
          simp only [List.length_take, List.length_drop]
          omega
        · cases h
def splitF : Nat → List UInt8 → List (List UInt8) × Nat
  | 0, _ => ([], 0)
  | f + 1, s => if (openV s).e = 0 then ((openV s).body :: (splitF f (s.drop (openV s).n)).1, (openV s).n + (splitF f (s.drop (openV s).n)).2) else ([], 0)
theorem splitF_fuel (f g : Nat) (s : List UInt8) (hf : s.length < f) (hg : s.length < g) : splitF f s = splitF g s := by
  induction f generalizing g s with
  | zero => omega
  | succ f ih =>
    match g, hg with
    | g + 1, hg =>
      unfold splitF
      by_cases h : (openV s).e = 0
      · obtain ⟨h1, h2, _⟩ := open_ok h
        rw [if_pos h, if_pos h, ih g _ (by rw [List.length_drop]; omega) (by rw [List.length_drop]; omega)]
      · rw [if_neg h, if_neg h]
/-- What splitting finds: the bodies, and where they end. -/
def splitV (s : List UInt8) : List (List UInt8) × Nat := splitF (s.length + 1) s
theorem splitV_step (s : List UInt8) : splitV s = if (openV s).e = 0 then ((openV s).body :: (splitV (s.drop (openV s).n)).1, (openV s).n + (splitV (s.drop (openV s).n)).2) else ([], 0) := by
  unfold splitV
  rw [splitF]
  by_cases h : (openV s).e = 0
  · obtain ⟨h1, h2, _⟩ := open_ok h
    rw [if_pos h, if_pos h, splitF_fuel s.length ((s.drop (openV s).n).length + 1) _ (by rw [List.length_drop]; omega) (by omega)]
  · rw [if_neg h, if_neg h]
def joinL (bs : List (List UInt8)) : List UInt8 := bs.flatMap sealL
/-- The complete frames before a cut. -/
def wholeF : List (List UInt8) → Nat → List (List UInt8) × Nat
  | [], _ => ([], 0)
  | b :: bs, cut => if 8 + b.length ≤ cut then (b :: (wholeF bs (cut - (8 + b.length))).1, 8 + b.length + (wholeF bs (cut - (8 + b.length))).2) else ([], 0)
theorem open_torn (b more : List UInt8) (cut : Nat) (h : b.length ≤ 262136) (hc : cut < 8 + b.length) : (openV ((sealL b ++ more).take cut)).e ≠ 0 := by
  have hl : ((sealL b ++ more).take cut).length = cut := by rw [List.length_take, List.length_append, sealL_len]; omega
  unfold openV
  rw [hl]
  by_cases h8 : cut < 8
  · rw [if_pos h8]
    decide
  · rw [if_neg h8]
    have hv : val4 ((sealL b ++ more).take cut) = b.length := by
      unfold sealL
      rw [List.append_assoc, List.take_append, List.take_of_length_le (by rw [num4_len]; omega)]
      exact val4_num4 _ (by omega) _
    rw [hv, if_neg (by omega), if_pos (by omega)]
    decide
theorem split_torn (bs : List (List UInt8)) (cut : Nat) (h : ∀ b ∈ bs, b.length ≤ 262136) : splitV ((joinL bs).take cut) = wholeF bs cut := by
  induction bs generalizing cut with
  | nil =>
    rw [splitV_step]
    have : (joinL []).take cut = [] := by simp [joinL]
    rw [this]
    rfl
  | cons b bs ih =>
    have hb := h b List.mem_cons_self
    have hj : joinL (b :: bs) = sealL b ++ joinL bs := by simp [joinL]
    rw [splitV_step, hj, wholeF]
    by_cases hc : 8 + b.length ≤ cut
    · have ht : (sealL b ++ joinL bs).take cut = sealL b ++ (joinL bs).take (cut - (8 + b.length)) := by
        rw [List.take_append, List.take_of_length_le (by rw [sealL_len]; exact hc), sealL_len]
      have hd : (sealL b ++ (joinL bs).take (cut - (8 + b.length))).drop (8 + b.length) = (joinL bs).take (cut - (8 + b.length)) := List.drop_left' (sealL_len b)
      rw [ht, open_seal b _ hb, if_pos hc]
      simp only [if_true]
      rw [hd, ih _ (fun x hx => h x (List.mem_cons_of_mem _ hx))]
    · rw [if_neg (open_torn b _ cut hb (by omega)), if_neg hc]
end Go.Proofs.Ytjcojgblnbhejaa
