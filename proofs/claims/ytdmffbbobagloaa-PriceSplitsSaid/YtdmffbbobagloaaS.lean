/- What usages cost by a price of layer 53, in plain words: more never costs less, and one unit more costs the marginal price. -/
import Derived.Test.YtdmffbbobagloaaM
namespace Go.Proofs.Ytdmffbbobagloaa
open Go.ChangeShapes Go.WideShapes Go.ChangeAt Go.RowKit

def sumP (ts : List T2) (units : Int) : Nat → Int
  | 0 => 0
  | k + 1 => sumP ts units k + partV ts units k * (ts.getD k T2.z).m
theorem sumP_succ (ts : List T2) (units : Int) (k : Nat) : sumP ts units (k + 1) = sumP ts units k + partV ts units k * (ts.getD k T2.z).m := rfl
theorem sumP_nn (ts : List T2) (hg : chkL ts 0 = 0) (b : Int) (hb : 0 ≤ b) (k : Nat) (hk : k ≤ ts.length) : 0 ≤ sumP ts b k := by
  induction k with
  | zero => exact Int.le_refl _
  | succ k ih =>
    have := ih (by omega)
    have := Int.mul_nonneg (part_bd ts hg b hb k (by omega)).1 (tier_ok ts hg k (by omega)).m0
    rw [sumP_succ]
    omega
/-- The sum of all tiers. -/
def amtT (iv : Int) (ts : List T2) (a b : Int) : Int := a * iv + sumP ts b ts.length
def amtV (fi fu iv : Int) (ts : List T2) (u1 u2 u3 u4 : Int) : N2 := if (billV fi fu iv ts u1 u2 u3 u4).e = 0 then (if amtT iv ts (billV fi fu iv ts u1 u2 u3 u4).a (billV fi fu iv ts u1 u2 u3 u4).b ≤ 1000000000000 then ⟨amtT iv ts (billV fi fu iv ts u1 u2 u3 u4).a (billV fi fu iv ts u1 u2 u3 u4).b, 0⟩ else ⟨0, 8⟩) else ⟨0, (billV fi fu iv ts u1 u2 u3 u4).e⟩

theorem part_mono (ts : List T2) (hg : chkL ts 0 = 0) (b c : Int) (hb : 0 ≤ b) (hc : b ≤ c) (k : Nat) (hk : k < ts.length) : partV ts b k ≤ partV ts c k := by
  by_cases hl : k + 1 = ts.length
  · rw [part_last ts hg b hb k hl, part_last ts hg c (by omega) k hl]
    omega
  · rw [part_mid ts hg b hb k hk hl, part_mid ts hg c (by omega) k hk hl]
    omega
theorem sum_mono (ts : List T2) (hg : chkL ts 0 = 0) (b c : Int) (hb : 0 ≤ b) (hc : b ≤ c) (k : Nat) (hk : k ≤ ts.length) : sumP ts b k ≤ sumP ts c k := by
  induction k with
  | zero => exact Int.le_refl _
  | succ k ih =>
    have h1 := ih (by omega)
    have h2 := Int.mul_le_mul_of_nonneg_right (part_mono ts hg b c hb hc k (by omega)) (tier_ok ts hg k (by omega)).m0
    rw [sumP_succ, sumP_succ]
    omega
theorem amtT_mono (iv : Int) (ts : List T2) (hg : chkL ts 0 = 0) (a b c d : Int) (hi : 0 ≤ iv) (hb : 0 ≤ b) (h1 : a ≤ c) (h2 : b ≤ d) : amtT iv ts a b ≤ amtT iv ts c d := by
  have h3 := Int.mul_le_mul_of_nonneg_right h1 hi
  have h4 := sum_mono ts hg b d hb h2 ts.length (Nat.le_refl _)
  unfold amtT
  omega
def upI (ts : List T2) (b : Int) (k : Nat) : Int := if k = 0 then 0 else if k = ts.length then 1 else if b < (ts.getD (k - 1) T2.z).u then 1 else 0
theorem cut_up (ts : List T2) (b : Int) (k : Nat) : cutI ts (b + 1) k = cutI ts b k + upI ts b k := by
  unfold cutI upI
  by_cases h : k = 0
  · simp [h]
  · rw [if_neg h, if_neg h, if_neg h]
    by_cases h2 : k = ts.length
    · rw [if_pos h2, if_pos h2, if_pos h2]
    · rw [if_neg h2, if_neg h2, if_neg h2]
      split <;> omega
theorem sum_one (ts : List T2) (hg : chkL ts 0 = 0) (b : Int) (k : Nat) (hk : k ≤ ts.length) :
    (upI ts b k = 0 ∧ sumP ts (b + 1) k = sumP ts b k ∧ margL (ts.drop k) b = margL ts b) ∨ (upI ts b k = 1 ∧ k ≠ 0 ∧ sumP ts (b + 1) k = sumP ts b k + margL ts b) := by
  induction k with
  | zero => exact .inl ⟨rfl, rfl, rfl⟩
  | succ k ih =>
    have hp : partV ts (b + 1) k = partV ts b k + (upI ts b (k + 1) - upI ts b k) := by
      unfold partV
      rw [cut_up, cut_up]
      omega
    have hu : upI ts b (k + 1) = if k + 1 = ts.length then 1 else if b < (ts.getD k T2.z).u then 1 else 0 := by
      unfold upI
      rw [if_neg (by omega)]
      rfl
    have hm := margL_step ts k (by omega) b
    rw [sumP_succ, sumP_succ, hp]
    rcases ih (by omega) with ⟨h1, h2, h3⟩ | ⟨h1, h0, h2⟩
    · rw [h1, h2]
      by_cases hl : k + 1 = ts.length
      · rw [if_pos hl] at hu
        right
        refine ⟨hu, by omega, ?_⟩
        have hx : margL ts b = (ts.getD k T2.z).m := by
          rw [← h3, hm]
          split <;> rfl
        rw [hu, hx, Int.sub_zero, Int.add_mul, Int.one_mul]
        omega
      · rw [if_neg hl] at hu
        by_cases hb : b < (ts.getD k T2.z).u
        · rw [if_pos hb] at hu
          right
          refine ⟨hu, by omega, ?_⟩
          have hx : margL ts b = (ts.getD k T2.z).m := by rw [← h3, hm, if_pos hb]
          rw [hu, hx, Int.sub_zero, Int.add_mul, Int.one_mul]
          omega
        · rw [if_neg hb] at hu
          left
          refine ⟨hu, by rw [hu]; simp, ?_⟩
          rw [← h3, hm, if_neg hb, if_neg hl]
    · right
      have hk1 : k ≠ ts.length := by omega
      have hbb : b < befI ts k := by
        unfold upI at h1
        rw [if_neg h0, if_neg hk1] at h1
        unfold befI
        rw [if_neg h0]
        split at h1
        · assumption
        · omega
      have hu1 : upI ts b (k + 1) = 1 := by
        rw [hu]
        split
        · rfl
        · next hl =>
          have := (tier_ok ts hg k (by omega)).ord hl
          rw [if_pos (by omega)]
      refine ⟨hu1, by omega, ?_⟩
      rw [hu1, h1, h2, Int.sub_self, Int.add_zero]
      omega
theorem amt_one (iv : Int) (ts : List T2) (hg : chkL ts 0 = 0) (h1 : 1 ≤ ts.length) (a b : Int) : amtT iv ts a (b + 1) = amtT iv ts a b + margL ts b := by
  unfold amtT
  rcases sum_one ts hg b ts.length (Nat.le_refl _) with ⟨h, _, _⟩ | ⟨_, _, h⟩
  · unfold upI at h
    rw [if_neg (by omega), if_pos rfl] at h
    omega
  · omega
theorem sum_free (ts : List T2) (hg : chkL ts 0 = 0) (k : Nat) (hk : k ≤ ts.length) : sumP ts 0 k = 0 := by
  induction k with
  | zero => rfl
  | succ k ih =>
    have h := part_bd ts hg 0 (Int.le_refl _) k (by omega)
    rw [sumP_succ, ih (by omega), show partV ts 0 k = 0 by omega]
    simp
theorem amt_free (iv : Int) (ts : List T2) (hg : chkL ts 0 = 0) : amtT iv ts 0 0 = 0 := by
  unfold amtT
  rw [sum_free ts hg ts.length (Nat.le_refl _)]
  simp
/-- What the law's loop knows of the first k parts. -/
structure CostIn (ts : List T2) (units : Int) (k : Nat) (cost : Int) (large : Bool) : Prop where
  no : large = false → cost = min (sumP ts units k) 2000000000000
  yes : large = true → 1000000000000 < sumP ts units k
  c0 : 0 ≤ cost
  c1 : cost ≤ 2000000000000
theorem over_iff (p m : Int) (hm : 0 < m) : 1000000000000 / m < p ↔ 1000000000000 < p * m := Int.ediv_lt_iff_lt_mul hm
end Go.Proofs.Ytdmffbbobagloaa
