/- Slots in plain words: names; lists of functions with counts; what is used, reserved and free. -/
import Derived.Test.YtbcologcendhlaaY
namespace Go.Proofs.Ytbcologcendhlaa

def bs (xs : List UInt8) : ByteArray := ⟨xs.toArray⟩
theorem bs_size (xs : List UInt8) : (bs xs).size = xs.length := by simp [bs, ByteArray.size]
theorem bs_list (t : ByteArray) : t = bs t.data.toList := by simp [bs]
theorem bs_back (x : List UInt8) : (bs x).data.toList = x := by simp [bs]
theorem bs_inj {a b : List UInt8} (h : bs a = bs b) : a = b := by
  have := congrArg (fun t : ByteArray => t.data.toList) h
  simpa [bs] using this
abbrev Key := List UInt8
abbrev KL := List (Key × Int)

def smallB (c : Nat) : Bool := decide (97 ≤ c) && decide (c ≤ 122)
def digitB (c : Nat) : Bool := decide (48 ≤ c) && decide (c ≤ 57)
/-- The character at place i is one that a name may have there. -/
def okAt (i c : Nat) : Bool := smallB c || (decide (i ≠ 0) && (digitB c || c == 45 || c == 95))
def allB (s : Key) : Bool := (List.range s.length).all fun i => okAt i (s.getD i 0).toNat
def nameV (s : Key) : Bool := decide (1 ≤ s.length) && decide (s.length ≤ 24) && allB s
theorem allB_iff (s : Key) : allB s = true ↔ ∀ i, i < s.length → okAt i (s.getD i 0).toNat = true := by
  unfold allB
  rw [List.all_eq_true]
  exact ⟨fun h i hi => h i (List.mem_range.2 hi), fun h i hi => h i (List.mem_range.1 hi)⟩
theorem allB_no {s : Key} {i : Nat} (hi : i < s.length) (h : okAt i (s.getD i 0).toNat = false) : allB s = false := by
  cases ha : allB s
  · rfl
  · rw [(allB_iff s).1 ha i hi] at h
    cases h
theorem nameV_len {s : Key} (h : nameV s = true) : s.length ≤ 24 := by
  unfold nameV at h
  simp only [Bool.and_eq_true, decide_eq_true_eq] at h
  omega
theorem okAt_high (i c : Nat) (h : 128 ≤ c) : okAt i c = false := by
  unfold okAt smallB digitB
  have h1 : decide (c ≤ 122) = false := decide_eq_false (by omega)
  have h2 : decide (c ≤ 57) = false := decide_eq_false (by omega)
  have h3 : (c == 45) = false := beq_eq_false_iff_ne.2 (by omega)
  have h4 : (c == 95) = false := beq_eq_false_iff_ne.2 (by omega)
  rw [h1, h2, h3, h4]
  simp

def look : KL → Key → Option Int
  | [], _ => none
  | (x, c) :: l, s => if x = s then some c else look l s
def keys (l : KL) : List Key := l.map (·.1)
def wsum (q : Key → Bool) : KL → Int
  | [] => 0
  | (x, c) :: l => (if q x then c else 0) + wsum q l
def bump : KL → Key → Int → KL
  | [], s, d => [(s, d)]
  | (x, c) :: l, s, d => if x = s then (x, c + d) :: l else (x, c) :: bump l s d
def cnt (l : KL) (s : Key) : Int := (look l s).getD 0
theorem look_none {l : KL} {s : Key} (h : s ∉ keys l) : look l s = none := by
  induction l with
  | nil => rfl
  | cons p l ih =>
    obtain ⟨x, c⟩ := p
    simp only [keys, List.map_cons, List.mem_cons, not_or] at h
    rw [look, if_neg (fun e => h.1 e.symm)]
    exact ih h.2
theorem look_mem {l : KL} {s : Key} {c : Int} (h : look l s = some c) : (s, c) ∈ l := by
  induction l with
  | nil => cases h
  | cons p l ih =>
    obtain ⟨x, d⟩ := p
    rw [look] at h
    split at h
    · next e =>
      subst e
      obtain rfl := Option.some.inj h
      exact List.mem_cons_self
    · exact List.mem_cons_of_mem _ (ih h)
theorem mem_keys {l : KL} {s : Key} {c : Int} (h : (s, c) ∈ l) : s ∈ keys l := List.mem_map.2 ⟨_, h, rfl⟩
theorem look_of_mem {l : KL} (hn : (keys l).Nodup) {s : Key} {c : Int} (h : (s, c) ∈ l) : look l s = some c := by
  induction l with
  | nil => cases h
  | cons p l ih =>
    obtain ⟨x, d⟩ := p
    simp only [keys, List.map_cons, List.nodup_cons] at hn
    rcases List.mem_cons.1 h with h | h
    · obtain ⟨rfl, rfl⟩ := Prod.mk.inj h
      rw [look, if_pos rfl]
    · have hne : x ≠ s := fun e => hn.1 (e ▸ mem_keys h)
      rw [look, if_neg hne]
      exact ih hn.2 h
theorem look_bump (l : KL) (s : Key) (d : Int) (t : Key) : look (bump l s d) t = if t = s then some (cnt l s + d) else look l t := by
  induction l with
  | nil =>
    simp only [bump, look, cnt, Option.getD_none]
    by_cases h : t = s
    · rw [if_pos h, if_pos h.symm, Int.zero_add]
    · rw [if_neg h, if_neg (fun e => h e.symm)]
  | cons p l ih =>
    obtain ⟨x, c⟩ := p
    rw [bump]
    by_cases hx : x = s
    · rw [if_pos hx, look]
      have hc : cnt ((x, c) :: l) s = c := by unfold cnt; rw [look, if_pos hx]; rfl
      rw [hc]
      by_cases h : t = s
      · rw [if_pos h, if_pos (hx.trans h.symm)]
      · rw [if_neg h, if_neg (fun e => h (e.symm.trans hx)), look, if_neg (fun e => h (e.symm.trans hx))]
    · have hc : cnt ((x, c) :: l) s = cnt l s := by unfold cnt; rw [look, if_neg hx]
      rw [if_neg hx, look, hc, ih]
      by_cases h : t = s
      · rw [if_pos h, if_pos h, if_neg (fun e => hx (e.trans h))]
      · rw [if_neg h, if_neg h, look]
theorem wsum_bump (q : Key → Bool) (l : KL) (s : Key) (d : Int) : wsum q (bump l s d) = wsum q l + (if q s then d else 0) := by
  induction l with
  | nil => simp [bump, wsum]
  | cons p l ih =>
    obtain ⟨x, c⟩ := p
    rw [bump]
    by_cases hx : x = s
    · subst hx
      rw [if_pos rfl, wsum, wsum]
      split <;> omega
    · rw [if_neg hx, wsum, wsum, ih]
      omega
theorem keys_bump (l : KL) (s : Key) (d : Int) : ∀ x, x ∈ keys (bump l s d) ↔ x ∈ keys l ∨ x = s := by
  intro x
  induction l with
  | nil => simp [bump, keys]
  | cons p l ih =>
    obtain ⟨y, c⟩ := p
    rw [bump]
    by_cases hy : y = s
    · subst hy
      rw [if_pos rfl]
      simp only [keys, List.map_cons, List.mem_cons]
      constructor
      · intro h; exact .inl h
      · rintro (h | h)
        · exact h
        · exact .inl h
    · rw [if_neg hy]
      simp only [keys, List.map_cons, List.mem_cons]
      have := ih
      simp only [keys] at this
      rw [this, or_assoc]
theorem nodup_bump {l : KL} (h : (keys l).Nodup) (s : Key) (d : Int) : (keys (bump l s d)).Nodup := by
  induction l with
  | nil => simp [bump, keys]
  | cons p l ih =>
    obtain ⟨y, c⟩ := p
    simp only [keys, List.map_cons, List.nodup_cons] at h
    rw [bump]
    by_cases hy : y = s
    · rw [if_pos hy]
      simp only [keys, List.map_cons, List.nodup_cons]
      exact h
    · rw [if_neg hy]
      simp only [keys, List.map_cons, List.nodup_cons]
      refine ⟨fun hm => ?_, ih h.2⟩
      rcases (keys_bump l s d y).1 hm with hm | hm
      · exact h.1 hm
      · exact hy hm
theorem wsum_congr {q r : Key → Bool} {l : KL} (h : ∀ p ∈ l, p.2 ≠ 0 → q p.1 = r p.1) : wsum q l = wsum r l := by
  induction l with
  | nil => rfl
  | cons p l ih =>
    obtain ⟨x, c⟩ := p
    rw [wsum, wsum, ih (fun p hp => h p (List.mem_cons_of_mem _ hp))]
    by_cases hc : c = 0
    · subst hc
      simp
    · rw [h (x, c) List.mem_cons_self hc]
theorem wsum_none {q : Key → Bool} {l : KL} (h : ∀ p ∈ l, p.2 ≠ 0 → q p.1 = false) : wsum q l = 0 := by
  rw [wsum_congr (r := fun _ => false) h]
  induction l with
  | nil => rfl
  | cons p l ih =>
    obtain ⟨x, c⟩ := p
    rw [wsum, ih (fun p hp => h p (List.mem_cons_of_mem _ hp))]
    rfl
/-- One key more is counted. -/
theorem wsum_add {q r : Key → Bool} {l : KL} (hn : (keys l).Nodup) {s : Key} (hs : q s = false) (h : ∀ x, x ≠ s → r x = q x) : wsum r l = wsum q l + (if r s then cnt l s else 0) := by
  induction l with
  | nil => simp [wsum, cnt, look]
  | cons p l ih =>
    obtain ⟨x, c⟩ := p
    simp only [keys, List.map_cons, List.nodup_cons] at hn
    by_cases hx : x = s
    · subst hx
      have hl : wsum r l = wsum q l := wsum_congr fun p hp _ => h _ (fun e => hn.1 (e ▸ List.mem_map.2 ⟨p, hp, rfl⟩))
      have hc : cnt ((x, c) :: l) x = c := by unfold cnt; rw [look, if_pos rfl]; rfl
      rw [wsum, wsum, hl, hc, hs]
      simp only [Bool.false_eq_true, if_false]
      omega
    · have hc : cnt ((x, c) :: l) s = cnt l s := by unfold cnt; rw [look, if_neg hx]
      rw [wsum, wsum, ih hn.2, hc, h x hx]
      omega
theorem wsum_le {q r : Key → Bool} {l : KL} (h0 : ∀ p ∈ l, 0 ≤ p.2) (h : ∀ x, q x = true → r x = true) : wsum q l ≤ wsum r l := by
  induction l with
  | nil => exact Int.le_refl _
  | cons p l ih =>
    obtain ⟨x, c⟩ := p
    have hc := h0 (x, c) List.mem_cons_self
    simp only at hc
    have := ih (fun p hp => h0 p (List.mem_cons_of_mem _ hp))
    rw [wsum, wsum]
    cases hq : q x
    · simp only [Bool.false_eq_true, if_false]
      split <;> omega
    · rw [h x hq]
      simp only [if_true]
      omega
theorem wsum_nonneg {q : Key → Bool} {l : KL} (h0 : ∀ p ∈ l, 0 ≤ p.2) : 0 ≤ wsum q l := by
  have := wsum_le (q := fun _ => false) (r := q) h0 (fun x h => by cases h)
  rw [wsum_none (q := fun _ => false) (fun _ _ _ => rfl)] at this
  exact this
theorem wsum_split (q r : Key → Bool) (l : KL) (h : ∀ p ∈ l, r p.1 = !q p.1) : wsum (fun _ => true) l = wsum q l + wsum r l := by
  induction l with
  | nil => rfl
  | cons p l ih =>
    obtain ⟨x, c⟩ := p
    have := h (x, c) List.mem_cons_self
    simp only at this
    rw [wsum, wsum, wsum, ih (fun p hp => h p (List.mem_cons_of_mem _ hp)), this]
    cases q x <;> simp <;> omega
end Go.Proofs.Ytbcologcendhlaa
