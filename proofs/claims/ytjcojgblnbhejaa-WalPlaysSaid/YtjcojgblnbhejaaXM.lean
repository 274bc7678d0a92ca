/- The law of a drawn region (wp_region_mix) once more, where an operation may wait for another through others. -/
import Derived.Test.YtjcojgblnbhejaaX
namespace Go.Proofs.Ytjcojgblnbhejaa
open Go.RowKit

section
variable {P : Program} {ops : Array Oper} {md : Region.Mode} {Q : Exit → Act → World → Prop}

/-- Operation j waits for i, through others or not. -/
def reachB (md : Region.Mode) (ops : Array Oper) : Nat → Nat → Nat → Bool
  | 0, _, _ => false
  | f + 1, j, i => match ops[j]? with
    | none => false
    | some o => o.after.any fun e => Region.binds md e && (e.on == i || reachB md ops f e.on i)
def Closed (md : Region.Mode) (ops : Array Oper) (listed : Array Bool) : Prop := ∀ j oj, ops[j]? = some oj → listed.getD j false = true → ∀ e ∈ oj.after, Region.binds md e = true → listed.getD e.on false = true
theorem Closed.none (n : Nat) : Closed md ops (Array.replicate n false) := fun j oj _ h => by rw [getD_replicate_false] at h; cases h
theorem Closed.set {listed : Array Bool} {k : Nat} (h : Closed md ops listed) (hk : k ∈ Region.ready md ops listed) : Closed md ops (listed.setIfInBounds k true) := by
  intro j oj hj hl e he hb
  by_cases hjk : k = j
  · subst hjk
    obtain ⟨_, o, ho, hall⟩ := mem_ready.1 hk
    obtain rfl : o = oj := Option.some.inj (ho.symm.trans hj)
    exact getD_set_true (hall e he hb)
  · rw [getD_set_ne false hjk] at hl
    exact getD_set_true (h j oj hj hl e he hb)
theorem reach_spec {f j i : Nat} (h : reachB md ops (f + 1) j i = true) : ∃ o, ops[j]? = some o ∧ ∃ e ∈ o.after, Region.binds md e = true ∧ (e.on = i ∨ reachB md ops f e.on i = true) := by
  unfold reachB at h
  split at h
  · cases h
  · rename_i o ho
    rw [Array.any_eq_true'] at h
    obtain ⟨e, he, h2⟩ := h
    simp only [Bool.and_eq_true, Bool.or_eq_true, beq_iff_eq] at h2
    exact ⟨o, ho, e, he, h2.1, h2.2⟩
theorem closed_reach {listed : Array Bool} {i : Nat} (hcl : Closed md ops listed) : ∀ (f j : Nat), reachB md ops f j i = true → listed.getD j false = true → listed.getD i false = true
  | 0, _, h, _ => by cases h
  | f + 1, j, h, hl => by
    obtain ⟨o, ho, e, he, hb, h2⟩ := reach_spec h
    have h3 := hcl j o ho hl e he hb
    rcases h2 with rfl | h2
    · exact h3
    · exact closed_reach hcl f e.on h2 h3
theorem ready_not_reach {listed : Array Bool} {i j : Nat} {f : Nat} (hcl : Closed md ops listed) (hi : listed.getD i true = false) (h : reachB md ops f j i = true) : j ∉ Region.ready md ops listed := by
  intro hj
  obtain ⟨_, o, ho, hall⟩ := mem_ready.1 hj
  have hi2 := getD_both hi
  match f, h with
  | f + 1, h =>
    obtain ⟨o', ho', e, he, hb, h2⟩ := reach_spec h
    obtain rfl : o = o' := Option.some.inj (ho.symm.trans ho')
    have h3 := hall e he hb
    have h4 : listed.getD i false = true := by
      rcases h2 with rfl | h2
      · exact h3
      · exact closed_reach hcl f e.on h2 h3
    rw [hi2] at h4
    cases h4

theorem gameM_first_calmT {kd : List Nat} {i : Nat} {oi : Oper} {v : Value} (hi : ops[i]? = some oi) (hin : kd.getD i 2 = 0) (hsel : ∀ (j : Nat) (o : Oper) cs b, ops[j]? = some o → o.op ≠ .select cs b) :
    ∀ (f : Nat) (listed : Array Bool) (a : Act) (W : World),
      (∀ j oj, ops[j]? = some oj → j ≠ i → listed.getD j true = false → (∀ e ∈ oj.after, Region.binds md e = true → e.on ≠ i) → oi.apart ops oj = true) →
      (∀ j, listed.getD j true = false → (kd.getD j 2 = 0 ∨ kd.getD j 2 = 1 ∨ kd.getD j 2 = 3) ∨ reachB md ops ops.size j i = true) →
      Closed md ops listed → i ∈ Region.ready md ops listed → Yields P ops W oi v a →
      gameM P md ops kd Q f (listed.setIfInBounds i true) (a.put oi.dst v) W → gameM P md ops kd Q (f + 1) listed a W := by
  have now : ∀ (K : Act → World → Prop) (a : Act) (W : World), Yields P ops W oi v a → K (a.put oi.dst v) W → stepM P ops kd i K a W := fun K a W hy hk => by
    unfold stepM
    simp only [hi]
    rw [if_pos hin]
    exact ⟨v, hy, hk⟩
  intro f
  induction f with
  | zero =>
    intro listed a W _ _ _ hr hy H
    refine ⟨fun h => (by rw [h] at hr; cases hr), fun j hj => ?_⟩
    by_cases hji : j = i
    · subst hji; exact now _ _ _ hy H
    · have := ready_mono hj hji
      rw [H.1] at this
      cases this
  | succ f ih =>
    intro listed a W hfree hown hcl hr hy H
    refine ⟨fun h => (by rw [h] at hr; cases hr), fun j hj => ?_⟩
    by_cases hji : j = i
    · subst hji; exact now _ _ _ hy H
    · have h1 := H.2 j (ready_mono hj hji)
      obtain ⟨hjun, oj, hoj, hall⟩ := mem_ready.1 hj
      have hnot : ∀ e ∈ oj.after, Region.binds md e = true → e.on ≠ i := fun e he hb heq => by
        have h1 := hall e he hb
        rw [heq, getD_both (mem_ready.1 hr).1] at h1
        cases h1
      have hkd : kd.getD j 2 = 0 ∨ kd.getD j 2 = 1 ∨ kd.getD j 2 = 3 := by
        rcases hown j hjun with h | h
        · exact h
        · exact absurd hj (ready_not_reach hcl (mem_ready.1 hr).1 h)
      have h2 := stepM_put_calm hoj (hfree j oj hoj hji hjun hnot) hkd (fun cs b => hsel i oi cs b hi) (fun cs b => hsel j oj cs b hoj) hy h1
      have hfree' : ∀ k ok, ops[k]? = some ok → k ≠ i → (listed.setIfInBounds j true).getD k true = false →
          (∀ e ∈ ok.after, Region.binds md e = true → e.on ≠ i) → oi.apart ops ok = true := fun k ok hk hki hun hno => by
        refine hfree k ok hk hki ?_ hno
        by_cases hjk : j = k
        · subst hjk; exact hjun
        · rw [getD_set_ne true hjk] at hun; exact hun
      have hown' : ∀ k, (listed.setIfInBounds j true).getD k true = false → (kd.getD k 2 = 0 ∨ kd.getD k 2 = 1 ∨ kd.getD k 2 = 3) ∨ reachB md ops ops.size k i = true := fun k hun => by
        refine hown k ?_
        by_cases hjk : j = k
        · subst hjk; exact hjun
        · rw [getD_set_ne true hjk] at hun; exact hun
      refine stepM_mono (fun a' W' h3 => ?_) h2
      obtain ⟨h4, h5⟩ := h3
      refine ih (listed.setIfInBounds j true) a' W' hfree' hown' (hcl.set hj) (ready_mono hr (Ne.symm hji)) h4 ?_
      rw [Array.setIfInBounds_comm _ _ hji]
      exact h5

/-- The check of a region, by reckoning: one order serves every order. -/
def mixBT (md : Region.Mode) (ops : Array Oper) (kd : List Nat) : List Nat → Array Bool → Bool
  | [], listed => (Region.ready md ops listed).isEmpty
  | k :: ks, listed => (match kd.getD k 2 with
      | 0 => (Region.ready md ops listed).contains k && Region.free md ops listed k &&
          ((List.range ops.size).all fun j => decide (kd.getD j 2 = 0) || decide (kd.getD j 2 = 1) || decide (kd.getD j 2 = 3) || listed.getD j true || reachB md ops ops.size j k)
      | 1 => (Region.ready md ops listed).contains k && Region.free md ops listed k
      | _ => decide (Region.ready md ops listed = [k])) && mixBT md ops kd ks (listed.setIfInBounds k true)

theorem mixBT_ready {kd : List Nat} {k : Nat} {listed : Array Bool} (h : (match kd.getD k 2 with
      | 0 => (Region.ready md ops listed).contains k && Region.free md ops listed k &&
          ((List.range ops.size).all fun j => decide (kd.getD j 2 = 0) || decide (kd.getD j 2 = 1) || decide (kd.getD j 2 = 3) || listed.getD j true || reachB md ops ops.size j k)
      | 1 => (Region.ready md ops listed).contains k && Region.free md ops listed k
      | _ => decide (Region.ready md ops listed = [k])) = true) : k ∈ Region.ready md ops listed := by
  split at h
  · simp only [Bool.and_eq_true] at h
    simpa using h.1.1
  · simp only [Bool.and_eq_true] at h
    simpa using h.1
  · rw [of_decide_eq_true h]
    exact List.mem_singleton.2 rfl

theorem gameM_lexT {kd : List Nat} (hsel : Region.noSelect ops = true) : ∀ (ord : List Nat) (l : List Oper) (listed : Array Bool) (a : Act) (W : World), listed.size = ops.size → Closed md ops listed → ord.mapM (fun k => ops[k]?) = some l →
    mixBT md ops kd ord listed = true → wpMix P ops Q (ord.map (kd.getD · 2)) l a W → gameM P md ops kd Q ord.length listed a W
  | [], l, listed, a, W, _, _, hl, hB, h => by
    obtain rfl : [] = l := by simpa using hl
    exact ⟨by simpa [mixBT] using hB, h⟩
  | k :: ord, l, listed, a, W, hsz, hcl, hl, hB, h => by
    obtain ⟨o, l', h0, hl', rfl⟩ : ∃ o l', ops[k]? = some o ∧ ord.mapM (fun k => ops[k]?) = some l' ∧ l = o :: l' := by
      rw [List.mapM_cons] at hl
      cases h0 : ops[k]? with
      | none => rw [h0] at hl; cases hl
      | some o =>
        cases h1 : ord.mapM (fun k => ops[k]?) with
        | none => rw [h0, h1] at hl; cases hl
        | some l' => rw [h0, h1] at hl; exact ⟨o, l', rfl, rfl, (Option.some.inj hl).symm⟩
    have hsz' : (listed.setIfInBounds k true).size = ops.size := by simp [hsz]
    rw [List.length_cons]
    rw [List.map_cons] at h
    simp only [mixBT, Bool.and_eq_true] at hB
    obtain ⟨hB1, hB'⟩ := hB
    have hkr : k ∈ Region.ready md ops listed := mixBT_ready hB1
    have hcl' := hcl.set hkr
    have fall : ∀ c, kd.getD k 2 = c → c ≠ 0 → c ≠ 1 → decide (Region.ready md ops listed = [k]) = true → gameM P md ops kd Q (ord.length + 1) listed a W := fun c hc c0 c1 hr => by
      have hr := of_decide_eq_true hr
      refine ⟨fun h1 => (by rw [hr] at h1; cases h1), fun i hi => ?_⟩
      rw [hr] at hi
      have hik : i = k := by simpa using hi
      subst hik
      by_cases c3 : c = 3
      · subst c3
        have hs : stepM P ops kd i (wpMix P ops Q (ord.map (kd.getD · 2)) l') a W := by
          unfold stepM
          simp only [h0]
          rw [if_neg (by omega), if_neg (by omega), if_pos hc]
          rw [hc] at h
          simpa only [wpMix] using h
        exact stepM_mono (fun a' W' h' => gameM_lexT hsel ord l' _ a' W' hsz' hcl' hl' hB' h') hs
      · have hs : stepM P ops kd i (wpMix P ops Q (ord.map (kd.getD · 2)) l') a W := by
          unfold stepM
          simp only [h0]
          rw [if_neg (by omega), if_neg (by omega), if_neg (by omega)]
          rw [hc] at h
          match c, c0, c1, c3, h with
          | 2, _, _, _, h => simpa only [wpMix] using h
          | c + 4, _, _, _, h => simpa only [wpMix] using h
        exact stepM_mono (fun a' W' h' => gameM_lexT hsel ord l' _ a' W' hsz' hcl' hl' hB' h') hs
    match hk : kd.getD k 2 with
    | 0 =>
      rw [hk] at hB1 h
      simp only [Bool.and_eq_true] at hB1
      obtain ⟨⟨hr, hf⟩, ho⟩ := hB1
      have hr' : k ∈ Region.ready md ops listed := by simpa using hr
      have hy : ∃ v, Yields P ops W o v a ∧ wpMix P ops Q (ord.map (kd.getD · 2)) l' (a.put o.dst v) W := by
        simp only [wpMix] at h
        split at h
        · obtain ⟨v, h1, h2⟩ := h
          exact ⟨v, .inl ⟨by assumption, h1⟩, h2⟩
        · exact ⟨undef, .inr ⟨Bool.eq_false_iff.2 (by assumption), rfl⟩, h⟩
      obtain ⟨v, hy, hK⟩ := hy
      refine gameM_first_calmT h0 hk (Region.noSelect_spec hsel) _ listed a W (Region.free_spec h0 hf) (fun j hj => ?_) hcl hr' hy (gameM_lexT hsel ord l' _ _ _ hsz' hcl' hl' hB' hK)
      have hjs : j < ops.size := by
        rcases Nat.lt_or_ge j listed.size with h' | h'
        · omega
        · simp [Array.getElem?_eq_none h'] at hj
      have := List.all_eq_true.1 ho j (List.mem_range.2 hjs)
      simp only [Bool.or_eq_true, decide_eq_true_eq, hj, Bool.false_eq_true, or_false] at this
      rcases this with ((h1 | h1) | h1) | h1
      · exact .inl (.inl h1)
      · exact .inl (.inr (.inl h1))
      · exact .inl (.inr (.inr h1))
      · exact .inr h1
    | 1 =>
      rw [hk] at hB1 h
      simp only [Bool.and_eq_true] at hB1
      obtain ⟨hr, hf⟩ := hB1
      have hr' : k ∈ Region.ready md ops listed := by simpa using hr
      have hy : ∃ v, PureY P ops o v a ∧ wpMix P ops Q (ord.map (kd.getD · 2)) l' (a.put o.dst v) W := by
        simp only [wpMix] at h
        split at h
        · obtain ⟨v, h1, h2⟩ := h
          exact ⟨v, fun _ => .inl ⟨by assumption, fun n => h1 n.at⟩, h2⟩
        · exact ⟨undef, fun _ => .inr ⟨Bool.eq_false_iff.2 (by assumption), rfl⟩, h⟩
      obtain ⟨v, hy, hK⟩ := hy
      exact gameM_first_pure h0 hk (Region.noSelect_spec hsel) _ listed a W (Region.free_spec h0 hf) hr' hy (gameM_lexT hsel ord l' _ _ _ hsz' hcl' hl' hB' hK)
    | c + 2 =>
      rw [hk] at hB1
      exact fall (c + 2) hk (by omega) (by omega) hB1

def mixAllBT (ops : Array Oper) (kd ord : List Nat) : Bool := Region.noSelect ops && decide (ord.length = ops.size) && mixBT .any ops kd ord (Array.replicate ops.size false)

/-- One walk serves every order: kd gives each operation's kind, ord the order of the walk. -/
theorem wp_region_mixoT {id : Nat} {a : Act} {w : World} {l l' : List Oper} (kd ord : List Nat) (hm : P.follows .mixedOrders = true) (hB : mixAllBT l.toArray kd ord = true) (hl : ord.mapM (fun k => l.toArray[k]?) = some l')
    (h : wpMix P l.toArray Q (ord.map (kd.getD · 2)) l' a w) : (Code.region id l.toArray true).wp P Q a w := by
  simp only [mixAllBT, Bool.and_eq_true, decide_eq_true_eq] at hB
  obtain ⟨⟨hsel, hn⟩, hlex⟩ := hB
  refine wp_region_any hm ?_
  have H := gameM_lexT (md := .any) (Q := Q) hsel ord l' _ a w (by simp) (Closed.none _) hl hlex h
  rw [hn] at H
  exact gameM_sound _ _ _ w w.drew (Below.refl _ _).drew H
/-- The same in the order of the text. -/
theorem wp_region_mixT {id : Nat} {a : Act} {w : World} {l : List Oper} (kd : List Nat) (hm : P.follows .mixedOrders = true) (hB : (decide (kd.length = l.length) && mixAllBT l.toArray kd (List.range l.length)) = true)
    (h : wpMix P l.toArray Q kd l a w) : (Code.region id l.toArray true).wp P Q a w := by
  simp only [Bool.and_eq_true, decide_eq_true_eq] at hB
  obtain ⟨hn, hB⟩ := hB
  refine wp_region_mixoT kd (List.range l.length) hm hB (l' := l) ?_ ?_
  · have : ∀ (l2 l1 : List Oper), (List.range' l1.length l2.length).mapM (fun k => (l1 ++ l2).toArray[k]?) = some l2 := by
      intro l2
      induction l2 with
      | nil => intro l1; rfl
      | cons o l2 ih =>
        intro l1
        have h1 := ih (l1 ++ [o])
        rw [List.length_cons, List.range'_succ, List.mapM_cons]
        simp only [List.append_assoc, List.singleton_append, List.length_append, List.length_cons, List.length_nil] at h1
        rw [h1]
        simp
    have h1 := this l []
    rw [List.range_eq_range']
    simpa using h1
  · have e : (List.range l.length).map (kd.getD · 2) = kd := by
      apply List.ext_getElem?
      intro k
      rw [← hn]
      by_cases hk : k < kd.length
      · simp [hk]
      · simp [hk]
    rw [e]
    exact h
end
end Go.Proofs.Ytjcojgblnbhejaa
