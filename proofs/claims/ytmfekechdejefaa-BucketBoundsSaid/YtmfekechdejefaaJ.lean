/- The law of a drawn region once more, over a class of worlds that the prover chooses: so a block that was there may be written too. -/
import Derived.Test.YtmfekechdejefaaG
namespace Go.Proofs.Ytmfekechdejefaa
open Go.RowKit

/-- A class of worlds, one world of it, and that what a callee leaves stays in the class. -/
structure Cls where
  C : World → Prop
  w : World
  h : C w
  up : ∀ {w1 w2 : World}, C w1 → Below w1.heap.size w1 w2 → C w2
def IdxC (c : Cls) : Type := { w' : World // c.C w' }
instance (c : Cls) : Nonempty (IdxC c) := ⟨⟨c.w, c.h⟩⟩
def IdxC.at {c : Cls} (n : IdxC c) : World := n.val
theorem IdxC.prop {c : Cls} (n : IdxC c) : c.C n.at := n.property

section
variable {P : Program} {ops : Array Oper} {md : Region.Mode} {c : Cls} {Q : Exit → Act → World → Prop}

/-- In every world that is as w was below w's size the operation yields v; a callee leaves what it found. -/
def CalmInC (P : Program) (c : Cls) (o : Oper) (a : Act) (v : Value) : Prop := ∀ n : IdxC c, o.quietAt P a (fun w'' => Below n.at.heap.size n.at w'') n.at v
def YieldsC (P : Program) (ops : Array Oper) (c : Cls) (o : Oper) (v : Value) (a : Act) : Prop :=
  (Region.wanted o (yielded ops a.tmps) = true ∧ CalmInC P c o a v) ∨ (Region.wanted o (yielded ops a.tmps) = false ∧ v = undef)

/-- The walk over the calm operations, in the order of the text. -/
def wpCalmC (P : Program) (ops : Array Oper) (c : Cls) (K : Act → Prop) : List Oper → Act → Prop
  | [], a => K a
  | o :: rest, a => if Region.wanted o (yielded ops a.tmps) then ∃ v, (∀ n : IdxC c, o.quietAt P a (fun w'' => Below n.at.heap.size n.at w'') n.at v) ∧ wpCalmC P ops c K rest (a.put o.dst v) else wpCalmC P ops c K rest (a.put o.dst undef)
theorem wpCalmC_nil {K : Act → Prop} {a : Act} (h : K a) : wpCalmC P ops c K [] a := h
theorem wpCalmC_step {K : Act → Prop} {a : Act} {o : Oper} {rest : List Oper}
    (h : ∀ K' : Act → Prop, (∀ a, wpCalmC P ops c K rest a → K' a) → if Region.wanted o (yielded ops a.tmps) then ∃ v, (∀ n : IdxC c, o.quietAt P a (fun w'' => Below n.at.heap.size n.at w'') n.at v) ∧ K' (a.put o.dst v) else K' (a.put o.dst undef)) :
    wpCalmC P ops c K (o :: rest) a := h _ (fun _ h => h)

/-- What is asked of an operation of the region's own: a value or nothing, in a world that is still as w was below w's size. -/
def ownUponC (c : Cls) (dst : Option Tmp) (a : Act) (K : Act → World → Prop) : Result Next → Prop
  | .ok (.value u) w' => c.C w' ∧ K (a.put dst u) w'
  | .ok .skip w' => c.C w' ∧ K (a.put dst undef) w'
  | _ => False
def ownAtC (P : Program) (c : Cls) (o : Oper) (a : Act) (w2 : World) (K : Act → World → Prop) : Prop := ownUponC c o.dst a K ((execOp a.eval o).run P w2)
def ownStepC (P : Program) (ops : Array Oper) (c : Cls) (o : Oper) (K : Act → World → Prop) (a : Act) (W : World) : Prop :=
  ∀ w2, Below W.heap.size W w2 → if Region.wanted o (yielded ops a.tmps) then ownAtC P c o a w2 K else c.C w2 ∧ K (a.put o.dst undef) w2
/-- The walk over the region's own operations: between two of them the world may have grown. -/
def wpOwnC (P : Program) (ops : Array Oper) (c : Cls) (Q : Exit → Act → World → Prop) : List Oper → Act → World → Prop
  | [], a, W => ∀ w2, Below W.heap.size W w2 → Q .normal a w2
  | o :: rest, a, W => ownStepC P ops c o (wpOwnC P ops c Q rest) a W
theorem wpOwnC_nil {a : Act} {W : World} (h : ∀ w2, Below W.heap.size W w2 → Q .normal a w2) : wpOwnC P ops c Q [] a W := h
theorem wpOwnC_step {a : Act} {W : World} {o : Oper} {rest : List Oper}
    (h : ∀ w2, Below W.heap.size W w2 → ∀ K : Act → World → Prop, (∀ a W', wpOwnC P ops c Q rest a W' → K a W') → if Region.wanted o (yielded ops a.tmps) then ownAtC P c o a w2 K else c.C w2 ∧ K (a.put o.dst undef) w2) :
    wpOwnC P ops c Q (o :: rest) a W := fun w2 hb => h w2 hb _ (fun _ _ h => h)

theorem ownUponC_mono {dst : Option Tmp} {a : Act} {K K' : Act → World → Prop} (h : ∀ a W, K a W → K' a W) : ∀ r, ownUponC c dst a K r → ownUponC c dst a K' r
  | .ok (.value _) _, hh => ⟨hh.1, h _ _ hh.2⟩
  | .ok .skip _, hh => ⟨hh.1, h _ _ hh.2⟩
  | .ok (.defer _) _, hh => hh
  | .ok (.enter _ _) _, hh => hh
  | .ok (.row _ _) _, hh => hh
  | .halt _ _, hh => hh

/-- Operation number i comes up: calm where i is below n, else one of the region's own. -/
def stepC (P : Program) (ops : Array Oper) (c : Cls) (n i : Nat) (K : Act → World → Prop) (a : Act) (W : World) : Prop :=
  match ops[i]? with
  | none => False
  | some o => if i < n then ∃ v, YieldsC P ops c o v a ∧ K (a.put o.dst v) W else ownStepC P ops c o K a W

theorem stepC_mono {n i : Nat} {a : Act} {W : World} {K K' : Act → World → Prop} (h : ∀ a W, K a W → K' a W) (hh : stepC P ops c n i K a W) : stepC P ops c n i K' a W := by
  unfold stepC at *
  split at hh
  · exact hh.elim
  · split at hh
    · rw [if_pos (by assumption)]
      obtain ⟨v, h1, h2⟩ := hh
      exact ⟨v, h1, h _ _ h2⟩
    · rw [if_neg (by assumption)]
      intro w2 hb
      have h3 := hh w2 hb
      split at h3
      · rw [if_pos (by assumption)]; exact ownUponC_mono h _ h3
      · rw [if_neg (by assumption)]; exact ⟨h3.1, h _ _ h3.2⟩

def gameC (P : Program) (md : Region.Mode) (ops : Array Oper) (c : Cls) (Q : Exit → Act → World → Prop) (n : Nat) : Nat → Array Bool → Act → World → Prop
  | 0, listed, a, W => Region.ready md ops listed = [] ∧ ∀ w2, Below W.heap.size W w2 → Q .normal a w2
  | f + 1, listed, a, W => (Region.ready md ops listed = [] → ∀ w2, Below W.heap.size W w2 → Q .normal a w2) ∧
      ∀ i ∈ Region.ready md ops listed, stepC P ops c n i (gameC P md ops c Q n f (listed.setIfInBounds i true)) a W

/-- A calm operation in a world of the class. -/
theorem wp_of_calmC {o : Oper} {a : Act} {v : Value} {W w2 : World} {K : Act → World → Prop} (hw : c.C W) (hb : Below W.heap.size W w2)
    (hc : CalmInC P c o a v) (h : ∀ w3, Below W.heap.size W w3 → K (a.put o.dst v) w3) : o.wp P a w2 K Q := by
  have h3 := hc ⟨w2, c.up hw hb⟩
  unfold Oper.quietAt at h3
  unfold Oper.wp
  change Oper.quietUpon P (fun w'' => Below w2.heap.size w2 w'') w2 v ((execOp a.eval o).run P w2) at h3
  generalize (execOp a.eval o).run P w2 = r at *
  cases r with
  | ok x w' =>
    cases x <;> simp only [Oper.quietUpon] at h3 <;> simp only [Oper.upon]
    case value u =>
      obtain ⟨e1, e2⟩ := h3
      rw [e1, e2]
      exact h _ hb
    case skip =>
      obtain ⟨e1, e2⟩ := h3
      rw [e1, ← e2]
      exact h _ hb
    case enter f args =>
      obtain ⟨e1, hcl⟩ := h3
      rw [e1]
      exact hcl.mono fun e w'' ⟨he, hw''⟩ => by subst he; exact h _ (below_step hb hw'')
  | halt x w' => simp only [Oper.quietUpon] at h3

theorem game_soundC {n : Nat} : ∀ (f : Nat) (listed : Array Bool) (a : Act) (W w2 : World), c.C W → Below W.heap.size W w2 →
    gameC P md ops c Q n f listed a W → wpAny P md ops Q f listed a w2
  | 0, _, _, _, _, _, hb, h => ⟨h.1, h.2 _ hb⟩
  | f + 1, listed, a, W, w2, hw, hb, h => by
    refine ⟨fun h0 => h.1 h0 _ hb, fun i hi => ?_⟩
    have h1 := h.2 i hi
    unfold stepC at h1
    unfold wpOp
    split at h1
    · exact h1.elim
    · rename_i o ho
      simp only [ho]
      split at h1
      · obtain ⟨v, hy, hk⟩ := h1
        rcases hy with ⟨hw1, hc⟩ | ⟨hw1, rfl⟩
        · rw [if_pos hw1]
          exact .inl (wp_of_calmC hw hb hc fun w3 h3 => game_soundC f _ _ W w3 hw h3 hk)
        · rw [if_neg (by rw [hw1]; exact Bool.false_ne_true)]
          exact game_soundC f _ _ W w2 hw hb hk
      · have h2 := h1 w2 hb
        split at h2
        · rw [if_pos (by assumption)]
          left
          unfold ownAtC at h2
          unfold Oper.wp
          generalize (execOp a.eval o).run P w2 = r at *
          cases r with
          | ok x w' =>
            cases x <;> simp only [ownUponC] at h2 <;> simp only [Oper.upon]
            case value u => exact game_soundC f _ _ w' w' h2.1 (Below.refl _ _) h2.2
            case skip => exact game_soundC f _ _ w' w' h2.1 (Below.refl _ _) h2.2
          | halt x w' => simp only [ownUponC] at h2
        · rw [if_neg (by assumption)]
          exact game_soundC f _ _ w2 w2 h2.1 (Below.refl _ _) h2.2

theorem YieldsC.of_same {o : Oper} {v : Value} {a a' : Act} (hy : YieldsC P ops c o v a) (he : execOp a'.eval o = execOp a.eval o)
    (hw : Region.wanted o (yielded ops a'.tmps) = Region.wanted o (yielded ops a.tmps)) : YieldsC P ops c o v a' := by
  unfold YieldsC CalmInC Oper.quietAt at *
  rw [he, hw]
  exact hy

theorem stepC_put {n j : Nat} {oi oj : Oper} {v : Value} (hj : ops[j]? = some oj) (hap : oi.apart ops oj = true)
    (hsi : ∀ cs b, oi.op ≠ .select cs b) (hsj : ∀ cs b, oj.op ≠ .select cs b) {K : Act → World → Prop} {a : Act} {W : World}
    (hy : YieldsC P ops c oi v a) (h : stepC P ops c n j K (a.put oi.dst v) W) :
    stepC P ops c n j (fun a' W' => YieldsC P ops c oi v a' ∧ K (a'.put oi.dst v) W') a W := by
  obtain ⟨h1, h2, h3⟩ := Oper.apart_spec hap
  have keep : ∀ (a : Act), YieldsC P ops c oi v a → ∀ u, YieldsC P ops c oi v (a.put oj.dst u) := fun a hy u =>
    hy.of_same (execOp_put oi hsi a oj.dst u h3) (wanted_put oi a oj.dst u h3)
  unfold stepC at *
  simp only [hj] at *
  split at h
  · rw [if_pos (by assumption)]
    obtain ⟨u, hu, hn⟩ := h
    exact ⟨u, hu.of_same (execOp_put oj hsj a oi.dst v h1).symm (wanted_put oj a oi.dst v h1).symm, keep a hy u, by rw [← Act.put_comm a v u h2]; exact hn⟩
  · rw [if_neg (by assumption)]
    intro w2 hb
    have h4 := h w2 hb
    rw [wanted_put oj a oi.dst v h1] at h4
    split at h4
    · rw [if_pos (by assumption)]
      unfold ownAtC at *
      rw [execOp_put oj hsj a oi.dst v h1] at h4
      generalize (execOp a.eval oj).run P w2 = r at *
      cases r with
      | ok x w' =>
        cases x <;> simp only [ownUponC] at h4 ⊢
        case value u => exact ⟨h4.1, keep a hy u, by rw [← Act.put_comm a v u h2]; exact h4.2⟩
        case skip => exact ⟨h4.1, keep a hy _, by rw [← Act.put_comm a v undef h2]; exact h4.2⟩
      | halt x w' => simp only [ownUponC] at h4
    · rw [if_neg (by assumption)]
      exact ⟨h4.1, keep a hy _, by rw [← Act.put_comm a v undef h2]; exact h4.2⟩

theorem game_firstC {n i : Nat} {oi : Oper} {v : Value} (hi : ops[i]? = some oi) (hin : i < n) (hsel : ∀ (j : Nat) (o : Oper) cs b, ops[j]? = some o → o.op ≠ .select cs b) :
    ∀ (f : Nat) (listed : Array Bool) (a : Act) (W : World),
      (∀ j oj, ops[j]? = some oj → j ≠ i → listed.getD j true = false → (∀ e ∈ oj.after, Region.binds md e = true → e.on ≠ i) → oi.apart ops oj = true) →
      i ∈ Region.ready md ops listed → YieldsC P ops c oi v a →
      gameC P md ops c Q n f (listed.setIfInBounds i true) (a.put oi.dst v) W → gameC P md ops c Q n (f + 1) listed a W := by
  have now : ∀ (K : Act → World → Prop) (a : Act) (W : World), YieldsC P ops c oi v a → K (a.put oi.dst v) W → stepC P ops c n i K a W := fun K a W hy hk => by
    unfold stepC
    simp only [hi]
    rw [if_pos hin]
    exact ⟨v, hy, hk⟩
  intro f
  induction f with
  | zero =>
    intro listed a W _ hr hy H
    refine ⟨fun h => (by rw [h] at hr; cases hr), fun j hj => ?_⟩
    by_cases hji : j = i
    · subst hji; exact now _ _ _ hy H
    · have := ready_mono hj hji
      rw [H.1] at this
      cases this
  | succ f ih =>
    intro listed a W hfree hr hy H
    refine ⟨fun h => (by rw [h] at hr; cases hr), fun j hj => ?_⟩
    by_cases hji : j = i
    · subst hji; exact now _ _ _ hy H
    · have h1 := H.2 j (ready_mono hj hji)
      obtain ⟨hjun, oj, hoj, hall⟩ := mem_ready.1 hj
      have hnot : ∀ e ∈ oj.after, Region.binds md e = true → e.on ≠ i := fun e he hb heq => by
        have h1 := hall e he hb
        have h0 := (mem_ready.1 hr).1
        rw [heq] at h1
        rcases Nat.lt_or_ge i listed.size with h' | h'
        · simp [h'] at h0 h1; rw [h0] at h1; cases h1
        · simp [Array.getElem?_eq_none h'] at h1
      have h2 := stepC_put hoj (hfree j oj hoj hji hjun hnot) (fun cs b => hsel i oi cs b hi) (fun cs b => hsel j oj cs b hoj) hy h1
      have hfree' : ∀ k ok, ops[k]? = some ok → k ≠ i → (listed.setIfInBounds j true).getD k true = false →
          (∀ e ∈ ok.after, Region.binds md e = true → e.on ≠ i) → oi.apart ops ok = true := fun k ok hk hki hun hno => by
        refine hfree k ok hk hki ?_ hno
        by_cases hjk : j = k
        · subst hjk; exact hjun
        · rw [getD_set_ne true hjk] at hun; exact hun
      refine stepC_mono (fun a' W' h3 => ih (listed.setIfInBounds j true) a' W' hfree' (ready_mono hr (Ne.symm hji)) h3.1 ?_) h2
      rw [Array.setIfInBounds_comm _ _ hji]
      exact h3.2

theorem game_seqC {n : Nat} : ∀ (l : List Oper) (k : Nat) (listed : Array Bool) (a : Act) (W : World), n ≤ k → (∀ j, l[j]? = ops[k + j]?) →
    Region.seqB md ops l.length k listed = true → wpOwnC P ops c Q l a W → gameC P md ops c Q n l.length listed a W
  | [], _, _, _, _, _, _, hB, h => ⟨by simpa [Region.seqB] using hB, h⟩
  | o :: l, k, listed, a, W, hn, hl, hB, h => by
    have h0 : ops[k]? = some o := by simpa using (hl 0).symm
    simp only [List.length_cons, Region.seqB, Bool.and_eq_true, decide_eq_true_eq] at hB
    refine ⟨fun h1 => (by rw [hB.1] at h1; cases h1), fun i hi => ?_⟩
    rw [hB.1] at hi
    have hik : i = k := by simpa using hi
    subst hik
    have hs : stepC P ops c n i (wpOwnC P ops c Q l) a W := by
      unfold stepC
      simp only [h0]
      rw [if_neg (by omega)]
      exact h
    exact stepC_mono (fun a' W' h' => game_seqC l (i + 1) _ a' W' (by omega) (fun j => by have := hl (j + 1); simpa [Nat.add_assoc, Nat.add_comm 1 j] using this) hB.2 h') hs

theorem game_lexC {n : Nat} (tl : List Oper) (htl : ∀ j, tl[j]? = ops[n + j]?) (hsel : Region.noSelect ops = true) (W : World) : ∀ (l : List Oper) (k : Nat) (listed : Array Bool) (a : Act), (∀ j, j < l.length → l[j]? = ops[k + j]?) → k + l.length = n →
    Region.lexHead md ops tl.length l.length k listed = true → wpCalmC P ops c (fun a' => wpOwnC P ops c Q tl a' W) l a → gameC P md ops c Q n (l.length + tl.length) listed a W
  | [], k, listed, a, _, hk, hB, h => by
    have : k = n := by simpa using hk
    subst this
    rw [List.length_nil, Nat.zero_add]
    exact game_seqC tl k listed a W (Nat.le_refl _) htl (by simpa [Region.lexHead] using hB) h
  | o :: l, k, listed, a, hl, hk, hB, h => by
    have h0 : ops[k]? = some o := by simpa using (hl 0 (by simp)).symm
    simp only [List.length_cons, Region.lexHead, Bool.and_eq_true] at hB
    obtain ⟨⟨hr, hf⟩, hB'⟩ := hB
    have hkn : k < n := by simp only [List.length_cons] at hk; omega
    have hr' : k ∈ Region.ready md ops listed := by simpa using hr
    have hy : ∃ v, YieldsC P ops c o v a ∧ wpCalmC P ops c (fun a' => wpOwnC P ops c Q tl a' W) l (a.put o.dst v) := by
      unfold wpCalmC at h
      split at h
      · obtain ⟨v, h1, h2⟩ := h
        exact ⟨v, .inl ⟨by assumption, h1⟩, h2⟩
      · exact ⟨undef, .inr ⟨Bool.eq_false_iff.2 (by assumption), rfl⟩, h⟩
    obtain ⟨v, hy, hK⟩ := hy
    rw [show (o :: l).length + tl.length = (l.length + tl.length) + 1 by simp only [List.length_cons]; omega]
    exact game_firstC h0 hkn (Region.noSelect_spec hsel) _ listed a W (Region.free_spec h0 hf) hr' hy
      (game_lexC tl htl hsel W l (k + 1) _ _ (fun j hj => by have := hl (j + 1) (by simp; omega); simpa [Nat.add_assoc, Nat.add_comm 1 j] using this) (by simp only [List.length_cons] at hk; omega) hB' hK)

/-- One walk serves every order: the first n operations calm, the others the region's own. -/
theorem wp_region_cls {id : Nat} {a : Act} {l : List Oper} (n : Nat) (hm : P.follows .mixedOrders = true) (hB : ownB l.toArray n = true)
    (h : wpCalmC P l.toArray c (fun a' => wpOwnC P l.toArray c Q (l.drop n) a' c.w) (l.take n) a) : (Code.region id l.toArray true).wp P Q a c.w := by
  simp only [ownB, Bool.and_eq_true, decide_eq_true_eq] at hB
  obtain ⟨⟨hsel, hn⟩, hlex⟩ := hB
  have hn' : n ≤ l.length := by simpa using hn
  have htl : (l.take n).length = n := by simp; omega
  have hdl : (l.drop n).length = l.toArray.size - n := by simp
  refine wp_region_any hm ?_
  have H := game_lexC (md := .any) (Q := Q) (n := n) (l.drop n) (fun j => by simp [List.getElem?_drop]) hsel c.w (l.take n) 0 _ a (fun j hj => by
    have hj' : j < n := by rw [htl] at hj; exact hj
    simp [hj']) (by simpa using htl) (by rw [htl, hdl]; exact hlex) h
  have H2 := game_soundC _ _ _ c.w c.w.drew c.h (Below.refl _ _).drew H
  rw [htl, hdl, show n + (l.toArray.size - n) = l.toArray.size by simp; omega] at H2
  exact H2
end
end Go.Proofs.Ytmfekechdejefaa
