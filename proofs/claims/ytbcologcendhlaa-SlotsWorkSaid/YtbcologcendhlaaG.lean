/- A law for a region that draws its order: operations that read, calls that leave what was there, and behind them a few operations that make and write blocks of their own. One walk serves every order. -/
import Derived.Test.YtbcologcendhlaaH
import Derived.StillTail
namespace Go.Proofs.Ytbcologcendhlaa
open Go.RowKit

section
variable {P : Program} {ops : Array Oper} {md : Region.Mode} {w : World} {Q : Exit → Act → World → Prop}

/-- In every world that is as w was below w's size the operation yields v; a callee leaves what it found. -/
def CalmIn (P : Program) (w : World) (o : Oper) (a : Act) (v : Value) : Prop := ∀ n : Idx w, o.quietAt P a (fun w'' => Below n.at.heap.size n.at w'') n.at v
def Yields (P : Program) (ops : Array Oper) (w : World) (o : Oper) (v : Value) (a : Act) : Prop :=
  (Region.wanted o (yielded ops a.tmps) = true ∧ CalmIn P w o a v) ∨ (Region.wanted o (yielded ops a.tmps) = false ∧ v = undef)

/-- The walk over the calm operations, in the order of the text. -/
def wpCalm (P : Program) (ops : Array Oper) (w : World) (K : Act → Prop) : List Oper → Act → Prop
  | [], a => K a
  | o :: rest, a => if Region.wanted o (yielded ops a.tmps) then ∃ v, (∀ n : Idx w, o.quietAt P a (fun w'' => Below n.at.heap.size n.at w'') n.at v) ∧ wpCalm P ops w K rest (a.put o.dst v) else wpCalm P ops w K rest (a.put o.dst undef)
theorem wpCalm_nil {K : Act → Prop} {a : Act} (h : K a) : wpCalm P ops w K [] a := h
theorem wpCalm_step {K : Act → Prop} {a : Act} {o : Oper} {rest : List Oper}
    (h : ∀ K' : Act → Prop, (∀ a, wpCalm P ops w K rest a → K' a) → if Region.wanted o (yielded ops a.tmps) then ∃ v, (∀ n : Idx w, o.quietAt P a (fun w'' => Below n.at.heap.size n.at w'') n.at v) ∧ K' (a.put o.dst v) else K' (a.put o.dst undef)) :
    wpCalm P ops w K (o :: rest) a := h _ (fun _ h => h)

/-- What is asked of an operation of the region's own: a value or nothing, in a world that is still as w was below w's size. -/
def ownUpon (P : Program) (w : World) (dst : Option Tmp) (a : Act) (K : Act → World → Prop) : Result Next → Prop
  | .ok (.value u) w' => Below w.heap.size w w' ∧ K (a.put dst u) w'
  | .ok .skip w' => Below w.heap.size w w' ∧ K (a.put dst undef) w'
  | .ok (.enter f args) w' => Calls P f args w' fun e w'' => ∃ u, e = .returned u ∧ Below w.heap.size w w'' ∧ K (a.put dst u) w''
  | _ => False
def ownAt (P : Program) (w : World) (o : Oper) (a : Act) (w2 : World) (K : Act → World → Prop) : Prop   := ownUpon P w o.dst a K ((execOp a.eval o).run P w2)
def ownStep (P : Program) (ops : Array Oper) (w : World) (o : Oper) (K : Act → World → Prop) (a : Act) (W : World) : Prop :=
  ∀ w2, Below W.heap.size W w2 → if Region.wanted o (yielded ops a.tmps) then ownAt P w o a w2 K else Below w.heap.size w w2 ∧ K (a.put o.dst undef) w2
/-- The walk over the region's own operations: between two of them the world may have grown. -/
def wpOwn (P : Program) (ops : Array Oper) (w : World) (Q : Exit → Act → World → Prop) : List Oper → Act → World → Prop
  | [], a, W => ∀ w2, Below W.heap.size W w2 → Q .normal a w2
  | o :: rest, a, W => ownStep P ops w o (wpOwn P ops w Q rest) a W
theorem wpOwn_nil {a : Act} {W : World} (h : ∀ w2, Below W.heap.size W w2 → Q .normal a w2) : wpOwn P ops w Q [] a W := h
theorem wpOwn_step {a : Act} {W : World} {o : Oper} {rest : List Oper}
    (h : ∀ w2, Below W.heap.size W w2 → ∀ K : Act → World → Prop, (∀ a W', wpOwn P ops w Q rest a W' → K a W') → if Region.wanted o (yielded ops a.tmps) then ownAt P w o a w2 K else Below w.heap.size w w2 ∧ K (a.put o.dst undef) w2) :
    wpOwn P ops w Q (o :: rest) a W := fun w2 hb => h w2 hb _ (fun _ _ h => h)

theorem ownUpon_mono {dst : Option Tmp} {a : Act} {K K' : Act → World → Prop} (h : ∀ a W, K a W → K' a W) : ∀ r, ownUpon P w dst a K r → ownUpon P w dst a K' r
  | .ok (.value _) _, hh => ⟨hh.1, h _ _ hh.2⟩
  | .ok .skip _, hh => ⟨hh.1, h _ _ hh.2⟩
  | .ok (.defer _) _, hh => hh
  | .ok (.enter _ _) _, hh => hh.mono fun _ _ ⟨u, h1, h2, h3⟩ => ⟨u, h1, h2, h _ _ h3⟩
  | .ok (.row _ _) _, hh => hh
  | .halt _ _, hh => hh

/-- Operation number i comes up: calm where i is below n, else one of the region's own. -/
def stepA (P : Program) (ops : Array Oper) (w : World) (n i : Nat) (K : Act → World → Prop) (a : Act) (W : World) : Prop :=
  match ops[i]? with
  | none => False
  | some o => if i < n then ∃ v, Yields P ops w o v a ∧ K (a.put o.dst v) W else ownStep P ops w o K a W

theorem stepA_mono {n i : Nat} {a : Act} {W : World} {K K' : Act → World → Prop} (h : ∀ a W, K a W → K' a W) (hh : stepA P ops w n i K a W) : stepA P ops w n i K' a W := by
  unfold stepA at *
  split at hh
  · exact hh.elim
  · split at hh
    · rw [if_pos (by assumption)]
      obtain ⟨v, h1, h2⟩ := hh
      exact ⟨v, h1, h _ _ h2⟩
    · rw [if_neg (by assumption)]
      intro w2 hb
      have h3 := hh w2 hb
      split at h3
      · rw [if_pos (by assumption)]; exact ownUpon_mono h _ h3
      · rw [if_neg (by assumption)]; exact ⟨h3.1, h _ _ h3.2⟩

def gameA (P : Program) (md : Region.Mode) (ops : Array Oper) (w : World) (Q : Exit → Act → World → Prop) (n : Nat) : Nat → Array Bool → Act → World → Prop
  | 0, listed, a, W => Region.ready md ops listed = [] ∧ ∀ w2, Below W.heap.size W w2 → Q .normal a w2
  | f + 1, listed, a, W => (Region.ready md ops listed = [] → ∀ w2, Below W.heap.size W w2 → Q .normal a w2) ∧
      ∀ i ∈ Region.ready md ops listed, stepA P ops w n i (gameA P md ops w Q n f (listed.setIfInBounds i true)) a W

/-- A calm operation in a world of the class. -/
theorem wp_of_calm {o : Oper} {a : Act} {v : Value} {W w2 : World} {K : Act → World → Prop} (hw : Below w.heap.size w W) (hb : Below W.heap.size W w2)
    (hc : CalmIn P w o a v) (h : ∀ w3, Below W.heap.size W w3 → K (a.put o.dst v) w3) : o.wp P a w2 K Q := by
  have h3 := hc ⟨w2, below_step hw hb⟩
  unfold Oper.quietAt at h3
  unfold Oper.wp
  change Oper.quietUpon P (fun w'' => Below w2.heap.size w2 w'') w2 v ((execOp a.eval o).run P w2) at h3
  generalize (execOp a.eval o).run P w2 = r at *
  cases r with
  | ok x w' =>
    cases x <;> simp only [Oper.quietUpon] at h3 <;> simp only [Oper.upon]
    case value u =>
      obtain ⟨e1, e2⟩ := h3
      rw [e1, e2]
      exact h _ hb
    case skip =>
      obtain ⟨e1, e2⟩ := h3
      rw [e1, ← e2]
      exact h _ hb
    case enter f args =>
      obtain ⟨e1, hcl⟩ := h3
      rw [e1]
      exact hcl.mono fun e w'' ⟨he, hw''⟩ => by subst he; exact h _ (below_step hb hw'')
  | halt x w' => simp only [Oper.quietUpon] at h3

theorem game_sound {n : Nat} : ∀ (f : Nat) (listed : Array Bool) (a : Act) (W w2 : World), Below w.heap.size w W → Below W.heap.size W w2 →
    gameA P md ops w Q n f listed a W → wpAny P md ops Q f listed a w2
  | 0, _, _, _, _, _, hb, h => ⟨h.1, h.2 _ hb⟩
  | f + 1, listed, a, W, w2, hw, hb, h => by
    refine ⟨fun h0 => h.1 h0 _ hb, fun i hi => ?_⟩
    have h1 := h.2 i hi
    unfold stepA at h1
    unfold wpOp
    split at h1
    · exact h1.elim
    · rename_i o ho
      simp only [ho]
      split at h1
      · obtain ⟨v, hy, hk⟩ := h1
        rcases hy with ⟨hw1, hc⟩ | ⟨hw1, rfl⟩
        · rw [if_pos hw1]
          exact .inl (wp_of_calm hw hb hc fun w3 h3 => game_sound f _ _ W w3 hw h3 hk)
        · rw [if_neg (by rw [hw1]; exact Bool.false_ne_true)]
          exact game_sound f _ _ W w2 hw hb hk
      · have h2 := h1 w2 hb
        split at h2
        · rw [if_pos (by assumption)]
          left
          unfold ownAt at h2
          unfold Oper.wp
          generalize (execOp a.eval o).run P w2 = r at *
          cases r with
          | ok x w' =>
            cases x <;> simp only [ownUpon] at h2 <;> simp only [Oper.upon]
            case value u => exact game_sound f _ _ w' w' h2.1 (Below.refl _ _) h2.2
            case skip => exact game_sound f _ _ w' w' h2.1 (Below.refl _ _) h2.2
            case enter g args => exact h2.mono fun _ w'' ⟨u, h5, h6, h7⟩ => by subst h5; exact game_sound f _ _ w'' w'' h6 (Below.refl _ _) h7
          | halt x w' => simp only [ownUpon] at h2
        · rw [if_neg (by assumption)]
          exact game_sound f _ _ w2 w2 h2.1 (Below.refl _ _) h2.2

theorem Yields.of_same {o : Oper} {v : Value} {a a' : Act} (hy : Yields P ops w o v a) (he : execOp a'.eval o = execOp a.eval o)
    (hw : Region.wanted o (yielded ops a'.tmps) = Region.wanted o (yielded ops a.tmps)) : Yields P ops w o v a' := by
  unfold Yields CalmIn Oper.quietAt at *
  rw [he, hw]
  exact hy

theorem stepA_put {n j : Nat} {oi oj : Oper} {v : Value} (hj : ops[j]? = some oj) (hap : oi.apart ops oj = true)
    (hsi : ∀ cs b, oi.op ≠ .select cs b) (hsj : ∀ cs b, oj.op ≠ .select cs b) {K : Act → World → Prop} {a : Act} {W : World}
    (hy : Yields P ops w oi v a) (h : stepA P ops w n j K (a.put oi.dst v) W) :
    stepA P ops w n j (fun a' W' => Yields P ops w oi v a' ∧ K (a'.put oi.dst v) W') a W := by
  obtain ⟨h1, h2, h3⟩ := Oper.apart_spec hap
  have keep : ∀ (a : Act), Yields P ops w oi v a → ∀ u, Yields P ops w oi v (a.put oj.dst u) := fun a hy u =>
    hy.of_same (execOp_put oi hsi a oj.dst u h3) (wanted_put oi a oj.dst u h3)
  unfold stepA at *
  simp only [hj] at *
  split at h
  · rw [if_pos (by assumption)]
    obtain ⟨u, hu, hn⟩ := h
    exact ⟨u, hu.of_same (execOp_put oj hsj a oi.dst v h1).symm (wanted_put oj a oi.dst v h1).symm, keep a hy u, by rw [← Act.put_comm a v u h2]; exact hn⟩
  · rw [if_neg (by assumption)]
    intro w2 hb
    have h4 := h w2 hb
    rw [wanted_put oj a oi.dst v h1] at h4
    split at h4
    · rw [if_pos (by assumption)]
      unfold ownAt at *
      rw [execOp_put oj hsj a oi.dst v h1] at h4
      generalize (execOp a.eval oj).run P w2 = r at *
      cases r with
      | ok x w' =>
        cases x <;> simp only [ownUpon] at h4 ⊢
        case value u => exact ⟨h4.1, keep a hy u, by rw [← Act.put_comm a v u h2]; exact h4.2⟩
        case skip => exact ⟨h4.1, keep a hy _, by rw [← Act.put_comm a v undef h2]; exact h4.2⟩
        case enter g args => exact h4.mono fun _ w'' ⟨u, h5, h6, h7⟩ => ⟨u, h5, h6, keep a hy u, by rw [← Act.put_comm a v u h2]; exact h7⟩
      | halt x w' => simp only [ownUpon] at h4
    · rw [if_neg (by assumption)]
      exact ⟨h4.1, keep a hy _, by rw [← Act.put_comm a v undef h2]; exact h4.2⟩

theorem game_first {n i : Nat} {oi : Oper} {v : Value} (hi : ops[i]? = some oi) (hin : i < n) (hsel : ∀ (j : Nat) (o : Oper) cs b, ops[j]? = some o → o.op ≠ .select cs b) :
    ∀ (f : Nat) (listed : Array Bool) (a : Act) (W : World),
      (∀ j oj, ops[j]? = some oj → j ≠ i → listed.getD j true = false → (∀ e ∈ oj.after, Region.binds md e = true → e.on ≠ i) → oi.apart ops oj = true) →
      i ∈ Region.ready md ops listed → Yields P ops w oi v a →
      gameA P md ops w Q n f (listed.setIfInBounds i true) (a.put oi.dst v) W → gameA P md ops w Q n (f + 1) listed a W := by
  have now : ∀ (K : Act → World → Prop) (a : Act) (W : World), Yields P ops w oi v a → K (a.put oi.dst v) W → stepA P ops w n i K a W := fun K a W hy hk => by
    unfold stepA
    simp only [hi]
    rw [if_pos hin]
    exact ⟨v, hy, hk⟩
  intro f
  induction f with
  | zero =>
    intro listed a W _ hr hy H
    refine ⟨fun h => (by rw [h] at hr; cases hr), fun j hj => ?_⟩
    by_cases hji : j = i
    · subst hji; exact now _ _ _ hy H
    · have := ready_mono hj hji
      rw [H.1] at this
      cases this
  | succ f ih =>
    intro listed a W hfree hr hy H
    refine ⟨fun h => (by rw [h] at hr; cases hr), fun j hj => ?_⟩
    by_cases hji : j = i
    · subst hji; exact now _ _ _ hy H
    · have h1 := H.2 j (ready_mono hj hji)
      obtain ⟨hjun, oj, hoj, hall⟩ := mem_ready.1 hj
      have hnot : ∀ e ∈ oj.after, Region.binds md e = true → e.on ≠ i := fun e he hb heq => by
        have h1 := hall e he hb
        have h0 := (mem_ready.1 hr).1
        rw [heq] at h1
        rcases Nat.lt_or_ge i listed.size with h' | h'
        · simp [h'] at h0 h1; rw [h0] at h1; cases h1
        · simp [Array.getElem?_eq_none h'] at h1
      have h2 := stepA_put hoj (hfree j oj hoj hji hjun hnot) (fun cs b => hsel i oi cs b hi) (fun cs b => hsel j oj cs b hoj) hy h1
      have hfree' : ∀ k ok, ops[k]? = some ok → k ≠ i → (listed.setIfInBounds j true).getD k true = false →
          (∀ e ∈ ok.after, Region.binds md e = true → e.on ≠ i) → oi.apart ops ok = true := fun k ok hk hki hun hno => by
        refine hfree k ok hk hki ?_ hno
        by_cases hjk : j = k
        · subst hjk; exact hjun
        · rw [getD_set_ne true hjk] at hun; exact hun
      refine stepA_mono (fun a' W' h3 => ih (listed.setIfInBounds j true) a' W' hfree' (ready_mono hr (Ne.symm hji)) h3.1 ?_) h2
      rw [Array.setIfInBounds_comm _ _ hji]
      exact h3.2

theorem game_seq {n : Nat} : ∀ (l : List Oper) (k : Nat) (listed : Array Bool) (a : Act) (W : World), n ≤ k → (∀ j, l[j]? = ops[k + j]?) →
    Region.seqB md ops l.length k listed = true → wpOwn P ops w Q l a W → gameA P md ops w Q n l.length listed a W
  | [], _, _, _, _, _, _, hB, h => ⟨by simpa [Region.seqB] using hB, h⟩
  | o :: l, k, listed, a, W, hn, hl, hB, h => by
    have h0 : ops[k]? = some o := by simpa using (hl 0).symm
    simp only [List.length_cons, Region.seqB, Bool.and_eq_true, decide_eq_true_eq] at hB
    refine ⟨fun h1 => (by rw [hB.1] at h1; cases h1), fun i hi => ?_⟩
    rw [hB.1] at hi
    have hik : i = k := by simpa using hi
    subst hik
    have hs : stepA P ops w n i (wpOwn P ops w Q l) a W := by
      unfold stepA
      simp only [h0]
      rw [if_neg (by omega)]
      exact h
    exact stepA_mono (fun a' W' h' => game_seq l (i + 1) _ a' W' (by omega) (fun j => by have := hl (j + 1); simpa [Nat.add_assoc, Nat.add_comm 1 j] using this) hB.2 h') hs

theorem game_lex {n : Nat} (tl : List Oper) (htl : ∀ j, tl[j]? = ops[n + j]?) (hsel : Region.noSelect ops = true) (W : World) : ∀ (l : List Oper) (k : Nat) (listed : Array Bool) (a : Act), (∀ j, j < l.length → l[j]? = ops[k + j]?) → k + l.length = n →
    Region.lexHead md ops tl.length l.length k listed = true → wpCalm P ops w (fun a' => wpOwn P ops w Q tl a' W) l a → gameA P md ops w Q n (l.length + tl.length) listed a W
  | [], k, listed, a, _, hk, hB, h => by
    have : k = n := by simpa using hk
    subst this
    rw [List.length_nil, Nat.zero_add]
    exact game_seq tl k listed a W (Nat.le_refl _) htl (by simpa [Region.lexHead] using hB) h
  | o :: l, k, listed, a, hl, hk, hB, h => by
    have h0 : ops[k]? = some o := by simpa using (hl 0 (by simp)).symm
    simp only [List.length_cons, Region.lexHead, Bool.and_eq_true] at hB
    obtain ⟨⟨hr, hf⟩, hB'⟩ := hB
    have hkn : k < n := by simp only [List.length_cons] at hk; omega
    have hr' : k ∈ Region.ready md ops listed := by simpa using hr
    have hy : ∃ v, Yields P ops w o v a ∧ wpCalm P ops w (fun a' => wpOwn P ops w Q tl a' W) l (a.put o.dst v) := by
      unfold wpCalm at h
      split at h
      · obtain ⟨v, h1, h2⟩ := h
        exact ⟨v, .inl ⟨by assumption, h1⟩, h2⟩
      · exact ⟨undef, .inr ⟨Bool.eq_false_iff.2 (by assumption), rfl⟩, h⟩
    obtain ⟨v, hy, hK⟩ := hy
    rw [show (o :: l).length + tl.length = (l.length + tl.length) + 1 by simp only [List.length_cons]; omega]
    exact game_first h0 hkn (Region.noSelect_spec hsel) _ listed a W (Region.free_spec h0 hf) hr' hy
      (game_lex tl htl hsel W l (k + 1) _ _ (fun j hj => by have := hl (j + 1) (by simp; omega); simpa [Nat.add_assoc, Nat.add_comm 1 j] using this) (by simp only [List.length_cons] at hk; omega) hB' hK)

/-- The check of a region, by reckoning. -/
def ownB (ops : Array Oper) (n : Nat) : Bool := Region.noSelect ops && decide (n ≤ ops.size) && Region.lexHead .any ops (ops.size - n) n 0 (Array.replicate ops.size false)

/-- One walk serves every order: the first n operations calm, the others the region's own. -/
theorem wp_region_own {id : Nat} {a : Act} {l : List Oper} (n : Nat) (hm : P.follows .mixedOrders = true) (hB : ownB l.toArray n = true)
    (h : wpCalm P l.toArray w (fun a' => wpOwn P l.toArray w Q (l.drop n) a' w) (l.take n) a) : (Code.region id l.toArray true).wp P Q a w := by
  simp only [ownB, Bool.and_eq_true, decide_eq_true_eq] at hB
  obtain ⟨⟨hsel, hn⟩, hlex⟩ := hB
  have hn' : n ≤ l.length := by simpa using hn
  have htl : (l.take n).length = n := by simp; omega
  have hdl : (l.drop n).length = l.toArray.size - n := by simp
  refine wp_region_any hm ?_
  have H := game_lex (md := .any) (Q := Q) (n := n) (l.drop n) (fun j => by simp [List.getElem?_drop]) hsel w (l.take n) 0 _ a (fun j hj => by
    have hj' : j < n := by rw [htl] at hj; exact hj
    simp [hj']) (by simpa using htl) (by rw [htl, hdl]; exact hlex) h
  have H2 := game_sound _ _ _ w w.drew (Below.refl _ _) (Below.refl _ _).drew H
  rw [htl, hdl, show n + (l.toArray.size - n) = l.toArray.size by simp; omega] at H2
  exact H2
end
/-- The first n cells behind A hold f 0, f 1, ..; they lie in a block that w has. -/
def Seg (w : World) (A : Option Addr) (n : Nat) (f : Nat → Value) : Prop :=
  ∀ k, k < n → ∃ b off, A = some ⟨b, off, none⟩ ∧ b < w.heap.size ∧ w.cell? ⟨b, off + k, none⟩ = some (f k)
theorem Seg.next {w w' : World} {A : Option Addr} {n : Nat} {f : Nat → Value} (h : Seg w A n f) (hb : Below w.heap.size w w') : Seg w' A n f := by
  intro k hk
  obtain ⟨b, off, rfl, hlt, hc⟩ := h k hk
  exact ⟨b, off, rfl, Nat.lt_of_lt_of_le hlt hb.size, (hb.cell (p := ⟨b, off + k, none⟩) hlt).trans hc⟩
theorem Seg.idx {w : World} {A : Option Addr} {n : Nat} {f : Nat → Value} (h : Seg w A n f) {k : Nat} (hk : k < n) :
    ∃ b off, A = some ⟨b, off, none⟩ ∧ b < w.heap.size ∧ w.cell? ⟨b, off + k, none⟩ = some (f k) ∧ ∀ i : Idx w, i.at.cell? ⟨b, off + k, none⟩ = some (f k) := by
  obtain ⟨b, off, rfl, hlt, hc⟩ := h k hk
  exact ⟨b, off, rfl, hlt, hc, fun i => (i.below.cell (p := ⟨b, off + k, none⟩) hlt).trans hc⟩

/-- A slice of ints that came in. -/
def ints (zs : List Int) : Nat → Value := fun k => .int .i64 (zs.getD k 0)

/-- A slice of ints among the arguments, opened. -/
theorem seg_of_ints {H : Type} {enc : TypeId × Value → H} {P : Program} {w : World} {base : Nat} {spare : Nat → Bool} {held : Bool} {t e : TypeId} {fuel : Nat} {cs : List Value} {x : DataW H × List MemPlace} {A : Option Addr} {len cap : Nat}
    (ht : P.underlying t = some (.slice e)) (he : P.underlying e = some (.int .i64)) (hc : P.cellsOf e = 1) (h : DataW.trod enc P w base spare held fuel t cs = some x) (hcs : cs = [.slice A len cap]) :
    ∃ zs : List Int, zs.length = len ∧ Seg w A len (ints zs) ∧ (∀ n ∈ zs, (Lit.int .i64 n).wf = true) ∧ len ≤ maxLen := by
  rcases Go.ChangeShapes.open_ints ht he hc h with ⟨h1, _⟩ | ⟨a, l, c, zs, h1, _, hl, hm, hz, _, hcell, hwz⟩
  · rw [hcs] at h1
    simp only [List.cons.injEq, Value.slice.injEq, and_true] at h1
    obtain ⟨rfl, rfl, rfl⟩ := h1
    exact ⟨[], rfl, fun k hk => absurd hk (by omega), (fun n hn => absurd hn (by simp)), by omega⟩
  · rw [hcs] at h1
    simp only [List.cons.injEq, Value.slice.injEq, and_true] at h1
    obtain ⟨rfl, rfl, rfl⟩ := h1
    have hlen : len ≤ zs.length := by rw [hz]; split <;> omega
    refine ⟨zs.take len, by simp; omega, fun k hk => ?_, fun n hn => hwz n (List.mem_of_mem_take hn), by omega⟩
    have hp : 0 < zs.length := by omega
    obtain ⟨b, off, rfl, hat⟩ := ints_at hcell hp
    have hck := hat k (by omega)
    refine ⟨b, off, rfl, World.block_lt_of_cell? w ⟨b, off + k, none⟩ hck, ?_⟩
    rw [hck]
    simp [ints, List.getD, hk]
end Go.Proofs.Ytbcologcendhlaa
