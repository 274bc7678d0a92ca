/- The law of a drawn region whose operations are of three kinds: calm ones (they read, or call what leaves memory as it was), pure ones (no memory at all) and own ones (they may write anything). One walk in the order of the text serves every order. -/
import Derived.Test.YtjcojgblnbhejaaG
import Derived.StillTail
namespace Go.Proofs.Ytjcojgblnbhejaa
open Go.RowKit

section
variable {P : Program} {ops : Array Oper} {md : Region.Mode} {Q : Exit → Act → World → Prop}

/-- In every world the operation yields v and leaves the world. -/
def PureY (P : Program) (ops : Array Oper) (o : Oper) (v : Value) (a : Act) : Prop := ∀ W, Yields P ops W o v a

def mixUpon (P : Program) (dst : Option Tmp) (a : Act) (K : Act → World → Prop) : Result Next → Prop
  | .ok (.value u) w' => K (a.put dst u) w'
  | .ok .skip w' => K (a.put dst undef) w'
  | .ok (.enter f args) w' => Calls P f args w' fun e w'' => ∃ u, e = .returned u ∧ K (a.put dst u) w''
  | _ => False
def mixAt (P : Program) (o : Oper) (a : Act) (w2 : World) (K : Act → World → Prop) : Prop := mixUpon P o.dst a K ((execOp a.eval o).run P w2)
def mixStep (P : Program) (ops : Array Oper) (o : Oper) (K : Act → World → Prop) (a : Act) (W : World) : Prop :=
  ∀ w2, Below W.heap.size W w2 → if Region.wanted o (yielded ops a.tmps) then mixAt P o a w2 K else K (a.put o.dst undef) w2

theorem mixUpon_mono {dst : Option Tmp} {a : Act} {K K' : Act → World → Prop} (h : ∀ a W, K a W → K' a W) : ∀ r, mixUpon P dst a K r → mixUpon P dst a K' r
  | .ok (.value _) _, hh => h _ _ hh
  | .ok .skip _, hh => h _ _ hh
  | .ok (.defer _) _, hh => hh
  | .ok (.enter _ _) _, hh => hh.mono fun _ _ ⟨u, h1, h2⟩ => ⟨u, h1, h _ _ h2⟩
  | .ok (.row _ _) _, hh => hh
  | .halt _ _, hh => hh
theorem mixStep_mono {o : Oper} {a : Act} {W : World} {K K' : Act → World → Prop} (h : ∀ a W, K a W → K' a W) (hh : mixStep P ops o K a W) : mixStep P ops o K' a W := by
  intro w2 hb
  have h3 := hh w2 hb
  split at h3
  · rw [if_pos (by assumption)]; exact mixUpon_mono h _ h3
  · rw [if_neg (by assumption)]; exact h _ _ h3

/-- The walk in one order; the kinds: 0 calm, 1 pure, 3 growing (it makes memory alone), else own. -/
def wpMix (P : Program) (ops : Array Oper) (Q : Exit → Act → World → Prop) : List Nat → List Oper → Act → World → Prop
  | _, [], a, W => ∀ w2, Below W.heap.size W w2 → Q .normal a w2
  | 0 :: ks, o :: rest, a, W => if Region.wanted o (yielded ops a.tmps) then ∃ v, (∀ n : Idx W, o.quietAt P a (fun w'' => Below n.at.heap.size n.at w'') n.at v) ∧ wpMix P ops Q ks rest (a.put o.dst v) W else wpMix P ops Q ks rest (a.put o.dst undef) W
  | 1 :: ks, o :: rest, a, W => if Region.wanted o (yielded ops a.tmps) then ∃ v, (∀ w : World, o.quietAt P a (fun w'' => Below w.heap.size w w'') w v) ∧ wpMix P ops Q ks rest (a.put o.dst v) W else wpMix P ops Q ks rest (a.put o.dst undef) W
  | 3 :: ks, o :: rest, a, W => ownStep P ops W o (wpMix P ops Q ks rest) a W
  | _ :: ks, o :: rest, a, W => mixStep P ops o (wpMix P ops Q ks rest) a W
  | [], o :: rest, a, W => mixStep P ops o (wpMix P ops Q [] rest) a W
theorem wpMix_nil {ks : List Nat} {a : Act} {W : World} (h : ∀ w2, Below W.heap.size W w2 → Q .normal a w2) : wpMix P ops Q ks [] a W := by cases ks <;> exact h
theorem wpMix_calm {ks : List Nat} {a : Act} {W : World} {o : Oper} {rest : List Oper}
    (h : ∀ K' : Act → Prop, (∀ a, wpMix P ops Q ks rest a W → K' a) → if Region.wanted o (yielded ops a.tmps) then ∃ v, (∀ n : Idx W, o.quietAt P a (fun w'' => Below n.at.heap.size n.at w'') n.at v) ∧ K' (a.put o.dst v) else K' (a.put o.dst undef)) :
    wpMix P ops Q (0 :: ks) (o :: rest) a W := h _ (fun _ h => h)
theorem wpMix_pure {ks : List Nat} {a : Act} {W : World} {o : Oper} {rest : List Oper}
    (h : ∀ K' : Act → Prop, (∀ a, wpMix P ops Q ks rest a W → K' a) → if Region.wanted o (yielded ops a.tmps) then ∃ v, (∀ w : World, o.quietAt P a (fun w'' => Below w.heap.size w w'') w v) ∧ K' (a.put o.dst v) else K' (a.put o.dst undef)) :
    wpMix P ops Q (1 :: ks) (o :: rest) a W := h _ (fun _ h => h)
theorem wpMix_grow {ks : List Nat} {a : Act} {W : World} {o : Oper} {rest : List Oper}
    (h : ∀ w2, Below W.heap.size W w2 → ∀ K : Act → World → Prop, (∀ a W', wpMix P ops Q ks rest a W' → K a W') → if Region.wanted o (yielded ops a.tmps) then ownAt P W o a w2 K else Below W.heap.size W w2 ∧ K (a.put o.dst undef) w2) :
    wpMix P ops Q (3 :: ks) (o :: rest) a W := fun w2 hb => h w2 hb _ (fun _ _ h => h)
theorem wpMix_own {ks : List Nat} {a : Act} {W : World} {o : Oper} {rest : List Oper}
    (h : ∀ w2, Below W.heap.size W w2 → ∀ K : Act → World → Prop, (∀ a W', wpMix P ops Q ks rest a W' → K a W') → if Region.wanted o (yielded ops a.tmps) then mixAt P o a w2 K else K (a.put o.dst undef) w2) :
    wpMix P ops Q (2 :: ks) (o :: rest) a W := fun w2 hb => h w2 hb _ (fun _ _ h => h)

/-- Operation number i comes up. -/
def stepM (P : Program) (ops : Array Oper) (kd : List Nat) (i : Nat) (K : Act → World → Prop) (a : Act) (W : World) : Prop :=
  match ops[i]? with
  | none => False
  | some o => if kd.getD i 2 = 0 then ∃ v, Yields P ops W o v a ∧ K (a.put o.dst v) W else if kd.getD i 2 = 1 then ∃ v, PureY P ops o v a ∧ K (a.put o.dst v) W else if kd.getD i 2 = 3 then ownStep P ops W o K a W else mixStep P ops o K a W

theorem ownStep_mono {o : Oper} {a : Act} {w W : World} {K K' : Act → World → Prop} (h : ∀ a W, K a W → K' a W) (hh : ownStep P ops w o K a W) : ownStep P ops w o K' a W := by
  intro w2 hb
  have h3 := hh w2 hb
  split at h3
  · rw [if_pos (by assumption)]; exact ownUpon_mono h _ h3
  · rw [if_neg (by assumption)]; exact ⟨h3.1, h _ _ h3.2⟩

theorem stepM_mono {kd : List Nat} {i : Nat} {a : Act} {W : World} {K K' : Act → World → Prop} (h : ∀ a W, K a W → K' a W) (hh : stepM P ops kd i K a W) : stepM P ops kd i K' a W := by
  unfold stepM at *
  split at hh
  · exact hh.elim
  · split at hh
    · rw [if_pos (by assumption)]
      obtain ⟨v, h1, h2⟩ := hh
      exact ⟨v, h1, h _ _ h2⟩
    · rw [if_neg (by assumption)]
      split at hh
      · rw [if_pos (by assumption)]
        obtain ⟨v, h1, h2⟩ := hh
        exact ⟨v, h1, h _ _ h2⟩
      · rw [if_neg (by assumption)]
        split at hh
        · rw [if_pos (by assumption)]
          exact ownStep_mono h hh
        · rw [if_neg (by assumption)]
          exact mixStep_mono h hh

def gameM (P : Program) (md : Region.Mode) (ops : Array Oper) (kd : List Nat) (Q : Exit → Act → World → Prop) : Nat → Array Bool → Act → World → Prop
  | 0, listed, a, W => Region.ready md ops listed = [] ∧ ∀ w2, Below W.heap.size W w2 → Q .normal a w2
  | f + 1, listed, a, W => (Region.ready md ops listed = [] → ∀ w2, Below W.heap.size W w2 → Q .normal a w2) ∧
      ∀ i ∈ Region.ready md ops listed, stepM P ops kd i (gameM P md ops kd Q f (listed.setIfInBounds i true)) a W

theorem gameM_sound {kd : List Nat} : ∀ (f : Nat) (listed : Array Bool) (a : Act) (W w2 : World), Below W.heap.size W w2 →
    gameM P md ops kd Q f listed a W → wpAny P md ops Q f listed a w2
  | 0, _, _, _, _, hb, h => ⟨h.1, h.2 _ hb⟩
  | f + 1, listed, a, W, w2, hb, h => by
    refine ⟨fun h0 => h.1 h0 _ hb, fun i hi => ?_⟩
    have h1 := h.2 i hi
    unfold stepM at h1
    unfold wpOp
    have calm : ∀ (o : Oper) (v : Value), Yields P ops W o v a → gameM P md ops kd Q f (listed.setIfInBounds i true) (a.put o.dst v) W →
        if Region.wanted o (yielded ops a.tmps) then o.wp P a w2 (wpAny P md ops Q f (listed.setIfInBounds i true)) Q ∨ (o.asks P a w2 ∧ LetsOut Q) else wpAny P md ops Q f (listed.setIfInBounds i true) (a.put o.dst undef) w2 := fun o v hy hk => by
      rcases hy with ⟨hw1, hc⟩ | ⟨hw1, rfl⟩
      · rw [if_pos hw1]
        exact .inl (wp_of_calm (Below.refl _ _) hb hc fun w3 h3 => gameM_sound f _ _ W w3 h3 hk)
      · rw [if_neg (by rw [hw1]; exact Bool.false_ne_true)]
        exact gameM_sound f _ _ W w2 hb hk
    split at h1
    · exact h1.elim
    · rename_i o ho
      simp only [ho]
      split at h1
      · obtain ⟨v, hy, hk⟩ := h1
        exact calm o v hy hk
      · split at h1
        · obtain ⟨v, hy, hk⟩ := h1
          exact calm o v (hy W) hk
        · split at h1
          · have h2 := h1 w2 hb
            split at h2
            · rw [if_pos (by assumption)]
              left
              unfold ownAt at h2
              unfold Oper.wp
              generalize (execOp a.eval o).run P w2 = r at *
              cases r with
              | ok x w' =>
                cases x <;> simp only [ownUpon] at h2 <;> simp only [Oper.upon]
                case value u => exact gameM_sound f _ _ w' w' (Below.refl _ _) h2.2
                case skip => exact gameM_sound f _ _ w' w' (Below.refl _ _) h2.2
                case enter g args => exact h2.mono fun _ w'' ⟨u, h5, _, h7⟩ => by subst h5; exact gameM_sound f _ _ w'' w'' (Below.refl _ _) h7
              | halt x w' => simp only [ownUpon] at h2
            · rw [if_neg (by assumption)]
              exact gameM_sound f _ _ w2 w2 (Below.refl _ _) h2.2
          · have h2 := h1 w2 hb
            split at h2
            · rw [if_pos (by assumption)]
              left
              unfold mixAt at h2
              unfold Oper.wp
              generalize (execOp a.eval o).run P w2 = r at *
              cases r with
              | ok x w' =>
                cases x <;> simp only [mixUpon] at h2 <;> simp only [Oper.upon]
                case value u => exact gameM_sound f _ _ w' w' (Below.refl _ _) h2
                case skip => exact gameM_sound f _ _ w' w' (Below.refl _ _) h2
                case enter g args => exact h2.mono fun _ w'' ⟨u, h5, h7⟩ => by subst h5; exact gameM_sound f _ _ w'' w'' (Below.refl _ _) h7
              | halt x w' => simp only [mixUpon] at h2
            · rw [if_neg (by assumption)]
              exact gameM_sound f _ _ w2 w2 (Below.refl _ _) h2

theorem PureY.of_same {o : Oper} {v : Value} {a a' : Act} (hy : PureY P ops o v a) (he : execOp a'.eval o = execOp a.eval o)
    (hw : Region.wanted o (yielded ops a'.tmps) = Region.wanted o (yielded ops a.tmps)) : PureY P ops o v a' := fun W => (hy W).of_same he hw

/-- An operation that reads no memory moves ahead of any other. -/
theorem stepM_put_pure {kd : List Nat} {j : Nat} {oi oj : Oper} {v : Value} (hj : ops[j]? = some oj) (hap : oi.apart ops oj = true)
    (hsi : ∀ cs b, oi.op ≠ .select cs b) (hsj : ∀ cs b, oj.op ≠ .select cs b) {K : Act → World → Prop} {a : Act} {W : World}
    (hy : PureY P ops oi v a) (h : stepM P ops kd j K (a.put oi.dst v) W) :
    stepM P ops kd j (fun a' W' => PureY P ops oi v a' ∧ K (a'.put oi.dst v) W') a W := by
  obtain ⟨h1, h2, h3⟩ := Oper.apart_spec hap
  have keep : ∀ (a : Act), PureY P ops oi v a → ∀ u, PureY P ops oi v (a.put oj.dst u) := fun a hy u =>
    hy.of_same (execOp_put oi hsi a oj.dst u h3) (wanted_put oi a oj.dst u h3)
  unfold stepM at *
  simp only [hj] at *
  split at h
  · rw [if_pos (by assumption)]
    obtain ⟨u, hu, hn⟩ := h
    exact ⟨u, hu.of_same (execOp_put oj hsj a oi.dst v h1).symm (wanted_put oj a oi.dst v h1).symm, keep a hy u, by rw [← Act.put_comm a v u h2]; exact hn⟩
  · rw [if_neg (by assumption)]
    split at h
    · rw [if_pos (by assumption)]
      obtain ⟨u, hu, hn⟩ := h
      exact ⟨u, hu.of_same (execOp_put oj hsj a oi.dst v h1).symm (wanted_put oj a oi.dst v h1).symm, keep a hy u, by rw [← Act.put_comm a v u h2]; exact hn⟩
    · rw [if_neg (by assumption)]
      split at h
      · rw [if_pos (by assumption)]
        intro w2 hb
        have h4 := h w2 hb
        rw [wanted_put oj a oi.dst v h1] at h4
        split at h4
        · rw [if_pos (by assumption)]
          unfold ownAt at *
          rw [execOp_put oj hsj a oi.dst v h1] at h4
          generalize (execOp a.eval oj).run P w2 = r at *
          cases r with
          | ok x w' =>
            cases x <;> simp only [ownUpon] at h4 ⊢
            case value u => exact ⟨h4.1, keep a hy u, by rw [← Act.put_comm a v u h2]; exact h4.2⟩
            case skip => exact ⟨h4.1, keep a hy _, by rw [← Act.put_comm a v undef h2]; exact h4.2⟩
            case enter g args => exact h4.mono fun _ w'' ⟨u, h5, h6, h7⟩ => ⟨u, h5, h6, keep a hy u, by rw [← Act.put_comm a v u h2]; exact h7⟩
          | halt x w' => simp only [ownUpon] at h4
        · rw [if_neg (by assumption)]
          exact ⟨h4.1, keep a hy _, by rw [← Act.put_comm a v undef h2]; exact h4.2⟩
      · rw [if_neg (by assumption)]
        intro w2 hb
        have h4 := h w2 hb
        rw [wanted_put oj a oi.dst v h1] at h4
        split at h4
        · rw [if_pos (by assumption)]
          unfold mixAt at *
          rw [execOp_put oj hsj a oi.dst v h1] at h4
          generalize (execOp a.eval oj).run P w2 = r at *
          cases r with
          | ok x w' =>
            cases x <;> simp only [mixUpon] at h4 ⊢
            case value u => exact ⟨keep a hy u, by rw [← Act.put_comm a v u h2]; exact h4⟩
            case skip => exact ⟨keep a hy _, by rw [← Act.put_comm a v undef h2]; exact h4⟩
            case enter g args => exact h4.mono fun _ w'' ⟨u, h5, h7⟩ => ⟨u, h5, keep a hy u, by rw [← Act.put_comm a v u h2]; exact h7⟩
          | halt x w' => simp only [mixUpon] at h4
        · rw [if_neg (by assumption)]
          exact ⟨keep a hy _, by rw [← Act.put_comm a v undef h2]; exact h4⟩

theorem Yields.later {W W' : World} {o : Oper} {v : Value} {a : Act} (hy : Yields P ops W o v a) (hb : Below W.heap.size W W') : Yields P ops W' o v a := by
  rcases hy with ⟨h1, h2⟩ | h
  · exact .inl ⟨h1, fun n => h2 ⟨n.at, below_step hb n.below⟩⟩
  · exact .inr h

/-- A calm operation moves ahead of what is calm, pure or growing. -/
theorem stepM_put_calm {kd : List Nat} {j : Nat} {oi oj : Oper} {v : Value} (hj : ops[j]? = some oj) (hap : oi.apart ops oj = true) (hkd : kd.getD j 2 = 0 ∨ kd.getD j 2 = 1 ∨ kd.getD j 2 = 3)
    (hsi : ∀ cs b, oi.op ≠ .select cs b) (hsj : ∀ cs b, oj.op ≠ .select cs b) {K : Act → World → Prop} {a : Act} {W : World}
    (hy : Yields P ops W oi v a) (h : stepM P ops kd j K (a.put oi.dst v) W) :
    stepM P ops kd j (fun a' W' => Yields P ops W' oi v a' ∧ K (a'.put oi.dst v) W') a W := by
  obtain ⟨h1, h2, h3⟩ := Oper.apart_spec hap
  have keep : ∀ (a : Act) (W' : World), Yields P ops W' oi v a → ∀ u, Yields P ops W' oi v (a.put oj.dst u) := fun a W' hy u =>
    hy.of_same (execOp_put oi hsi a oj.dst u h3) (wanted_put oi a oj.dst u h3)
  unfold stepM at *
  simp only [hj] at *
  rcases hkd with hkd | hkd | hkd
  · rw [if_pos hkd] at h ⊢
    obtain ⟨u, hu, hn⟩ := h
    exact ⟨u, hu.of_same (execOp_put oj hsj a oi.dst v h1).symm (wanted_put oj a oi.dst v h1).symm, keep a W hy u, by rw [← Act.put_comm a v u h2]; exact hn⟩
  · rw [if_neg (by omega), if_pos hkd] at h ⊢
    obtain ⟨u, hu, hn⟩ := h
    exact ⟨u, hu.of_same (execOp_put oj hsj a oi.dst v h1).symm (wanted_put oj a oi.dst v h1).symm, keep a W hy u, by rw [← Act.put_comm a v u h2]; exact hn⟩
  · rw [if_neg (by omega), if_neg (by omega), if_pos hkd] at h ⊢
    intro w2 hb
    have h4 := h w2 hb
    rw [wanted_put oj a oi.dst v h1] at h4
    split at h4
    · rw [if_pos (by assumption)]
      unfold ownAt at *
      rw [execOp_put oj hsj a oi.dst v h1] at h4
      generalize (execOp a.eval oj).run P w2 = r at *
      cases r with
      | ok x w' =>
        cases x <;> simp only [ownUpon] at h4 ⊢
        case value u => exact ⟨h4.1, keep a _ (hy.later h4.1) u, by rw [← Act.put_comm a v u h2]; exact h4.2⟩
        case skip => exact ⟨h4.1, keep a _ (hy.later h4.1) _, by rw [← Act.put_comm a v undef h2]; exact h4.2⟩
        case enter g args => exact h4.mono fun _ w'' ⟨u, h5, h6, h7⟩ => ⟨u, h5, h6, keep a _ (hy.later h6) u, by rw [← Act.put_comm a v u h2]; exact h7⟩
      | halt x w' => simp only [ownUpon] at h4
    · rw [if_neg (by assumption)]
      exact ⟨h4.1, keep a _ (hy.later h4.1) _, by rw [← Act.put_comm a v undef h2]; exact h4.2⟩

theorem gameM_first_pure {kd : List Nat} {i : Nat} {oi : Oper} {v : Value} (hi : ops[i]? = some oi) (hin : kd.getD i 2 = 1) (hsel : ∀ (j : Nat) (o : Oper) cs b, ops[j]? = some o → o.op ≠ .select cs b) :
    ∀ (f : Nat) (listed : Array Bool) (a : Act) (W : World),
      (∀ j oj, ops[j]? = some oj → j ≠ i → listed.getD j true = false → (∀ e ∈ oj.after, Region.binds md e = true → e.on ≠ i) → oi.apart ops oj = true) →
      i ∈ Region.ready md ops listed → PureY P ops oi v a →
      gameM P md ops kd Q f (listed.setIfInBounds i true) (a.put oi.dst v) W → gameM P md ops kd Q (f + 1) listed a W := by
  have now : ∀ (K : Act → World → Prop) (a : Act) (W : World), PureY P ops oi v a → K (a.put oi.dst v) W → stepM P ops kd i K a W := fun K a W hy hk => by
    unfold stepM
    simp only [hi]
    rw [if_neg (by omega), if_pos hin]
    exact ⟨v, hy, hk⟩
  intro f
  induction f with
  | zero =>
    intro listed a W _ hr hy H
    refine ⟨fun h => (by rw [h] at hr; cases hr), fun j hj => ?_⟩
    by_cases hji : j = i
    · subst hji; exact now _ _ _ hy H
    · have := ready_mono hj hji
      rw [H.1] at this
      cases this
  | succ f ih =>
    intro listed a W hfree hr hy H
    refine ⟨fun h => (by rw [h] at hr; cases hr), fun j hj => ?_⟩
    by_cases hji : j = i
    · subst hji; exact now _ _ _ hy H
    · have h1 := H.2 j (ready_mono hj hji)
      obtain ⟨hjun, oj, hoj, hall⟩ := mem_ready.1 hj
      have hnot : ∀ e ∈ oj.after, Region.binds md e = true → e.on ≠ i := fun e he hb heq => by
        have h1 := hall e he hb
        rw [heq, getD_both (mem_ready.1 hr).1] at h1
        cases h1
      have h2 := stepM_put_pure hoj (hfree j oj hoj hji hjun hnot) (fun cs b => hsel i oi cs b hi) (fun cs b => hsel j oj cs b hoj) hy h1
      have hfree' : ∀ k ok, ops[k]? = some ok → k ≠ i → (listed.setIfInBounds j true).getD k true = false →
          (∀ e ∈ ok.after, Region.binds md e = true → e.on ≠ i) → oi.apart ops ok = true := fun k ok hk hki hun hno => by
        refine hfree k ok hk hki ?_ hno
        by_cases hjk : j = k
        · subst hjk; exact hjun
        · rw [getD_set_ne true hjk] at hun; exact hun
      refine stepM_mono (fun a' W' h3 => ih (listed.setIfInBounds j true) a' W' hfree' (ready_mono hr (Ne.symm hji)) h3.1 ?_) h2
      rw [Array.setIfInBounds_comm _ _ hji]
      exact h3.2

theorem gameM_first_calm {kd : List Nat} {i : Nat} {oi : Oper} {v : Value} (hi : ops[i]? = some oi) (hin : kd.getD i 2 = 0) (hsel : ∀ (j : Nat) (o : Oper) cs b, ops[j]? = some o → o.op ≠ .select cs b) :
    ∀ (f : Nat) (listed : Array Bool) (a : Act) (W : World),
      (∀ j oj, ops[j]? = some oj → j ≠ i → listed.getD j true = false → (∀ e ∈ oj.after, Region.binds md e = true → e.on ≠ i) → oi.apart ops oj = true) →
      (∀ j, listed.getD j true = false → (kd.getD j 2 = 0 ∨ kd.getD j 2 = 1 ∨ kd.getD j 2 = 3) ∨ Region.waitsFor md ops j i = true) →
      i ∈ Region.ready md ops listed → Yields P ops W oi v a →
      gameM P md ops kd Q f (listed.setIfInBounds i true) (a.put oi.dst v) W → gameM P md ops kd Q (f + 1) listed a W := by
  have now : ∀ (K : Act → World → Prop) (a : Act) (W : World), Yields P ops W oi v a → K (a.put oi.dst v) W → stepM P ops kd i K a W := fun K a W hy hk => by
    unfold stepM
    simp only [hi]
    rw [if_pos hin]
    exact ⟨v, hy, hk⟩
  intro f
  induction f with
  | zero =>
    intro listed a W _ _ hr hy H
    refine ⟨fun h => (by rw [h] at hr; cases hr), fun j hj => ?_⟩
    by_cases hji : j = i
    · subst hji; exact now _ _ _ hy H
    · have := ready_mono hj hji
      rw [H.1] at this
      cases this
  | succ f ih =>
    intro listed a W hfree hown hr hy H
    refine ⟨fun h => (by rw [h] at hr; cases hr), fun j hj => ?_⟩
    by_cases hji : j = i
    · subst hji; exact now _ _ _ hy H
    · have h1 := H.2 j (ready_mono hj hji)
      obtain ⟨hjun, oj, hoj, hall⟩ := mem_ready.1 hj
      have hnot : ∀ e ∈ oj.after, Region.binds md e = true → e.on ≠ i := fun e he hb heq => by
        have h1 := hall e he hb
        rw [heq, getD_both (mem_ready.1 hr).1] at h1
        cases h1
      have hkd : kd.getD j 2 = 0 ∨ kd.getD j 2 = 1 ∨ kd.getD j 2 = 3 := by
        rcases hown j hjun with h | h
        · exact h
        · obtain ⟨o', ho', e, he, hb, hon⟩ := Region.waitsFor_spec h
          have : o' = oj := Option.some.inj (ho'.symm.trans hoj)
          subst this
          exact absurd hon (hnot e he hb)
      have h2 := stepM_put_calm hoj (hfree j oj hoj hji hjun hnot) hkd (fun cs b => hsel i oi cs b hi) (fun cs b => hsel j oj cs b hoj) hy h1
      have hfree' : ∀ k ok, ops[k]? = some ok → k ≠ i → (listed.setIfInBounds j true).getD k true = false →
          (∀ e ∈ ok.after, Region.binds md e = true → e.on ≠ i) → oi.apart ops ok = true := fun k ok hk hki hun hno => by
        refine hfree k ok hk hki ?_ hno
        by_cases hjk : j = k
        · subst hjk; exact hjun
        · rw [getD_set_ne true hjk] at hun; exact hun
      have hown' : ∀ k, (listed.setIfInBounds j true).getD k true = false → (kd.getD k 2 = 0 ∨ kd.getD k 2 = 1 ∨ kd.getD k 2 = 3) ∨ Region.waitsFor md ops k i = true := fun k hun => by
        refine hown k ?_
        by_cases hjk : j = k
        · subst hjk; exact hjun
        · rw [getD_set_ne true hjk] at hun; exact hun
      refine stepM_mono (fun a' W' h3 => ?_) h2
      obtain ⟨h4, h5⟩ := h3
      refine ih (listed.setIfInBounds j true) a' W' hfree' hown' (ready_mono hr (Ne.symm hji)) h4 ?_
      rw [Array.setIfInBounds_comm _ _ hji]
      exact h5

/-- The check of a region, by reckoning: one order serves every order. -/
def mixB (md : Region.Mode) (ops : Array Oper) (kd : List Nat) : List Nat → Array Bool → Bool
  | [], listed => (Region.ready md ops listed).isEmpty
  | k :: ks, listed => (match kd.getD k 2 with
      | 0 => (Region.ready md ops listed).contains k && Region.free md ops listed k &&
          ((List.range ops.size).all fun j => decide (kd.getD j 2 = 0) || decide (kd.getD j 2 = 1) || decide (kd.getD j 2 = 3) || listed.getD j true || Region.waitsFor md ops j k)
      | 1 => (Region.ready md ops listed).contains k && Region.free md ops listed k
      | _ => decide (Region.ready md ops listed = [k])) && mixB md ops kd ks (listed.setIfInBounds k true)

theorem gameM_lex {kd : List Nat} (hsel : Region.noSelect ops = true) : ∀ (ord : List Nat) (l : List Oper) (listed : Array Bool) (a : Act) (W : World), listed.size = ops.size → ord.mapM (fun k => ops[k]?) = some l →
    mixB md ops kd ord listed = true → wpMix P ops Q (ord.map (kd.getD · 2)) l a W → gameM P md ops kd Q ord.length listed a W
  | [], l, listed, a, W, _, hl, hB, h => by
    obtain rfl : [] = l := by simpa using hl
    exact ⟨by simpa [mixB] using hB, h⟩
  | k :: ord, l, listed, a, W, hsz, hl, hB, h => by
    obtain ⟨o, l', h0, hl', rfl⟩ : ∃ o l', ops[k]? = some o ∧ ord.mapM (fun k => ops[k]?) = some l' ∧ l = o :: l' := by
      rw [List.mapM_cons] at hl
      cases h0 : ops[k]? with
      | none => rw [h0] at hl; cases hl
      | some o =>
        cases h1 : ord.mapM (fun k => ops[k]?) with
        | none => rw [h0, h1] at hl; cases hl
        | some l' => rw [h0, h1] at hl; exact ⟨o, l', rfl, rfl, (Option.some.inj hl).symm⟩
    have hsz' : (listed.setIfInBounds k true).size = ops.size := by simp [hsz]
    rw [List.length_cons]
    rw [List.map_cons] at h
    simp only [mixB, Bool.and_eq_true] at hB
    obtain ⟨hB1, hB'⟩ := hB
    have fall : ∀ c, kd.getD k 2 = c → c ≠ 0 → c ≠ 1 → decide (Region.ready md ops listed = [k]) = true → gameM P md ops kd Q (ord.length + 1) listed a W := fun c hc c0 c1 hr => by
      have hr := of_decide_eq_true hr
      refine ⟨fun h1 => (by rw [hr] at h1; cases h1), fun i hi => ?_⟩
      rw [hr] at hi
      have hik : i = k := by simpa using hi
      subst hik
      by_cases c3 : c = 3
      · subst c3
        have hs : stepM P ops kd i (wpMix P ops Q (ord.map (kd.getD · 2)) l') a W := by
          unfold stepM
          simp only [h0]
          rw [if_neg (by omega), if_neg (by omega), if_pos hc]
          rw [hc] at h
          simpa only [wpMix] using h
        exact stepM_mono (fun a' W' h' => gameM_lex hsel ord l' _ a' W' hsz' hl' hB' h') hs
      · have hs : stepM P ops kd i (wpMix P ops Q (ord.map (kd.getD · 2)) l') a W := by
          unfold stepM
          simp only [h0]
          rw [if_neg (by omega), if_neg (by omega), if_neg (by omega)]
          rw [hc] at h
          match c, c0, c1, c3, h with
          | 2, _, _, _, h => simpa only [wpMix] using h
          | c + 4, _, _, _, h => simpa only [wpMix] using h
        exact stepM_mono (fun a' W' h' => gameM_lex hsel ord l' _ a' W' hsz' hl' hB' h') hs
    match hk : kd.getD k 2 with
    | 0 =>
      rw [hk] at hB1 h
      simp only [Bool.and_eq_true] at hB1
      obtain ⟨⟨hr, hf⟩, ho⟩ := hB1
      have hr' : k ∈ Region.ready md ops listed := by simpa using hr
      have hy : ∃ v, Yields P ops W o v a ∧ wpMix P ops Q (ord.map (kd.getD · 2)) l' (a.put o.dst v) W := by
        simp only [wpMix] at h
        split at h
        · obtain ⟨v, h1, h2⟩ := h
          exact ⟨v, .inl ⟨by assumption, h1⟩, h2⟩
        · exact ⟨undef, .inr ⟨Bool.eq_false_iff.2 (by assumption), rfl⟩, h⟩
      obtain ⟨v, hy, hK⟩ := hy
      refine gameM_first_calm h0 hk (Region.noSelect_spec hsel) _ listed a W (Region.free_spec h0 hf) (fun j hj => ?_) hr' hy (gameM_lex hsel ord l' _ _ _ hsz' hl' hB' hK)
      have hjs : j < ops.size := by
        rcases Nat.lt_or_ge j listed.size with h' | h'
        · omega
        · simp [Array.getElem?_eq_none h'] at hj
      have := List.all_eq_true.1 ho j (List.mem_range.2 hjs)
      simp only [Bool.or_eq_true, decide_eq_true_eq, hj, Bool.false_eq_true, or_false] at this
      rcases this with ((h1 | h1) | h1) | h1
      · exact .inl (.inl h1)
      · exact .inl (.inr (.inl h1))
      · exact .inl (.inr (.inr h1))
      · exact .inr h1
    | 1 =>
      rw [hk] at hB1 h
      simp only [Bool.and_eq_true] at hB1
      obtain ⟨hr, hf⟩ := hB1
      have hr' : k ∈ Region.ready md ops listed := by simpa using hr
      have hy : ∃ v, PureY P ops o v a ∧ wpMix P ops Q (ord.map (kd.getD · 2)) l' (a.put o.dst v) W := by
        simp only [wpMix] at h
        split at h
        · obtain ⟨v, h1, h2⟩ := h
          exact ⟨v, fun _ => .inl ⟨by assumption, fun n => h1 n.at⟩, h2⟩
        · exact ⟨undef, fun _ => .inr ⟨Bool.eq_false_iff.2 (by assumption), rfl⟩, h⟩
      obtain ⟨v, hy, hK⟩ := hy
      exact gameM_first_pure h0 hk (Region.noSelect_spec hsel) _ listed a W (Region.free_spec h0 hf) hr' hy (gameM_lex hsel ord l' _ _ _ hsz' hl' hB' hK)
    | c + 2 =>
      rw [hk] at hB1
      exact fall (c + 2) hk (by omega) (by omega) hB1

def mixAllB (ops : Array Oper) (kd ord : List Nat) : Bool := Region.noSelect ops && decide (ord.length = ops.size) && mixB .any ops kd ord (Array.replicate ops.size false)

/-- One walk serves every order: kd gives each operation's kind, ord the order of the walk. -/
theorem wp_region_mixo {id : Nat} {a : Act} {w : World} {l l' : List Oper} (kd ord : List Nat) (hm : P.follows .mixedOrders = true) (hB : mixAllB l.toArray kd ord = true) (hl : ord.mapM (fun k => l.toArray[k]?) = some l')
    (h : wpMix P l.toArray Q (ord.map (kd.getD · 2)) l' a w) : (Code.region id l.toArray true).wp P Q a w := by
  simp only [mixAllB, Bool.and_eq_true, decide_eq_true_eq] at hB
  obtain ⟨⟨hsel, hn⟩, hlex⟩ := hB
  refine wp_region_any hm ?_
  have H := gameM_lex (md := .any) (Q := Q) hsel ord l' _ a w (by simp) hl hlex h
  rw [hn] at H
  exact gameM_sound _ _ _ w w.drew (Below.refl _ _).drew H
/-- The same in the order of the text. -/
theorem wp_region_mix {id : Nat} {a : Act} {w : World} {l : List Oper} (kd : List Nat) (hm : P.follows .mixedOrders = true) (hB : (decide (kd.length = l.length) && mixAllB l.toArray kd (List.range l.length)) = true)
    (h : wpMix P l.toArray Q kd l a w) : (Code.region id l.toArray true).wp P Q a w := by
  simp only [Bool.and_eq_true, decide_eq_true_eq] at hB
  obtain ⟨hn, hB⟩ := hB
  refine wp_region_mixo kd (List.range l.length) hm hB (l' := l) ?_ ?_
  · have : ∀ (l2 l1 : List Oper), (List.range' l1.length l2.length).mapM (fun k => (l1 ++ l2).toArray[k]?) = some l2 := by
      intro l2
      induction l2 with
      | nil => intro l1; rfl
      | cons o l2 ih =>
        intro l1
        have h1 := ih (l1 ++ [o])
        rw [List.length_cons, List.range'_succ, List.mapM_cons]
        simp only [List.append_assoc, List.singleton_append, List.length_append, List.length_cons, List.length_nil] at h1
        rw [h1]
        simp
    have h1 := this l []
    rw [List.range_eq_range']
    simpa using h1
  · have e : (List.range l.length).map (kd.getD · 2) = kd := by
      apply List.ext_getElem?
      intro k
      rw [← hn]
      by_cases hk : k < kd.length
      · simp [hk]
      · simp [hk]
    rw [e]
    exact h
end
end Go.Proofs.Ytjcojgblnbhejaa
