/- The law of a drawn region over a class of worlds that the prover chooses: calm operations yield one value in all of them; own ones (stores, calls that write older blocks) stay in the class. One walk, in an order of one's own, serves every order. -/
import Derived.Test.YtbcologcendhlaaG
namespace Go.Proofs.Ytbcologcendhlaa
open Go.RowKit

/-- A class of worlds, one world of it, and that what a callee leaves stays in the class. -/
structure Cls where
  C : World → Prop
  w : World
  h : C w
  up : ∀ {w1 w2 : World}, C w1 → Below w1.heap.size w1 w2 → C w2
def IdxC (c : Cls) : Type := { w' : World // c.C w' }
instance (c : Cls) : Nonempty (IdxC c) := ⟨⟨c.w, c.h⟩⟩
def IdxC.at {c : Cls} (n : IdxC c) : World := n.val
theorem IdxC.prop {c : Cls} (n : IdxC c) : c.C n.at := n.property

section
variable {P : Program} {ops : Array Oper} {md : Region.Mode} {c : Cls} {Q : Exit → Act → World → Prop}

/-- In every world that is as w was below w's size the operation yields v; a callee leaves what it found. -/
def CalmInC (P : Program) (c : Cls) (o : Oper) (a : Act) (v : Value) : Prop := ∀ n : IdxC c, o.quietAt P a (fun w'' => Below n.at.heap.size n.at w'') n.at v
def YieldsC (P : Program) (ops : Array Oper) (c : Cls) (o : Oper) (v : Value) (a : Act) : Prop :=
  (Region.wanted o (yielded ops a.tmps) = true ∧ CalmInC P c o a v) ∨ (Region.wanted o (yielded ops a.tmps) = false ∧ v = undef)

/-- What is asked of an operation of the region's own: a value or nothing, in a world that is still as w was below w's size. -/
def ownUponC (P : Program) (c : Cls) (dst : Option Tmp) (a : Act) (K : Act → World → Prop) : Result Next → Prop
  | .ok (.value u) w' => c.C w' ∧ K (a.put dst u) w'
  | .ok .skip w' => c.C w' ∧ K (a.put dst undef) w'
  | .ok (.enter f args) w' => Calls P f args w' fun e w'' => ∃ u, e = .returned u ∧ c.C w'' ∧ K (a.put dst u) w''
  | _ => False
def ownAtC (P : Program) (c : Cls) (o : Oper) (a : Act) (w2 : World) (K : Act → World → Prop) : Prop := ownUponC P c o.dst a K ((execOp a.eval o).run P w2)
def ownStepC (P : Program) (ops : Array Oper) (c : Cls) (o : Oper) (K : Act → World → Prop) (a : Act) (W : World) : Prop :=
  ∀ w2, Below W.heap.size W w2 → if Region.wanted o (yielded ops a.tmps) then ownAtC P c o a w2 K else c.C w2 ∧ K (a.put o.dst undef) w2
/-- The walk in one order; the kinds: 0 calm, else own. -/
def wpMixC (P : Program) (ops : Array Oper) (c : Cls) (Q : Exit → Act → World → Prop) : List Nat → List Oper → Act → World → Prop
  | _, [], a, W => ∀ w2, Below W.heap.size W w2 → Q .normal a w2
  | 0 :: ks, o :: rest, a, W => if Region.wanted o (yielded ops a.tmps) then ∃ v, (∀ n : IdxC c, o.quietAt P a (fun w'' => Below n.at.heap.size n.at w'') n.at v) ∧ wpMixC P ops c Q ks rest (a.put o.dst v) W else wpMixC P ops c Q ks rest (a.put o.dst undef) W
  | _ :: ks, o :: rest, a, W => ownStepC P ops c o (wpMixC P ops c Q ks rest) a W
  | [], o :: rest, a, W => ownStepC P ops c o (wpMixC P ops c Q [] rest) a W
theorem wpMixC_nil {ks : List Nat} {a : Act} {W : World} (h : ∀ w2, Below W.heap.size W w2 → Q .normal a w2) : wpMixC P ops c Q ks [] a W := by cases ks <;> exact h
theorem wpMixC_calm {ks : List Nat} {a : Act} {W : World} {o : Oper} {rest : List Oper}
    (h : ∀ K' : Act → Prop, (∀ a, wpMixC P ops c Q ks rest a W → K' a) → if Region.wanted o (yielded ops a.tmps) then ∃ v, (∀ n : IdxC c, o.quietAt P a (fun w'' => Below n.at.heap.size n.at w'') n.at v) ∧ K' (a.put o.dst v) else K' (a.put o.dst undef)) :
    wpMixC P ops c Q (0 :: ks) (o :: rest) a W := h _ (fun _ h => h)
theorem wpMixC_own {ks : List Nat} {a : Act} {W : World} {o : Oper} {rest : List Oper}
    (h : ∀ w2, Below W.heap.size W w2 → ∀ K : Act → World → Prop, (∀ a W', wpMixC P ops c Q ks rest a W' → K a W') → if Region.wanted o (yielded ops a.tmps) then ownAtC P c o a w2 K else c.C w2 ∧ K (a.put o.dst undef) w2) :
    wpMixC P ops c Q (2 :: ks) (o :: rest) a W := fun w2 hb => h w2 hb _ (fun _ _ h => h)

theorem ownUponC_mono {dst : Option Tmp} {a : Act} {K K' : Act → World → Prop} (h : ∀ a W, K a W → K' a W) : ∀ r, ownUponC P c dst a K r → ownUponC P c dst a K' r
  | .ok (.value _) _, hh => ⟨hh.1, h _ _ hh.2⟩
  | .ok .skip _, hh => ⟨hh.1, h _ _ hh.2⟩
  | .ok (.defer _) _, hh => hh
  | .ok (.enter _ _) _, hh => hh.mono fun _ _ ⟨u, h1, h2, h3⟩ => ⟨u, h1, h2, h _ _ h3⟩
  | .ok (.row _ _) _, hh => hh
  | .halt _ _, hh => hh

/-- Operation number i comes up: calm where its kind is 0, else one of the region's own. -/
def stepC (P : Program) (ops : Array Oper) (c : Cls) (kd : List Nat) (i : Nat) (K : Act → World → Prop) (a : Act) (W : World) : Prop :=
  match ops[i]? with
  | none => False
  | some o => if kd.getD i 2 = 0 then ∃ v, YieldsC P ops c o v a ∧ K (a.put o.dst v) W else ownStepC P ops c o K a W

theorem stepC_mono {kd : List Nat} {i : Nat} {a : Act} {W : World} {K K' : Act → World → Prop} (h : ∀ a W, K a W → K' a W) (hh : stepC P ops c kd i K a W) : stepC P ops c kd i K' a W := by
  unfold stepC at *
  split at hh
  · exact hh.elim
  · split at hh
    · rw [if_pos (by assumption)]
      obtain ⟨v, h1, h2⟩ := hh
      exact ⟨v, h1, h _ _ h2⟩
    · rw [if_neg (by assumption)]
      intro w2 hb
      have h3 := hh w2 hb
      split at h3
      · rw [if_pos (by assumption)]; exact ownUponC_mono h _ h3
      · rw [if_neg (by assumption)]; exact ⟨h3.1, h _ _ h3.2⟩

def gameC (P : Program) (md : Region.Mode) (ops : Array Oper) (c : Cls) (Q : Exit → Act → World → Prop) (kd : List Nat) : Nat → Array Bool → Act → World → Prop
  | 0, listed, a, W => Region.ready md ops listed = [] ∧ ∀ w2, Below W.heap.size W w2 → Q .normal a w2
  | f + 1, listed, a, W => (Region.ready md ops listed = [] → ∀ w2, Below W.heap.size W w2 → Q .normal a w2) ∧
      ∀ i ∈ Region.ready md ops listed, stepC P ops c kd i (gameC P md ops c Q kd f (listed.setIfInBounds i true)) a W

/-- A calm operation in a world of the class. -/
theorem wp_of_calmC {o : Oper} {a : Act} {v : Value} {W w2 : World} {K : Act → World → Prop} (hw : c.C W) (hb : Below W.heap.size W w2)
    (hc : CalmInC P c o a v) (h : ∀ w3, Below W.heap.size W w3 → K (a.put o.dst v) w3) : o.wp P a w2 K Q := by
  have h3 := hc ⟨w2, c.up hw hb⟩
  unfold Oper.quietAt at h3
  unfold Oper.wp
  change Oper.quietUpon P (fun w'' => Below w2.heap.size w2 w'') w2 v ((execOp a.eval o).run P w2) at h3
  generalize (execOp a.eval o).run P w2 = r at *
  cases r with
  | ok x w' =>
    cases x <;> simp only [Oper.quietUpon] at h3 <;> simp only [Oper.upon]
    case value u =>
      obtain ⟨e1, e2⟩ := h3
      rw [e1, e2]
      exact h _ hb
    case skip =>
      obtain ⟨e1, e2⟩ := h3
      rw [e1, ← e2]
      exact h _ hb
    case enter f args =>
      obtain ⟨e1, hcl⟩ := h3
      rw [e1]
      exact hcl.mono fun e w'' ⟨he, hw''⟩ => by subst he; exact h _ (below_step hb hw'')
  | halt x w' => simp only [Oper.quietUpon] at h3

theorem game_soundC {kd : List Nat} : ∀ (f : Nat) (listed : Array Bool) (a : Act) (W w2 : World), c.C W → Below W.heap.size W w2 →
    gameC P md ops c Q kd f listed a W → wpAny P md ops Q f listed a w2
  | 0, _, _, _, _, _, hb, h => ⟨h.1, h.2 _ hb⟩
  | f + 1, listed, a, W, w2, hw, hb, h => by
    refine ⟨fun h0 => h.1 h0 _ hb, fun i hi => ?_⟩
    have h1 := h.2 i hi
    unfold stepC at h1
    unfold wpOp
    split at h1
    · exact h1.elim
    · rename_i o ho
      simp only [ho]
      split at h1
      · obtain ⟨v, hy, hk⟩ := h1
        rcases hy with ⟨hw1, hc⟩ | ⟨hw1, rfl⟩
        · rw [if_pos hw1]
          exact .inl (wp_of_calmC hw hb hc fun w3 h3 => game_soundC f _ _ W w3 hw h3 hk)
        · rw [if_neg (by rw [hw1]; exact Bool.false_ne_true)]
          exact game_soundC f _ _ W w2 hw hb hk
      · have h2 := h1 w2 hb
        split at h2
        · rw [if_pos (by assumption)]
          left
          unfold ownAtC at h2
          unfold Oper.wp
          generalize (execOp a.eval o).run P w2 = r at *
          cases r with
          | ok x w' =>
            cases x <;> simp only [ownUponC] at h2 <;> simp only [Oper.upon]
            case value u => exact game_soundC f _ _ w' w' h2.1 (Below.refl _ _) h2.2
            case skip => exact game_soundC f _ _ w' w' h2.1 (Below.refl _ _) h2.2
            case enter g args => exact h2.mono fun _ w'' ⟨u, h5, h6, h7⟩ => by subst h5; exact game_soundC f _ _ w'' w'' h6 (Below.refl _ _) h7
          | halt x w' => simp only [ownUponC] at h2
        · rw [if_neg (by assumption)]
          exact game_soundC f _ _ w2 w2 h2.1 (Below.refl _ _) h2.2

theorem YieldsC.of_same {o : Oper} {v : Value} {a a' : Act} (hy : YieldsC P ops c o v a) (he : execOp a'.eval o = execOp a.eval o)
    (hw : Region.wanted o (yielded ops a'.tmps) = Region.wanted o (yielded ops a.tmps)) : YieldsC P ops c o v a' := by
  unfold YieldsC CalmInC Oper.quietAt at *
  rw [he, hw]
  exact hy

theorem stepC_put {kd : List Nat} {j : Nat} {oi oj : Oper} {v : Value} (hj : ops[j]? = some oj) (hap : oi.apart ops oj = true)
    (hsi : ∀ cs b, oi.op ≠ .select cs b) (hsj : ∀ cs b, oj.op ≠ .select cs b) {K : Act → World → Prop} {a : Act} {W : World}
    (hy : YieldsC P ops c oi v a) (h : stepC P ops c kd j K (a.put oi.dst v) W) :
    stepC P ops c kd j (fun a' W' => YieldsC P ops c oi v a' ∧ K (a'.put oi.dst v) W') a W := by
  obtain ⟨h1, h2, h3⟩ := Oper.apart_spec hap
  have keep : ∀ (a : Act), YieldsC P ops c oi v a → ∀ u, YieldsC P ops c oi v (a.put oj.dst u) := fun a hy u =>
    hy.of_same (execOp_put oi hsi a oj.dst u h3) (wanted_put oi a oj.dst u h3)
  unfold stepC at *
  simp only [hj] at *
  split at h
  · rw [if_pos (by assumption)]
    obtain ⟨u, hu, hn⟩ := h
    exact ⟨u, hu.of_same (execOp_put oj hsj a oi.dst v h1).symm (wanted_put oj a oi.dst v h1).symm, keep a hy u, by rw [← Act.put_comm a v u h2]; exact hn⟩
  · rw [if_neg (by assumption)]
    intro w2 hb
    have h4 := h w2 hb
    rw [wanted_put oj a oi.dst v h1] at h4
    split at h4
    · rw [if_pos (by assumption)]
      unfold ownAtC at *
      rw [execOp_put oj hsj a oi.dst v h1] at h4
      generalize (execOp a.eval oj).run P w2 = r at *
      cases r with
      | ok x w' =>
        cases x <;> simp only [ownUponC] at h4 ⊢
        case value u => exact ⟨h4.1, keep a hy u, by rw [← Act.put_comm a v u h2]; exact h4.2⟩
        case skip => exact ⟨h4.1, keep a hy _, by rw [← Act.put_comm a v undef h2]; exact h4.2⟩
        case enter g args => exact h4.mono fun _ w'' ⟨u, h5, h6, h7⟩ => ⟨u, h5, h6, keep a hy u, by rw [← Act.put_comm a v u h2]; exact h7⟩
      | halt x w' => simp only [ownUponC] at h4
    · rw [if_neg (by assumption)]
      exact ⟨h4.1, keep a hy _, by rw [← Act.put_comm a v undef h2]; exact h4.2⟩

theorem game_firstC {kd : List Nat} {i : Nat} {oi : Oper} {v : Value} (hi : ops[i]? = some oi) (hin : kd.getD i 2 = 0) (hsel : ∀ (j : Nat) (o : Oper) cs b, ops[j]? = some o → o.op ≠ .select cs b) :
    ∀ (f : Nat) (listed : Array Bool) (a : Act) (W : World),
      (∀ j oj, ops[j]? = some oj → j ≠ i → listed.getD j true = false → (∀ e ∈ oj.after, Region.binds md e = true → e.on ≠ i) → oi.apart ops oj = true) →
      i ∈ Region.ready md ops listed → YieldsC P ops c oi v a →
      gameC P md ops c Q kd f (listed.setIfInBounds i true) (a.put oi.dst v) W → gameC P md ops c Q kd (f + 1) listed a W := by
  have now : ∀ (K : Act → World → Prop) (a : Act) (W : World), YieldsC P ops c oi v a → K (a.put oi.dst v) W → stepC P ops c kd i K a W := fun K a W hy hk => by
    unfold stepC
    simp only [hi]
    rw [if_pos hin]
    exact ⟨v, hy, hk⟩
  intro f
  induction f with
  | zero =>
    intro listed a W _ hr hy H
    refine ⟨fun h => (by rw [h] at hr; cases hr), fun j hj => ?_⟩
    by_cases hji : j = i
    · subst hji; exact now _ _ _ hy H
    · have := ready_mono hj hji
      rw [H.1] at this
      cases this
  | succ f ih =>
    intro listed a W hfree hr hy H
    refine ⟨fun h => (by rw [h] at hr; cases hr), fun j hj => ?_⟩
    by_cases hji : j = i
    · subst hji; exact now _ _ _ hy H
    · have h1 := H.2 j (ready_mono hj hji)
      obtain ⟨hjun, oj, hoj, hall⟩ := mem_ready.1 hj
      have hnot : ∀ e ∈ oj.after, Region.binds md e = true → e.on ≠ i := fun e he hb heq => by
        have h1 := hall e he hb
        have h0 := (mem_ready.1 hr).1
        rw [heq] at h1
        rcases Nat.lt_or_ge i listed.size with h' | h'
        · simp [h'] at h0 h1; rw [h0] at h1; cases h1
        · simp [Array.getElem?_eq_none h'] at h1
      have h2 := stepC_put hoj (hfree j oj hoj hji hjun hnot) (fun cs b => hsel i oi cs b hi) (fun cs b => hsel j oj cs b hoj) hy h1
      have hfree' : ∀ k ok, ops[k]? = some ok → k ≠ i → (listed.setIfInBounds j true).getD k true = false →
          (∀ e ∈ ok.after, Region.binds md e = true → e.on ≠ i) → oi.apart ops ok = true := fun k ok hk hki hun hno => by
        refine hfree k ok hk hki ?_ hno
        by_cases hjk : j = k
        · subst hjk; exact hjun
        · rw [getD_set_ne true hjk] at hun; exact hun
      refine stepC_mono (fun a' W' h3 => ih (listed.setIfInBounds j true) a' W' hfree' (ready_mono hr (Ne.symm hji)) h3.1 ?_) h2
      rw [Array.setIfInBounds_comm _ _ hji]
      exact h3.2

/-- The check of a region, by reckoning: one order serves every order. -/
def mixCB (md : Region.Mode) (ops : Array Oper) (kd : List Nat) : List Nat → Array Bool → Bool
  | [], listed => (Region.ready md ops listed).isEmpty
  | k :: ks, listed => (match kd.getD k 2 with
      | 0 => (Region.ready md ops listed).contains k && Region.free md ops listed k
      | _ => decide (Region.ready md ops listed = [k])) && mixCB md ops kd ks (listed.setIfInBounds k true)

theorem gameC_lex {kd : List Nat} (hsel : Region.noSelect ops = true) : ∀ (ord : List Nat) (l : List Oper) (listed : Array Bool) (a : Act) (W : World), listed.size = ops.size → ord.mapM (fun k => ops[k]?) = some l →
    mixCB md ops kd ord listed = true → wpMixC P ops c Q (ord.map (kd.getD · 2)) l a W → gameC P md ops c Q kd ord.length listed a W
  | [], l, listed, a, W, _, hl, hB, h => by
    obtain rfl : [] = l := by simpa using hl
    exact ⟨by simpa [mixCB] using hB, h⟩
  | k :: ord, l, listed, a, W, hsz, hl, hB, h => by
    obtain ⟨o, l', h0, hl', rfl⟩ : ∃ o l', ops[k]? = some o ∧ ord.mapM (fun k => ops[k]?) = some l' ∧ l = o :: l' := by
      rw [List.mapM_cons] at hl
      cases h0 : ops[k]? with
      | none => rw [h0] at hl; cases hl
      | some o =>
        cases h1 : ord.mapM (fun k => ops[k]?) with
        | none => rw [h0, h1] at hl; cases hl
        | some l' => rw [h0, h1] at hl; exact ⟨o, l', rfl, rfl, (Option.some.inj hl).symm⟩
    have hsz' : (listed.setIfInBounds k true).size = ops.size := by simp [hsz]
    rw [List.length_cons]
    rw [List.map_cons] at h
    simp only [mixCB, Bool.and_eq_true] at hB
    obtain ⟨hB1, hB'⟩ := hB
    match hk : kd.getD k 2 with
    | 0 =>
      rw [hk] at hB1 h
      simp only [Bool.and_eq_true] at hB1
      obtain ⟨hr, hf⟩ := hB1
      have hr' : k ∈ Region.ready md ops listed := by simpa using hr
      have hy : ∃ v, YieldsC P ops c o v a ∧ wpMixC P ops c Q (ord.map (kd.getD · 2)) l' (a.put o.dst v) W := by
        simp only [wpMixC] at h
        split at h
        · obtain ⟨v, h1, h2⟩ := h
          exact ⟨v, .inl ⟨by assumption, h1⟩, h2⟩
        · exact ⟨undef, .inr ⟨Bool.eq_false_iff.2 (by assumption), rfl⟩, h⟩
      obtain ⟨v, hy, hK⟩ := hy
      exact game_firstC h0 hk (Region.noSelect_spec hsel) _ listed a W (Region.free_spec h0 hf) hr' hy (gameC_lex hsel ord l' _ _ _ hsz' hl' hB' hK)
    | d + 1 =>
      rw [hk] at hB1
      have hr := of_decide_eq_true hB1
      refine ⟨fun h1 => (by rw [hr] at h1; cases h1), fun i hi => ?_⟩
      rw [hr] at hi
      have hik : i = k := by simpa using hi
      subst hik
      have hs : stepC P ops c kd i (wpMixC P ops c Q (ord.map (kd.getD · 2)) l') a W := by
        unfold stepC
        simp only [h0]
        rw [if_neg (by omega)]
        rw [hk] at h
        simpa only [wpMixC] using h
      exact stepC_mono (fun a' W' h' => gameC_lex hsel ord l' _ a' W' hsz' hl' hB' h') hs

def mixCAllB (ops : Array Oper) (kd ord : List Nat) : Bool := Region.noSelect ops && decide (ord.length = ops.size) && mixCB .any ops kd ord (Array.replicate ops.size false)

/-- One walk serves every order: kd gives each operation's kind, ord the order of the walk. -/
theorem wp_region_mixC {id : Nat} {a : Act} {l l' : List Oper} (kd ord : List Nat) (hm : P.follows .mixedOrders = true) (hB : mixCAllB l.toArray kd ord = true) (hl : ord.mapM (fun k => l.toArray[k]?) = some l')
    (h : wpMixC P l.toArray c Q (ord.map (kd.getD · 2)) l' a c.w) : (Code.region id l.toArray true).wp P Q a c.w := by
  simp only [mixCAllB, Bool.and_eq_true, decide_eq_true_eq] at hB
  obtain ⟨⟨hsel, hn⟩, hlex⟩ := hB
  refine wp_region_any hm ?_
  have H := gameC_lex (md := .any) (Q := Q) hsel ord l' _ a c.w (by simp) hl hlex h
  rw [hn] at H
  exact game_soundC _ _ _ c.w c.w.drew c.h (Below.refl _ _).drew H
end
end Go.Proofs.Ytbcologcendhlaa
