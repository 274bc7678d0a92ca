/- Maps from strings to integers and to bools, by what they hold at each key: look-up, store, delete, range. -/
import Derived.Test.YtbcologcendhlaaSB
import Derived.Maps.OwnSet
import Derived.Maps.RangeWalk
import Derived.Maps.OwnOps
import Derived.StringKeys
namespace Go.Proofs.Ytbcologcendhlaa
open Go.ChangeShapes Go.WideShapes Go.ChangeAt Go.RowKit
open Go.Maps (Keyed)

theorem lawS : Keyed Try.prog 9 := Maps.string_keyed Try.underlying9
theorem zeroI (w : World) : (zeroValue 3).run Try.prog w = .ok (.int .i64 0) w := by kernel_rfl
theorem zeroB (w : World) : (zeroValue 4).run Try.prog w = .ok (.bool false) w := by kernel_rfl
abbrev DU := DataW Unit
def kl (s : Key) : Lit := .string s
theorem key_of (s : Key) (h : s.length ≤ maxLen) : keyOf Try.prog 9 (.string (bs s)) = some (kl s) := by
  have := WideMaps.keyOf_string_mk (P := Try.prog) (k := 9) Try.underlying9 (s := bs s) (by rw [bs_size]; exact h)
  rwa [bs_back] at this
theorem kl_ne {s t : Key} (h : s ≠ t) : kl s ≠ kl t := fun e => h (by unfold kl at e; injection e)
theorem kl_key (s : Key) : WideAt.IsKeyLit (kl s) := trivial
/-- Block b is a map of at most N entries, which holds what f says. -/
def MapA (w : World) (b N : Nat) (f : Key → Option Int) : Prop := ∃ D : DU, w.ownsMap Try.prog 9 (plainElem Try.prog 3) b N D ∧ ∀ s : Key, Maps.has D (kl s) = (f s).isSome ∧ D.atKey (kl s) (.lit (.int .i64 0)) = .lit (.int .i64 ((f s).getD 0))
theorem MapA.made (w : World) : MapA (w.alloc (.map #[] 0)) w.heap.size 0 (fun _ => none) := ⟨_, World.ownsMap_made _ _ _ _, fun _ => ⟨rfl, rfl⟩⟩
theorem MapA.mono {w : World} {b N M : Nat} {f : Key → Option Int} (h : MapA w b N f) (hM : N ≤ M) : MapA w b M f := by
  obtain ⟨D, h1, h2⟩ := h
  exact ⟨D, h1.mono hM, h2⟩
theorem MapA.lt {w : World} {b N : Nat} {f : Key → Option Int} (h : MapA w b N f) : b < w.heap.size := by
  obtain ⟨D, h1, _⟩ := h
  exact h1.lt
theorem MapA.kept {w w' : World} {b N : Nat} {f : Key → Option Int} {row : Option Nat} (h : MapA w b N f) (hg : w.grownBy w' row) (hne : some b ≠ row) : MapA w' b N f := by
  obtain ⟨D, h1, h2⟩ := h
  exact ⟨D, h1.kept hg hne, h2⟩
theorem grown_of_below {w w' : World} (h : Below w.heap.size w w') : w.grownBy w' none := ⟨h.os, h.tape, h.output, h.size, fun k hk _ => h.block k hk⟩
theorem MapA.up {w w' : World} {b N : Nat} {f : Key → Option Int} (h : MapA w b N f) (hb : Below w.heap.size w w') : MapA w' b N f := h.kept (grown_of_below hb) (by simp)
theorem MapA.congr {w : World} {b N : Nat} {f g : Key → Option Int} (h : MapA w b N f) (he : ∀ s, f s = g s) : MapA w b N g := by
  obtain ⟨D, h1, h2⟩ := h
  exact ⟨D, h1, fun s => by rw [← he s]; exact h2 s⟩
section
variable (w : World) {ops : Array Oper} {rest : List Oper} {o : Oper} {a : Act} {Q : Exit → Act → World → Prop}
theorem wpList_mlook (hg : o.guard = none) (m x : Operand) (hop : o.op = Op.lookup 51 m x false) (b N : Nat) (f : Key → Option Int) (hm : a.eval m = .map (some b)) (h : MapA w b N f) (s : Key) (hx : a.eval x = .string (bs s)) (hl : s.length ≤ maxLen)
    (hK : wpList Try.prog ops Q rest (a.put o.dst (.int .i64 ((f s).getD 0))) w) : wpList Try.prog ops Q (o :: rest) a w := by
  obtain ⟨D, h1, h2⟩ := h
  refine wpList_lookup_own_int w hg m x _ hop 9 3 .i64 lawS Try.underlying51 Try.underlying3 (zeroI w) b N D hm h1 _ (kl s) hx (key_of s hl) (fun c hat _ => ?_)
  rw [(h2 s).2] at hat
  injection hat with hat
  injection hat with _ hat
  rw [← hat]
  exact hK
theorem wpList_mlookok (hg : o.guard = none) (m x : Operand) (hop : o.op = Op.lookup 51 m x true) (b N : Nat) (f : Key → Option Int) (hm : a.eval m = .map (some b)) (h : MapA w b N f) (s : Key) (hx : a.eval x = .string (bs s)) (hl : s.length ≤ maxLen)
    (hK : wpList Try.prog ops Q rest (a.put o.dst (.tuple #[.int .i64 ((f s).getD 0), .bool (f s).isSome])) w) : wpList Try.prog ops Q (o :: rest) a w := by
  obtain ⟨D, h1, h2⟩ := h
  refine wpList_lookup_own_ok_int w hg m x _ hop 9 3 .i64 lawS Try.underlying51 Try.underlying3 (zeroI w) b N D hm h1 _ (kl s) hx (key_of s hl) (fun c hat _ => ?_)
  rw [(h2 s).2] at hat
  injection hat with hat
  injection hat with _ hat
  rw [← hat, (h2 s).1]
  exact hK
theorem wpList_mput (hg : o.guard = none) (m x v : Operand) (hop : o.op = Op.mapUpdate 51 m x v) (b N : Nat) (f : Key → Option Int) (hm : a.eval m = .map (some b)) (h : MapA w b N f) (hN : N < maxLen) (s : Key) (c : Int) (hx : a.eval x = .string (bs s)) (hv : a.eval v = .int .i64 c) (hl : s.length ≤ maxLen) (hc : (Lit.int .i64 c).wf = true)
    (hK : ∀ w', MapA w' b (N + 1) (fun t => if t = s then some c else f t) → w.grownBy w' (some b) → wpList Try.prog ops Q rest (a.put o.dst undef) w') : wpList Try.prog ops Q (o :: rest) a w := by
  obtain ⟨D, h1, h2⟩ := h
  refine wpList_mapUpdate_own w hg m x v _ hop 9 3 lawS Try.underlying51 _ b N D hm h1 hN _ _ (kl s) hx hv (key_of s hl) _ [] (plainElem_int Try.underlying3 hc) (fun w' r1 r2 => hK w' ⟨_, r1, fun t => ?_⟩ r2)
  by_cases ht : t = s
  · subst ht
    simp only [if_true]
    exact ⟨Maps.has_put_same h1.isMap (kl_key t) _, Maps.atKey_put_same h1.isMap (kl_key t) _ _⟩
  · simp only [if_neg ht]
    rw [Maps.has_put_other (kl_ne ht), Maps.atKey_put_other (kl_ne ht)]
    exact h2 t
theorem wpList_mdel (hg : o.guard = none) (m x : Operand) (hop : o.op = Op.call { callee := Callee.builtin Builtin.delete, args := #[m, x], argTypes := #[51, 9] }) (b N : Nat) (f : Key → Option Int) (hm : a.eval m = .map (some b)) (h : MapA w b N f) (s : Key) (hx : a.eval x = .string (bs s)) (hl : s.length ≤ maxLen)
    (hK : ∀ w', MapA w' b N (fun t => if t = s then none else f t) → w.grownBy w' (some b) → wpList Try.prog ops Q rest (a.put o.dst (.tuple #[])) w') : wpList Try.prog ops Q (o :: rest) a w := by
  obtain ⟨D, h1, h2⟩ := h
  refine wpList_delete_own w hg m x _ _ hop 3 lawS Try.underlying51 _ b N D hm h1 _ (kl s) hx (key_of s hl) (fun w' r1 r2 => hK w' ⟨_, r1, fun t => ?_⟩ r2.grown)
  by_cases ht : t = s
  · subst ht
    simp only [if_true]
    exact ⟨Maps.has_del_same, Maps.atKey_del_same _⟩
  · simp only [if_neg ht]
    rw [Maps.has_del_other (kl_ne ht), Maps.atKey_del_other (kl_ne ht)]
    exact h2 t
/-- A range over the map in block b is under way, by the iterator in block r; lf: which keys are still to come. -/
def RangeA (w : World) (b r N : Nat) (f : Key → Option Int) (lf : Key → Bool) (cnt : Nat) : Prop := ∃ (D : DU) (left : Lit → Bool), w.ranges Try.prog 9 (plainElem Try.prog 3) b r N D left cnt ∧ (∀ s : Key, Maps.has D (kl s) = (f s).isSome ∧ D.atKey (kl s) (.lit (.int .i64 0)) = .lit (.int .i64 ((f s).getD 0))) ∧ ∀ s, left (kl s) = lf s
theorem RangeA.kept {w w' : World} {b r N cnt : Nat} {f : Key → Option Int} {lf : Key → Bool} (h : RangeA w b r N f lf cnt) (hb : Below w.heap.size w w') : RangeA w' b r N f lf cnt := by
  obtain ⟨D, left, h1, h2, h3⟩ := h
  exact ⟨D, left, h1.kept (grown_of_below hb) (by simp) (by simp), h2, h3⟩
theorem RangeA.left_eq {w : World} {b r N cnt : Nat} {f : Key → Option Int} {lf : Key → Bool} (h : RangeA w b r N f lf cnt) : w.rangeLeft b r = cnt := by
  obtain ⟨D, left, h1, _⟩ := h
  exact h1.left_eq
theorem wpList_mrange (hg : o.guard = none) (m : Operand) (hop : o.op = Op.range 51 m) (b N : Nat) (f : Key → Option Int) (hm : a.eval m = .map (some b)) (h : MapA w b N f)
    (hK : ∀ w' cnt, RangeA w' b w.heap.size N f (fun s => (f s).isSome) cnt → Below w.heap.size w w' → wpList Try.prog ops Q rest (a.put o.dst (.pointer (some ⟨w.heap.size, 0, none⟩))) w') : wpList Try.prog ops Q (o :: rest) a w := by
  obtain ⟨D, h1, h2⟩ := h
  refine wpList_range_own w hg m _ hop 9 3 lawS Try.underlying51 _ b N D hm h1 (fun w' r1 r2 _ => hK w' _ ⟨D, _, r1, h2, fun s => (h2 s).1⟩ ⟨r2.os, r2.tape, r2.output, r2.size, fun k hk => r2.block k hk (by simp)⟩)
theorem key_inv {key : Value} {l : Lit} (h : keyOf Try.prog 9 key = some l) : ∃ s : Key, key = .string (bs s) ∧ l = kl s ∧ s.length ≤ maxLen := by
  have hs : Try.prog.underlying 9 = some .string := Try.underlying9
  cases key <;> simp [keyOf, hs, mapKey] at h
  next t =>
    refine ⟨t.data.toList, by rw [← bs_list], h.2.symm, ?_⟩
    have := h.1
    rwa [Array.length_toList]
theorem wpList_mnext (hg : o.guard = none) (it : Operand) (hop : o.op = Op.next it false) (b r N : Nat) (f : Key → Option Int) (lf : Key → Bool) (cnt : Nat) (hit : a.eval it = .pointer (some ⟨r, 0, none⟩)) (h : RangeA w b r N f lf cnt)
    (hDone : (∀ s, lf s = false) → wpList Try.prog ops Q rest (a.put o.dst (.tuple #[.bool false])) w)
    (hMore : ∀ (s : Key) (c : Int) (w' : World) (cnt' : Nat), s.length ≤ maxLen → lf s = true → f s = some c → RangeA w' b r N f (fun t => lf t && decide (t ≠ s)) cnt' → cnt' < cnt → w.grownBy w' (some r) → w'.heap.size = w.heap.size →
      (Instr.entry (.pointer (some ⟨r, 0, none⟩))).run Try.prog w' = .ok (.tuple #[.string (bs s), .int .i64 c]) w' → wpList Try.prog ops Q rest (a.put o.dst (.tuple #[.bool true, .string (bs s), .int .i64 c])) w') : wpList Try.prog ops Q (o :: rest) a w := by
  obtain ⟨D, left, h1, h2, h3⟩ := h
  refine wpList_next_ranges (α := Key) (β := Int) w hg it hop 9 lawS _ (fun s => .string (bs s)) (Value.int .i64) (fun key l hk => ?_) (fun v y hv => ?_) b r N D left cnt hit h1 (fun _ hl => hDone (fun s => by rw [← h3]; exact hl _)) (fun s c l y w' cnt' hk hl hv hat hrg hlt hgr hsz hen => ?_)
  · obtain ⟨s, h, _⟩ := key_inv hk
    exact ⟨s, h⟩
  · obtain ⟨c, rfl, _⟩ := plainElem_int_inv Try.underlying3 hv
    exact ⟨c, rfl⟩
  · obtain ⟨s', he, rfl, hsl⟩ := key_inv hk
    injection he with he
    obtain rfl := bs_inj he
    obtain ⟨c', hc, rfl, _⟩ := plainElem_int_inv Try.underlying3 hv
    injection hc with _ hc
    subst hc
    have hs : f s = some c := by
      have ha := h2 s
      rw [hat] at ha
      have hhas : Maps.has D (kl s) = true := Maps.has_true_of_atKey (y := .lit (.int .i64 c)) (fun z => hat z)
      rw [hhas] at ha
      obtain ⟨a1, a2⟩ := ha
      cases hf : f s with
      | none => rw [hf] at a1; cases a1
      | some d =>
        rw [hf] at a2
        injection a2 with a2
        injection a2 with _ a2
        rw [a2]
        rfl
    refine hMore s c w' cnt' hsl (by rw [← h3]; exact hl) hs ⟨D, _, hrg, h2, fun t => ?_⟩ hlt hgr hsz hen
    simp only
    rw [h3]
    congr 1
    by_cases ht : t = s
    · subst ht
      rw [WideAt.sameKey_self (kl_key t)]
      simp
    · rw [Maps.sameKey_ne (kl_ne ht)]
      simp [ht]
end
end Go.Proofs.Ytbcologcendhlaa
