/- SlotsBalance: the walk. -/
import Derived.Test.YtbcologcendhlaaSK
namespace Go.Proofs.Ytbcologcendhlaa
open Go.ChangeShapes Go.WideShapes Go.ChangeAt Go.RowKit

def RArg (W : World) (A : Option Addr) (n ca : Nat) (R : KL) : Prop := R.length = n ∧ Seg W A (n * 2) (rCell R) ∧ (A = none → n = 0 ∧ ca = 0) ∧ n * 24 ≤ 140737488351232
def KArg (W : World) (A : Option Addr) (n ca : Nat) (l : OL) : Prop := l.length = n ∧ Seg W A (n * 2) (kCell l) ∧ (A = none → n = 0 ∧ ca = 0) ∧ n * 24 ≤ 140737488351232
theorem k_new1 (w : World) (k : Int) (f : Key) (t : TypeId) : Seg (w.alloc (.cells #[.int .i64 k, .string (bs f)] t)) (some ⟨w.heap.size, 0, none⟩) ([(k, f)].length * 2) (kCell [(k, f)]) := by
  intro j hj
  have hb := Box.new w t #[.int .i64 k, .string (bs f)]
  refine ⟨w.heap.size, 0, rfl, (by simp), ?_⟩
  match j, hj with
  | 0, _ => exact hb.cell 0 _ rfl
  | 1, _ => exact hb.cell 1 _ rfl
theorem k_row0 (w : World) : (w.alloc (.cells #[] 36)).ownsRow w.heap.size 36 2 (.slice (some ⟨w.heap.size, 0, none⟩) 0 0) ([] : OL).length (kV []) := World.ownsRow_lit w #[] 0 (Nat.le_refl _) (by decide) rfl
/-- Operations more, the slice's shape written out. -/
theorem wpList_appks {w W : World} {ops : Array Oper} {rest : List Oper} {o : Oper} {a : Act} {Q : Exit → Act → World → Prop} (hgd : o.guard = none) (s x : Operand)
    (ho : o.op = .call { callee := .builtin .append, args := #[s, x], argTypes := #[23, 23] })
    (base : Nat) (v : Value) (l m : OL) (A : Option Addr) (c : Nat) (hs : a.eval s = v) (hx : a.eval x = .slice A m.length c) (hown : W.ownsRow base 36 2 v l.length (kV l)) (hsrc : Seg W A (m.length * 2) (kCell m)) (hn : A = none → m.length = 0 ∧ c = 0) (hB : Below base w W) (hz : base ≤ W.heap.size) (hl : (l.length + m.length) * 24 ≤ 140737488355328)
    (H : ∀ A2 cap2 n2 w', n2 = (l ++ m).length → Seg w' A2 (n2 * 2) (kCell (l ++ m)) → Below base w w' → wpList Try.prog ops Q rest (a.put o.dst (.slice A2 n2 cap2)) w') : wpList Try.prog ops Q (o :: rest) a W :=
  wpList_appk hgd s x ho base v l m A c hs hx hown hsrc hn hB hz hl fun v' w' h1 h2 => by
    obtain ⟨A2, cap2, rfl, hs2, _, _⟩ := own_seg h1 (fun j hj => kV_get _ j hj)
    exact H A2 cap2 _ w' rfl hs2 h2
theorem smalls_n (R : KL) (l : OL) (n2 : Nat) (A B : Option Addr) (ca cb : Nat) (w : World) (hn : n2 = l.length) (hR : Seg w A (R.length * 2) (rCell R)) (hl : Seg w B (n2 * 2) (kCell l)) : Calls Try.prog 8 #[.slice A R.length ca, .slice B n2 cb] w (SmallEnds R l w) := by
  subst hn
  exact smalls_any R l A B ca cb w hR hl
theorem small_less {R : KL} {l : OL} {f : Key} {k : Int} (h : SmallOk R (l ++ [(k, f)])) : SmallOk R l ∧ f.length ≤ 300 := by
  obtain ⟨h1, h2, h3, h4⟩ := h
  rw [List.length_append] at h2 h4
  simp only [List.length_cons, List.length_nil] at h2 h4
  refine ⟨⟨h1, by omega, h3, fun j hj => ?_⟩, ?_⟩
  · have := h4 j (by omega)
    rwa [List.getD_eq_getElem?_getD, List.getElem?_append_left hj, ← List.getD_eq_getElem?_getD] at this
  · have := h4 l.length (by omega)
    rw [List.getD_eq_getElem?_getD, List.getElem?_append_right (Nat.le_refl _), Nat.sub_self] at this
    exact this
theorem bs_tl (a : List UInt8) : (bs a).toList = a := by
  rw [ByteArray.toList_eq]
  simp [bs]
theorem bs_same (a b : Key) : ((bs a).toList == (bs b).toList) = decide (a = b) := by
  rw [bs_tl, bs_tl, Bool.eq_iff_iff]
  simp
theorem used_cnt {least : Int} {st : SS} (h : Good least st) (s : Key) : usedV st s = cnt st.U s := by
  unfold usedV
  cases hn : nameV s
  · rw [if_neg (by decide)]
    unfold cnt
    rw [look_none (l := st.U) (fun hm => by
      obtain ⟨q, hq, he⟩ := List.mem_map.1 hm
      have := (h.uc q hq).1
      rw [he, hn] at this
      cases this)]
    rfl
  · rw [if_pos rfl]
theorem fns_take (l : OL) (k : Nat) (hk : k < l.length) : fns (l.take (k + 1)) = fns (l.take k) ++ [(l.getD k (0, [])).2] := by
  unfold fns
  rw [List.take_succ_eq_append_getElem hk, List.map_append, List.getD_eq_getElem?_getD, List.getElem?_eq_getElem hk]
  rfl
theorem free_bump (st : SS) (s : Key) (d : Int) : free ⟨st.total, st.R, bump st.U s d⟩ s = free st s - d := by
  cases hl : look st.R s with
  | some n =>
    rw [free_some hl, free_some (st := ⟨st.total, st.R, bump st.U s d⟩) hl]
    show n - cnt (bump st.U s d) s = _
    rw [cnt_bump, if_pos rfl]
    omega
  | none =>
    rw [free_none hl, free_none (st := ⟨st.total, st.R, bump st.U s d⟩) hl]
    show st.total - wsum all st.R - wsum (shr st) (bump st.U s d) = _
    rw [wsum_bump, show shr st s = true by unfold shr; rw [hl]; rfl, if_pos rfl]
    omega
theorem acq_cases {least : Int} {st : SS} (h : Good least st) (s : Key) : (∃ er, (er != 0) = true ∧ acqV st s = (er, st) ∧ freeV st s = 0) ∨ (acqV st s = (0, ⟨st.total, st.R, bump st.U s 1⟩) ∧ nameV s = true ∧ 1 ≤ free st s) := by
  unfold acqV freeV
  cases hn : nameV s
  · exact .inl ⟨4, rfl, by rw [if_pos rfl], by rw [if_neg (by decide)]⟩
  · by_cases hf : free st s < 1
    · have := h.free_nonneg s
      exact .inl ⟨17, rfl, by rw [if_neg (by decide), if_pos hf], by rw [if_pos rfl]; omega⟩
    · exact .inr ⟨by rw [if_neg (by decide), if_neg hf], rfl, by omega⟩
/-- Release behind Acquire. -/
theorem undo {least : Int} {st : SS} (h : Good least st) {s : Key} (hn : nameV s = true) (hg1 : Good least ⟨st.total, st.R, bump st.U s 1⟩) : ∃ st3, relV ⟨st.total, st.R, bump st.U s 1⟩ s = (0, st3) ∧ Good least st3 ∧ usedV st3 s = usedV st s ∧ freeV st3 s = freeV st s ∧ wsum all st3.U = wsum all st.U ∧ st3.total = st.total := by
  have hc := h.cnt_nonneg s
  have hr : relV ⟨st.total, st.R, bump st.U s 1⟩ s = (0, ⟨st.total, st.R, bump (bump st.U s 1) s (-1)⟩) := by
    unfold relV
    rw [hn, if_neg (by decide), if_neg (show ¬ cnt (bump st.U s 1) s = 0 by rw [cnt_bump, if_pos rfl]; omega)]
  have hg3 := good_rel hg1 s
  rw [hr] at hg3
  refine ⟨_, hr, hg3, ?_, ?_, ?_, rfl⟩
  · rw [used_cnt hg3, used_cnt h]
    show cnt (bump (bump st.U s 1) s (-1)) s = _
    rw [cnt_bump, if_pos rfl, cnt_bump, if_pos rfl]
    omega
  · unfold freeV
    rw [hn, if_pos rfl, if_pos rfl]
    have h1 := free_bump ⟨st.total, st.R, bump st.U s 1⟩ s (-1)
    have h2 := free_bump st s 1
    exact h1.trans (by rw [h2]; omega)
  · show wsum all (bump (bump st.U s 1) s (-1)) = _
    rw [wsum_bump, wsum_bump]
    show wsum all st.U + (if true = true then 1 else 0) + (if true = true then -1 else 0) = _
    rw [if_pos rfl, if_pos rfl]
    omega
/-- The sum of what the first functions use, one function more. -/
theorem bal_first {least : Int} {st : SS} (h : Good least st) (l : OL) (k : Nat) (hk : k < l.length) (hf : (l.getD k (0, [])).2 ∉ fns (l.take k)) :
    wsum (fun s => decide (s ∈ fns (l.take (k + 1)))) st.U = wsum (fun s => decide (s ∈ fns (l.take k))) st.U + cnt st.U (l.getD k (0, [])).2 := by
  have hft := fns_take l k hk
  generalize (l.getD k (0, [])).2 = f at *
  have := wsum_add (q := fun s => decide (s ∈ fns (l.take k))) (r := fun s => decide (s ∈ fns (l.take (k + 1)))) h.un (s := f) (decide_eq_false hf) (fun x hx => by
    rw [hft]
    simp [hx])
  rw [this, if_pos (by rw [hft]; simp)]
theorem bal_again {st : SS} (l : OL) (k : Nat) (hk : k < l.length) (hf : (l.getD k (0, [])).2 ∈ fns (l.take k)) : wsum (fun s => decide (s ∈ fns (l.take (k + 1)))) st.U = wsum (fun s => decide (s ∈ fns (l.take k))) st.U := by
  have hft := fns_take l k hk
  generalize (l.getD k (0, [])).2 = f at *
  refine wsum_congr fun q _ _ => ?_
  rw [hft]
  by_cases he : q.1 = f
  · rw [he]; simp [hf]
  · simp [he]
theorem bal_end {total least : Int} {R : KL} (l : OL) (_h : Good least (playV ⟨total, R, []⟩ l)) : wsum (fun s => decide (s ∈ fns l)) (playV ⟨total, R, []⟩ l).U = wsum all (playV ⟨total, R, []⟩ l).U :=
  wsum_congr fun q hq _ => by
    have := play_keys ⟨total, R, []⟩ l q.1 (List.mem_map.2 ⟨q, hq, rfl⟩)
    rcases this with hm | hm
    · cases hm
    · exact decide_eq_true hm
def BalRel (l : OL) (st : SS) (w : World) (p br bu N : Nat) (u i : Value) (wr : World) : Prop := ∃ k : Nat, u = .int .i64 (wsum (fun s => decide (s ∈ fns (l.take k))) st.U) ∧ i = .int .i64 k ∧ k ≤ l.length ∧ S1 w wr p br bu N st
def FirstRel (l : OL) (f : Key) (k : Nat) (st : SS) (w : World) (p br bu N : Nat) (u i : Value) (wr : World) : Prop := ∃ j : Nat, u = .bool (decide (f ∉ fns (l.take j))) ∧ i = .int .i64 j ∧ j ≤ k ∧ S1 w wr p br bu N st
end Go.Proofs.Ytbcologcendhlaa
