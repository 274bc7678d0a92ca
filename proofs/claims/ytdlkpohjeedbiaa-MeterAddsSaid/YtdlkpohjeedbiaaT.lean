/- Plain laws of addition of layer 34, and slices of usages that the call made. -/
import Derived.Test.YtdlkpohjeedbiaaR
namespace Go.Proofs.Ytdlkpohjeedbiaa
open Go.ChangeShapes Go.WideShapes Go.ChangeAt Go.RowKit

theorem usB_lin (u1 u2 u3 u4 : Int) : usB u1 u2 u3 u4 = true ↔ ((0 ≤ u1 ∧ u1 ≤ 1000000000000) ∧ (0 ≤ u2 ∧ u2 ≤ 1000000000000) ∧ (0 ≤ u3 ∧ u3 ≤ 1000000000000) ∧ (0 ≤ u4 ∧ u4 ≤ 1000000000000)) := by
  rw [usB_iff, amtB_iff, amtB_iff, amtB_iff, amtB_iff]
theorem addV_comm (a1 a2 a3 a4 b1 b2 b3 b4 : Int) : addV b1 b2 b3 b4 a1 a2 a3 a4 = addV a1 a2 a3 a4 b1 b2 b3 b4 := by
  unfold addV
  rw [Int.add_comm b1, Int.add_comm b2, Int.add_comm b3, Int.add_comm b4]
  by_cases h : usB a1 a2 a3 a4 = true ∧ usB b1 b2 b3 b4 = true
  · rw [if_pos h, if_pos ⟨h.2, h.1⟩]
  · rw [if_neg h, if_neg (fun hh => h ⟨hh.2, hh.1⟩)]
theorem addV_e0 (a1 a2 a3 a4 b1 b2 b3 b4 : Int) : (addV a1 a2 a3 a4 b1 b2 b3 b4).e = 0 ↔ (usB a1 a2 a3 a4 = true ∧ usB b1 b2 b3 b4 = true ∧ usB (a1 + b1) (a2 + b2) (a3 + b3) (a4 + b4) = true) := by
  unfold addV
  split
  · rename_i h
    split
    · rename_i h2
      exact ⟨fun _ => ⟨h.1, h.2, h2⟩, fun _ => rfl⟩
    · rename_i h2
      exact ⟨fun hh => absurd hh (by simp), fun hh => absurd hh.2.2 h2⟩
  · rename_i h
    exact ⟨fun hh => absurd hh (by simp), fun hh => absurd ⟨hh.1, hh.2.1⟩ h⟩
theorem addV_val (a1 a2 a3 a4 b1 b2 b3 b4 : Int) (h : (addV a1 a2 a3 a4 b1 b2 b3 b4).e = 0) : addV a1 a2 a3 a4 b1 b2 b3 b4 = ⟨a1 + b1, a2 + b2, a3 + b3, a4 + b4, 0⟩ := by
  obtain ⟨h1, h2, h3⟩ := (addV_e0 a1 a2 a3 a4 b1 b2 b3 b4).1 h
  unfold addV
  rw [if_pos ⟨h1, h2⟩, if_pos h3]
/-- Both ways of adding three. -/
theorem add_assoc3 (a1 a2 a3 a4 b1 b2 b3 b4 c1 c2 c3 c4 : Int) (h : (addV a1 a2 a3 a4 b1 b2 b3 b4).e = 0) :
    ((addV (a1 + b1) (a2 + b2) (a3 + b3) (a4 + b4) c1 c2 c3 c4).e = 0 ∧ (addV b1 b2 b3 b4 c1 c2 c3 c4).e = 0 ∧ (addV a1 a2 a3 a4 (addV b1 b2 b3 b4 c1 c2 c3 c4).a (addV b1 b2 b3 b4 c1 c2 c3 c4).b (addV b1 b2 b3 b4 c1 c2 c3 c4).c (addV b1 b2 b3 b4 c1 c2 c3 c4).d).e = 0 ∧
      addV a1 a2 a3 a4 (addV b1 b2 b3 b4 c1 c2 c3 c4).a (addV b1 b2 b3 b4 c1 c2 c3 c4).b (addV b1 b2 b3 b4 c1 c2 c3 c4).c (addV b1 b2 b3 b4 c1 c2 c3 c4).d = addV (a1 + b1) (a2 + b2) (a3 + b3) (a4 + b4) c1 c2 c3 c4) ∨
    ((addV (a1 + b1) (a2 + b2) (a3 + b3) (a4 + b4) c1 c2 c3 c4).e ≠ 0 ∧ ((addV b1 b2 b3 b4 c1 c2 c3 c4).e ≠ 0 ∨ ((addV b1 b2 b3 b4 c1 c2 c3 c4).e = 0 ∧ (addV a1 a2 a3 a4 (addV b1 b2 b3 b4 c1 c2 c3 c4).a (addV b1 b2 b3 b4 c1 c2 c3 c4).b (addV b1 b2 b3 b4 c1 c2 c3 c4).c (addV b1 b2 b3 b4 c1 c2 c3 c4).d).e ≠ 0))) := by
  obtain ⟨h1, h2, h3⟩ := (addV_e0 a1 a2 a3 a4 b1 b2 b3 b4).1 h
  by_cases g : (addV (a1 + b1) (a2 + b2) (a3 + b3) (a4 + b4) c1 c2 c3 c4).e = 0
  · left
    obtain ⟨_, g2, g3⟩ := (addV_e0 (a1 + b1) (a2 + b2) (a3 + b3) (a4 + b4) c1 c2 c3 c4).1 g
    have gv := addV_val (a1 + b1) (a2 + b2) (a3 + b3) (a4 + b4) c1 c2 c3 c4 g
    have l1 := (usB_lin _ _ _ _).1 h1
    have l2 := (usB_lin _ _ _ _).1 h2
    have l3 := (usB_lin _ _ _ _).1 g2
    have l4 := (usB_lin _ _ _ _).1 g3
    have t : (addV b1 b2 b3 b4 c1 c2 c3 c4).e = 0 := (addV_e0 b1 b2 b3 b4 c1 c2 c3 c4).2 ⟨h2, g2, (usB_lin _ _ _ _).2 (by omega)⟩
    have tv := addV_val b1 b2 b3 b4 c1 c2 c3 c4 t
    have i : (addV a1 a2 a3 a4 (b1 + c1) (b2 + c2) (b3 + c3) (b4 + c4)).e = 0 := (addV_e0 _ _ _ _ _ _ _ _).2 ⟨h1, (usB_lin _ _ _ _).2 (by omega), (usB_lin _ _ _ _).2 (by omega)⟩
    have iv := addV_val _ _ _ _ _ _ _ _ i
    refine ⟨g, t, by rw [tv]; exact i, ?_⟩
    rw [tv, gv]
    simp only
    rw [iv]
    simp only [N5.mk.injEq, and_true]
    omega
  · right
    refine ⟨g, ?_⟩
    by_cases t : (addV b1 b2 b3 b4 c1 c2 c3 c4).e = 0
    · refine .inr ⟨t, fun i => g ?_⟩
      have tv := addV_val b1 b2 b3 b4 c1 c2 c3 c4 t
      rw [tv] at i
      obtain ⟨_, t2, _⟩ := (addV_e0 b1 b2 b3 b4 c1 c2 c3 c4).1 t
      obtain ⟨_, _, i3⟩ := (addV_e0 _ _ _ _ _ _ _ _).1 i
      refine (addV_e0 _ _ _ _ _ _ _ _).2 ⟨h3, t2, ?_⟩
      rw [Int.add_assoc, Int.add_assoc, Int.add_assoc, Int.add_assoc]
      exact i3
    · exact .inl t

/-- What usages come to. -/
def tot : List U4 → U4
  | u :: us => ⟨u.a + (tot us).a, u.b + (tot us).b, u.c + (tot us).c, u.d + (tot us).d⟩
  | [] => U4.z
def allB : List U4 → Prop
  | u :: us => usB u.a u.b u.c u.d = true ∧ allB us
  | [] => True
theorem tot_nn : ∀ us : List U4, allB us → 0 ≤ (tot us).a ∧ 0 ≤ (tot us).b ∧ 0 ≤ (tot us).c ∧ 0 ≤ (tot us).d
  | [], _ => by simp [tot, U4.z]
  | u :: us, h => by
    have h1 := tot_nn us h.2
    have h2 := (usB_lin _ _ _ _).1 h.1
    simp only [tot]
    omega
theorem sumF_ok : ∀ (us : List U4) (a b c d : Int), usB a b c d = true →
    ((sumF us a b c d).e = 0 ↔ (allB us ∧ usB (a + (tot us).a) (b + (tot us).b) (c + (tot us).c) (d + (tot us).d) = true)) ∧
    ((sumF us a b c d).e = 0 → sumF us a b c d = ⟨a + (tot us).a, b + (tot us).b, c + (tot us).c, d + (tot us).d, 0⟩)
  | [], a, b, c, d, h => by
    simp only [sumF, tot, U4.z, Int.add_zero, allB]
    exact ⟨⟨fun _ => ⟨trivial, h⟩, fun _ => by trivial⟩, fun _ => by trivial⟩
  | u :: us, a, b, c, d, h => by
    by_cases g : (addV a b c d u.a u.b u.c u.d).e = 0
    · obtain ⟨g1, g2, g3⟩ := (addV_e0 _ _ _ _ _ _ _ _).1 g
      have gv := addV_val _ _ _ _ _ _ _ _ g
      have ih := sumF_ok us (a + u.a) (b + u.b) (c + u.c) (d + u.d) g3
      have e : sumF (u :: us) a b c d = sumF us (a + u.a) (b + u.b) (c + u.c) (d + u.d) := by rw [sumF, if_pos g, gv]
      rw [e]
      simp only [tot, allB]
      rw [Int.add_assoc, Int.add_assoc, Int.add_assoc, Int.add_assoc] at ih
      exact ⟨⟨fun hh => ⟨⟨g2, (ih.1.1 hh).1⟩, (ih.1.1 hh).2⟩, fun hh => ih.1.2 ⟨hh.1.2, hh.2⟩⟩, ih.2⟩
    · have e : sumF (u :: us) a b c d = ⟨0, 0, 0, 0, (addV a b c d u.a u.b u.c u.d).e⟩ := by rw [sumF, if_neg g]
      rw [e]
      refine ⟨⟨fun hh => absurd hh g, fun hh => absurd ?_ g⟩, fun hh => absurd hh g⟩
      obtain ⟨⟨h1, h2⟩, h3⟩ := hh
      have n := tot_nn us h2
      have l1 := (usB_lin _ _ _ _).1 h
      have l2 := (usB_lin _ _ _ _).1 h1
      have l3 := (usB_lin _ _ _ _).1 h3
      simp only [tot] at l3
      exact (addV_e0 _ _ _ _ _ _ _ _).2 ⟨h, h1, (usB_lin _ _ _ _).2 (by omega)⟩
theorem tot_app : ∀ us vs : List U4, tot (us ++ vs) = ⟨(tot us).a + (tot vs).a, (tot us).b + (tot vs).b, (tot us).c + (tot vs).c, (tot us).d + (tot vs).d⟩
  | [], vs => by simp [tot, U4.z]
  | u :: us, vs => by
    have h := tot_app us vs
    simp only [List.cons_append, tot, h, U4.mk.injEq]
    omega
theorem allB_app : ∀ us vs : List U4, allB (us ++ vs) ↔ (allB us ∧ allB vs)
  | [], vs => by simp [allB]
  | u :: us, vs => by
    have h := allB_app us vs
    simp only [List.cons_append, allB, h, and_assoc]
theorem zero_ok : usB 0 0 0 0 = true := rfl
/-- The sum of two lists is that of their sums. -/
theorem sum_app (us vs : List U4) (h : (sumF (us ++ vs) 0 0 0 0).e = 0) : (sumF us 0 0 0 0).e = 0 ∧ (sumF vs 0 0 0 0).e = 0 ∧
    addV (sumF us 0 0 0 0).a (sumF us 0 0 0 0).b (sumF us 0 0 0 0).c (sumF us 0 0 0 0).d (sumF vs 0 0 0 0).a (sumF vs 0 0 0 0).b (sumF vs 0 0 0 0).c (sumF vs 0 0 0 0).d = sumF (us ++ vs) 0 0 0 0 := by
  obtain ⟨k1, k2⟩ := sumF_ok (us ++ vs) 0 0 0 0 zero_ok
  obtain ⟨p1, p2⟩ := sumF_ok us 0 0 0 0 zero_ok
  obtain ⟨q1, q2⟩ := sumF_ok vs 0 0 0 0 zero_ok
  obtain ⟨h1, h2⟩ := k1.1 h
  have hv := k2 h
  obtain ⟨m1, m2⟩ := (allB_app us vs).1 h1
  have n1 := tot_nn us m1
  have n2 := tot_nn vs m2
  have l := (usB_lin _ _ _ _).1 h2
  rw [tot_app] at l hv
  simp only [Int.zero_add] at l hv p1 p2 q1 q2
  have e1 := p1.2 ⟨m1, (usB_lin _ _ _ _).2 (by omega)⟩
  have e2 := q1.2 ⟨m2, (usB_lin _ _ _ _).2 (by omega)⟩
  refine ⟨e1, e2, ?_⟩
  rw [p2 e1, q2 e2, hv]
  simp only
  exact addV_val _ _ _ _ _ _ _ _ ((addV_e0 _ _ _ _ _ _ _ _).2 ⟨(usB_lin _ _ _ _).2 (by omega), (usB_lin _ _ _ _).2 (by omega), (usB_lin _ _ _ _).2 (by omega)⟩)

/-- A row of the call's own, read. -/
theorem own_seg {w : World} {base : Nat} {e : TypeId} {size : Nat} {v : Value} {n : Nat} {xs : List Value} (h : w.ownsRow base e size v n xs) :
    ∃ A cap, v = .slice A n cap ∧ Seg w A (n * size) (fun k => xs.getD k undef) ∧ (A = none → n = 0) ∧ (∀ k, v.ownBlock = some k → base ≤ k) := by
  have hl := h.1
  rcases h.2 with ⟨rfl, rfl⟩ | ⟨g, cap, cur, rfl, hg, hh, hnc, _, hsz, htk⟩
  · exact ⟨none, 0, rfl, fun k hk => absurd hk (by omega), fun _ => rfl, fun k hk => by simp [Value.ownBlock] at hk⟩
  · refine ⟨some ⟨g, 0, none⟩, cap, rfl, fun k hk => ⟨g, 0, rfl, (Array.getElem?_eq_some_iff.1 hh).1, ?_⟩, (fun h => by cases h), fun k hk => by simp [Value.ownBlock] at hk; omega⟩
    have hb : Box w g e cur := hh
    have h2 : cur.toList[k]? = some (xs.getD k undef) := by
      have h3 := congrArg (·[k]?) htk
      simp only [List.getElem?_take] at h3
      rw [if_pos hk] at h3
      rw [h3]
      simp [List.getD, show k < xs.length by omega]
    rw [Nat.zero_add]
    exact hb.cell k _ (by rw [← h2]; simp)
theorem Seg.congr {w : World} {A : Option Addr} {n : Nat} {f g : Nat → Value} (h : Seg w A n f) (hfg : ∀ k, k < n → f k = g k) : Seg w A n g := fun k hk => by
  obtain ⟨b, o, h1, h2, h3⟩ := h k hk
  exact ⟨b, o, h1, h2, by rw [← hfg k hk]; exact h3⟩
theorem segCells_getD (f : Nat → Value) (n k : Nat) (h : k < n) : (segCells f n).getD k undef = f k := by simp [segCells, List.getD, h]
theorem uCells_app (us vs : List U4) (n m k : Nat) (hn : us.length = n) (hm : vs.length = m) (hk : k < (n + m) * 4) : (segCells (uCell us) (n * 4) ++ segCells (uCell vs) (m * 4)).getD k undef = uCell (us ++ vs) k := by
  subst hn; subst hm
  by_cases h : k < us.length * 4
  · have e : (segCells (uCell us) (us.length * 4) ++ segCells (uCell vs) (vs.length * 4)).getD k undef = (segCells (uCell us) (us.length * 4)).getD k undef := by
      simp only [List.getD, List.getElem?_append_left (show k < (segCells (uCell us) (us.length * 4)).length by rw [segCells_len]; exact h)]
    rw [e, segCells_getD _ _ _ h]
    unfold uCell
    have : (us ++ vs).getD (k / 4) U4.z = us.getD (k / 4) U4.z := by simp only [List.getD, List.getElem?_append_left (show k / 4 < us.length by omega)]
    rw [this]
  · have e : (segCells (uCell us) (us.length * 4) ++ segCells (uCell vs) (vs.length * 4)).getD k undef = (segCells (uCell vs) (vs.length * 4)).getD (k - us.length * 4) undef := by
      simp only [List.getD, List.getElem?_append_right (show (segCells (uCell us) (us.length * 4)).length ≤ k by rw [segCells_len]; omega), segCells_len]
    rw [e, segCells_getD _ _ _ (by omega)]
    unfold uCell
    have : (us ++ vs).getD (k / 4) U4.z = vs.getD (k / 4 - us.length) U4.z := by simp only [List.getD, List.getElem?_append_right (show us.length ≤ k / 4 by omega)]
    rw [this, show (k - us.length * 4) / 4 = k / 4 - us.length by omega, show (k - us.length * 4) % 4 = k % 4 by omega]
theorem grown_below {w w' : World} {base : Nat} {row : Option Nat} (hg : w.grownBy w' row) (hr : ∀ k, row = some k → base ≤ k) (hb : base ≤ w.heap.size) : Below base w w' :=
  ⟨hg.os, hg.tape, hg.output, hg.size, fun k hk => hg.block k (by omega) (fun h => by have := hr k h.symm; omega)⟩
theorem seg_none {w : World} {A : Option Addr} {n : Nat} {f : Nat → Value} (h : Seg w A (n * 4) f) (hA : A = none) : n = 0 := by
  rcases Nat.eq_zero_or_pos n with g | g
  · exact g
  · obtain ⟨b, o, h1, _, _⟩ := h 0 (by omega)
    rw [hA] at h1
    cases h1
theorem info33 : (Try.prog.info? 33).map (fun i => (i.zero, i.size, i.bytes)) = some (some (.agg #[.int .i64 0, .int .i64 0, .int .i64 0, .int .i64 0]), 4, 32) := by kernel_rfl
end Go.Proofs.Ytdlkpohjeedbiaa
