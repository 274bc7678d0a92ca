/- Operations and reserves as cells; rows of the call's own: append; small: the walks. -/
import Derived.Test.YtbcologcendhlaaSI
import Derived.Deep.OwnRows
import Derived.Maps.AppendAt
namespace Go.Proofs.Ytbcologcendhlaa
open Go.ChangeShapes Go.WideShapes Go.ChangeAt Go.RowKit

abbrev OL := List (Int × Key)
def kCell (l : OL) (q : Nat) : Value := if q % 2 = 0 then .int .i64 (l.getD (q / 2) (0, [])).1 else .string (bs (l.getD (q / 2) (0, [])).2)
def kV (l : OL) : List Value := l.flatMap fun o => [.int .i64 o.1, .string (bs o.2)]
def rV (l : KL) : List Value := l.flatMap fun o => [.string (bs o.1), .int .i64 o.2]
theorem kV_len (l : OL) : (kV l).length = l.length * 2 := by
  induction l with
  | nil => rfl
  | cons o l ih =>
    have : kV (o :: l) = [.int .i64 o.1, .string (bs o.2)] ++ kV l := rfl
    rw [this, List.length_append, ih]
    simp only [List.length_cons, List.length_nil]
    omega
theorem rV_len (l : KL) : (rV l).length = l.length * 2 := by
  induction l with
  | nil => rfl
  | cons o l ih =>
    have : rV (o :: l) = [.string (bs o.1), .int .i64 o.2] ++ rV l := rfl
    rw [this, List.length_append, ih]
    simp only [List.length_cons, List.length_nil]
    omega
theorem kV_app (l m : OL) : kV (l ++ m) = kV l ++ kV m := by simp [kV]
theorem rV_app (l m : KL) : rV (l ++ m) = rV l ++ rV m := by simp [rV]
theorem kV_get (l : OL) (j : Nat) (h : j < l.length * 2) : (kV l)[j]? = some (kCell l j) := by
  induction l generalizing j with
  | nil => simp at h
  | cons o l ih =>
    have e : kV (o :: l) = .int .i64 o.1 :: .string (bs o.2) :: kV l := rfl
    rw [e]
    match j with
    | 0 => rfl
    | 1 => rfl
    | j + 2 =>
      rw [List.getElem?_cons_succ, List.getElem?_cons_succ, ih j (by simp only [List.length_cons] at h; omega)]
      unfold kCell
      rw [show (j + 2) / 2 = j / 2 + 1 by omega, show (j + 2) % 2 = j % 2 by omega]
      rfl
theorem rV_get (l : KL) (j : Nat) (h : j < l.length * 2) : (rV l)[j]? = some (rCell l j) := by
  induction l generalizing j with
  | nil => simp at h
  | cons o l ih =>
    have e : rV (o :: l) = .string (bs o.1) :: .int .i64 o.2 :: rV l := rfl
    rw [e]
    match j with
    | 0 => rfl
    | 1 => rfl
    | j + 2 =>
      rw [List.getElem?_cons_succ, List.getElem?_cons_succ, ih j (by simp only [List.length_cons] at h; omega)]
      unfold rCell
      rw [show (j + 2) / 2 = j / 2 + 1 by omega, show (j + 2) % 2 = j % 2 by omega]
      rfl
theorem kV_one (l : OL) : ∀ u ∈ kV l, u.oneCell' = true := by
  intro u hu
  obtain ⟨o, _, h⟩ := List.mem_flatMap.1 hu
  simp only [List.mem_cons, List.mem_nil_iff, or_false] at h
  rcases h with rfl | rfl <;> rfl
theorem rV_one (l : KL) : ∀ u ∈ rV l, u.oneCell' = true := by
  intro u hu
  obtain ⟨o, _, h⟩ := List.mem_flatMap.1 hu
  simp only [List.mem_cons, List.mem_nil_iff, or_false] at h
  rcases h with rfl | rfl <;> rfl
theorem seg_addr {w : World} {ad : Addr} {n : Nat} {f : Nat → Value} (h : Seg w (some ad) n f) (j : Nat) (hj : j < n) : w.cell? (ad.add j) = some (f j) := by
  obtain ⟨b, o, he, _, hc⟩ := h j hj
  injection he with he
  subst he
  rw [Go.WideShapes.add_plain]
  exact hc
/-- A row of the call's own, as a slice whose cells are known. -/
theorem own_seg {w : World} {base : Nat} {e : TypeId} {v : Value} {n : Nat} {xs : List Value} {f : Nat → Value} (h : w.ownsRow base e 2 v n xs) (hx : ∀ j, j < n * 2 → xs[j]? = some (f j)) : ∃ A cap, v = .slice A n cap ∧ Seg w A (n * 2) f ∧ (A = none → n = 0 ∧ cap = 0) ∧ n ≤ cap := by
  rcases h.2 with ⟨rfl, h0⟩ | ⟨g, cap, cur, rfl, _, hh, hnc, _, hsz, htk⟩
  · refine ⟨none, 0, by rw [h0], fun k hk => absurd hk (by omega), fun _ => ⟨h0, rfl⟩, by omega⟩
  · refine ⟨some ⟨g, 0, none⟩, cap, rfl, fun k hk => ⟨g, 0, rfl, (Array.getElem?_eq_some_iff.1 hh).1, ?_⟩, (fun h => by cases h), hnc⟩
    have hb : Box w g e cur := hh
    have h3 := congrArg (·[k]?) htk
    simp only [List.getElem?_take] at h3
    rw [if_pos hk, hx k hk] at h3
    rw [Nat.zero_add]
    exact hb.cell k _ (by rw [← h3]; simp)
theorem below_own {w W w' : World} {base : Nat} {e : TypeId} {s : Nat} {v : Value} {n : Nat} {xs : List Value} (h : W.ownsRow base e s v n xs) (hg : W.grownBy w' v.ownBlock) (hB : Below base w W) (hz : base ≤ W.heap.size) : Below base w w' :=
  hB.trans ⟨hg.os, hg.tape, hg.output, hg.size, fun k hk => hg.block k (by omega) (fun e => by
    rcases h.2 with ⟨rfl, _⟩ | ⟨g, cap, cur, rfl, hg, _⟩
    · cases e
    · simp only [Value.ownBlock, Option.some.injEq] at e; omega)⟩
theorem IK : (Try.prog.info? 36).map (fun i => (i.zero, i.size, i.bytes)) = some (some (.agg #[.int .i64 0, .string ByteArray.empty]), 2, 24) := by kernel_rfl
theorem IR : (Try.prog.info? 47).map (fun i => (i.zero, i.size, i.bytes)) = some (some (.agg #[.string ByteArray.empty, .int .i64 0]), 2, 24) := by kernel_rfl
theorem own_up {w w' : World} {base : Nat} {e : TypeId} {s : Nat} {v : Value} {n : Nat} {xs : List Value} (h : w.ownsRow base e s v n xs) (hb : Below w.heap.size w w') : w'.ownsRow base e s v n xs := by
  refine ⟨h.1, ?_⟩
  rcases h.2 with h0 | ⟨g, cap, cur, rfl, hg, hh, r⟩
  · exact .inl h0
  · exact .inr ⟨g, cap, cur, rfl, hg, (hb.block g (Array.getElem?_eq_some_iff.1 hh).1).trans hh, r⟩
theorem run_appk {w W : World} {base : Nat} {v : Value} {l m : OL} {A : Option Addr} {c : Nat} (ty : TypeId) (hown : W.ownsRow base 36 2 v l.length (kV l)) (hsrc : Seg W A (m.length * 2) (kCell m)) (hn : A = none → m.length = 0 ∧ c = 0) (hB : Below base w W) (hz : base ≤ W.heap.size) (hl : (l.length + m.length) * 24 ≤ 140737488355328) :
    ∃ v' w', (Builtin.append_ #[23, 23] ty #[v, .slice A m.length c]).run Try.prog W = .ok v' w' ∧ w'.ownsRow base 36 2 v' (l ++ m).length (kV (l ++ m)) ∧ Below base w w' := by
  obtain ⟨i, hi, hz0, hz1, hz2⟩ := info_parts IK
  rcases A with _ | ad
  · obtain ⟨h0, rfl⟩ := hn rfl
    obtain rfl := List.eq_nil_of_length_eq_zero h0
    refine ⟨v, W, run_append_owned_none (P := Try.prog) (w := W) base 23 ty 36 i 2 Try.underlying23 hi v l.length _ hown, ?_, hB⟩
    rw [List.append_nil]
    exact hown
  · obtain ⟨v', w', h1, h2, h3, _, _⟩ := run_append_own_at (P := Try.prog) W base 23 ty 36 i (.agg #[.int .i64 0, .string ByteArray.empty]) 2 24 Try.underlying23 hi hz0 hz1 hz2 rfl (by decide) v l.length (kV l) hown ad m.length c (kV m) (kV_len m)
      (fun j u hu => by
        have hj : j < m.length * 2 := by
          rw [← kV_len]
          exact (List.getElem?_eq_some_iff.1 hu).1
        rw [kV_get m j hj] at hu
        rw [← Option.some.inj hu]
        exact seg_addr hsrc j hj) (kV_one m) (by unfold maxLen; omega) hl hz
    refine ⟨v', w', h1, ?_, below_own hown h3 hB hz⟩
    rw [List.length_append, kV_app]
    exact h2
theorem wpList_appk {w W : World} {ops : Array Oper} {rest : List Oper} {o : Oper} {a : Act} {Q : Exit → Act → World → Prop} (hgd : o.guard = none) (s x : Operand)
    (ho : o.op = .call { callee := .builtin .append, args := #[s, x], argTypes := #[23, 23] })
    (base : Nat) (v : Value) (l m : OL) (A : Option Addr) (c : Nat) (hs : a.eval s = v) (hx : a.eval x = .slice A m.length c) (hown : W.ownsRow base 36 2 v l.length (kV l)) (hsrc : Seg W A (m.length * 2) (kCell m)) (hn : A = none → m.length = 0 ∧ c = 0) (hB : Below base w W) (hz : base ≤ W.heap.size) (hl : (l.length + m.length) * 24 ≤ 140737488355328)
    (H : ∀ v' w', w'.ownsRow base 36 2 v' (l ++ m).length (kV (l ++ m)) → Below base w w' → wpList Try.prog ops Q rest (a.put o.dst v') w') : wpList Try.prog ops Q (o :: rest) a W :=
  wpList_plain hgd fun _ hK => by
    obtain ⟨v', w', hrun, h2, h3⟩ := run_appk o.type hown hsrc hn hB hz hl
    unfold Oper.wp execOp
    simp only [ho, resolve, invoke, builtin, Sem.run_bind, Sem.run_pure, Result.andThen_ok, List.map_toArray, List.map_cons, List.map_nil, hs, hx, hrun]
    exact hK _ _ (H v' w' h2 h3)
theorem run_appr {w W : World} {base : Nat} {v : Value} {l m : KL} {A : Option Addr} {c : Nat} (ty : TypeId) (hown : W.ownsRow base 47 2 v l.length (rV l)) (hsrc : Seg W A (m.length * 2) (rCell m)) (hn : A = none → m.length = 0 ∧ c = 0) (hB : Below base w W) (hz : base ≤ W.heap.size) (hl : (l.length + m.length) * 24 ≤ 140737488355328) :
    ∃ v' w', (Builtin.append_ #[22, 22] ty #[v, .slice A m.length c]).run Try.prog W = .ok v' w' ∧ w'.ownsRow base 47 2 v' (l ++ m).length (rV (l ++ m)) ∧ Below base w w' := by
  obtain ⟨i, hi, hz0, hz1, hz2⟩ := info_parts IR
  rcases A with _ | ad
  · obtain ⟨h0, rfl⟩ := hn rfl
    obtain rfl := List.eq_nil_of_length_eq_zero h0
    refine ⟨v, W, run_append_owned_none (P := Try.prog) (w := W) base 22 ty 47 i 2 Try.underlying22 hi v l.length _ hown, ?_, hB⟩
    rw [List.append_nil]
    exact hown
  · obtain ⟨v', w', h1, h2, h3, _, _⟩ := run_append_own_at (P := Try.prog) W base 22 ty 47 i (.agg #[.string ByteArray.empty, .int .i64 0]) 2 24 Try.underlying22 hi hz0 hz1 hz2 rfl (by decide) v l.length (rV l) hown ad m.length c (rV m) (rV_len m)
      (fun j u hu => by
        have hj : j < m.length * 2 := by
          rw [← rV_len]
          exact (List.getElem?_eq_some_iff.1 hu).1
        rw [rV_get m j hj] at hu
        rw [← Option.some.inj hu]
        exact seg_addr hsrc j hj) (rV_one m) (by unfold maxLen; omega) hl hz
    refine ⟨v', w', h1, ?_, below_own hown h3 hB hz⟩
    rw [List.length_append, rV_app]
    exact h2
theorem wpList_appr {w W : World} {ops : Array Oper} {rest : List Oper} {o : Oper} {a : Act} {Q : Exit → Act → World → Prop} (hgd : o.guard = none) (s x : Operand)
    (ho : o.op = .call { callee := .builtin .append, args := #[s, x], argTypes := #[22, 22] })
    (base : Nat) (v : Value) (l m : KL) (A : Option Addr) (c : Nat) (hs : a.eval s = v) (hx : a.eval x = .slice A m.length c) (hown : W.ownsRow base 47 2 v l.length (rV l)) (hsrc : Seg W A (m.length * 2) (rCell m)) (hn : A = none → m.length = 0 ∧ c = 0) (hB : Below base w W) (hz : base ≤ W.heap.size) (hl : (l.length + m.length) * 24 ≤ 140737488355328)
    (H : ∀ v' w', w'.ownsRow base 47 2 v' (l ++ m).length (rV (l ++ m)) → Below base w w' → wpList Try.prog ops Q rest (a.put o.dst v') w') : wpList Try.prog ops Q (o :: rest) a W :=
  wpList_plain hgd fun _ hK => by
    obtain ⟨v', w', hrun, h2, h3⟩ := run_appr o.type hown hsrc hn hB hz hl
    unfold Oper.wp execOp
    simp only [ho, resolve, invoke, builtin, Sem.run_bind, Sem.run_pure, Result.andThen_ok, List.map_toArray, List.map_cons, List.map_nil, hs, hx, hrun]
    exact hK _ _ (H v' w' h2 h3)
theorem kseg {w : World} {A : Option Addr} {n : Nat} {l : OL} (h : Seg w A (n * 2) (kCell l)) (k : Nat) (hk : k < n) : ∃ b o, A = some ⟨b, o, none⟩ ∧ b < w.heap.size ∧
    w.cell? ⟨b, o + k * 2, none⟩ = some (.int .i64 (l.getD k (0, [])).1) ∧ w.cell? ⟨b, o + k * 2 + 1, none⟩ = some (.string (bs (l.getD k (0, [])).2)) := by
  obtain ⟨b, o, rfl, hb, h0⟩ := h (k * 2) (by omega)
  refine ⟨b, o, rfl, hb, ?_, ?_⟩
  · rw [h0, kCell, show k * 2 / 2 = k by omega, if_pos (by omega)]
  · obtain ⟨b', o', he, _, h1⟩ := h (k * 2 + 1) (by omega)
    obtain ⟨rfl, rfl⟩ : b = b' ∧ o = o' := by injection he with h; injection h with h1 h2; exact ⟨h1, h2⟩
    rw [Nat.add_assoc, h1, kCell, show (k * 2 + 1) / 2 = k by omega, if_neg (by omega)]
/-- What small finds, if it finds it so. -/
def SmallOk (R : KL) (l : OL) : Prop := R.length ≤ 100 ∧ l.length ≤ 300 ∧ (∀ k, k < R.length → (R.getD k ([], 0)).1.length ≤ 300) ∧ ∀ k, k < l.length → (l.getD k (0, [])).2.length ≤ 300
def SmallEnds (R : KL) (l : OL) (w : World) (e : Ending) (w' : World) : Prop := ∃ r : Bool, e = .returned (.bool r) ∧ (r = true → SmallOk R l) ∧ Below w.heap.size w w'
def SmR (R : KL) (w : World) (i : Value) (wr : World) : Prop := ∃ k : Nat, i = .int .i64 k ∧ k ≤ R.length ∧ (∀ j, j < k → (R.getD j ([], 0)).1.length ≤ 300) ∧ Below w.heap.size w wr
def SmK (l : OL) (w : World) (i : Value) (wr : World) : Prop := ∃ k : Nat, i = .int .i64 k ∧ k ≤ l.length ∧ (∀ j, j < k → (l.getD j (0, [])).2.length ≤ 300) ∧ Below w.heap.size w wr
set_option maxHeartbeats 2000000 in
theorem smalls_any (R : KL) (l : OL) (A B : Option Addr) (ca cb : Nat) (w : World) (hR : Seg w A (R.length * 2) (rCell R)) (hl : Seg w B (l.length * 2) (kCell l)) : Calls Try.prog 8 #[.slice A R.length ca, .slice B l.length cb] w (SmallEnds R l w) := by
  have HR := Lib.hid hR
  have HL := Lib.hid hl
  clear hR hl
  go_enter Try.func8, Try.ntmps8
  by_cases h100 : (100 : Int) < R.length
  · go_wp2
    go_ret
    exact ⟨false, rfl, (fun h => by cases h), Below.refl _ _⟩
  by_cases h300 : (300 : Int) < l.length
  · go_wp2
    go_ret
    exact ⟨false, rfl, (fun h => by cases h), Below.refl _ _⟩
  go_wp2
  go_loopw [17] (SmR R w) (fun i _ => R.length - (intOf i).toNat)
  case atStart => exact ⟨0, rfl, by omega, fun j hj => absurd hj (by omega), Below.refl _ _⟩
  case round =>
  obtain ⟨k, rfl, hk, hall, hB⟩ := hrel
  by_cases hlt : k < R.length
  · obtain ⟨b1, o1, rfl, hb1, q0, _⟩ := rseg HR.out k hlt
    replace q0 := (hB.cell (p := ⟨b1, o1 + k * 2, none⟩) hb1).trans q0
    have hb2 : b1 < wr.heap.size := Nat.lt_of_lt_of_le hb1 hB.size
    have HK := Lib.hid (fun (h : (R.getD k ([], 0)).1.length ≤ 300) (i : Nat) (hi : i < k + 1) => (show (R.getD i ([], 0)).1.length ≤ 300 by
      rcases (show i < k ∨ i = k by omega) with h1 | rfl
      · exact hall i h1
      · exact h))
    generalize (R.getD k ([], 0)).1 = x at *
    have hsz := bs_size x
    clear hall
    by_cases hz : (300 : Int) < x.length
    · go_wp2
      go_ret
      exact ⟨false, rfl, (fun h => by cases h), hB⟩
    · go_wp2
      go_roundw
      case rel => exact ⟨k + 1, by go_num, by omega, HK.out (by omega), hB⟩
      case measure => simp [intOf]; omega
  · obtain rfl : k = R.length := by omega
    have HA := Lib.hid hall
    have HB0 := Lib.hid hB
    clear hall hlt hk
    go_wp2
    go_loopw [30] (SmK l w) (fun i _ => l.length - (intOf i).toNat)
    case atStart => exact ⟨0, rfl, by omega, fun j hj => absurd hj (by omega), HB0.out⟩
    case round =>
    clear hB
    obtain ⟨k, rfl, hk, hall, hB⟩ := hrel
    by_cases hlt : k < l.length
    · obtain ⟨b1, o1, rfl, hb1, _, q1⟩ := kseg HL.out k hlt
      replace q1 := (hB.cell (p := ⟨b1, o1 + k * 2 + 1, none⟩) hb1).trans q1
      have hb2 : b1 < wr.heap.size := Nat.lt_of_lt_of_le hb1 hB.size
      have HK := Lib.hid (fun (h : (l.getD k (0, [])).2.length ≤ 300) (i : Nat) (hi : i < k + 1) => (show (l.getD i (0, [])).2.length ≤ 300 by
        rcases (show i < k ∨ i = k by omega) with h1 | rfl
        · exact hall i h1
        · exact h))
      generalize (l.getD k (0, [])).2 = x at *
      have hsz := bs_size x
      clear hall
      by_cases hz : (300 : Int) < x.length
      · go_wp2
        go_ret
        exact ⟨false, rfl, (fun h => by cases h), hB⟩
      · go_wp2
        go_roundw
        case rel => exact ⟨k + 1, by go_num, by omega, HK.out (by omega), hB⟩
        case measure => simp [intOf]; omega
    · obtain rfl : k = l.length := by omega
      have HA2 := Lib.hid hall
      clear hall
      go_wp2
      go_ret
      exact ⟨true, rfl, (fun _ => ⟨by omega, by omega, HA.out, HA2.out⟩), hB⟩
end Go.Proofs.Ytbcologcendhlaa
