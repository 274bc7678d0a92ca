/- Slices of strings that are known; rows of strings and of bytes of the call's own: append, conversion. -/
import Derived.Test.YtjcojgblnbhejaaY
import Derived.Lib.AppendStr
import Derived.Laws.IdiomStrings
import Derived.Test.YtjcojgblnbhejaaW
namespace Go.Proofs.Ytjcojgblnbhejaa
open Go.ChangeShapes Go.WideShapes Go.ChangeAt Go.RowKit

def strs (l : List (List UInt8)) (k : Nat) : Value := .string (bs (l.getD k []))
def strV (l : List (List UInt8)) : List Value := l.map fun x => .string (bs x)
theorem strV_len (l : List (List UInt8)) : (strV l).length = l.length := by simp [strV]
theorem strV_app (l m : List (List UInt8)) : strV (l ++ m) = strV l ++ strV m := by simp [strV]
/-- The slice value v reads as the strings l. -/
def Strs (w : World) (v : Value) (l : List (List UInt8)) : Prop := ∃ A cap, v = .slice A l.length cap ∧ Seg w A l.length (strs l) ∧ (A = none → l.length = 0) ∧ l.length ≤ cap
theorem Strs.up {w w' : World} {v : Value} {l : List (List UInt8)} (h : Strs w v l) (hb : Below w.heap.size w w') : Strs w' v l := by
  obtain ⟨A, cap, h1, h2, h3⟩ := h
  exact ⟨A, cap, h1, h2.next hb, h3⟩
theorem Strs.nil (w : World) : Strs w (.slice none 0 0) [] := ⟨none, 0, rfl, fun k hk => absurd hk (by simp), fun _ => rfl, Nat.le_refl _⟩
/-- A beginning of a slice. -/
theorem seg_take {w : World} {A : Option Addr} {l : List (List UInt8)} (h : Seg w A l.length (strs l)) (k : Nat) (hk : k ≤ l.length) : Seg w A (l.take k).length (strs (l.take k)) := by
  have hl : (l.take k).length = k := by rw [List.length_take]; omega
  intro j hj
  rw [hl] at hj
  obtain ⟨b, o, h1, h2, h3⟩ := h j (by omega)
  refine ⟨b, o, h1, h2, ?_⟩
  rw [h3]
  unfold strs
  rw [List.getD_eq_getElem?_getD, List.getD_eq_getElem?_getD, List.getElem?_take_of_lt hj]
/-- Rows of the call's own, of blocks from base on. -/
def OwnS (w : World) (base : Nat) (v : Value) (l : List (List UInt8)) : Prop := w.ownsRow base 9 1 v l.length (strV l)
def u8r (xs : List UInt8) : List Value := xs.map fun b => .int .u8 (b.toNat : Int)
theorem u8r_len (xs : List UInt8) : (u8r xs).length = xs.length := by simp [u8r]
theorem u8r_app (xs ys : List UInt8) : u8r (xs ++ ys) = u8r xs ++ u8r ys := by simp [u8r]
def OwnB (w : World) (base : Nat) (v : Value) (xs : List UInt8) : Prop := w.ownsRow base 5 1 v xs.length (u8r xs)
theorem own_same {w w' : World} {base : Nat} {e : TypeId} {v : Value} {n : Nat} {xs : List Value} (h : w.ownsRow base e 1 v n xs) (hb : Below w.heap.size w w') : w'.ownsRow base e 1 v n xs := by
  refine ⟨h.1, ?_⟩
  rcases h.2 with h0 | ⟨g, cap, cur, rfl, hg, hh, r⟩
  · exact .inl h0
  · exact .inr ⟨g, cap, cur, rfl, hg, (hb.block g (Array.getElem?_eq_some_iff.1 hh).1).trans hh, r⟩
theorem OwnS.up {w w' : World} {base : Nat} {v : Value} {l : List (List UInt8)} (h : OwnS w base v l) (hb : Below w.heap.size w w') : OwnS w' base v l := own_same h hb
theorem OwnB.up {w w' : World} {base : Nat} {v : Value} {l : List UInt8} (h : OwnB w base v l) (hb : Below w.heap.size w w') : OwnB w' base v l := own_same h hb
theorem OwnS.nil (w : World) (base : Nat) : OwnS w base (.slice none 0 0) [] := ⟨rfl, .inl ⟨rfl, rfl⟩⟩
theorem OwnB.nil (w : World) (base : Nat) : OwnB w base (.slice none 0 0) [] := ⟨rfl, .inl ⟨rfl, rfl⟩⟩
theorem OwnS.strs {w : World} {base : Nat} {v : Value} {l : List (List UInt8)} (h : OwnS w base v l) : Strs w v l := by
  rcases h.2 with ⟨rfl, h0⟩ | ⟨g, cap, cur, rfl, _, hh, hnc, _, hsz, htk⟩
  · refine ⟨none, 0, by rw [h0], fun k hk => absurd hk (by omega), fun _ => h0, by omega⟩
  · refine ⟨some ⟨g, 0, none⟩, cap, rfl, fun k hk => ⟨g, 0, rfl, (Array.getElem?_eq_some_iff.1 hh).1, ?_⟩, (fun h => by cases h), hnc⟩
    have hb : Box w g 9 cur := hh
    have h2 : cur.toList[k]? = some (.string (bs (l.getD k []))) := by
      have h3 := congrArg (·[k]?) htk
      simp only [List.getElem?_take, strV, List.getElem?_map] at h3
      rw [if_pos (by omega)] at h3
      rw [h3]
      simp [List.getD, hk]
    rw [Nat.zero_add]
    exact hb.cell k _ (by unfold Go.Proofs.Ytjcojgblnbhejaa.strs; rw [← h2]; simp)
/-- What an own row's append leaves. -/
theorem below_own {w W w' : World} {base : Nat} {e : TypeId} {v : Value} {n : Nat} {xs : List Value} (h : W.ownsRow base e 1 v n xs) (hg : W.grownBy w' v.ownBlock) (hB : Below base w W) (hz : base ≤ W.heap.size) : Below base w w' :=
  hB.trans ⟨hg.os, hg.tape, hg.output, hg.size, fun k hk => hg.block k (by omega) (fun e => by
    rcases h.2 with ⟨rfl, _⟩ | ⟨g, cap, cur, rfl, hg, _⟩
    · cases e
    · simp only [Value.ownBlock, Option.some.injEq] at e; omega)⟩

theorem IS : (Try.prog.info? 9).map (fun i => (i.zero, i.size, i.bytes)) = some (some (.string ByteArray.empty), 1, 16) := by kernel_rfl
theorem IB8 : (Try.prog.info? 5).map (fun i => (i.zero, i.size, i.bytes)) = some (some (.int .u8 0), 1, 1) := by kernel_rfl

/-- One string more. -/
theorem run_push {w W : World} {base : Nat} {v : Value} {l : List (List UInt8)} {x : List UInt8} {h c : Nat} (ty : TypeId) (hown : OwnS W base v l) (hsrc : W.cell? ⟨h, 0, none⟩ = some (.string (bs x))) (hB : Below base w W) (hz : base ≤ W.heap.size) (hl : l.length < 1000000) :
    ∃ v' w', (Builtin.append_ #[22, 22] ty #[v, .slice (some ⟨h, 0, none⟩) 1 c]).run Try.prog W = .ok v' w' ∧ OwnS w' base v' (l ++ [x]) ∧ Below base w w' := by
  obtain ⟨i, hi, hz0, hz1, hz2⟩ := info_parts IS
  obtain ⟨v', w', h1, h2, h3, _, h4⟩ := run_append_own_at (P := Try.prog) W base 22 ty 9 i _ 1 16 Try.underlying22 hi hz0 hz1 hz2 rfl (by decide) v l.length (strV l) hown ⟨h, 0, none⟩ 1 c [.string (bs x)] rfl
    (fun j u hu => by
      match j, hu with
      | 0, hu => obtain rfl := Option.some.inj hu; exact hsrc
      | j + 1, hu => cases hu) (fun u hu => by simp only [List.mem_singleton] at hu; subst hu; rfl) (by unfold maxLen; omega) (by omega) hz
  refine ⟨v', w', h1, ?_, below_own hown h3 hB hz⟩
  unfold OwnS
  rw [List.length_append, strV_app]
  exact h2
theorem wpList_push {w W : World} {ops : Array Oper} {rest : List Oper} {o : Oper} {a : Act} {Q : Exit → Act → World → Prop} (hgd : o.guard = none) (s x : Operand)
    (ho : o.op = .call { callee := .builtin .append, args := #[s, x], argTypes := #[22, 22] })
    (base : Nat) (v : Value) (l : List (List UInt8)) (y : List UInt8) (h c : Nat) (hs : a.eval s = v) (hx : a.eval x = .slice (some ⟨h, 0, none⟩) 1 c) (hown : OwnS W base v l) (hsrc : W.cell? ⟨h, 0, none⟩ = some (.string (bs y))) (hB : Below base w W) (hz : base ≤ W.heap.size) (hl : l.length < 1000000)
    (H : ∀ v' w', OwnS w' base v' (l ++ [y]) → Below base w w' → wpList Try.prog ops Q rest (a.put o.dst v') w') : wpList Try.prog ops Q (o :: rest) a W :=
  wpList_plain hgd fun _ hK => by
    obtain ⟨v', w', hrun, h2, h3⟩ := run_push (x := y) (h := h) (c := c) o.type hown hsrc hB hz hl
    unfold Oper.wp execOp
    simp only [ho, resolve, invoke, builtin, Sem.run_bind, Sem.run_pure, Result.andThen_ok, List.map_toArray, List.map_cons, List.map_nil, hs, hx, hrun]
    exact hK _ _ (H v' w' h2 h3)
/-- Two bytes more. -/
theorem run_push2 {w W : World} {base : Nat} {v : Value} {l : List UInt8} {x y : UInt8} {h c : Nat} (ty : TypeId) (hown : OwnB W base v l) (h0 : W.cell? ⟨h, 0, none⟩ = some (.int .u8 (x.toNat : Int))) (h1 : W.cell? ⟨h, 1, none⟩ = some (.int .u8 (y.toNat : Int))) (hB : Below base w W) (hz : base ≤ W.heap.size) (hl : l.length < 1000000) :
    ∃ v' w', (Builtin.append_ #[59, 59] ty #[v, .slice (some ⟨h, 0, none⟩) 2 c]).run Try.prog W = .ok v' w' ∧ OwnB w' base v' (l ++ [x, y]) ∧ Below base w w' := by
  obtain ⟨i, hi, hz0, hz1, hz2⟩ := info_parts IB8
  obtain ⟨v', w', k1, h2, h3, _, h4⟩ := run_append_own_at (P := Try.prog) W base 59 ty 5 i _ 1 1 Try.underlying59 hi hz0 hz1 hz2 rfl (by decide) v l.length (u8r l) hown ⟨h, 0, none⟩ 2 c [.int .u8 (x.toNat : Int), .int .u8 (y.toNat : Int)] rfl
    (fun j u hu => by
      match j, hu with
      | 0, hu => obtain rfl := Option.some.inj hu; exact h0
      | 1, hu => obtain rfl := Option.some.inj hu; exact h1
      | j + 2, hu => cases hu) (fun u hu => by simp only [List.mem_cons, List.mem_nil_iff, or_false] at hu; rcases hu with rfl | rfl <;> rfl) (by unfold maxLen; omega) (by omega) hz
  refine ⟨v', w', k1, ?_, below_own hown h3 hB hz⟩
  unfold OwnB
  rw [List.length_append, u8r_app]
  exact h2
theorem wpList_push2 {w W : World} {ops : Array Oper} {rest : List Oper} {o : Oper} {a : Act} {Q : Exit → Act → World → Prop} (hgd : o.guard = none) (s x : Operand)
    (ho : o.op = .call { callee := .builtin .append, args := #[s, x], argTypes := #[59, 59] })
    (base : Nat) (v : Value) (l : List UInt8) (y z : UInt8) (h c : Nat) (hs : a.eval s = v) (hx : a.eval x = .slice (some ⟨h, 0, none⟩) 2 c) (hown : OwnB W base v l) (h0 : W.cell? ⟨h, 0, none⟩ = some (.int .u8 (y.toNat : Int))) (h1 : W.cell? ⟨h, 1, none⟩ = some (.int .u8 (z.toNat : Int))) (hB : Below base w W) (hz : base ≤ W.heap.size) (hl : l.length < 1000000)
    (H : ∀ v' w', OwnB w' base v' (l ++ [y, z]) → Below base w w' → wpList Try.prog ops Q rest (a.put o.dst v') w') : wpList Try.prog ops Q (o :: rest) a W :=
  wpList_plain hgd fun _ hK => by
    obtain ⟨v', w', hrun, h2, h3⟩ := run_push2 (h := h) (c := c) o.type hown h0 h1 hB hz hl
    unfold Oper.wp execOp
    simp only [ho, resolve, invoke, builtin, Sem.run_bind, Sem.run_pure, Result.andThen_ok, List.map_toArray, List.map_cons, List.map_nil, hs, hx, hrun]
    exact hK _ _ (H v' w' h2 h3)
/-- A string's bytes more. -/
theorem wpList_pushs {w W : World} {ops : Array Oper} {rest : List Oper} {o : Oper} {a : Act} {Q : Exit → Act → World → Prop} (hgd : o.guard = none) (s x : Operand)
    (ho : o.op = .call { callee := .builtin .append, args := #[s, x], argTypes := #[59, 9] })
    (base : Nat) (v : Value) (l y : List UInt8) (hs : a.eval s = v) (hx : a.eval x = .string (bs y)) (hown : OwnB W base v l) (hB : Below base w W) (hz : base ≤ W.heap.size) (hl : l.length + y.length < 1000000)
    (H : ∀ v' w', OwnB w' base v' (l ++ y) → Below base w w' → wpList Try.prog ops Q rest (a.put o.dst v') w') : wpList Try.prog ops Q (o :: rest) a W := by
  obtain ⟨i, hi, hz0, hz1, hz2⟩ := info_parts IB8
  have hsz := bs_size y
  refine Lib.wpList_append_own_string W hgd s x 59 9 ho base 5 i Try.underlying59 Try.underlying9 hi hz0 hz1 hz2 v l.length (u8r l) hs hown (bs y) hx (by unfold maxLen; omega) (by omega) hz (fun v' w' h1 h2 _ => H v' w' ?_ (below_own hown h2 hB hz))
  unfold OwnB
  rw [List.length_append, u8r_app, ← hsz]
  exact h1
/-- Bytes as a string. -/
theorem conv_own {w : World} {base : Nat} {v : Value} {l : List UInt8} (h : OwnB w base v l) : (convert 59 9 v).run Try.prog w = .ok (.string (bs l)) w := by
  rcases h.2 with ⟨rfl, h0⟩ | ⟨g, cap, cur, rfl, _, hh, hnc, _, hsz, htk⟩
  · obtain rfl := List.eq_nil_of_length_eq_zero h0
    have := run_convert_bytes_string (P := Try.prog) w 59 9 5 none 0 0 Try.underlying59 Try.underlying5 Try.underlying9
    rw [this]
    rfl
  · refine run_convert_bytes_back (P := Try.prog) w 59 9 5 ⟨g, 0, none⟩ cap l Try.underlying59 Try.underlying5 Try.underlying9 (fun j hj => ?_)
    rw [Go.WideShapes.add_plain, Nat.zero_add]
    have hb : Box w g 5 cur := hh
    refine hb.cell j _ ?_
    have h3 := congrArg (·[j]?) htk
    simp only [List.getElem?_take, u8r, List.getElem?_map] at h3
    rw [if_pos (by omega), List.getElem?_eq_getElem hj] at h3
    simpa using h3
end Go.Proofs.Ytjcojgblnbhejaa
