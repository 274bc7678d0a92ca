/- A law of append: onto a slice that is nil or the call's own, from a slice of which the cells are known (nil or not). -/
import Derived.Test.YtbcologcendhlaaG
import Derived.Maps.AppendAt
import Derived.OwnWalk
namespace Go.Proofs.Ytbcologcendhlaa
open Go.RowKit

/-- The cells that a source hands on. -/
def segCells (f : Nat → Value) (n : Nat) : List Value := (List.range n).map f
theorem segCells_len (f : Nat → Value) (n : Nat) : (segCells f n).length = n := by simp [segCells]

section
variable {P : Program} (w : World)

theorem run_append_nothing (base : Nat) (t ty e : TypeId) (i : TypeInfo) (size : Nat) (ht : P.underlying t = some (.slice e)) (hi : P.info? e = some i)
    (v : Value) (n : Nat) (xs : List Value) (hown : w.ownsRow base e size v n xs) (c : Nat) : (Builtin.append_ #[t, t] ty #[v, .slice none 0 c]).run P w = .ok v w := by
  rcases hown.2 with ⟨rfl, rfl⟩ | ⟨g, cap, cur, rfl, _, _, hnc, _⟩
  · simp [Builtin.append_, run_underlying ht, sizeOf, typeInfo, hi, Builtin.lenOf, Builtin.firstCells]
  · simp [Builtin.append_, run_underlying ht, sizeOf, typeInfo, hi, Builtin.lenOf, Builtin.firstCells, hnc, storeCells]

theorem run_append_seg (base : Nat) (t ty e : TypeId) (i : TypeInfo) (z : Value) (size bytes : Nat) (ht : P.underlying t = some (.slice e)) (hi : P.info? e = some i) (hz : i.zero = some z)
    (hsize : i.size = size) (hby : i.bytes = bytes) (hzs : z.cells.size = size) (hsz : 0 < size)
    (v : Value) (n : Nat) (xs : List Value) (hown : w.ownsRow base e size v n xs)
    (A : Option Addr) (m c : Nat) (f : Nat → Value) (hs : Seg w A (m * size) f) (h1 : ∀ k, k < m * size → (f k).oneCell' = true)
    (h63 : n + m ≤ maxLen) (hbytes : (n + m) * bytes ≤ 140737488355328) (hbase : base ≤ w.heap.size) (hA : A = none → m = 0) :
    ∃ v' w', (Builtin.append_ #[t, t] ty #[v, .slice A m c]).run P w = .ok v' w' ∧ w'.ownsRow base e size v' (n + m) (xs ++ segCells f (m * size)) ∧ w.grownBy w' v.ownBlock ∧
      (v'.ownBlock = v.ownBlock ∨ v'.ownBlock = some w.heap.size) := by
  rcases A with _ | ad
  · obtain rfl := hA rfl
    refine ⟨v, w, run_append_nothing w base t ty e i size ht hi v n xs hown c, ?_, World.grownBy.refl w _, .inl rfl⟩
    simpa [segCells] using hown
  · obtain ⟨v', w', hrun, h2, h3, _, h5⟩ := run_append_own_at (P := P) w base t ty e i z size bytes ht hi hz hsize hby hzs hsz v n xs hown ad m c (segCells f (m * size)) (segCells_len f _)
      (fun j u hu => by
        have hj : j < m * size := by
          rcases Nat.lt_or_ge j (m * size) with h | h
          · exact h
          · rw [List.getElem?_eq_none (by rw [segCells_len]; exact h)] at hu; cases hu
        obtain ⟨b, off, hA', _, hc⟩ := hs j hj
        obtain rfl := Option.some.inj hA'
        have hu' : u = f j := by
          have : (segCells f (m * size))[j]? = some (f j) := by simp [segCells, hj]
          rw [this] at hu
          exact (Option.some.inj hu).symm
        rw [hu', ← hc, Go.WideShapes.add_plain])
      (fun u hu => by
        simp only [segCells, List.mem_map, List.mem_range] at hu
        obtain ⟨k, hk, rfl⟩ := hu
        exact h1 k hk) h63 hbytes hbase
    exact ⟨v', w', hrun, h2, h3, h5⟩

theorem wpList_append_seg {ops : Array Oper} {rest : List Oper} {o : Oper} {a : Act} {Q : Exit → Act → World → Prop} (hgd : o.guard = none) (s x : Operand) (t : TypeId)
    (ho : o.op = .call { callee := .builtin .append, args := #[s, x], argTypes := #[t, t] })
    (base : Nat) (e : TypeId) (i : TypeInfo) (z : Value) (size bytes : Nat) (ht : P.underlying t = some (.slice e)) (hi : P.info? e = some i) (hz : i.zero = some z)
    (hsize : i.size = size) (hby : i.bytes = bytes) (hzs : z.cells.size = size) (hsz : 0 < size)
    (v : Value) (n : Nat) (xs : List Value) (hs : a.eval s = v) (hown : w.ownsRow base e size v n xs)
    (A : Option Addr) (m c : Nat) (f : Nat → Value) (hx : a.eval x = .slice A m c) (hr : Seg w A (m * size) f) (h1 : ∀ k, k < m * size → (f k).oneCell' = true)
    (h63 : n + m ≤ maxLen) (hbytes : (n + m) * bytes ≤ 140737488355328) (hbase : base ≤ w.heap.size) (hA : A = none → m = 0)
    (h : ∀ v' w', w'.ownsRow base e size v' (n + m) (xs ++ segCells f (m * size)) → w.grownBy w' v.ownBlock → (v'.ownBlock = v.ownBlock ∨ v'.ownBlock = some w.heap.size) → wpList P ops Q rest (a.put o.dst v') w') : wpList P ops Q (o :: rest) a w :=
  wpList_plain hgd fun _ hK => by
    obtain ⟨v', w', hrun, h2, h3, h4⟩ := run_append_seg (P := P) w base t o.type e i z size bytes ht hi hz hsize hby hzs hsz v n xs hown A m c f hr h1 h63 hbytes hbase hA
    unfold Oper.wp execOp
    simp only [ho, resolve, invoke, builtin, Sem.run_bind, Sem.run_pure, Result.andThen_ok, List.map_toArray, List.map_cons, List.map_nil, hs, hx, hrun]
    exact hK _ _ (h v' w' h2 h3 h4)
end

/-- A slice of ints of the call's own, read. -/
theorem own_ints {w : World} {base : Nat} {e : TypeId} {v : Value} {n : Nat} {zs : List Int} (h : w.ownsRow base e 1 v n (zs.map (Value.int .i64))) :
    ∃ A cap, v = .slice A n cap ∧ Seg w A n (ints zs) ∧ zs.length = n ∧ (A = none → n = 0) := by
  have hl : zs.length = n := by simpa using h.1
  rcases h.2 with ⟨rfl, rfl⟩ | ⟨g, cap, cur, rfl, _, hh, hnc, _, hsz, htk⟩
  · exact ⟨none, 0, rfl, fun k hk => absurd hk (by omega), hl, fun _ => rfl⟩
  · refine ⟨some ⟨g, 0, none⟩, cap, rfl, fun k hk => ⟨g, 0, rfl, (Array.getElem?_eq_some_iff.1 hh).1, ?_⟩, hl, (fun h => by cases h)⟩
    have hb : Box w g e cur := hh
    have h2 : cur.toList[k]? = some (.int .i64 (zs.getD k 0)) := by
      have h3 := congrArg (·[k]?) htk
      simp only [List.getElem?_take, List.getElem?_map] at h3
      rw [if_pos (by omega)] at h3
      rw [h3]
      simp [List.getD, hl ▸ hk]
    rw [Nat.zero_add]
    exact hb.cell k _ (by unfold ints; rw [← h2]; simp)
theorem segCells_ints (zs : List Int) (n : Nat) (h : zs.length = n) : segCells (ints zs) (n * 1) = zs.map (Value.int .i64) := by
  subst h
  apply List.ext_getElem?
  intro k
  by_cases hk : k < zs.length
  · simp [segCells, ints, hk]
  · simp [segCells, hk]
theorem ints_one (zs : List Int) (k : Nat) : (ints zs k).oneCell' = true := rfl
end Go.Proofs.Ytbcologcendhlaa
