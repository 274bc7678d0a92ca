/- A slice of structs of four integers among the arguments, opened. -/
import Derived.Test.YtdlkpohjeedbiaaO
import Derived.Deep.Slices
import Derived.Deep.Fields
import Derived.Lib.SmallJoins
namespace Go.Proofs.Ytdlkpohjeedbiaa
open Go.ChangeShapes Go.WideShapes Go.ChangeAt Go.RowKit Go.Joins Go.Deep

theorem seg_of_adds {w : World} {a : Addr} {n : Nat} {f : Nat → Value} (h : ∀ i, i < n → w.cell? (a.add i) = some (f i)) : Seg w (some a) n f := by
  intro k hk
  have h0 := h 0 (by omega)
  obtain ⟨b, off, spot⟩ := a
  have hspot : spot = none := by simpa [Addr.add] using World.cell?_spot h0
  subst hspot
  have hc : w.cell? ⟨b, off + k, none⟩ = some (f k) := by rw [← Go.WideShapes.add_plain]; exact h k hk
  exact ⟨b, off, rfl, World.block_lt_of_cell? w ⟨b, off + k, none⟩ hc, hc⟩
theorem choose_list {α : Type} (z : α) (P : Nat → α → Prop) : ∀ n : Nat, (∀ i, i < n → ∃ a, P i a) → ∃ l : List α, l.length = n ∧ ∀ i, i < n → P i (l.getD i z)
  | 0, _ => ⟨[], rfl, fun i hi => absurd hi (by omega)⟩
  | n + 1, h => by
    obtain ⟨l, hl, hp⟩ := choose_list z P n (fun i hi => h i (by omega))
    obtain ⟨a, ha⟩ := h n (by omega)
    refine ⟨l ++ [a], by simp [hl], fun i hi => ?_⟩
    rcases (show i < n ∨ i = n by omega) with g | rfl
    · have : (l ++ [a]).getD i z = l.getD i z := by simp [List.getD, List.getElem?_append_left (show i < l.length by omega)]
      rw [this]
      exact hp i g
    · have : (l ++ [a]).getD i z = a := by simp [List.getD, ← hl]
      rw [this]
      exact ha
theorem take_one {cs : List Value} {k : Nat} {n : Int} (h : (cs.drop k).take 1 = [.int .i64 n]) : cs[k]? = some (.int .i64 n) := by
  have h2 := congrArg (·[0]?) h
  simpa using h2
theorem seg_of_u4 {H : Type} {enc : TypeId × Value → H} {P : Program} {w : World} {base : Nat} {spare : Nat → Bool} {held : Bool} {t e : TypeId} {f0 f1 f2 f3 : Field} {fuel : Nat} {cs : List Value} {x : DataW H × List MemPlace} {A : Option Addr} {len cap : Nat}
    (ht : P.underlying t = some (.slice e)) (he : P.underlying e = some (.struct #[f0, f1, f2, f3])) (hone : oneCellFields P #[f0, f1, f2, f3] = true) (hC : P.cellsOf e = 4)
    (t0 : P.underlying f0.type = some (.int .i64)) (t1 : P.underlying f1.type = some (.int .i64)) (t2 : P.underlying f2.type = some (.int .i64)) (t3 : P.underlying f3.type = some (.int .i64))
    (h : DataW.trod enc P w base spare held fuel t cs = some x) (hcs : cs = [.slice A len cap]) :
    ∃ us : List U4, us.length = len ∧ Seg w A (len * 4) (uCell us) ∧ len ≤ maxLen := by
  obtain ⟨o0, k0⟩ := hone_of hone 0 f0 rfl
  obtain ⟨o1, k1⟩ := hone_of hone 1 f1 rfl
  obtain ⟨o2, k2⟩ := hone_of hone 2 f2 rfl
  obtain ⟨o3, k3⟩ := hone_of hone 3 f3 rfl
  rcases open_slice ht h with ⟨h1, _⟩ | ⟨a, l, c, m, n, D, Pl, h1, _, hl, hm, hmm, _, hi⟩
  · rw [hcs] at h1
    simp only [List.cons.injEq, Value.slice.injEq, and_true] at h1
    obtain ⟨rfl, rfl, rfl⟩ := h1
    exact ⟨[], rfl, fun k hk => absurd hk (by omega), by omega⟩
  · rw [hcs] at h1
    simp only [List.cons.injEq, Value.slice.injEq, and_true] at h1
    obtain ⟨rfl, rfl, rfl⟩ := h1
    have hlm : len ≤ m := by rw [hmm]; split <;> omega
    obtain ⟨us, hu, hp⟩ := choose_list U4.z (fun i u => ∀ j, j < 4 → w.cell? (a.add (i * 4 + j)) = some (.int .i64 (u.at j))) len (fun i hil => by
      obtain ⟨cs', hc, ht'⟩ := hi i (by omega)
      rw [hC] at hc
      obtain ⟨y0, y1, y2, y3, n', _, _, g0, g1, g2, g3⟩ := trod_struct4 he ht'
      rw [o0, k0] at g0
      rw [o1, k1] at g1
      rw [o2, k2] at g2
      rw [o3, k3] at g3
      obtain ⟨v0, q0, _, _⟩ := DataW.trod_int t0 g0
      obtain ⟨v1, q1, _, _⟩ := DataW.trod_int t1 g1
      obtain ⟨v2, q2, _, _⟩ := DataW.trod_int t2 g2
      obtain ⟨v3, q3, _, _⟩ := DataW.trod_int t3 g3
      obtain ⟨_, _, hat⟩ := World.cells?_some hc
      refine ⟨⟨v0, v1, v2, v3⟩, fun j hj => ?_⟩
      have hj2 := hat j hj
      rw [add_add] at hj2
      rw [hj2]
      rcases j with _ | _ | _ | _ | j
      · exact take_one q0
      · exact take_one q1
      · exact take_one q2
      · exact take_one q3
      · omega)
    refine ⟨us, hu, seg_of_adds (fun q hq => ?_), by omega⟩
    have h4 := hp (q / 4) (by omega) (q % 4) (by omega)
    rw [show q / 4 * 4 + q % 4 = q by omega] at h4
    exact h4
end Go.Proofs.Ytdlkpohjeedbiaa
