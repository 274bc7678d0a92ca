/- Slices of reserves and of operations among the arguments, opened. -/
import Derived.Test.YtbcologcendhlaaSN
import Derived.Deep.Slices
import Derived.Deep.Fields
import Derived.Lib.SmallJoins
import Derived.SizedLaws
import Derived.ChangeSame
namespace Go.Proofs.Ytbcologcendhlaa
open Go.ChangeShapes Go.WideShapes Go.ChangeAt Go.RowKit

theorem take_val {cs : List Value} {k : Nat} {v : Value} (h : (cs.drop k).take 1 = [v]) : cs[k]? = some v := by
  have h2 := congrArg (·[0]?) h
  simpa using h2
theorem seg_of_adds {w : World} {a : Addr} {n : Nat} {f : Nat → Value} (h : ∀ i, i < n → w.cell? (a.add i) = some (f i)) : Seg w (some a) n f := by
  intro k hk
  have h0 := h 0 (by omega)
  obtain ⟨b, off, spot⟩ := a
  have hspot : spot = none := by simpa [Addr.add] using World.cell?_spot h0
  subst hspot
  have hc : w.cell? ⟨b, off + k, none⟩ = some (f k) := by rw [← Go.WideShapes.add_plain]; exact h k hk
  exact ⟨b, off, rfl, World.block_lt_of_cell? w ⟨b, off + k, none⟩ hc, hc⟩
theorem choose_list {α : Type} (z : α) (P : Nat → α → Prop) : ∀ n : Nat, (∀ i, i < n → ∃ a, P i a) → ∃ l : List α, l.length = n ∧ ∀ i, i < n → P i (l.getD i z)
  | 0, _ => ⟨[], rfl, fun i hi => absurd hi (by omega)⟩
  | n + 1, h => by
    obtain ⟨l, hl, hp⟩ := choose_list z P n (fun i hi => h i (by omega))
    obtain ⟨a, ha⟩ := h n (by omega)
    refine ⟨l ++ [a], by simp [hl], fun i hi => ?_⟩
    rcases (show i < n ∨ i = n by omega) with g | rfl
    · have : (l ++ [a]).getD i z = l.getD i z := by simp [List.getD, List.getElem?_append_left (show i < l.length by omega)]
      rw [this]
      exact hp i g
    · have : (l ++ [a]).getD i z = a := by simp [List.getD, ← hl]
      rw [this]
      exact ha
theorem sized_reach {H : Type} {P : Program} {ts : List TypeId} {ds : List (DataW H)} (h : (DataW.weightsEach P ts ds).all (· ≤ reachBytes) = true) {j : Nat} {t : TypeId} {d : DataW H} (ht : ts[j]? = some t) (hd : ds[j]? = some d) : ∀ n ∈ d.weights P t, n ≤ 140737488351232 := fun n hn => by
  have := List.all_eq_true.1 h _ (DataW.weights_mem_each ht hd n hn)
  exact of_decide_eq_true this
section
open Go.Joins Go.Deep
def seg_of_r_at (u : Key × Int) (j : Nat) : Value := match j with | 0 => .string (bs u.1) | _ => .int .i64 u.2
theorem seg_of_r {H : Type} {enc : TypeId × Value → H} {P : Program} {w : World} {base : Nat} {spare : Nat → Bool} {held : Bool} {t e : TypeId} {f0 f1 : Field} {fuel : Nat} {cs : List Value} {x : DataW H × List MemPlace} {A : Option Addr} {len cap : Nat}
    (ht : P.underlying t = some (.slice e)) (he : P.underlying e = some (.struct #[f0, f1])) (hone : oneCellFields P #[f0, f1] = true) (hC : P.cellsOf e = 2) (hB : P.bytesOf e = 24)
    (t0 : P.underlying f0.type = some .string) (t1 : P.underlying f1.type = some (.int .i64))
    (h : DataW.trod enc P w base spare held fuel t cs = some x) (hcs : cs = [.slice A len cap]) (hz : ∀ n ∈ x.1.weights P t, n ≤ 140737488351232) : ∃ us : KL, RArg w A len cap us := by
  obtain ⟨o0, k0⟩ := hone_of hone 0 f0 rfl
  obtain ⟨o1, k1⟩ := hone_of hone 1 f1 rfl
  rcases open_slice ht h with ⟨h1, _⟩ | ⟨a, l, c, m, n, D, Pl, h1, _, hl, hm, hmm, hx, hi⟩
  · rw [hcs] at h1
    simp only [List.cons.injEq, Value.slice.injEq, and_true] at h1
    obtain ⟨rfl, rfl, rfl⟩ := h1
    exact ⟨[], rfl, (fun k hk => absurd hk (by omega)), (fun _ => ⟨rfl, rfl⟩), by omega⟩
  · rw [hcs] at h1
    simp only [List.cons.injEq, Value.slice.injEq, and_true] at h1
    obtain ⟨rfl, rfl, rfl⟩ := h1
    have hlm : len ≤ m := by rw [hmm]; split <;> omega
    have hsz : len * 24 ≤ 140737488351232 := by
      have h2 := hz ((len + (m - len)) * P.bytesOf e) (by
        rw [hx]
        simp [DataW.weights, ht])
      rw [hB] at h2
      omega
    obtain ⟨us, hu, hp⟩ := choose_list ([], 0) (fun i u => ∀ j, j < 2 → w.cell? (a.add (i * 2 + j)) = some (seg_of_r_at u j)) len (fun i hil => by
      obtain ⟨cs', hc, ht'⟩ := hi i (by omega)
      rw [hC] at hc
      obtain ⟨y0, y1, n', _, _, g0, g1⟩ := trod_struct2 he ht'
      rw [o0, k0] at g0
      rw [o1, k1] at g1
      obtain ⟨v0, p0, _, _⟩ := DataW.trod_string t0 g0
      obtain ⟨v1, p1, _, _⟩ := DataW.trod_int t1 g1
      obtain ⟨_, _, hat⟩ := World.cells?_some hc
      refine ⟨(v0.data.toList, v1), fun j hj => ?_⟩
      have hj2 := hat j hj
      rw [add_add] at hj2
      rw [hj2]
      rcases j with _ | _ | j
      · show cs'[0]? = some _
        rw [take_val p0]
        exact congrArg (fun b => some (Value.string b)) (bs_list v0)
      · show cs'[1]? = some _
        exact take_val p1
      · omega)
    refine ⟨us, hu, seg_of_adds (fun q hq => ?_), (fun h => by cases h), hsz⟩
    have h4 := hp (q / 2) (by omega) (q % 2) (by omega)
    rw [show q / 2 * 2 + q % 2 = q by omega] at h4
    rw [h4]
    unfold seg_of_r_at rCell
    rcases (show q % 2 = 0 ∨ q % 2 = 1 by omega) with h0 | h0
    · rw [h0]
      rfl
    · rw [h0]
      rfl
def seg_of_k_at (u : Int × Key) (j : Nat) : Value := match j with | 0 => .int .i64 u.1 | _ => .string (bs u.2)
theorem seg_of_k {H : Type} {enc : TypeId × Value → H} {P : Program} {w : World} {base : Nat} {spare : Nat → Bool} {held : Bool} {t e : TypeId} {f0 f1 : Field} {fuel : Nat} {cs : List Value} {x : DataW H × List MemPlace} {A : Option Addr} {len cap : Nat}
    (ht : P.underlying t = some (.slice e)) (he : P.underlying e = some (.struct #[f0, f1])) (hone : oneCellFields P #[f0, f1] = true) (hC : P.cellsOf e = 2) (hB : P.bytesOf e = 24)
    (t0 : P.underlying f0.type = some (.int .i64)) (t1 : P.underlying f1.type = some .string)
    (h : DataW.trod enc P w base spare held fuel t cs = some x) (hcs : cs = [.slice A len cap]) (hz : ∀ n ∈ x.1.weights P t, n ≤ 140737488351232) : ∃ us : OL, KArg w A len cap us := by
  obtain ⟨o0, k0⟩ := hone_of hone 0 f0 rfl
  obtain ⟨o1, k1⟩ := hone_of hone 1 f1 rfl
  rcases open_slice ht h with ⟨h1, _⟩ | ⟨a, l, c, m, n, D, Pl, h1, _, hl, hm, hmm, hx, hi⟩
  · rw [hcs] at h1
    simp only [List.cons.injEq, Value.slice.injEq, and_true] at h1
    obtain ⟨rfl, rfl, rfl⟩ := h1
    exact ⟨[], rfl, (fun k hk => absurd hk (by omega)), (fun _ => ⟨rfl, rfl⟩), by omega⟩
  · rw [hcs] at h1
    simp only [List.cons.injEq, Value.slice.injEq, and_true] at h1
    obtain ⟨rfl, rfl, rfl⟩ := h1
    have hlm : len ≤ m := by rw [hmm]; split <;> omega
    have hsz : len * 24 ≤ 140737488351232 := by
      have h2 := hz ((len + (m - len)) * P.bytesOf e) (by
        rw [hx]
        simp [DataW.weights, ht])
      rw [hB] at h2
      omega
    obtain ⟨us, hu, hp⟩ := choose_list (0, []) (fun i u => ∀ j, j < 2 → w.cell? (a.add (i * 2 + j)) = some (seg_of_k_at u j)) len (fun i hil => by
      obtain ⟨cs', hc, ht'⟩ := hi i (by omega)
      rw [hC] at hc
      obtain ⟨y0, y1, n', _, _, g0, g1⟩ := trod_struct2 he ht'
      rw [o0, k0] at g0
      rw [o1, k1] at g1
      obtain ⟨v0, p0, _, _⟩ := DataW.trod_int t0 g0
      obtain ⟨v1, p1, _, _⟩ := DataW.trod_string t1 g1
      obtain ⟨_, _, hat⟩ := World.cells?_some hc
      refine ⟨(v0, v1.data.toList), fun j hj => ?_⟩
      have hj2 := hat j hj
      rw [add_add] at hj2
      rw [hj2]
      rcases j with _ | _ | j
      · show cs'[0]? = some _
        exact take_val p0
      · show cs'[1]? = some _
        rw [take_val p1]
        exact congrArg (fun b => some (Value.string b)) (bs_list v1)
      · omega)
    refine ⟨us, hu, seg_of_adds (fun q hq => ?_), (fun h => by cases h), hsz⟩
    have h4 := hp (q / 2) (by omega) (q % 2) (by omega)
    rw [show q / 2 * 2 + q % 2 = q by omega] at h4
    rw [h4]
    unfold seg_of_k_at kCell
    rcases (show q % 2 = 0 ∨ q % 2 = 1 by omega) with h0 | h0
    · rw [h0]
      rfl
    · rw [h0]
      rfl
end
end Go.Proofs.Ytbcologcendhlaa
