/- Scripts of operations among the arguments; small; WalRecovers: the walk. -/
import Derived.Test.YtjcojgblnbhejaaWI
import Derived.Deep.Slices
import Derived.Deep.Fields
import Derived.Lib.SmallJoins
namespace Go.Proofs.Ytjcojgblnbhejaa
open Go.ChangeShapes Go.WideShapes Go.ChangeAt Go.RowKit

structure OpV where
  k : Int
  t : ByteArray
  n : Int
def OpV.z : OpV := ⟨0, ByteArray.empty, 0⟩
def OpV.at (o : OpV) (j : Nat) : Value := match j with
  | 0 => .int .i64 o.k
  | 1 => .string o.t
  | _ => .int .i64 o.n
def oCell (os : List OpV) (q : Nat) : Value := (os.getD (q / 3) OpV.z).at (q % 3)
theorem oseg {w : World} {A : Option Addr} {n : Nat} {os : List OpV} (h : Seg w A (n * 3) (oCell os)) (k : Nat) (hk : k < n) : ∃ b o, A = some ⟨b, o, none⟩ ∧ b < w.heap.size ∧
    w.cell? ⟨b, o + k * 3, none⟩ = some (.int .i64 (os.getD k OpV.z).k) ∧ w.cell? ⟨b, o + k * 3 + 1, none⟩ = some (.string (os.getD k OpV.z).t) ∧ w.cell? ⟨b, o + k * 3 + 2, none⟩ = some (.int .i64 (os.getD k OpV.z).n) := by
  obtain ⟨b, o, rfl, hb, h0⟩ := h (k * 3) (by omega)
  refine ⟨b, o, rfl, hb, ?_, ?_, ?_⟩
  · rw [h0, oCell, show k * 3 / 3 = k by omega, show k * 3 % 3 = 0 by omega]; rfl
  · obtain ⟨b', o', he, _, h1⟩ := h (k * 3 + 1) (by omega)
    obtain ⟨rfl, rfl⟩ : b = b' ∧ o = o' := by injection he with h; injection h with h1 h2; exact ⟨h1, h2⟩
    rw [Nat.add_assoc, h1, oCell, show (k * 3 + 1) / 3 = k by omega, show (k * 3 + 1) % 3 = 1 by omega]; rfl
  · obtain ⟨b', o', he, _, h1⟩ := h (k * 3 + 2) (by omega)
    obtain ⟨rfl, rfl⟩ : b = b' ∧ o = o' := by injection he with h; injection h with h1 h2; exact ⟨h1, h2⟩
    rw [Nat.add_assoc, h1, oCell, show (k * 3 + 2) / 3 = k by omega, show (k * 3 + 2) % 3 = 2 by omega]; rfl
theorem take_val {cs : List Value} {k : Nat} {v : Value} (h : (cs.drop k).take 1 = [v]) : cs[k]? = some v := by
  have h2 := congrArg (·[0]?) h
  simpa using h2
theorem seg_of_adds {w : World} {a : Addr} {n : Nat} {f : Nat → Value} (h : ∀ i, i < n → w.cell? (a.add i) = some (f i)) : Seg w (some a) n f := by
  intro k hk
  have h0 := h 0 (by omega)
  obtain ⟨b, off, spot⟩ := a
  have hspot : spot = none := by simpa [Addr.add] using World.cell?_spot h0
  subst hspot
  have hc : w.cell? ⟨b, off + k, none⟩ = some (f k) := by rw [← Go.WideShapes.add_plain]; exact h k hk
  exact ⟨b, off, rfl, World.block_lt_of_cell? w ⟨b, off + k, none⟩ hc, hc⟩
theorem choose_list {α : Type} (z : α) (P : Nat → α → Prop) : ∀ n : Nat, (∀ i, i < n → ∃ a, P i a) → ∃ l : List α, l.length = n ∧ ∀ i, i < n → P i (l.getD i z)
  | 0, _ => ⟨[], rfl, fun i hi => absurd hi (by omega)⟩
  | n + 1, h => by
    obtain ⟨l, hl, hp⟩ := choose_list z P n (fun i hi => h i (by omega))
    obtain ⟨a, ha⟩ := h n (by omega)
    refine ⟨l ++ [a], by simp [hl], fun i hi => ?_⟩
    rcases (show i < n ∨ i = n by omega) with g | rfl
    · have : (l ++ [a]).getD i z = l.getD i z := by simp [List.getD, List.getElem?_append_left (show i < l.length by omega)]
      rw [this]
      exact hp i g
    · have : (l ++ [a]).getD i z = a := by simp [List.getD, ← hl]
      rw [this]
      exact ha
section
open Go.Joins Go.Deep
theorem seg_of_ops {H : Type} {enc : TypeId × Value → H} {P : Program} {w : World} {base : Nat} {spare : Nat → Bool} {held : Bool} {t e : TypeId} {f0 f1 f2 : Field} {fuel : Nat} {cs : List Value} {x : DataW H × List MemPlace} {A : Option Addr} {len cap : Nat}
    (ht : P.underlying t = some (.slice e)) (he : P.underlying e = some (.struct #[f0, f1, f2])) (hone : oneCellFields P #[f0, f1, f2] = true) (hC : P.cellsOf e = 3)
    (t0 : P.underlying f0.type = some (.int .i64)) (t1 : P.underlying f1.type = some .string) (t2 : P.underlying f2.type = some (.int .i64))
    (h : DataW.trod enc P w base spare held fuel t cs = some x) (hcs : cs = [.slice A len cap]) :
    ∃ us : List OpV, us.length = len ∧ Seg w A (len * 3) (oCell us) ∧ len ≤ maxLen := by
  obtain ⟨o0, k0⟩ := hone_of hone 0 f0 rfl
  obtain ⟨o1, k1⟩ := hone_of hone 1 f1 rfl
  obtain ⟨o2, k2⟩ := hone_of hone 2 f2 rfl
  rcases open_slice ht h with ⟨h1, _⟩ | ⟨a, l, c, m, n, D, Pl, h1, _, hl, hm, hmm, _, hi⟩
  · rw [hcs] at h1
    simp only [List.cons.injEq, Value.slice.injEq, and_true] at h1
    obtain ⟨rfl, rfl, rfl⟩ := h1
    exact ⟨[], rfl, fun k hk => absurd hk (by omega), by omega⟩
  · rw [hcs] at h1
    simp only [List.cons.injEq, Value.slice.injEq, and_true] at h1
    obtain ⟨rfl, rfl, rfl⟩ := h1
    have hlm : len ≤ m := by rw [hmm]; split <;> omega
    obtain ⟨us, hu, hp⟩ := choose_list OpV.z (fun i u => ∀ j, j < 3 → w.cell? (a.add (i * 3 + j)) = some (u.at j)) len (fun i hil => by
      obtain ⟨cs', hc, ht'⟩ := hi i (by omega)
      rw [hC] at hc
      obtain ⟨y0, y1, y2, n', _, _, g0, g1, g2⟩ := trod_struct3 he ht'
      rw [o0, k0] at g0
      rw [o1, k1] at g1
      rw [o2, k2] at g2
      obtain ⟨v0, q0, _, _⟩ := DataW.trod_int t0 g0
      obtain ⟨v1, q1, _, _⟩ := DataW.trod_string t1 g1
      obtain ⟨v2, q2, _, _⟩ := DataW.trod_int t2 g2
      obtain ⟨_, _, hat⟩ := World.cells?_some hc
      refine ⟨⟨v0, v1, v2⟩, fun j hj => ?_⟩
      have hj2 := hat j hj
      rw [add_add] at hj2
      rw [hj2]
      rcases j with _ | _ | _ | j
      · exact take_val q0
      · exact take_val q1
      · exact take_val q2
      · omega)
    refine ⟨us, hu, seg_of_adds (fun q hq => ?_), by omega⟩
    have h4 := hp (q / 3) (by omega) (q % 3) (by omega)
    rw [show q / 3 * 3 + q % 3 = q by omega] at h4
    exact h4
end
theorem Strs.take {w : World} {A : Option Addr} {n cap : Nat} {l : List (List UInt8)} (h : Strs w (.slice A n cap) l) (k : Nat) (hk : k ≤ n) : Strs w (.slice A k cap) (l.take k) := by
  obtain ⟨B, d, h1, h2, h3, h4⟩ := h
  injection h1 with e1 e2 e3
  subst e1 e2 e3
  have hl : (l.take k).length = k := by rw [List.length_take]; omega
  exact ⟨_, _, by rw [hl], seg_take h2 k hk, fun h => by rw [hl]; have := h3 h; omega, by rw [hl]; omega⟩
/-- A script's cells, in a world in which they still lie. -/
def SmRel (n : Nat) (w : World) (u i : Value) (wr : World) : Prop := ∃ k m : Nat, u = .int .i64 m ∧ i = .int .i64 k ∧ k ≤ n ∧ k ≤ 40 ∧ m ≤ 5000 * k ∧ Below w.heap.size w wr
def SmallEnds (w : World) (e : Ending) (w' : World) : Prop := ∃ r : Bool, e = .returned (.bool r) ∧ Below w.heap.size w w'
set_option maxHeartbeats 1000000 in
theorem small_any (A : Option Addr) (n cap : Nat) (os : List OpV) (w : World) (hn : (n : Int) ≤ 9223372036854775807) (hs : Seg w A (n * 3) (oCell os)) : Calls Try.prog 20 #[.slice A n cap] w (SmallEnds w) := by
  have HS := Lib.hid hs
  clear hs
  go_enter Try.func20, Try.ntmps20
  go_wp2
  go_loopw [3, 7] (SmRel n w) (fun _ i _ => n - (intOf i).toNat)
  case atStart => exact ⟨0, 0, rfl, rfl, by omega, by omega, by omega, Below.refl _ _⟩
  case round =>
    obtain ⟨k, m, rfl, rfl, hk, hk40, hm, hB⟩ := hrel
    by_cases hlt : k < n
    · by_cases h40 : (40 : Int) ≤ k
      · go_wp2
        go_ret
        exact ⟨_, rfl, hB⟩
      · obtain ⟨b1, o1, rfl, hb1, _, q1, _⟩ := oseg HS.out k hlt
        replace q1 := (hB.cell (p := ⟨b1, o1 + k * 3 + 1, none⟩) hb1).trans q1
        have hb2 : b1 < wr.heap.size := Nat.lt_of_lt_of_le hb1 hB.size
        generalize (os.getD k OpV.z).t = t at *
        by_cases hz : (5000 : Int) < t.size
        · go_wp2
          go_ret
          exact ⟨_, rfl, hB⟩
        · have hw : IntKind.i64.wrap ((m : Int) + t.size) = ((m + t.size : Nat) : Int) := by rw [IntKind.wrap_i64]; omega
          go_wp2
          go_roundw
          case rel => exact ⟨k + 1, m + t.size, rfl, by go_num, by omega, by omega, by omega, hB⟩
          case measure => simp [intOf]; omega
    · obtain rfl : k = n := by omega
      go_wp2
      go_ret
      exact ⟨_, rfl, hB⟩
end Go.Proofs.Ytjcojgblnbhejaa
