/- DiskDoes: the walk for every input; a script among the arguments, opened. -/
import Derived.Test.YtfejnkgckbcddaaDN
import Derived.Deep.Slices
import Derived.Deep.Fields
import Derived.Lib.SmallJoins
namespace Go.Proofs.Ytfejnkgckbcddaa
open Go.ChangeShapes Go.WideShapes Go.ChangeAt Go.RowKit

theorem does_no (sz : Int) (A : Option Addr) (n cap : Nat) (w : World) (h : sz < 1 ∨ (1 ≤ sz ∧ 262144 < sz)) : Calls Try.prog 3 #[.int .i64 sz, .slice A n cap] w fun e w' => e = .returned (.bool true) ∧ Below w.heap.size w w' := by
  go_enter Try.func3, Try.ntmps3
  go_wp2_with fail
  refine (newDisk_no sz _ h).mono ?_
  rintro _ w1 ⟨rfl, rfl⟩
  go_wp2_with fail
  refine (rnew_no sz _ h).mono ?_
  rintro _ w2 ⟨rfl, rfl⟩
  go_wp2_with fail
  refine (awake_any _).mono ?_
  rintro _ wz ⟨rfl, hb⟩
  go_wp2
  go_ret
  exact ⟨rfl, hb⟩
theorem does_long (sz : Int) (A : Option Addr) (n cap : Nat) (os : List OpV) (w : World) (hs : Hid (Seg w A (n * 3) (oCell os))) (HM : Hid (∀ W, Seg W A (n * 3) (oCell os) → Calls Try.prog 8 #[.slice A n cap] W fun e w' => e = .returned (.bool false) ∧ Below W.heap.size W w')) (h1 : 1 ≤ sz) (h2 : sz ≤ 262144) : Calls Try.prog 3 #[.int .i64 sz, .slice A n cap] w fun e w' => e = .returned (.bool true) ∧ Below w.heap.size w w' := by
  go_enter Try.func3, Try.ntmps3
  go_wp2_with fail
  refine (at_new (w0 := w) sz (Below.refl _ _) h1 h2).mono ?_
  rintro _ w1 ⟨g, rfl, H1⟩
  go_wp2_with fail
  refine (two_rnew sz H1 h1 h2).mono ?_
  rintro _ w2 ⟨r, rfl, H2⟩
  clear H1
  go_wp2_with fail
  refine (HM.out _ (hs.out.next H2.below)).mono ?_
  rintro _ w3 ⟨rfl, hb⟩
  replace H2 := H2.up hb
  clear hb HM
  go_wp2_with fail
  refine (awake_any _).mono ?_
  rintro _ wz ⟨rfl, hb⟩
  go_wp2
  go_ret
  exact ⟨rfl, below_step H2.below hb⟩
theorem diskDoes_walk (sz : Int) (A : Option Addr) (n cap : Nat) (os : List OpV) (w : World) {p0 : Prop} (_ : p0) (HZ : os.length = n ∧ Seg w A (n * 3) (oCell os) ∧ n ≤ maxLen) : Calls Try.prog 3 #[.int .i64 sz, .slice A n cap] w fun e w' => e = .returned (.bool true) ∧ Below w.heap.size w w' := by
  obtain ⟨hn, hs, _⟩ := HZ
  by_cases h : 1 ≤ sz ∧ sz ≤ 262144
  · obtain ⟨b, hb, HM⟩ := small_any A n cap os w hn hs
    cases b
    · exact does_long sz A n cap os w hs HM h.1 h.2
    · exact does_main sz A n cap os w hn hs HM (hb.1 rfl) h.1 h.2
  · exact does_no sz A n cap w (by omega)
theorem take_val {cs : List Value} {k : Nat} {v : Value} (h : (cs.drop k).take 1 = [v]) : cs[k]? = some v := by
  have h2 := congrArg (·[0]?) h
  simpa using h2
theorem seg_of_adds {w : World} {a : Addr} {n : Nat} {f : Nat → Value} (h : ∀ i, i < n → w.cell? (a.add i) = some (f i)) : Seg w (some a) n f := by
  intro k hk
  have h0 := h 0 (by omega)
  obtain ⟨b, off, spot⟩ := a
  have hspot : spot = none := by simpa [Addr.add] using World.cell?_spot h0
  subst hspot
  have hc : w.cell? ⟨b, off + k, none⟩ = some (f k) := by rw [← Go.WideShapes.add_plain]; exact h k hk
  exact ⟨b, off, rfl, World.block_lt_of_cell? w ⟨b, off + k, none⟩ hc, hc⟩
theorem choose_list {α : Type} (z : α) (P : Nat → α → Prop) : ∀ n : Nat, (∀ i, i < n → ∃ a, P i a) → ∃ l : List α, l.length = n ∧ ∀ i, i < n → P i (l.getD i z)
  | 0, _ => ⟨[], rfl, fun i hi => absurd hi (by omega)⟩
  | n + 1, h => by
    obtain ⟨l, hl, hp⟩ := choose_list z P n (fun i hi => h i (by omega))
    obtain ⟨a, ha⟩ := h n (by omega)
    refine ⟨l ++ [a], by simp [hl], fun i hi => ?_⟩
    rcases (show i < n ∨ i = n by omega) with g | rfl
    · have : (l ++ [a]).getD i z = l.getD i z := by simp [List.getD, List.getElem?_append_left (show i < l.length by omega)]
      rw [this]
      exact hp i g
    · have : (l ++ [a]).getD i z = a := by simp [List.getD, ← hl]
      rw [this]
      exact ha
section
open Go.Joins Go.Deep
theorem seg_of_ops {H : Type} {enc : TypeId × Value → H} {P : Program} {w : World} {base : Nat} {spare : Nat → Bool} {held : Bool} {t e : TypeId} {f0 f1 f2 : Field} {fuel : Nat} {cs : List Value} {x : DataW H × List MemPlace} {A : Option Addr} {len cap : Nat}
    (ht : P.underlying t = some (.slice e)) (he : P.underlying e = some (.struct #[f0, f1, f2])) (hone : oneCellFields P #[f0, f1, f2] = true) (hC : P.cellsOf e = 3)
    (t0 : P.underlying f0.type = some (.int .i64)) (t1 : P.underlying f1.type = some .string) (t2 : P.underlying f2.type = some (.int .i64))
    (h : DataW.trod enc P w base spare held fuel t cs = some x) (hcs : cs = [.slice A len cap]) :
    ∃ us : List OpV, us.length = len ∧ Seg w A (len * 3) (oCell us) ∧ len ≤ maxLen := by
  obtain ⟨o0, k0⟩ := hone_of hone 0 f0 rfl
  obtain ⟨o1, k1⟩ := hone_of hone 1 f1 rfl
  obtain ⟨o2, k2⟩ := hone_of hone 2 f2 rfl
  rcases open_slice ht h with ⟨h1, _⟩ | ⟨a, l, c, m, n, D, Pl, h1, _, hl, hm, hmm, _, hi⟩
  · rw [hcs] at h1
    simp only [List.cons.injEq, Value.slice.injEq, and_true] at h1
    obtain ⟨rfl, rfl, rfl⟩ := h1
    exact ⟨[], rfl, fun k hk => absurd hk (by omega), by omega⟩
  · rw [hcs] at h1
    simp only [List.cons.injEq, Value.slice.injEq, and_true] at h1
    obtain ⟨rfl, rfl, rfl⟩ := h1
    have hlm : len ≤ m := by rw [hmm]; split <;> omega
    obtain ⟨us, hu, hp⟩ := choose_list OpV.z (fun i u => ∀ j, j < 3 → w.cell? (a.add (i * 3 + j)) = some (u.at j)) len (fun i hil => by
      obtain ⟨cs', hc, ht'⟩ := hi i (by omega)
      rw [hC] at hc
      obtain ⟨y0, y1, y2, n', _, _, g0, g1, g2⟩ := trod_struct3 he ht'
      rw [o0, k0] at g0
      rw [o1, k1] at g1
      rw [o2, k2] at g2
      obtain ⟨v0, q0, _, _⟩ := DataW.trod_int t0 g0
      obtain ⟨v1, q1, _, _⟩ := DataW.trod_string t1 g1
      obtain ⟨v2, q2, _, _⟩ := DataW.trod_int t2 g2
      obtain ⟨_, _, hat⟩ := World.cells?_some hc
      refine ⟨⟨v0, v1, v2⟩, fun j hj => ?_⟩
      have hj2 := hat j hj
      rw [add_add] at hj2
      rw [hj2]
      rcases j with _ | _ | _ | j
      · exact take_val q0
      · exact take_val q1
      · exact take_val q2
      · omega)
    refine ⟨us, hu, seg_of_adds (fun q hq => ?_), by omega⟩
    have h4 := hp (q / 3) (by omega) (q % 3) (by omega)
    rw [show q / 3 * 3 + q % 3 = q by omega] at h4
    exact h4
end
end Go.Proofs.Ytfejnkgckbcddaa
