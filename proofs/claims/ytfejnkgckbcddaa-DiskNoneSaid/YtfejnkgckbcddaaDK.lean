/- Scripts of operations: small; the examples (awake). -/
import Derived.Test.YtfejnkgckbcddaaDJ
namespace Go.Proofs.Ytfejnkgckbcddaa
open Go.ChangeShapes Go.WideShapes Go.ChangeAt Go.RowKit
attribute [local go_sem] ownAt ownUpon mixAt mixUpon

structure OpV where
  k : Int
  t : ByteArray
  n : Int
def OpV.z : OpV := ⟨0, ByteArray.empty, 0⟩
def OpV.at (o : OpV) (j : Nat) : Value := match j with
  | 0 => .int .i64 o.k
  | 1 => .string o.t
  | _ => .int .i64 o.n
def oCell (os : List OpV) (q : Nat) : Value := (os.getD (q / 3) OpV.z).at (q % 3)
theorem oseg {w : World} {A : Option Addr} {n : Nat} {os : List OpV} (h : Seg w A (n * 3) (oCell os)) (k : Nat) (hk : k < n) : ∃ b o, A = some ⟨b, o, none⟩ ∧ b < w.heap.size ∧
    w.cell? ⟨b, o + k * 3, none⟩ = some (.int .i64 (os.getD k OpV.z).k) ∧ w.cell? ⟨b, o + k * 3 + 1, none⟩ = some (.string (os.getD k OpV.z).t) ∧ w.cell? ⟨b, o + k * 3 + 2, none⟩ = some (.int .i64 (os.getD k OpV.z).n) := by
  obtain ⟨b, o, rfl, hb, h0⟩ := h (k * 3) (by omega)
  refine ⟨b, o, rfl, hb, ?_, ?_, ?_⟩
  · rw [h0, oCell, show k * 3 / 3 = k by omega, show k * 3 % 3 = 0 by omega]; rfl
  · obtain ⟨b', o', he, _, h1⟩ := h (k * 3 + 1) (by omega)
    obtain ⟨rfl, rfl⟩ : b = b' ∧ o = o' := by injection he with h; injection h with h1 h2; exact ⟨h1, h2⟩
    rw [Nat.add_assoc, h1, oCell, show (k * 3 + 1) / 3 = k by omega, show (k * 3 + 1) % 3 = 1 by omega]; rfl
  · obtain ⟨b', o', he, _, h1⟩ := h (k * 3 + 2) (by omega)
    obtain ⟨rfl, rfl⟩ : b = b' ∧ o = o' := by injection he with h; injection h with h1 h2; exact ⟨h1, h2⟩
    rw [Nat.add_assoc, h1, oCell, show (k * 3 + 2) / 3 = k by omega, show (k * 3 + 2) % 3 = 2 by omega]; rfl
/-- A script that is gone through: short enough, of strings short enough. -/
def SmallP (os : List OpV) : Prop := os.length ≤ 300 ∧ ∀ k, k < os.length → (os.getD k OpV.z).t.size ≤ 100000
def SmallRel (os : List OpV) (n : Nat) (w : World) (i : Value) (wr : World) : Prop := ∃ k : Nat, i = .int .i64 k ∧ k ≤ n ∧ (∀ j, j < k → (os.getD j OpV.z).t.size ≤ 100000) ∧ Below w.heap.size w wr
set_option maxHeartbeats 1000000 in
theorem small_loop (A : Option Addr) (n cap : Nat) (os : List OpV) (r : Bool) (w : World) (hn : os.length = n) (hs : Seg w A (n * 3) (oCell os)) (hr : r = true ↔ SmallP os) (h3 : n ≤ 300) : Calls Try.prog 8 #[.slice A n cap] w fun e w' => e = .returned (.bool r) ∧ Below w.heap.size w w' := by
  have HS := Lib.hid hs
  have HR := Lib.hid hr
  have h33 : (n : Int) ≤ 300 := by omega
  have HN := Lib.hid hn
  clear hs hr hn
  go_enter Try.func8, Try.ntmps8
  go_wp2
  go_loopw [3] (SmallRel os n w) (fun i _ => n - (intOf i).toNat)
  case atStart => exact ⟨0, rfl, by omega, fun j hj => absurd hj (by omega), Below.refl _ _⟩
  case round =>
    obtain ⟨k, rfl, hk, hall, hB⟩ := hrel
    by_cases hlt : k < n
    · obtain ⟨b1, o1, rfl, hb1, _, q1, _⟩ := oseg HS.out k hlt
      replace q1 := (hB.cell (p := ⟨b1, o1 + k * 3 + 1, none⟩) hb1).trans q1
      have hb2 : b1 < wr.heap.size := Nat.lt_of_lt_of_le hb1 hB.size
      have HA := Lib.hid hall
      by_cases hsz : (os.getD k OpV.z).t.size ≤ 100000
      · have HZ := Lib.hid hsz
        clear hall
        generalize ht : (os.getD k OpV.z).t = t at *
        have HT := Lib.hid ht
        clear ht
        have hz2 : (t.size : Int) ≤ 100000 := by omega
        go_wp2
        go_roundw
        case rel => exact ⟨k + 1, by go_num, by omega, fun j hj => by
          rcases (show j < k ∨ j = k by omega) with h | rfl
          · exact HA.out j h
          · rw [HT.out]; exact HZ.out, hB⟩
        case measure => simp [intOf]; omega
      · have hrf : r = false := by
          cases h : r
          · rfl
          · exact absurd ((HR.out.1 h).2 k (by rw [HN.out]; exact hlt)) hsz
        subst hrf
        clear hall HR
        generalize (os.getD k OpV.z).t = t at *
        have hz2 : 100000 < (t.size : Int) := by omega
        go_wp2
        go_ret
        exact ⟨rfl, hB⟩
    · obtain rfl : k = n := by omega
      obtain rfl : r = true := HR.out.2 ⟨by rw [HN.out]; exact h3, fun j hj => hall j (by rw [HN.out] at hj; exact hj)⟩
      go_wp2
      go_ret
      exact ⟨rfl, hB⟩
theorem small_any (A : Option Addr) (n cap : Nat) (os : List OpV) (w : World) (hn : os.length = n) (_hs : Seg w A (n * 3) (oCell os)) : ∃ r : Bool, (r = true ↔ SmallP os) ∧ ∀ W, Seg W A (n * 3) (oCell os) → Calls Try.prog 8 #[.slice A n cap] W fun e w' => e = .returned (.bool r) ∧ Below W.heap.size W w' := by
  by_cases h3 : n ≤ 300
  · by_cases hS : SmallP os
    · have hr : true = true ↔ SmallP os := ⟨fun _ => hS, fun _ => rfl⟩
      exact ⟨true, hr, fun W hs => small_loop A n cap os true W hn hs hr h3⟩
    · have hr : false = true ↔ SmallP os := ⟨fun h => Bool.noConfusion h, fun h => absurd h hS⟩
      exact ⟨false, hr, fun W hs => small_loop A n cap os false W hn hs hr h3⟩
  · exact ⟨false, ⟨fun h => Bool.noConfusion h, fun h => absurd h.1 (by omega)⟩, fun W _ => small_no A n cap W (by omega)⟩
end Go.Proofs.Ytfejnkgckbcddaa
