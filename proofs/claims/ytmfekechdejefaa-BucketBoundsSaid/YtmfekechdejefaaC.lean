/- Contracts of Take, Wait and New of layer 39 (bucket) and of its reference. -/
import Derived.Test.YtmfekechdejefaaB
import Derived.Test.YtmfekechdejefaaH
import Derived.Deep.DeepCutAuto
namespace Go.Proofs.Ytmfekechdejefaa
open Go.ChangeShapes Go.WideShapes Go.ChangeAt Go.RowKit

/-- What a callee leaves of the caller's newest block of four cells. -/
structure One (w w' : World) (a0 a1 a2 a3 : Value) : Prop where
  a : w'.cell? ⟨w.heap.size, 0, none⟩ = some a0 ∧ w'.cell? ⟨w.heap.size, 1, none⟩ = some a1 ∧ w'.cell? ⟨w.heap.size, 2, none⟩ = some a2 ∧ w'.cell? ⟨w.heap.size, 3, none⟩ = some a3
  fa : w'.frozen? ⟨w.heap.size, 0, none⟩ = false ∧ w'.frozen? ⟨w.heap.size, 1, none⟩ = false ∧ w'.frozen? ⟨w.heap.size, 2, none⟩ = false ∧ w'.frozen? ⟨w.heap.size, 3, none⟩ = false
  z : w.heap.size < w'.heap.size

theorem one_of {w w' : World} {a0 a1 a2 a3 : Value} {t : TypeId}
    (hb : Below (w.alloc (.cells #[a0, a1, a2, a3] t)).heap.size (w.alloc (.cells #[a0, a1, a2, a3] t)) w') :
    One w w' a0 a1 a2 a3 ∧ Below w.heap.size w w' := by
  obtain ⟨hc, hf⟩ := bcell hb
  refine ⟨⟨?_, ?_, ?_⟩, ?_⟩
  · refine ⟨?_, ?_, ?_, ?_⟩ <;> (rw [hc _ _ (by simp)]; simp [go_sem])
  · refine ⟨?_, ?_, ?_, ?_⟩ <;> (rw [hf _ _ (by simp)]; simp [go_sem])
  · have := hb.size; simp at this; omega
  · exact ((Below.refl _ w).alloc (Nat.le_refl _) _).trans (hb.mono (by simp))

def takeW (n a b c d e : Int) : BE := if e = 0 then (if n < 0 ∨ b < n then ⟨0, 0, 0, 0, 2⟩ else if c < n then ⟨0, 0, 0, 0, 17⟩ else ⟨a, b, c - n, d, 0⟩) else ⟨0, 0, 0, 0, e⟩
def takeV (r s l t n now : Int) : BE := takeW n (fillV r s l t now).r (fillV r s l t now).s (fillV r s l t now).l (fillV r s l t now).t (fillV r s l t now).e
theorem fillV_bd (r s l t now : Int) : 0 ≤ (fillV r s l t now).l ∧ (fillV r s l t now).l ≤ (fillV r s l t now).s ∧ (fillV r s l t now).s ≤ 1000000000 ∧ 0 ≤ (fillV r s l t now).r ∧ (fillV r s l t now).r ≤ 1000000000 ∧ 0 ≤ (fillV r s l t now).t ∧ (fillV r s l t now).t ≤ 1073741824 := by
  unfold fillV
  split
  · rename_i hk
    have hv : 0 ≤ r ∧ r ≤ 1000000000 ∧ 1 ≤ s ∧ s ≤ 1000000000 ∧ 0 ≤ l ∧ l ≤ s ∧ 0 ≤ t ∧ t ≤ 1073741824 := by simpa [okB] using hk
    split
    · simp
    · split
      · simp
      · obtain ⟨p1, p2⟩ := prod_bd r now t (by omega) (by omega) (by omega) (by omega) (by omega)
        simp only
        omega
  · simp

set_option maxHeartbeats 400000 in
theorem take_err (r s l t n now a b c d e : Int) (w : World) (H : Hid (∀ W, Calls Try.prog 9 #[.agg #[.int .i64 r, .int .i64 s, .int .i64 l, .int .i64 t], .int .i64 now] W fun e' w' => e' = .returned (.tuple #[.agg #[.int .i64 a, .int .i64 b, .int .i64 c, .int .i64 d], .int .i64 e]) ∧ Below W.heap.size W w'))
    (he : (e != 0) = true) :
    Calls Try.prog 11 #[.agg #[.int .i64 r, .int .i64 s, .int .i64 l, .int .i64 t], .int .i64 n, .int .i64 now] w fun e' w' => e' = .returned (.tuple #[.agg #[.int .i64 0, .int .i64 0, .int .i64 0, .int .i64 0], .int .i64 e]) ∧ Below w.heap.size w w' := by
  go_enter Try.func11, Try.ntmps11
  go_wp2_with (go_at_call 9; refine (H.out _).mono ?_; rintro e' w' ⟨rfl, hb⟩; obtain ⟨⟨⟨a0, a1, a2, a3⟩, ⟨b0, b1, b2, b3⟩, ⟨e0, e1, e2, e3⟩, ⟨f0, f1, f2, f3⟩, hz⟩, hB⟩ := two_of hb; clear hb)
  refine bodyPost_ret (v := .tuple #[.agg #[.int .i64 0, .int .i64 0, .int .i64 0, .int .i64 0], .int .i64 e]) ?_ rfl ⟨rfl, ?_⟩
  · simp [results, Try.results11, go_sem, *]
  repeat' (first | (with_reducible exact hB) | (with_reducible refine Below.setCell ?_ ?_ _) | (with_reducible refine Below.alloc ?_ ?_ _) | (with_reducible refine Below.drew ?_) | (simp; done) | omega | (simp; omega))

set_option maxHeartbeats 400000 in
theorem take_lo (r s l t n now a b c d  : Int) (w : World) (H : Hid (∀ W, Calls Try.prog 9 #[.agg #[.int .i64 r, .int .i64 s, .int .i64 l, .int .i64 t], .int .i64 now] W fun e' w' => e' = .returned (.tuple #[.agg #[.int .i64 a, .int .i64 b, .int .i64 c, .int .i64 d], .int .i64 0]) ∧ Below W.heap.size W w'))
    (g : n < 0) :
    Calls Try.prog 11 #[.agg #[.int .i64 r, .int .i64 s, .int .i64 l, .int .i64 t], .int .i64 n, .int .i64 now] w fun e' w' => e' = .returned (.tuple #[.agg #[.int .i64 0, .int .i64 0, .int .i64 0, .int .i64 0], .int .i64 2]) ∧ Below w.heap.size w w' := by
  go_enter Try.func11, Try.ntmps11
  go_wp2_with (go_at_call 9; refine (H.out _).mono ?_; rintro e' w' ⟨rfl, hb⟩; obtain ⟨⟨⟨a0, a1, a2, a3⟩, ⟨b0, b1, b2, b3⟩, ⟨e0, e1, e2, e3⟩, ⟨f0, f1, f2, f3⟩, hz⟩, hB⟩ := two_of hb; clear hb)
  refine bodyPost_ret (v := .tuple #[.agg #[.int .i64 0, .int .i64 0, .int .i64 0, .int .i64 0], .int .i64 2]) ?_ rfl ⟨rfl, ?_⟩
  · simp [results, Try.results11, go_sem, *]
  repeat' (first | (with_reducible exact hB) | (with_reducible refine Below.setCell ?_ ?_ _) | (with_reducible refine Below.alloc ?_ ?_ _) | (with_reducible refine Below.drew ?_) | (simp; done) | omega | (simp; omega))

set_option maxHeartbeats 400000 in
theorem take_hi (r s l t n now a b c d  : Int) (w : World) (H : Hid (∀ W, Calls Try.prog 9 #[.agg #[.int .i64 r, .int .i64 s, .int .i64 l, .int .i64 t], .int .i64 now] W fun e' w' => e' = .returned (.tuple #[.agg #[.int .i64 a, .int .i64 b, .int .i64 c, .int .i64 d], .int .i64 0]) ∧ Below W.heap.size W w'))
    (g0 : 0 ≤ n) (g : b < n) :
    Calls Try.prog 11 #[.agg #[.int .i64 r, .int .i64 s, .int .i64 l, .int .i64 t], .int .i64 n, .int .i64 now] w fun e' w' => e' = .returned (.tuple #[.agg #[.int .i64 0, .int .i64 0, .int .i64 0, .int .i64 0], .int .i64 2]) ∧ Below w.heap.size w w' := by
  go_enter Try.func11, Try.ntmps11
  go_wp2_with (go_at_call 9; refine (H.out _).mono ?_; rintro e' w' ⟨rfl, hb⟩; obtain ⟨⟨⟨a0, a1, a2, a3⟩, ⟨b0, b1, b2, b3⟩, ⟨e0, e1, e2, e3⟩, ⟨f0, f1, f2, f3⟩, hz⟩, hB⟩ := two_of hb; clear hb)
  refine bodyPost_ret (v := .tuple #[.agg #[.int .i64 0, .int .i64 0, .int .i64 0, .int .i64 0], .int .i64 2]) ?_ rfl ⟨rfl, ?_⟩
  · simp [results, Try.results11, go_sem, *]
  repeat' (first | (with_reducible exact hB) | (with_reducible refine Below.setCell ?_ ?_ _) | (with_reducible refine Below.alloc ?_ ?_ _) | (with_reducible refine Below.drew ?_) | (simp; done) | omega | (simp; omega))

set_option maxHeartbeats 400000 in
theorem take_thr (r s l t n now a b c d  : Int) (w : World) (H : Hid (∀ W, Calls Try.prog 9 #[.agg #[.int .i64 r, .int .i64 s, .int .i64 l, .int .i64 t], .int .i64 now] W fun e' w' => e' = .returned (.tuple #[.agg #[.int .i64 a, .int .i64 b, .int .i64 c, .int .i64 d], .int .i64 0]) ∧ Below W.heap.size W w'))
    (g0 : 0 ≤ n) (g1 : n ≤ b) (g : c < n) :
    Calls Try.prog 11 #[.agg #[.int .i64 r, .int .i64 s, .int .i64 l, .int .i64 t], .int .i64 n, .int .i64 now] w fun e' w' => e' = .returned (.tuple #[.agg #[.int .i64 0, .int .i64 0, .int .i64 0, .int .i64 0], .int .i64 17]) ∧ Below w.heap.size w w' := by
  go_enter Try.func11, Try.ntmps11
  go_wp2_with (go_at_call 9; refine (H.out _).mono ?_; rintro e' w' ⟨rfl, hb⟩; obtain ⟨⟨⟨a0, a1, a2, a3⟩, ⟨b0, b1, b2, b3⟩, ⟨e0, e1, e2, e3⟩, ⟨f0, f1, f2, f3⟩, hz⟩, hB⟩ := two_of hb; clear hb)
  refine bodyPost_ret (v := .tuple #[.agg #[.int .i64 0, .int .i64 0, .int .i64 0, .int .i64 0], .int .i64 17]) ?_ rfl ⟨rfl, ?_⟩
  · simp [results, Try.results11, go_sem, *]
  repeat' (first | (with_reducible exact hB) | (with_reducible refine Below.setCell ?_ ?_ _) | (with_reducible refine Below.alloc ?_ ?_ _) | (with_reducible refine Below.drew ?_) | (simp; done) | omega | (simp; omega))

set_option maxHeartbeats 400000 in
theorem take_ok (r s l t n now a b c d  : Int) (w : World) (H : Hid (∀ W, Calls Try.prog 9 #[.agg #[.int .i64 r, .int .i64 s, .int .i64 l, .int .i64 t], .int .i64 now] W fun e' w' => e' = .returned (.tuple #[.agg #[.int .i64 a, .int .i64 b, .int .i64 c, .int .i64 d], .int .i64 0]) ∧ Below W.heap.size W w'))
    (g0 : 0 ≤ n) (g1 : n ≤ b) (g : n ≤ c) (g2 : c ≤ 1000000000) :
    Calls Try.prog 11 #[.agg #[.int .i64 r, .int .i64 s, .int .i64 l, .int .i64 t], .int .i64 n, .int .i64 now] w fun e' w' => e' = .returned (.tuple #[.agg #[.int .i64 a, .int .i64 b, .int .i64 (c - n), .int .i64 d], .int .i64 0]) ∧ Below w.heap.size w w' := by
  go_enter Try.func11, Try.ntmps11
  go_wp2_with fail
  refine (H.out _).mono ?_
  rintro e' w' ⟨rfl, hb⟩
  have B3 := ((Box.new w 23 #[.int .i64 r, .int .i64 s, .int .i64 l, .int .i64 t]).alloc (.cells #[.int .i64 0, .int .i64 0, .int .i64 0, .int .i64 0] 23)).next hb
  have B6 := (Box.new (w.alloc (.cells #[.int .i64 r, .int .i64 s, .int .i64 l, .int .i64 t] 23)) 23 #[.int .i64 0, .int .i64 0, .int .i64 0, .int .i64 0]).next hb
  have hB := below_next (((Below.refl _ w).alloc (Nat.le_refl _) _).alloc (by simp) _) (by simp; omega) hb
  simp only [World.size_alloc] at B6
  clear hb
  obtain ⟨c0, c1, c2, c3⟩ := B3.cells4
  obtain ⟨f0, f1, f2, f3⟩ := B3.frozen4
  go_upto_region 2 with fail
  refine wp_forget (fun w2 => Box w2 w.heap.size 23 #[.int .i64 a, .int .i64 b, .int .i64 c, .int .i64 d] ∧ Box w2 (w.heap.size + 1) 23 #[.int .i64 0, .int .i64 0, .int .i64 0, .int .i64 0] ∧ Below w.heap.size w w2) ⟨B3.set4, B6.far4 (by omega) _ _ _ _, below_set4 hB (Nat.le_refl _) _ _ _ _⟩ ?_
  clear B3 B6 hB c0 c1 c2 c3 f0 f1 f2 f3
  rintro w2 ⟨B3, B6, hB⟩
  have z := B6.lt
  obtain ⟨c0, c1, c2, c3⟩ := B3.cells4
  obtain ⟨f0, f1, f2, f3⟩ := B3.frozen4
  obtain ⟨d0, d1, d2, d3⟩ := B6.cells4
  obtain ⟨e0, e1, e2, e3⟩ := B6.frozen4
  go_wp2
  refine bodyPost_ret (v := .tuple #[.agg #[.int .i64 a, .int .i64 b, .int .i64 (c - n), .int .i64 d], .int .i64 0]) ?_ rfl ⟨rfl, ?_⟩
  · simp [results, Try.results11, go_sem, *]
  exact below_set4 (hB.setCell (Nat.le_refl _) _) (by simp) _ _ _ _

theorem take_any (r s l t n now : Int) (w : World) :
    Calls Try.prog 11 #[.agg #[.int .i64 r, .int .i64 s, .int .i64 l, .int .i64 t], .int .i64 n, .int .i64 now] w fun e w' => e = .returned (.tuple #[.agg #[.int .i64 (takeV r s l t n now).r, .int .i64 (takeV r s l t n now).s, .int .i64 (takeV r s l t n now).l, .int .i64 (takeV r s l t n now).t], .int .i64 (takeV r s l t n now).e]) ∧ Below w.heap.size w w' := by
  unfold takeV
  have hbd := fillV_bd r s l t now
  have H : Hid (∀ W, _) := fun W => fill_any r s l t now W
  generalize fillV r s l t now = x at *
  obtain ⟨a, b, c, d, e⟩ := x
  simp only at hbd H ⊢
  by_cases he : e = 0
  · subst he
    by_cases g1 : n < 0
    · rw [show takeW n a b c d 0 = ⟨0, 0, 0, 0, 2⟩ by simp [takeW, g1]]
      exact take_lo r s l t n now a b c d w H g1
    · by_cases g2 : b < n
      · rw [show takeW n a b c d 0 = ⟨0, 0, 0, 0, 2⟩ by simp [takeW, g2]]
        exact take_hi r s l t n now a b c d w H (by omega) g2
      · by_cases g3 : c < n
        · rw [show takeW n a b c d 0 = ⟨0, 0, 0, 0, 17⟩ by simp [takeW, g1, g2, g3]]
          exact take_thr r s l t n now a b c d w H (by omega) (by omega) g3
        · rw [show takeW n a b c d 0 = ⟨a, b, c - n, d, 0⟩ by simp [takeW, g1, g2, g3]]
          exact take_ok r s l t n now a b c d w H (by omega) (by omega) (by omega) (by omega)
  · rw [show takeW n a b c d e = ⟨0, 0, 0, 0, e⟩ by simp [takeW, he]]
    exact take_err r s l t n now a b c d e w H (by simp [he])

set_option maxHeartbeats 400000 in
theorem rtake_err (r s l t n now a b c d e : Int) (w : World) (H : Hid (∀ W, Calls Try.prog 10 #[.agg #[.int .i64 r, .int .i64 s, .int .i64 l, .int .i64 t], .int .i64 now] W fun e' w' => e' = .returned (.tuple #[.agg #[.int .i64 a, .int .i64 b, .int .i64 c, .int .i64 d], .int .i64 e]) ∧ Below W.heap.size W w'))
    (he : (e != 0) = true) :
    Calls Try.prog 12 #[.agg #[.int .i64 r, .int .i64 s, .int .i64 l, .int .i64 t], .int .i64 n, .int .i64 now] w fun e' w' => e' = .returned (.tuple #[.agg #[.int .i64 0, .int .i64 0, .int .i64 0, .int .i64 0], .int .i64 e]) ∧ Below w.heap.size w w' := by
  go_enter Try.func12, Try.ntmps12
  go_wp2_with (go_at_call 10; refine (H.out _).mono ?_; rintro e' w' ⟨rfl, hb⟩; obtain ⟨⟨⟨a0, a1, a2, a3⟩, ⟨b0, b1, b2, b3⟩, ⟨e0, e1, e2, e3⟩, ⟨f0, f1, f2, f3⟩, hz⟩, hB⟩ := two_of hb; clear hb)
  refine bodyPost_ret (v := .tuple #[.agg #[.int .i64 0, .int .i64 0, .int .i64 0, .int .i64 0], .int .i64 e]) ?_ rfl ⟨rfl, ?_⟩
  · simp [results, Try.results12, go_sem, *]
  repeat' (first | (with_reducible exact hB) | (with_reducible refine Below.setCell ?_ ?_ _) | (with_reducible refine Below.alloc ?_ ?_ _) | (with_reducible refine Below.drew ?_) | (simp; done) | omega | (simp; omega))

set_option maxHeartbeats 400000 in
theorem rtake_lo (r s l t n now a b c d  : Int) (w : World) (H : Hid (∀ W, Calls Try.prog 10 #[.agg #[.int .i64 r, .int .i64 s, .int .i64 l, .int .i64 t], .int .i64 now] W fun e' w' => e' = .returned (.tuple #[.agg #[.int .i64 a, .int .i64 b, .int .i64 c, .int .i64 d], .int .i64 0]) ∧ Below W.heap.size W w'))
    (g : n < 0) :
    Calls Try.prog 12 #[.agg #[.int .i64 r, .int .i64 s, .int .i64 l, .int .i64 t], .int .i64 n, .int .i64 now] w fun e' w' => e' = .returned (.tuple #[.agg #[.int .i64 0, .int .i64 0, .int .i64 0, .int .i64 0], .int .i64 2]) ∧ Below w.heap.size w w' := by
  go_enter Try.func12, Try.ntmps12
  go_wp2_with (go_at_call 10; refine (H.out _).mono ?_; rintro e' w' ⟨rfl, hb⟩; obtain ⟨⟨⟨a0, a1, a2, a3⟩, ⟨b0, b1, b2, b3⟩, ⟨e0, e1, e2, e3⟩, ⟨f0, f1, f2, f3⟩, hz⟩, hB⟩ := two_of hb; clear hb)
  refine bodyPost_ret (v := .tuple #[.agg #[.int .i64 0, .int .i64 0, .int .i64 0, .int .i64 0], .int .i64 2]) ?_ rfl ⟨rfl, ?_⟩
  · simp [results, Try.results12, go_sem, *]
  repeat' (first | (with_reducible exact hB) | (with_reducible refine Below.setCell ?_ ?_ _) | (with_reducible refine Below.alloc ?_ ?_ _) | (with_reducible refine Below.drew ?_) | (simp; done) | omega | (simp; omega))

set_option maxHeartbeats 400000 in
theorem rtake_hi (r s l t n now a b c d  : Int) (w : World) (H : Hid (∀ W, Calls Try.prog 10 #[.agg #[.int .i64 r, .int .i64 s, .int .i64 l, .int .i64 t], .int .i64 now] W fun e' w' => e' = .returned (.tuple #[.agg #[.int .i64 a, .int .i64 b, .int .i64 c, .int .i64 d], .int .i64 0]) ∧ Below W.heap.size W w'))
    (g0 : 0 ≤ n) (g : b < n) :
    Calls Try.prog 12 #[.agg #[.int .i64 r, .int .i64 s, .int .i64 l, .int .i64 t], .int .i64 n, .int .i64 now] w fun e' w' => e' = .returned (.tuple #[.agg #[.int .i64 0, .int .i64 0, .int .i64 0, .int .i64 0], .int .i64 2]) ∧ Below w.heap.size w w' := by
  go_enter Try.func12, Try.ntmps12
  go_wp2_with (go_at_call 10; refine (H.out _).mono ?_; rintro e' w' ⟨rfl, hb⟩; obtain ⟨⟨⟨a0, a1, a2, a3⟩, ⟨b0, b1, b2, b3⟩, ⟨e0, e1, e2, e3⟩, ⟨f0, f1, f2, f3⟩, hz⟩, hB⟩ := two_of hb; clear hb)
  refine bodyPost_ret (v := .tuple #[.agg #[.int .i64 0, .int .i64 0, .int .i64 0, .int .i64 0], .int .i64 2]) ?_ rfl ⟨rfl, ?_⟩
  · simp [results, Try.results12, go_sem, *]
  repeat' (first | (with_reducible exact hB) | (with_reducible refine Below.setCell ?_ ?_ _) | (with_reducible refine Below.alloc ?_ ?_ _) | (with_reducible refine Below.drew ?_) | (simp; done) | omega | (simp; omega))

set_option maxHeartbeats 400000 in
theorem rtake_thr (r s l t n now a b c d  : Int) (w : World) (H : Hid (∀ W, Calls Try.prog 10 #[.agg #[.int .i64 r, .int .i64 s, .int .i64 l, .int .i64 t], .int .i64 now] W fun e' w' => e' = .returned (.tuple #[.agg #[.int .i64 a, .int .i64 b, .int .i64 c, .int .i64 d], .int .i64 0]) ∧ Below W.heap.size W w'))
    (g0 : 0 ≤ n) (g1 : n ≤ b) (g : c < n) :
    Calls Try.prog 12 #[.agg #[.int .i64 r, .int .i64 s, .int .i64 l, .int .i64 t], .int .i64 n, .int .i64 now] w fun e' w' => e' = .returned (.tuple #[.agg #[.int .i64 0, .int .i64 0, .int .i64 0, .int .i64 0], .int .i64 17]) ∧ Below w.heap.size w w' := by
  go_enter Try.func12, Try.ntmps12
  go_wp2_with (go_at_call 10; refine (H.out _).mono ?_; rintro e' w' ⟨rfl, hb⟩; obtain ⟨⟨⟨a0, a1, a2, a3⟩, ⟨b0, b1, b2, b3⟩, ⟨e0, e1, e2, e3⟩, ⟨f0, f1, f2, f3⟩, hz⟩, hB⟩ := two_of hb; clear hb)
  refine bodyPost_ret (v := .tuple #[.agg #[.int .i64 0, .int .i64 0, .int .i64 0, .int .i64 0], .int .i64 17]) ?_ rfl ⟨rfl, ?_⟩
  · simp [results, Try.results12, go_sem, *]
  repeat' (first | (with_reducible exact hB) | (with_reducible refine Below.setCell ?_ ?_ _) | (with_reducible refine Below.alloc ?_ ?_ _) | (with_reducible refine Below.drew ?_) | (simp; done) | omega | (simp; omega))

set_option maxHeartbeats 2000000 in
theorem rtake_ok (r s l t n now a b c d  : Int) (w : World) (H : Hid (∀ W, Calls Try.prog 10 #[.agg #[.int .i64 r, .int .i64 s, .int .i64 l, .int .i64 t], .int .i64 now] W fun e' w' => e' = .returned (.tuple #[.agg #[.int .i64 a, .int .i64 b, .int .i64 c, .int .i64 d], .int .i64 0]) ∧ Below W.heap.size W w'))
    (g0 : 0 ≤ n) (g1 : n ≤ b) (g : n ≤ c) (g2 : c ≤ 1000000000) :
    Calls Try.prog 12 #[.agg #[.int .i64 r, .int .i64 s, .int .i64 l, .int .i64 t], .int .i64 n, .int .i64 now] w fun e' w' => e' = .returned (.tuple #[.agg #[.int .i64 a, .int .i64 b, .int .i64 (c - n), .int .i64 d], .int .i64 0]) ∧ Below w.heap.size w w' := by
  go_enter Try.func12, Try.ntmps12
  go_wp2_with (go_at_call 10; refine (H.out _).mono ?_; rintro e' w' ⟨rfl, hb⟩; obtain ⟨⟨⟨a0, a1, a2, a3⟩, ⟨b0, b1, b2, b3⟩, ⟨e0, e1, e2, e3⟩, ⟨f0, f1, f2, f3⟩, hz⟩, hB⟩ := two_of hb; clear hb)
  refine bodyPost_ret (v := .tuple #[.agg #[.int .i64 a, .int .i64 b, .int .i64 (c - n), .int .i64 d], .int .i64 0]) ?_ rfl ⟨rfl, ?_⟩
  · simp [results, Try.results12, go_sem, *]
  repeat' (first | (with_reducible exact hB) | (with_reducible refine Below.setCell ?_ ?_ _) | (with_reducible refine Below.alloc ?_ ?_ _) | (with_reducible refine Below.drew ?_) | (simp; done) | omega | (simp; omega))

theorem rtake_any (r s l t n now : Int) (w : World) :
    Calls Try.prog 12 #[.agg #[.int .i64 r, .int .i64 s, .int .i64 l, .int .i64 t], .int .i64 n, .int .i64 now] w fun e w' => e = .returned (.tuple #[.agg #[.int .i64 (takeV r s l t n now).r, .int .i64 (takeV r s l t n now).s, .int .i64 (takeV r s l t n now).l, .int .i64 (takeV r s l t n now).t], .int .i64 (takeV r s l t n now).e]) ∧ Below w.heap.size w w' := by
  unfold takeV
  have hbd := fillV_bd r s l t now
  have H : Hid (∀ W, _) := fun W => rfill_any r s l t now W
  generalize fillV r s l t now = x at *
  obtain ⟨a, b, c, d, e⟩ := x
  simp only at hbd H ⊢
  by_cases he : e = 0
  · subst he
    by_cases g1 : n < 0
    · rw [show takeW n a b c d 0 = ⟨0, 0, 0, 0, 2⟩ by simp [takeW, g1]]
      exact rtake_lo r s l t n now a b c d w H g1
    · by_cases g2 : b < n
      · rw [show takeW n a b c d 0 = ⟨0, 0, 0, 0, 2⟩ by simp [takeW, g2]]
        exact rtake_hi r s l t n now a b c d w H (by omega) g2
      · by_cases g3 : c < n
        · rw [show takeW n a b c d 0 = ⟨0, 0, 0, 0, 17⟩ by simp [takeW, g1, g2, g3]]
          exact rtake_thr r s l t n now a b c d w H (by omega) (by omega) g3
        · rw [show takeW n a b c d 0 = ⟨a, b, c - n, d, 0⟩ by simp [takeW, g1, g2, g3]]
          exact rtake_ok r s l t n now a b c d w H (by omega) (by omega) (by omega) (by omega)
  · rw [show takeW n a b c d e = ⟨0, 0, 0, 0, e⟩ by simp [takeW, he]]
    exact rtake_err r s l t n now a b c d e w H (by simp [he])

structure NE where
  (v e : Int)
def waitW (n now a b c e : Int) : NE := if e = 0 then (if n < 0 ∨ b < n then ⟨0, 2⟩ else if n ≤ c then ⟨0, 0⟩ else if a = 0 then ⟨0, 5⟩ else if 1073741824 < now + (n - c + a - 1) / a then ⟨0, 5⟩ else ⟨(n - c + a - 1) / a, 0⟩) else ⟨0, e⟩
def waitV (r s l t n now : Int) : NE := waitW n now (fillV r s l t now).r (fillV r s l t now).s (fillV r s l t now).l (fillV r s l t now).e
theorem fillV_now (r s l t now : Int) (h : (fillV r s l t now).e = 0) : 0 ≤ now ∧ now ≤ 1073741824 := by
  unfold fillV at h
  split at h
  · split at h
    · simp at h
    · omega
  · simp at h

set_option maxHeartbeats 400000 in
theorem wait_err (r s l t n now a b c d e : Int) (w : World) (H : Hid (∀ W, Calls Try.prog 9 #[.agg #[.int .i64 r, .int .i64 s, .int .i64 l, .int .i64 t], .int .i64 now] W fun e' w' => e' = .returned (.tuple #[.agg #[.int .i64 a, .int .i64 b, .int .i64 c, .int .i64 d], .int .i64 e]) ∧ Below W.heap.size W w'))
    (he : (e != 0) = true) :
    Calls Try.prog 13 #[.agg #[.int .i64 r, .int .i64 s, .int .i64 l, .int .i64 t], .int .i64 n, .int .i64 now] w fun e' w' => e' = .returned (.tuple #[.int .i64 0, .int .i64 e]) ∧ Below w.heap.size w w' := by
  go_enter Try.func13, Try.ntmps13
  go_wp2_with (go_at_call 9; refine (H.out _).mono ?_; rintro e' w' ⟨rfl, hb⟩; obtain ⟨⟨⟨a0, a1, a2, a3⟩, ⟨e0, e1, e2, e3⟩, hz⟩, hB⟩ := one_of hb; clear hb)
  go_ret2
  refine ⟨rfl, ?_⟩
  repeat' (first | (with_reducible exact hB) | (with_reducible refine Below.setCell ?_ ?_ _) | (with_reducible refine Below.alloc ?_ ?_ _) | (with_reducible refine Below.drew ?_) | (simp; done) | omega | (simp; omega))

set_option maxHeartbeats 400000 in
theorem wait_lo (r s l t n now a b c d  : Int) (w : World) (H : Hid (∀ W, Calls Try.prog 9 #[.agg #[.int .i64 r, .int .i64 s, .int .i64 l, .int .i64 t], .int .i64 now] W fun e' w' => e' = .returned (.tuple #[.agg #[.int .i64 a, .int .i64 b, .int .i64 c, .int .i64 d], .int .i64 0]) ∧ Below W.heap.size W w'))
    (g : n < 0) :
    Calls Try.prog 13 #[.agg #[.int .i64 r, .int .i64 s, .int .i64 l, .int .i64 t], .int .i64 n, .int .i64 now] w fun e' w' => e' = .returned (.tuple #[.int .i64 0, .int .i64 2]) ∧ Below w.heap.size w w' := by
  go_enter Try.func13, Try.ntmps13
  go_wp2_with (go_at_call 9; refine (H.out _).mono ?_; rintro e' w' ⟨rfl, hb⟩; obtain ⟨⟨⟨a0, a1, a2, a3⟩, ⟨e0, e1, e2, e3⟩, hz⟩, hB⟩ := one_of hb; clear hb)
  go_ret2
  refine ⟨rfl, ?_⟩
  repeat' (first | (with_reducible exact hB) | (with_reducible refine Below.setCell ?_ ?_ _) | (with_reducible refine Below.alloc ?_ ?_ _) | (with_reducible refine Below.drew ?_) | (simp; done) | omega | (simp; omega))

set_option maxHeartbeats 400000 in
theorem wait_hi (r s l t n now a b c d  : Int) (w : World) (H : Hid (∀ W, Calls Try.prog 9 #[.agg #[.int .i64 r, .int .i64 s, .int .i64 l, .int .i64 t], .int .i64 now] W fun e' w' => e' = .returned (.tuple #[.agg #[.int .i64 a, .int .i64 b, .int .i64 c, .int .i64 d], .int .i64 0]) ∧ Below W.heap.size W w'))
    (g0 : 0 ≤ n) (g : b < n) :
    Calls Try.prog 13 #[.agg #[.int .i64 r, .int .i64 s, .int .i64 l, .int .i64 t], .int .i64 n, .int .i64 now] w fun e' w' => e' = .returned (.tuple #[.int .i64 0, .int .i64 2]) ∧ Below w.heap.size w w' := by
  go_enter Try.func13, Try.ntmps13
  go_wp2_with (go_at_call 9; refine (H.out _).mono ?_; rintro e' w' ⟨rfl, hb⟩; obtain ⟨⟨⟨a0, a1, a2, a3⟩, ⟨e0, e1, e2, e3⟩, hz⟩, hB⟩ := one_of hb; clear hb)
  go_ret2
  refine ⟨rfl, ?_⟩
  repeat' (first | (with_reducible exact hB) | (with_reducible refine Below.setCell ?_ ?_ _) | (with_reducible refine Below.alloc ?_ ?_ _) | (with_reducible refine Below.drew ?_) | (simp; done) | omega | (simp; omega))

set_option maxHeartbeats 400000 in
theorem wait_now (r s l t n now a b c d  : Int) (w : World) (H : Hid (∀ W, Calls Try.prog 9 #[.agg #[.int .i64 r, .int .i64 s, .int .i64 l, .int .i64 t], .int .i64 now] W fun e' w' => e' = .returned (.tuple #[.agg #[.int .i64 a, .int .i64 b, .int .i64 c, .int .i64 d], .int .i64 0]) ∧ Below W.heap.size W w'))
    (g0 : 0 ≤ n) (g1 : n ≤ b) (g : n ≤ c) :
    Calls Try.prog 13 #[.agg #[.int .i64 r, .int .i64 s, .int .i64 l, .int .i64 t], .int .i64 n, .int .i64 now] w fun e' w' => e' = .returned (.tuple #[.int .i64 0, .int .i64 0]) ∧ Below w.heap.size w w' := by
  go_enter Try.func13, Try.ntmps13
  go_wp2_with (go_at_call 9; refine (H.out _).mono ?_; rintro e' w' ⟨rfl, hb⟩; obtain ⟨⟨⟨a0, a1, a2, a3⟩, ⟨e0, e1, e2, e3⟩, hz⟩, hB⟩ := one_of hb; clear hb)
  go_ret2
  refine ⟨rfl, ?_⟩
  repeat' (first | (with_reducible exact hB) | (with_reducible refine Below.setCell ?_ ?_ _) | (with_reducible refine Below.alloc ?_ ?_ _) | (with_reducible refine Below.drew ?_) | (simp; done) | omega | (simp; omega))

set_option maxHeartbeats 400000 in
theorem wait_zero (r s l t n now a b c d  : Int) (w : World) (H : Hid (∀ W, Calls Try.prog 9 #[.agg #[.int .i64 r, .int .i64 s, .int .i64 l, .int .i64 t], .int .i64 now] W fun e' w' => e' = .returned (.tuple #[.agg #[.int .i64 a, .int .i64 b, .int .i64 c, .int .i64 d], .int .i64 0]) ∧ Below W.heap.size W w'))
    (g0 : 0 ≤ n) (g1 : n ≤ b) (g : c < n) (ga : (a == 0) = true) :
    Calls Try.prog 13 #[.agg #[.int .i64 r, .int .i64 s, .int .i64 l, .int .i64 t], .int .i64 n, .int .i64 now] w fun e' w' => e' = .returned (.tuple #[.int .i64 0, .int .i64 5]) ∧ Below w.heap.size w w' := by
  go_enter Try.func13, Try.ntmps13
  go_wp2_with (go_at_call 9; refine (H.out _).mono ?_; rintro e' w' ⟨rfl, hb⟩; obtain ⟨⟨⟨a0, a1, a2, a3⟩, ⟨e0, e1, e2, e3⟩, hz⟩, hB⟩ := one_of hb; clear hb)
  go_ret2
  refine ⟨rfl, ?_⟩
  repeat' (first | (with_reducible exact hB) | (with_reducible refine Below.setCell ?_ ?_ _) | (with_reducible refine Below.alloc ?_ ?_ _) | (with_reducible refine Below.drew ?_) | (simp; done) | omega | (simp; omega))

set_option maxHeartbeats 400000 in
theorem wait_far (r s l t n now a b c d  : Int) (w : World) (H : Hid (∀ W, Calls Try.prog 9 #[.agg #[.int .i64 r, .int .i64 s, .int .i64 l, .int .i64 t], .int .i64 now] W fun e' w' => e' = .returned (.tuple #[.agg #[.int .i64 a, .int .i64 b, .int .i64 c, .int .i64 d], .int .i64 0]) ∧ Below W.heap.size W w'))
    (g0 : 0 ≤ n) (g1 : n ≤ b) (gb : b ≤ 1000000000) (gc : 0 ≤ c) (g : c < n) (ga : 0 < a) (gA : a ≤ 1000000000) (gn : 0 ≤ now) (gN : now ≤ 1073741824) (gf : 1073741824 < now + (n - c + a - 1) / a) :
    Calls Try.prog 13 #[.agg #[.int .i64 r, .int .i64 s, .int .i64 l, .int .i64 t], .int .i64 n, .int .i64 now] w fun e' w' => e' = .returned (.tuple #[.int .i64 0, .int .i64 5]) ∧ Below w.heap.size w w' := by
  have q1 : 0 ≤ (n - c + a - 1) / a := Int.ediv_nonneg (by omega) (by omega)
  have q2 : (n - c + a - 1) / a ≤ n - c + a - 1 := Int.ediv_le_self _ (by omega)
  go_enter Try.func13, Try.ntmps13
  go_wp2_with (go_at_call 9; refine (H.out _).mono ?_; rintro e' w' ⟨rfl, hb⟩; obtain ⟨⟨⟨a0, a1, a2, a3⟩, ⟨e0, e1, e2, e3⟩, hz⟩, hB⟩ := one_of hb; clear hb)
  go_ret2
  refine ⟨rfl, ?_⟩
  repeat' (first | (with_reducible exact hB) | (with_reducible refine Below.setCell ?_ ?_ _) | (with_reducible refine Below.alloc ?_ ?_ _) | (with_reducible refine Below.drew ?_) | (simp; done) | omega | (simp; omega))

set_option maxHeartbeats 400000 in
theorem wait_ok (r s l t n now a b c d  : Int) (w : World) (H : Hid (∀ W, Calls Try.prog 9 #[.agg #[.int .i64 r, .int .i64 s, .int .i64 l, .int .i64 t], .int .i64 now] W fun e' w' => e' = .returned (.tuple #[.agg #[.int .i64 a, .int .i64 b, .int .i64 c, .int .i64 d], .int .i64 0]) ∧ Below W.heap.size W w'))
    (g0 : 0 ≤ n) (g1 : n ≤ b) (gb : b ≤ 1000000000) (gc : 0 ≤ c) (g : c < n) (ga : 0 < a) (gA : a ≤ 1000000000) (gn : 0 ≤ now) (gN : now ≤ 1073741824) (gf : now + (n - c + a - 1) / a ≤ 1073741824) :
    Calls Try.prog 13 #[.agg #[.int .i64 r, .int .i64 s, .int .i64 l, .int .i64 t], .int .i64 n, .int .i64 now] w fun e' w' => e' = .returned (.tuple #[.int .i64 ((n - c + a - 1) / a), .int .i64 0]) ∧ Below w.heap.size w w' := by
  have q1 : 0 ≤ (n - c + a - 1) / a := Int.ediv_nonneg (by omega) (by omega)
  have q2 : (n - c + a - 1) / a ≤ n - c + a - 1 := Int.ediv_le_self _ (by omega)
  go_enter Try.func13, Try.ntmps13
  go_wp2_with (go_at_call 9; refine (H.out _).mono ?_; rintro e' w' ⟨rfl, hb⟩; obtain ⟨⟨⟨a0, a1, a2, a3⟩, ⟨e0, e1, e2, e3⟩, hz⟩, hB⟩ := one_of hb; clear hb)
  go_ret2
  refine ⟨rfl, ?_⟩
  repeat' (first | (with_reducible exact hB) | (with_reducible refine Below.setCell ?_ ?_ _) | (with_reducible refine Below.alloc ?_ ?_ _) | (with_reducible refine Below.drew ?_) | (simp; done) | omega | (simp; omega))

theorem wait_any (r s l t n now : Int) (w : World) :
    Calls Try.prog 13 #[.agg #[.int .i64 r, .int .i64 s, .int .i64 l, .int .i64 t], .int .i64 n, .int .i64 now] w fun e w' => e = .returned (.tuple #[.int .i64 (waitV r s l t n now).v, .int .i64 (waitV r s l t n now).e]) ∧ Below w.heap.size w w' := by
  unfold waitV
  have hbd := fillV_bd r s l t now
  have hnow := fillV_now r s l t now
  have H : Hid (∀ W, _) := fun W => fill_any r s l t now W
  generalize fillV r s l t now = x at *
  obtain ⟨a, b, c, d, e⟩ := x
  simp only at hbd hnow H ⊢
  by_cases he : e = 0
  · subst he
    have hnow := hnow rfl
    by_cases g1 : n < 0
    · rw [show waitW n now a b c 0 = ⟨0, 2⟩ by simp [waitW, g1]]
      exact wait_lo r s l t n now a b c d w H g1
    · by_cases g2 : b < n
      · rw [show waitW n now a b c 0 = ⟨0, 2⟩ by simp [waitW, g2]]
        exact wait_hi r s l t n now a b c d w H (by omega) g2
      · by_cases g3 : n ≤ c
        · rw [show waitW n now a b c 0 = ⟨0, 0⟩ by simp [waitW, g1, g2, g3]]
          exact wait_now r s l t n now a b c d w H (by omega) (by omega) g3
        · by_cases g4 : a = 0
          · rw [show waitW n now a b c 0 = ⟨0, 5⟩ by simp [waitW, g1, g2, g3, g4]]
            exact wait_zero r s l t n now a b c d w H (by omega) (by omega) (by omega) (by simp [g4])
          · by_cases g5 : 1073741824 < now + (n - c + a - 1) / a
            · rw [show waitW n now a b c 0 = ⟨0, 5⟩ by simp [waitW, g1, g2, g3, g4, g5]]
              exact wait_far r s l t n now a b c d w H (by omega) (by omega) (by omega) (by omega) (by omega) (by omega) (by omega) (by omega) (by omega) g5
            · rw [show waitW n now a b c 0 = ⟨(n - c + a - 1) / a, 0⟩ by simp [waitW, g1, g2, g3, g4, g5]]
              exact wait_ok r s l t n now a b c d w H (by omega) (by omega) (by omega) (by omega) (by omega) (by omega) (by omega) (by omega) (by omega) (by omega)
  · rw [show waitW n now a b c e = ⟨0, e⟩ by simp [waitW, he]]
    exact wait_err r s l t n now a b c d e w H (by simp [he])

set_option maxHeartbeats 400000 in
theorem rwait_err (r s l t n now a b c d e : Int) (w : World) (H : Hid (∀ W, Calls Try.prog 10 #[.agg #[.int .i64 r, .int .i64 s, .int .i64 l, .int .i64 t], .int .i64 now] W fun e' w' => e' = .returned (.tuple #[.agg #[.int .i64 a, .int .i64 b, .int .i64 c, .int .i64 d], .int .i64 e]) ∧ Below W.heap.size W w'))
    (he : (e != 0) = true) :
    Calls Try.prog 14 #[.agg #[.int .i64 r, .int .i64 s, .int .i64 l, .int .i64 t], .int .i64 n, .int .i64 now] w fun e' w' => e' = .returned (.tuple #[.int .i64 0, .int .i64 e]) ∧ Below w.heap.size w w' := by
  go_enter Try.func14, Try.ntmps14
  go_wp2_with (go_at_call 10; refine (H.out _).mono ?_; rintro e' w' ⟨rfl, hb⟩; obtain ⟨⟨⟨a0, a1, a2, a3⟩, ⟨e0, e1, e2, e3⟩, hz⟩, hB⟩ := one_of hb; clear hb)
  go_ret2
  refine ⟨rfl, ?_⟩
  repeat' (first | (with_reducible exact hB) | (with_reducible refine Below.setCell ?_ ?_ _) | (with_reducible refine Below.alloc ?_ ?_ _) | (with_reducible refine Below.drew ?_) | (simp; done) | omega | (simp; omega))

set_option maxHeartbeats 400000 in
theorem rwait_lo (r s l t n now a b c d  : Int) (w : World) (H : Hid (∀ W, Calls Try.prog 10 #[.agg #[.int .i64 r, .int .i64 s, .int .i64 l, .int .i64 t], .int .i64 now] W fun e' w' => e' = .returned (.tuple #[.agg #[.int .i64 a, .int .i64 b, .int .i64 c, .int .i64 d], .int .i64 0]) ∧ Below W.heap.size W w'))
    (g : n < 0) :
    Calls Try.prog 14 #[.agg #[.int .i64 r, .int .i64 s, .int .i64 l, .int .i64 t], .int .i64 n, .int .i64 now] w fun e' w' => e' = .returned (.tuple #[.int .i64 0, .int .i64 2]) ∧ Below w.heap.size w w' := by
  go_enter Try.func14, Try.ntmps14
  go_wp2_with (go_at_call 10; refine (H.out _).mono ?_; rintro e' w' ⟨rfl, hb⟩; obtain ⟨⟨⟨a0, a1, a2, a3⟩, ⟨e0, e1, e2, e3⟩, hz⟩, hB⟩ := one_of hb; clear hb)
  go_ret2
  refine ⟨rfl, ?_⟩
  repeat' (first | (with_reducible exact hB) | (with_reducible refine Below.setCell ?_ ?_ _) | (with_reducible refine Below.alloc ?_ ?_ _) | (with_reducible refine Below.drew ?_) | (simp; done) | omega | (simp; omega))

set_option maxHeartbeats 400000 in
theorem rwait_hi (r s l t n now a b c d  : Int) (w : World) (H : Hid (∀ W, Calls Try.prog 10 #[.agg #[.int .i64 r, .int .i64 s, .int .i64 l, .int .i64 t], .int .i64 now] W fun e' w' => e' = .returned (.tuple #[.agg #[.int .i64 a, .int .i64 b, .int .i64 c, .int .i64 d], .int .i64 0]) ∧ Below W.heap.size W w'))
    (g0 : 0 ≤ n) (g : b < n) :
    Calls Try.prog 14 #[.agg #[.int .i64 r, .int .i64 s, .int .i64 l, .int .i64 t], .int .i64 n, .int .i64 now] w fun e' w' => e' = .returned (.tuple #[.int .i64 0, .int .i64 2]) ∧ Below w.heap.size w w' := by
  go_enter Try.func14, Try.ntmps14
  go_wp2_with (go_at_call 10; refine (H.out _).mono ?_; rintro e' w' ⟨rfl, hb⟩; obtain ⟨⟨⟨a0, a1, a2, a3⟩, ⟨e0, e1, e2, e3⟩, hz⟩, hB⟩ := one_of hb; clear hb)
  go_ret2
  refine ⟨rfl, ?_⟩
  repeat' (first | (with_reducible exact hB) | (with_reducible refine Below.setCell ?_ ?_ _) | (with_reducible refine Below.alloc ?_ ?_ _) | (with_reducible refine Below.drew ?_) | (simp; done) | omega | (simp; omega))

set_option maxHeartbeats 400000 in
theorem rwait_now (r s l t n now a b c d  : Int) (w : World) (H : Hid (∀ W, Calls Try.prog 10 #[.agg #[.int .i64 r, .int .i64 s, .int .i64 l, .int .i64 t], .int .i64 now] W fun e' w' => e' = .returned (.tuple #[.agg #[.int .i64 a, .int .i64 b, .int .i64 c, .int .i64 d], .int .i64 0]) ∧ Below W.heap.size W w'))
    (g0 : 0 ≤ n) (g1 : n ≤ b) (g : n ≤ c) :
    Calls Try.prog 14 #[.agg #[.int .i64 r, .int .i64 s, .int .i64 l, .int .i64 t], .int .i64 n, .int .i64 now] w fun e' w' => e' = .returned (.tuple #[.int .i64 0, .int .i64 0]) ∧ Below w.heap.size w w' := by
  go_enter Try.func14, Try.ntmps14
  go_wp2_with (go_at_call 10; refine (H.out _).mono ?_; rintro e' w' ⟨rfl, hb⟩; obtain ⟨⟨⟨a0, a1, a2, a3⟩, ⟨e0, e1, e2, e3⟩, hz⟩, hB⟩ := one_of hb; clear hb)
  go_ret2
  refine ⟨rfl, ?_⟩
  repeat' (first | (with_reducible exact hB) | (with_reducible refine Below.setCell ?_ ?_ _) | (with_reducible refine Below.alloc ?_ ?_ _) | (with_reducible refine Below.drew ?_) | (simp; done) | omega | (simp; omega))

set_option maxHeartbeats 400000 in
theorem rwait_zero (r s l t n now a b c d  : Int) (w : World) (H : Hid (∀ W, Calls Try.prog 10 #[.agg #[.int .i64 r, .int .i64 s, .int .i64 l, .int .i64 t], .int .i64 now] W fun e' w' => e' = .returned (.tuple #[.agg #[.int .i64 a, .int .i64 b, .int .i64 c, .int .i64 d], .int .i64 0]) ∧ Below W.heap.size W w'))
    (g0 : 0 ≤ n) (g1 : n ≤ b) (g : c < n) (ga : (a == 0) = true) :
    Calls Try.prog 14 #[.agg #[.int .i64 r, .int .i64 s, .int .i64 l, .int .i64 t], .int .i64 n, .int .i64 now] w fun e' w' => e' = .returned (.tuple #[.int .i64 0, .int .i64 5]) ∧ Below w.heap.size w w' := by
  go_enter Try.func14, Try.ntmps14
  go_wp2_with (go_at_call 10; refine (H.out _).mono ?_; rintro e' w' ⟨rfl, hb⟩; obtain ⟨⟨⟨a0, a1, a2, a3⟩, ⟨e0, e1, e2, e3⟩, hz⟩, hB⟩ := one_of hb; clear hb)
  go_ret2
  refine ⟨rfl, ?_⟩
  repeat' (first | (with_reducible exact hB) | (with_reducible refine Below.setCell ?_ ?_ _) | (with_reducible refine Below.alloc ?_ ?_ _) | (with_reducible refine Below.drew ?_) | (simp; done) | omega | (simp; omega))

set_option maxHeartbeats 400000 in
theorem rwait_far (r s l t n now a b c d  : Int) (w : World) (H : Hid (∀ W, Calls Try.prog 10 #[.agg #[.int .i64 r, .int .i64 s, .int .i64 l, .int .i64 t], .int .i64 now] W fun e' w' => e' = .returned (.tuple #[.agg #[.int .i64 a, .int .i64 b, .int .i64 c, .int .i64 d], .int .i64 0]) ∧ Below W.heap.size W w'))
    (g0 : 0 ≤ n) (g1 : n ≤ b) (gb : b ≤ 1000000000) (gc : 0 ≤ c) (g : c < n) (ga : 0 < a) (gA : a ≤ 1000000000) (gn : 0 ≤ now) (gN : now ≤ 1073741824) (gf : 1073741824 < now + (n - c + a - 1) / a) :
    Calls Try.prog 14 #[.agg #[.int .i64 r, .int .i64 s, .int .i64 l, .int .i64 t], .int .i64 n, .int .i64 now] w fun e' w' => e' = .returned (.tuple #[.int .i64 0, .int .i64 5]) ∧ Below w.heap.size w w' := by
  have q1 : 0 ≤ (n - c + a - 1) / a := Int.ediv_nonneg (by omega) (by omega)
  have q2 : (n - c + a - 1) / a ≤ n - c + a - 1 := Int.ediv_le_self _ (by omega)
  go_enter Try.func14, Try.ntmps14
  go_wp2_with (go_at_call 10; refine (H.out _).mono ?_; rintro e' w' ⟨rfl, hb⟩; obtain ⟨⟨⟨a0, a1, a2, a3⟩, ⟨e0, e1, e2, e3⟩, hz⟩, hB⟩ := one_of hb; clear hb)
  go_ret2
  refine ⟨rfl, ?_⟩
  repeat' (first | (with_reducible exact hB) | (with_reducible refine Below.setCell ?_ ?_ _) | (with_reducible refine Below.alloc ?_ ?_ _) | (with_reducible refine Below.drew ?_) | (simp; done) | omega | (simp; omega))

set_option maxHeartbeats 400000 in
theorem rwait_ok (r s l t n now a b c d  : Int) (w : World) (H : Hid (∀ W, Calls Try.prog 10 #[.agg #[.int .i64 r, .int .i64 s, .int .i64 l, .int .i64 t], .int .i64 now] W fun e' w' => e' = .returned (.tuple #[.agg #[.int .i64 a, .int .i64 b, .int .i64 c, .int .i64 d], .int .i64 0]) ∧ Below W.heap.size W w'))
    (g0 : 0 ≤ n) (g1 : n ≤ b) (gb : b ≤ 1000000000) (gc : 0 ≤ c) (g : c < n) (ga : 0 < a) (gA : a ≤ 1000000000) (gn : 0 ≤ now) (gN : now ≤ 1073741824) (gf : now + (n - c + a - 1) / a ≤ 1073741824) :
    Calls Try.prog 14 #[.agg #[.int .i64 r, .int .i64 s, .int .i64 l, .int .i64 t], .int .i64 n, .int .i64 now] w fun e' w' => e' = .returned (.tuple #[.int .i64 ((n - c + a - 1) / a), .int .i64 0]) ∧ Below w.heap.size w w' := by
  have q1 : 0 ≤ (n - c + a - 1) / a := Int.ediv_nonneg (by omega) (by omega)
  have q2 : (n - c + a - 1) / a ≤ n - c + a - 1 := Int.ediv_le_self _ (by omega)
  go_enter Try.func14, Try.ntmps14
  go_wp2_with (go_at_call 10; refine (H.out _).mono ?_; rintro e' w' ⟨rfl, hb⟩; obtain ⟨⟨⟨a0, a1, a2, a3⟩, ⟨e0, e1, e2, e3⟩, hz⟩, hB⟩ := one_of hb; clear hb)
  go_ret2
  refine ⟨rfl, ?_⟩
  repeat' (first | (with_reducible exact hB) | (with_reducible refine Below.setCell ?_ ?_ _) | (with_reducible refine Below.alloc ?_ ?_ _) | (with_reducible refine Below.drew ?_) | (simp; done) | omega | (simp; omega))

theorem rwait_any (r s l t n now : Int) (w : World) :
    Calls Try.prog 14 #[.agg #[.int .i64 r, .int .i64 s, .int .i64 l, .int .i64 t], .int .i64 n, .int .i64 now] w fun e w' => e = .returned (.tuple #[.int .i64 (waitV r s l t n now).v, .int .i64 (waitV r s l t n now).e]) ∧ Below w.heap.size w w' := by
  unfold waitV
  have hbd := fillV_bd r s l t now
  have hnow := fillV_now r s l t now
  have H : Hid (∀ W, _) := fun W => rfill_any r s l t now W
  generalize fillV r s l t now = x at *
  obtain ⟨a, b, c, d, e⟩ := x
  simp only at hbd hnow H ⊢
  by_cases he : e = 0
  · subst he
    have hnow := hnow rfl
    by_cases g1 : n < 0
    · rw [show waitW n now a b c 0 = ⟨0, 2⟩ by simp [waitW, g1]]
      exact rwait_lo r s l t n now a b c d w H g1
    · by_cases g2 : b < n
      · rw [show waitW n now a b c 0 = ⟨0, 2⟩ by simp [waitW, g2]]
        exact rwait_hi r s l t n now a b c d w H (by omega) g2
      · by_cases g3 : n ≤ c
        · rw [show waitW n now a b c 0 = ⟨0, 0⟩ by simp [waitW, g1, g2, g3]]
          exact rwait_now r s l t n now a b c d w H (by omega) (by omega) g3
        · by_cases g4 : a = 0
          · rw [show waitW n now a b c 0 = ⟨0, 5⟩ by simp [waitW, g1, g2, g3, g4]]
            exact rwait_zero r s l t n now a b c d w H (by omega) (by omega) (by omega) (by simp [g4])
          · by_cases g5 : 1073741824 < now + (n - c + a - 1) / a
            · rw [show waitW n now a b c 0 = ⟨0, 5⟩ by simp [waitW, g1, g2, g3, g4, g5]]
              exact rwait_far r s l t n now a b c d w H (by omega) (by omega) (by omega) (by omega) (by omega) (by omega) (by omega) (by omega) (by omega) g5
            · rw [show waitW n now a b c 0 = ⟨(n - c + a - 1) / a, 0⟩ by simp [waitW, g1, g2, g3, g4, g5]]
              exact rwait_ok r s l t n now a b c d w H (by omega) (by omega) (by omega) (by omega) (by omega) (by omega) (by omega) (by omega) (by omega) (by omega)
  · rw [show waitW n now a b c e = ⟨0, e⟩ by simp [waitW, he]]
    exact rwait_err r s l t n now a b c d e w H (by simp [he])

def newV (rate size now : Int) : BE := if okB rate size size now then ⟨rate, size, size, now, 0⟩ else ⟨0, 0, 0, 0, 2⟩

set_option maxHeartbeats 400000 in
theorem new_no (r s t : Int) (w : World) (H : Hid (∀ W, Calls Try.prog 15 #[.agg #[.int .i64 r, .int .i64 s, .int .i64 s, .int .i64 t]] W fun e w' => e = .returned (.int .i64 2) ∧ Below W.heap.size W w')) :
    Calls Try.prog 18 #[.int .i64 r, .int .i64 s, .int .i64 t] w fun e' w' => e' = .returned (.tuple #[.agg #[.int .i64 0, .int .i64 0, .int .i64 0, .int .i64 0], .int .i64 2]) ∧ Below w.heap.size w w' := by
  go_enter Try.func18, Try.ntmps18
  go_wp2_with (go_at_call 15; refine (H.out _).mono ?_; rintro e' w' ⟨rfl, hb⟩; obtain ⟨⟨⟨a0, a1, a2, a3⟩, ⟨b0, b1, b2, b3⟩, ⟨e0, e1, e2, e3⟩, ⟨f0, f1, f2, f3⟩, hz⟩, hB⟩ := two_of hb; clear hb)
  refine bodyPost_ret (v := .tuple #[.agg #[.int .i64 0, .int .i64 0, .int .i64 0, .int .i64 0], .int .i64 2]) ?_ rfl ⟨rfl, ?_⟩
  · simp [results, Try.results18, go_sem, *]
  repeat' (first | (with_reducible exact hB) | (with_reducible refine Below.setCell ?_ ?_ _) | (with_reducible refine Below.alloc ?_ ?_ _) | (with_reducible refine Below.drew ?_) | (simp; done) | omega | (simp; omega))

set_option maxHeartbeats 400000 in
theorem new_ok (r s t : Int) (w : World) (H : Hid (∀ W, Calls Try.prog 15 #[.agg #[.int .i64 r, .int .i64 s, .int .i64 s, .int .i64 t]] W fun e w' => e = .returned (.int .i64 0) ∧ Below W.heap.size W w')) :
    Calls Try.prog 18 #[.int .i64 r, .int .i64 s, .int .i64 t] w fun e' w' => e' = .returned (.tuple #[.agg #[.int .i64 r, .int .i64 s, .int .i64 s, .int .i64 t], .int .i64 0]) ∧ Below w.heap.size w w' := by
  go_enter Try.func18, Try.ntmps18
  go_wp2_with (go_at_call 15; refine (H.out _).mono ?_; rintro e' w' ⟨rfl, hb⟩; obtain ⟨⟨⟨a0, a1, a2, a3⟩, ⟨b0, b1, b2, b3⟩, ⟨e0, e1, e2, e3⟩, ⟨f0, f1, f2, f3⟩, hz⟩, hB⟩ := two_of hb; clear hb)
  refine bodyPost_ret (v := .tuple #[.agg #[.int .i64 r, .int .i64 s, .int .i64 s, .int .i64 t], .int .i64 0]) ?_ rfl ⟨rfl, ?_⟩
  · simp [results, Try.results18, go_sem, *]
  repeat' (first | (with_reducible exact hB) | (with_reducible refine Below.setCell ?_ ?_ _) | (with_reducible refine Below.alloc ?_ ?_ _) | (with_reducible refine Below.drew ?_) | (simp; done) | omega | (simp; omega))

theorem new_any (r s t : Int) (w : World) :
    Calls Try.prog 18 #[.int .i64 r, .int .i64 s, .int .i64 t] w fun e w' => e = .returned (.tuple #[.agg #[.int .i64 (newV r s t).r, .int .i64 (newV r s t).s, .int .i64 (newV r s t).l, .int .i64 (newV r s t).t], .int .i64 (newV r s t).e]) ∧ Below w.heap.size w w' := by
  cases hk : okB r s s t
  · rw [show newV r s t = ⟨0, 0, 0, 0, 2⟩ by simp [newV, hk]]
    exact new_no r s t w (fun W => by simpa [hk] using check_any r s s t W)
  · rw [show newV r s t = ⟨r, s, s, t, 0⟩ by simp [newV, hk]]
    exact new_ok r s t w (fun W => by simpa [hk] using check_any r s s t W)

set_option maxHeartbeats 400000 in
theorem rnew_no (r s t : Int) (w : World) (H : Hid (∀ W, Calls Try.prog 16 #[.agg #[.int .i64 r, .int .i64 s, .int .i64 s, .int .i64 t]] W fun e w' => e = .returned (.int .i64 2) ∧ Below W.heap.size W w')) :
    Calls Try.prog 19 #[.int .i64 r, .int .i64 s, .int .i64 t] w fun e' w' => e' = .returned (.tuple #[.agg #[.int .i64 0, .int .i64 0, .int .i64 0, .int .i64 0], .int .i64 2]) ∧ Below w.heap.size w w' := by
  go_enter Try.func19, Try.ntmps19
  go_wp2_with (go_at_call 16; refine (H.out _).mono ?_; rintro e' w' ⟨rfl, hb⟩; obtain ⟨⟨⟨a0, a1, a2, a3⟩, ⟨b0, b1, b2, b3⟩, ⟨e0, e1, e2, e3⟩, ⟨f0, f1, f2, f3⟩, hz⟩, hB⟩ := two_of hb; clear hb)
  refine bodyPost_ret (v := .tuple #[.agg #[.int .i64 0, .int .i64 0, .int .i64 0, .int .i64 0], .int .i64 2]) ?_ rfl ⟨rfl, ?_⟩
  · simp [results, Try.results19, go_sem, *]
  repeat' (first | (with_reducible exact hB) | (with_reducible refine Below.setCell ?_ ?_ _) | (with_reducible refine Below.alloc ?_ ?_ _) | (with_reducible refine Below.drew ?_) | (simp; done) | omega | (simp; omega))

set_option maxHeartbeats 400000 in
theorem rnew_ok (r s t : Int) (w : World) (H : Hid (∀ W, Calls Try.prog 16 #[.agg #[.int .i64 r, .int .i64 s, .int .i64 s, .int .i64 t]] W fun e w' => e = .returned (.int .i64 0) ∧ Below W.heap.size W w')) :
    Calls Try.prog 19 #[.int .i64 r, .int .i64 s, .int .i64 t] w fun e' w' => e' = .returned (.tuple #[.agg #[.int .i64 r, .int .i64 s, .int .i64 s, .int .i64 t], .int .i64 0]) ∧ Below w.heap.size w w' := by
  go_enter Try.func19, Try.ntmps19
  go_wp2_with (go_at_call 16; refine (H.out _).mono ?_; rintro e' w' ⟨rfl, hb⟩; obtain ⟨⟨⟨a0, a1, a2, a3⟩, ⟨b0, b1, b2, b3⟩, ⟨e0, e1, e2, e3⟩, ⟨f0, f1, f2, f3⟩, hz⟩, hB⟩ := two_of hb; clear hb)
  refine bodyPost_ret (v := .tuple #[.agg #[.int .i64 r, .int .i64 s, .int .i64 s, .int .i64 t], .int .i64 0]) ?_ rfl ⟨rfl, ?_⟩
  · simp [results, Try.results19, go_sem, *]
  repeat' (first | (with_reducible exact hB) | (with_reducible refine Below.setCell ?_ ?_ _) | (with_reducible refine Below.alloc ?_ ?_ _) | (with_reducible refine Below.drew ?_) | (simp; done) | omega | (simp; omega))

theorem rnew_any (r s t : Int) (w : World) :
    Calls Try.prog 19 #[.int .i64 r, .int .i64 s, .int .i64 t] w fun e w' => e = .returned (.tuple #[.agg #[.int .i64 (newV r s t).r, .int .i64 (newV r s t).s, .int .i64 (newV r s t).l, .int .i64 (newV r s t).t], .int .i64 (newV r s t).e]) ∧ Below w.heap.size w w' := by
  cases hk : okB r s s t
  · rw [show newV r s t = ⟨0, 0, 0, 0, 2⟩ by simp [newV, hk]]
    exact rnew_no r s t w (fun W => by simpa [hk] using rcheck_any r s s t W)
  · rw [show newV r s t = ⟨r, s, s, t, 0⟩ by simp [newV, hk]]
    exact rnew_ok r s t w (fun W => by simpa [hk] using rcheck_any r s s t W)

end Go.Proofs.Ytmfekechdejefaa
