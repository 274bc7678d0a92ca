/- Contracts of Fill, New, Take and Wait of layer 39 (bucket) and of its reference. -/
import Derived.Test.YtmfekechdejefaaA
namespace Go.Proofs.Ytmfekechdejefaa
open Go.ChangeShapes Go.WideShapes Go.ChangeAt Go.RowKit

structure BE where
  (r s l t e : Int)

def fillV (r s l t now : Int) : BE := if okB r s l t then (if now < 0 ∨ 1073741824 < now then ⟨0, 0, 0, 0, 2⟩ else if now < t then ⟨0, 0, 0, 0, 11⟩ else ⟨r, s, min s (l + r * (now - t)), now, 0⟩) else ⟨0, 0, 0, 0, 2⟩

theorem prod_bd (r now t : Int) (h1 : 0 ≤ r) (h2 : r ≤ 1000000000) (h3 : t ≤ now) (h4 : 0 ≤ t) (h5 : now ≤ 1073741824) : 0 ≤ r * (now - t) ∧ r * (now - t) ≤ 1073741824000000000 := by
  constructor
  · exact Int.mul_nonneg h1 (by omega)
  · have a : r * (now - t) ≤ 1000000000 * (now - t) := Int.mul_le_mul_of_nonneg_right h2 (by omega)
    omega

/-- What a callee leaves of the caller's two newest blocks of four cells. -/
structure Two (w w' : World) (a0 a1 a2 a3 b0 b1 b2 b3 : Value) : Prop where
  a : w'.cell? ⟨w.heap.size, 0, none⟩ = some a0 ∧ w'.cell? ⟨w.heap.size, 1, none⟩ = some a1 ∧ w'.cell? ⟨w.heap.size, 2, none⟩ = some a2 ∧ w'.cell? ⟨w.heap.size, 3, none⟩ = some a3
  b : w'.cell? ⟨w.heap.size + 1, 0, none⟩ = some b0 ∧ w'.cell? ⟨w.heap.size + 1, 1, none⟩ = some b1 ∧ w'.cell? ⟨w.heap.size + 1, 2, none⟩ = some b2 ∧ w'.cell? ⟨w.heap.size + 1, 3, none⟩ = some b3
  fa : w'.frozen? ⟨w.heap.size, 0, none⟩ = false ∧ w'.frozen? ⟨w.heap.size, 1, none⟩ = false ∧ w'.frozen? ⟨w.heap.size, 2, none⟩ = false ∧ w'.frozen? ⟨w.heap.size, 3, none⟩ = false
  fb : w'.frozen? ⟨w.heap.size + 1, 0, none⟩ = false ∧ w'.frozen? ⟨w.heap.size + 1, 1, none⟩ = false ∧ w'.frozen? ⟨w.heap.size + 1, 2, none⟩ = false ∧ w'.frozen? ⟨w.heap.size + 1, 3, none⟩ = false
  z : w.heap.size + 1 < w'.heap.size

theorem two_of {w w' : World} {a0 a1 a2 a3 b0 b1 b2 b3 : Value} {t u : TypeId}
    (hb : Below ((w.alloc (.cells #[a0, a1, a2, a3] t)).alloc (.cells #[b0, b1, b2, b3] u)).heap.size ((w.alloc (.cells #[a0, a1, a2, a3] t)).alloc (.cells #[b0, b1, b2, b3] u)) w') :
    Two w w' a0 a1 a2 a3 b0 b1 b2 b3 ∧ Below w.heap.size w w' := by
  obtain ⟨hc, hf⟩ := bcell hb
  refine ⟨⟨?_, ?_, ?_, ?_, ?_⟩, ?_⟩
  · refine ⟨?_, ?_, ?_, ?_⟩ <;> (rw [hc _ _ (by simp; omega)]; simp [go_sem])
  · refine ⟨?_, ?_, ?_, ?_⟩ <;> (rw [hc _ _ (by simp)]; simp [go_sem])
  · refine ⟨?_, ?_, ?_, ?_⟩ <;> (rw [hf _ _ (by simp; omega)]; simp [go_sem])
  · refine ⟨?_, ?_, ?_, ?_⟩ <;> (rw [hf _ _ (by simp)]; simp [go_sem])
  · have := hb.size; simp at this; omega
  · exact (((Below.refl _ w).alloc (Nat.le_refl _) _).alloc (by simp) _).trans (hb.mono (by simp; omega))

set_option maxHeartbeats 400000 in
theorem fill_no (r s l t now : Int) (w : World) (HC : Hid (∀ W, Calls Try.prog 15 #[.agg #[.int .i64 r, .int .i64 s, .int .i64 l, .int .i64 t]] W fun e w' => e = .returned (.int .i64 2) ∧ Below W.heap.size W w'))
     :
    Calls Try.prog 9 #[.agg #[.int .i64 r, .int .i64 s, .int .i64 l, .int .i64 t], .int .i64 now] w fun e w' => e = .returned (.tuple #[.agg #[.int .i64 0, .int .i64 0, .int .i64 0, .int .i64 0], .int .i64 2]) ∧ Below w.heap.size w w' := by
  go_enter Try.func9, Try.ntmps9
  go_wp2_with (go_at_call 15; refine (HC.out _).mono ?_; rintro e w' ⟨rfl, hb⟩; obtain ⟨⟨⟨a0, a1, a2, a3⟩, ⟨b0, b1, b2, b3⟩, ⟨e0, e1, e2, e3⟩, ⟨f0, f1, f2, f3⟩, hz⟩, hB⟩ := two_of hb; clear hb)
  refine bodyPost_ret (v := .tuple #[.agg #[.int .i64 0, .int .i64 0, .int .i64 0, .int .i64 0], .int .i64 2]) ?_ rfl ⟨rfl, ?_⟩
  · simp [results, Try.results9, go_sem, *]
  repeat' (first | (with_reducible exact hB) | (with_reducible refine Below.setCell ?_ ?_ _) | (with_reducible refine Below.alloc ?_ ?_ _) | (with_reducible refine Below.drew ?_) | (simp; done) | omega | (simp; omega))

set_option maxHeartbeats 400000 in
theorem fill_lo (r s l t now : Int) (w : World) (HC : Hid (∀ W, Calls Try.prog 15 #[.agg #[.int .i64 r, .int .i64 s, .int .i64 l, .int .i64 t]] W fun e w' => e = .returned (.int .i64 0) ∧ Below W.heap.size W w'))
    (g : now < 0) :
    Calls Try.prog 9 #[.agg #[.int .i64 r, .int .i64 s, .int .i64 l, .int .i64 t], .int .i64 now] w fun e w' => e = .returned (.tuple #[.agg #[.int .i64 0, .int .i64 0, .int .i64 0, .int .i64 0], .int .i64 2]) ∧ Below w.heap.size w w' := by
  go_enter Try.func9, Try.ntmps9
  go_wp2_with (go_at_call 15; refine (HC.out _).mono ?_; rintro e w' ⟨rfl, hb⟩; obtain ⟨⟨⟨a0, a1, a2, a3⟩, ⟨b0, b1, b2, b3⟩, ⟨e0, e1, e2, e3⟩, ⟨f0, f1, f2, f3⟩, hz⟩, hB⟩ := two_of hb; clear hb)
  refine bodyPost_ret (v := .tuple #[.agg #[.int .i64 0, .int .i64 0, .int .i64 0, .int .i64 0], .int .i64 2]) ?_ rfl ⟨rfl, ?_⟩
  · simp [results, Try.results9, go_sem, *]
  repeat' (first | (with_reducible exact hB) | (with_reducible refine Below.setCell ?_ ?_ _) | (with_reducible refine Below.alloc ?_ ?_ _) | (with_reducible refine Below.drew ?_) | (simp; done) | omega | (simp; omega))

set_option maxHeartbeats 400000 in
theorem fill_hi (r s l t now : Int) (w : World) (HC : Hid (∀ W, Calls Try.prog 15 #[.agg #[.int .i64 r, .int .i64 s, .int .i64 l, .int .i64 t]] W fun e w' => e = .returned (.int .i64 0) ∧ Below W.heap.size W w'))
    (g : 1073741824 < now) :
    Calls Try.prog 9 #[.agg #[.int .i64 r, .int .i64 s, .int .i64 l, .int .i64 t], .int .i64 now] w fun e w' => e = .returned (.tuple #[.agg #[.int .i64 0, .int .i64 0, .int .i64 0, .int .i64 0], .int .i64 2]) ∧ Below w.heap.size w w' := by
  go_enter Try.func9, Try.ntmps9
  go_wp2_with (go_at_call 15; refine (HC.out _).mono ?_; rintro e w' ⟨rfl, hb⟩; obtain ⟨⟨⟨a0, a1, a2, a3⟩, ⟨b0, b1, b2, b3⟩, ⟨e0, e1, e2, e3⟩, ⟨f0, f1, f2, f3⟩, hz⟩, hB⟩ := two_of hb; clear hb)
  refine bodyPost_ret (v := .tuple #[.agg #[.int .i64 0, .int .i64 0, .int .i64 0, .int .i64 0], .int .i64 2]) ?_ rfl ⟨rfl, ?_⟩
  · simp [results, Try.results9, go_sem, *]
  repeat' (first | (with_reducible exact hB) | (with_reducible refine Below.setCell ?_ ?_ _) | (with_reducible refine Below.alloc ?_ ?_ _) | (with_reducible refine Below.drew ?_) | (simp; done) | omega | (simp; omega))

set_option maxHeartbeats 400000 in
theorem fill_old (r s l t now : Int) (w : World) (HC : Hid (∀ W, Calls Try.prog 15 #[.agg #[.int .i64 r, .int .i64 s, .int .i64 l, .int .i64 t]] W fun e w' => e = .returned (.int .i64 0) ∧ Below W.heap.size W w'))
    (g0 : 0 ≤ now) (g1 : now ≤ 1073741824) (g : now < t) :
    Calls Try.prog 9 #[.agg #[.int .i64 r, .int .i64 s, .int .i64 l, .int .i64 t], .int .i64 now] w fun e w' => e = .returned (.tuple #[.agg #[.int .i64 0, .int .i64 0, .int .i64 0, .int .i64 0], .int .i64 11]) ∧ Below w.heap.size w w' := by
  go_enter Try.func9, Try.ntmps9
  go_wp2_with (go_at_call 15; refine (HC.out _).mono ?_; rintro e w' ⟨rfl, hb⟩; obtain ⟨⟨⟨a0, a1, a2, a3⟩, ⟨b0, b1, b2, b3⟩, ⟨e0, e1, e2, e3⟩, ⟨f0, f1, f2, f3⟩, hz⟩, hB⟩ := two_of hb; clear hb)
  refine bodyPost_ret (v := .tuple #[.agg #[.int .i64 0, .int .i64 0, .int .i64 0, .int .i64 0], .int .i64 11]) ?_ rfl ⟨rfl, ?_⟩
  · simp [results, Try.results9, go_sem, *]
  repeat' (first | (with_reducible exact hB) | (with_reducible refine Below.setCell ?_ ?_ _) | (with_reducible refine Below.alloc ?_ ?_ _) | (with_reducible refine Below.drew ?_) | (simp; done) | omega | (simp; omega))

set_option maxHeartbeats 400000 in
theorem fill_okA (r s l t now : Int) (w : World) (HC : Hid (∀ W, Calls Try.prog 15 #[.agg #[.int .i64 r, .int .i64 s, .int .i64 l, .int .i64 t]] W fun e w' => e = .returned (.int .i64 0) ∧ Below W.heap.size W w'))
    (h1 : 0 ≤ r) (h2 : r ≤ 1000000000) (h3 : 1 ≤ s) (h4 : s ≤ 1000000000) (h5 : 0 ≤ l) (h6 : l ≤ s) (h7 : 0 ≤ t) (g2 : now ≤ 1073741824) (g3 : t ≤ now) (hm : l + r * (now - t) < s) :
    Calls Try.prog 9 #[.agg #[.int .i64 r, .int .i64 s, .int .i64 l, .int .i64 t], .int .i64 now] w fun e w' => e = .returned (.tuple #[.agg #[.int .i64 r, .int .i64 s, .int .i64 (l + r * (now - t)), .int .i64 now], .int .i64 0]) ∧ Below w.heap.size w w' := by
  obtain ⟨p1, p2⟩ := prod_bd r now t h1 h2 g3 h7 g2
  go_enter Try.func9, Try.ntmps9
  go_wp2_with (go_at_call 15; refine (HC.out _).mono ?_; rintro e w' ⟨rfl, hb⟩; obtain ⟨⟨⟨a0, a1, a2, a3⟩, ⟨b0, b1, b2, b3⟩, ⟨e0, e1, e2, e3⟩, ⟨f0, f1, f2, f3⟩, hz⟩, hB⟩ := two_of hb; clear hb)
  refine bodyPost_ret (v := .tuple #[.agg #[.int .i64 r, .int .i64 s, .int .i64 (l + r * (now - t)), .int .i64 now], .int .i64 0]) ?_ rfl ⟨rfl, ?_⟩
  · simp [results, Try.results9, go_sem, *]
  repeat' (first | (with_reducible exact hB) | (with_reducible refine Below.setCell ?_ ?_ _) | (with_reducible refine Below.alloc ?_ ?_ _) | (with_reducible refine Below.drew ?_) | (simp; done) | omega | (simp; omega))

set_option maxHeartbeats 400000 in
theorem fill_okB (r s l t now : Int) (w : World) (HC : Hid (∀ W, Calls Try.prog 15 #[.agg #[.int .i64 r, .int .i64 s, .int .i64 l, .int .i64 t]] W fun e w' => e = .returned (.int .i64 0) ∧ Below W.heap.size W w'))
    (h1 : 0 ≤ r) (h2 : r ≤ 1000000000) (h3 : 1 ≤ s) (h4 : s ≤ 1000000000) (_h5 : 0 ≤ l) (h6 : l ≤ s) (h7 : 0 ≤ t) (g2 : now ≤ 1073741824) (g3 : t ≤ now) (hm : s ≤ l + r * (now - t)) :
    Calls Try.prog 9 #[.agg #[.int .i64 r, .int .i64 s, .int .i64 l, .int .i64 t], .int .i64 now] w fun e w' => e = .returned (.tuple #[.agg #[.int .i64 r, .int .i64 s, .int .i64 s, .int .i64 now], .int .i64 0]) ∧ Below w.heap.size w w' := by
  obtain ⟨p1, p2⟩ := prod_bd r now t h1 h2 g3 h7 g2
  go_enter Try.func9, Try.ntmps9
  go_wp2_with (go_at_call 15; refine (HC.out _).mono ?_; rintro e w' ⟨rfl, hb⟩; obtain ⟨⟨⟨a0, a1, a2, a3⟩, ⟨b0, b1, b2, b3⟩, ⟨e0, e1, e2, e3⟩, ⟨f0, f1, f2, f3⟩, hz⟩, hB⟩ := two_of hb; clear hb)
  refine bodyPost_ret (v := .tuple #[.agg #[.int .i64 r, .int .i64 s, .int .i64 s, .int .i64 now], .int .i64 0]) ?_ rfl ⟨rfl, ?_⟩
  · simp [results, Try.results9, go_sem, *]
  repeat' (first | (with_reducible exact hB) | (with_reducible refine Below.setCell ?_ ?_ _) | (with_reducible refine Below.alloc ?_ ?_ _) | (with_reducible refine Below.drew ?_) | (simp; done) | omega | (simp; omega))

theorem fill_any (r s l t now : Int) (w : World) :
    Calls Try.prog 9 #[.agg #[.int .i64 r, .int .i64 s, .int .i64 l, .int .i64 t], .int .i64 now] w fun e w' => e = .returned (.tuple #[.agg #[.int .i64 (fillV r s l t now).r, .int .i64 (fillV r s l t now).s, .int .i64 (fillV r s l t now).l, .int .i64 (fillV r s l t now).t], .int .i64 (fillV r s l t now).e]) ∧ Below w.heap.size w w' := by
  cases hk : okB r s l t
  · rw [show fillV r s l t now = ⟨0, 0, 0, 0, 2⟩ by simp [fillV, hk]]
    exact fill_no r s l t now w (fun W => by simpa [hk] using check_any r s l t W)
  · have hv : 0 ≤ r ∧ r ≤ 1000000000 ∧ 1 ≤ s ∧ s ≤ 1000000000 ∧ 0 ≤ l ∧ l ≤ s ∧ 0 ≤ t ∧ t ≤ 1073741824 := by simpa [okB] using hk
    obtain ⟨h1, h2, h3, h4, h5, h6, h7, h8⟩ := hv
    have HC : Hid (∀ W, Calls Try.prog 15 #[.agg #[.int .i64 r, .int .i64 s, .int .i64 l, .int .i64 t]] W fun e w' => e = .returned (.int .i64 0) ∧ Below W.heap.size W w') := fun W => by simpa [hk] using check_any r s l t W
    by_cases g1 : now < 0
    · rw [show fillV r s l t now = ⟨0, 0, 0, 0, 2⟩ by simp [fillV, hk, g1]]
      exact fill_lo r s l t now w HC g1
    · by_cases g2 : 1073741824 < now
      · rw [show fillV r s l t now = ⟨0, 0, 0, 0, 2⟩ by simp [fillV, hk, g2]]
        exact fill_hi r s l t now w HC g2
      · by_cases g3 : now < t
        · rw [show fillV r s l t now = ⟨0, 0, 0, 0, 11⟩ by simp [fillV, hk, g1, g2, g3]]
          exact fill_old r s l t now w HC (by omega) (by omega) g3
        · by_cases hm : l + r * (now - t) < s
          · rw [show fillV r s l t now = ⟨r, s, l + r * (now - t), now, 0⟩ by simp [fillV, hk, g1, g2, g3]; omega]
            exact fill_okA r s l t now w HC h1 h2 h3 h4 h5 h6 h7 (by omega) (by omega) hm
          · rw [show fillV r s l t now = ⟨r, s, s, now, 0⟩ by simp [fillV, hk, g1, g2, g3]; omega]
            exact fill_okB r s l t now w HC h1 h2 h3 h4 h5 h6 h7 (by omega) (by omega) (by omega)

set_option maxHeartbeats 400000 in
theorem rfill_no (r s l t now : Int) (w : World) (HC : Hid (∀ W, Calls Try.prog 16 #[.agg #[.int .i64 r, .int .i64 s, .int .i64 l, .int .i64 t]] W fun e w' => e = .returned (.int .i64 2) ∧ Below W.heap.size W w'))
     :
    Calls Try.prog 10 #[.agg #[.int .i64 r, .int .i64 s, .int .i64 l, .int .i64 t], .int .i64 now] w fun e w' => e = .returned (.tuple #[.agg #[.int .i64 0, .int .i64 0, .int .i64 0, .int .i64 0], .int .i64 2]) ∧ Below w.heap.size w w' := by
  go_enter Try.func10, Try.ntmps10
  go_wp2_with (go_at_call 16; refine (HC.out _).mono ?_; rintro e w' ⟨rfl, hb⟩; obtain ⟨⟨⟨a0, a1, a2, a3⟩, ⟨b0, b1, b2, b3⟩, ⟨e0, e1, e2, e3⟩, ⟨f0, f1, f2, f3⟩, hz⟩, hB⟩ := two_of hb; clear hb)
  refine bodyPost_ret (v := .tuple #[.agg #[.int .i64 0, .int .i64 0, .int .i64 0, .int .i64 0], .int .i64 2]) ?_ rfl ⟨rfl, ?_⟩
  · simp [results, Try.results10, go_sem, *]
  repeat' (first | (with_reducible exact hB) | (with_reducible refine Below.setCell ?_ ?_ _) | (with_reducible refine Below.alloc ?_ ?_ _) | (with_reducible refine Below.drew ?_) | (simp; done) | omega | (simp; omega))

set_option maxHeartbeats 400000 in
theorem rfill_lo (r s l t now : Int) (w : World) (HC : Hid (∀ W, Calls Try.prog 16 #[.agg #[.int .i64 r, .int .i64 s, .int .i64 l, .int .i64 t]] W fun e w' => e = .returned (.int .i64 0) ∧ Below W.heap.size W w'))
    (g : now < 0) :
    Calls Try.prog 10 #[.agg #[.int .i64 r, .int .i64 s, .int .i64 l, .int .i64 t], .int .i64 now] w fun e w' => e = .returned (.tuple #[.agg #[.int .i64 0, .int .i64 0, .int .i64 0, .int .i64 0], .int .i64 2]) ∧ Below w.heap.size w w' := by
  go_enter Try.func10, Try.ntmps10
  go_wp2_with (go_at_call 16; refine (HC.out _).mono ?_; rintro e w' ⟨rfl, hb⟩; obtain ⟨⟨⟨a0, a1, a2, a3⟩, ⟨b0, b1, b2, b3⟩, ⟨e0, e1, e2, e3⟩, ⟨f0, f1, f2, f3⟩, hz⟩, hB⟩ := two_of hb; clear hb)
  refine bodyPost_ret (v := .tuple #[.agg #[.int .i64 0, .int .i64 0, .int .i64 0, .int .i64 0], .int .i64 2]) ?_ rfl ⟨rfl, ?_⟩
  · simp [results, Try.results10, go_sem, *]
  repeat' (first | (with_reducible exact hB) | (with_reducible refine Below.setCell ?_ ?_ _) | (with_reducible refine Below.alloc ?_ ?_ _) | (with_reducible refine Below.drew ?_) | (simp; done) | omega | (simp; omega))

set_option maxHeartbeats 400000 in
theorem rfill_hi (r s l t now : Int) (w : World) (HC : Hid (∀ W, Calls Try.prog 16 #[.agg #[.int .i64 r, .int .i64 s, .int .i64 l, .int .i64 t]] W fun e w' => e = .returned (.int .i64 0) ∧ Below W.heap.size W w'))
    (g : 1073741824 < now) :
    Calls Try.prog 10 #[.agg #[.int .i64 r, .int .i64 s, .int .i64 l, .int .i64 t], .int .i64 now] w fun e w' => e = .returned (.tuple #[.agg #[.int .i64 0, .int .i64 0, .int .i64 0, .int .i64 0], .int .i64 2]) ∧ Below w.heap.size w w' := by
  go_enter Try.func10, Try.ntmps10
  go_wp2_with (go_at_call 16; refine (HC.out _).mono ?_; rintro e w' ⟨rfl, hb⟩; obtain ⟨⟨⟨a0, a1, a2, a3⟩, ⟨b0, b1, b2, b3⟩, ⟨e0, e1, e2, e3⟩, ⟨f0, f1, f2, f3⟩, hz⟩, hB⟩ := two_of hb; clear hb)
  refine bodyPost_ret (v := .tuple #[.agg #[.int .i64 0, .int .i64 0, .int .i64 0, .int .i64 0], .int .i64 2]) ?_ rfl ⟨rfl, ?_⟩
  · simp [results, Try.results10, go_sem, *]
  repeat' (first | (with_reducible exact hB) | (with_reducible refine Below.setCell ?_ ?_ _) | (with_reducible refine Below.alloc ?_ ?_ _) | (with_reducible refine Below.drew ?_) | (simp; done) | omega | (simp; omega))

set_option maxHeartbeats 400000 in
theorem rfill_old (r s l t now : Int) (w : World) (HC : Hid (∀ W, Calls Try.prog 16 #[.agg #[.int .i64 r, .int .i64 s, .int .i64 l, .int .i64 t]] W fun e w' => e = .returned (.int .i64 0) ∧ Below W.heap.size W w'))
    (g0 : 0 ≤ now) (g1 : now ≤ 1073741824) (g : now < t) :
    Calls Try.prog 10 #[.agg #[.int .i64 r, .int .i64 s, .int .i64 l, .int .i64 t], .int .i64 now] w fun e w' => e = .returned (.tuple #[.agg #[.int .i64 0, .int .i64 0, .int .i64 0, .int .i64 0], .int .i64 11]) ∧ Below w.heap.size w w' := by
  go_enter Try.func10, Try.ntmps10
  go_wp2_with (go_at_call 16; refine (HC.out _).mono ?_; rintro e w' ⟨rfl, hb⟩; obtain ⟨⟨⟨a0, a1, a2, a3⟩, ⟨b0, b1, b2, b3⟩, ⟨e0, e1, e2, e3⟩, ⟨f0, f1, f2, f3⟩, hz⟩, hB⟩ := two_of hb; clear hb)
  refine bodyPost_ret (v := .tuple #[.agg #[.int .i64 0, .int .i64 0, .int .i64 0, .int .i64 0], .int .i64 11]) ?_ rfl ⟨rfl, ?_⟩
  · simp [results, Try.results10, go_sem, *]
  repeat' (first | (with_reducible exact hB) | (with_reducible refine Below.setCell ?_ ?_ _) | (with_reducible refine Below.alloc ?_ ?_ _) | (with_reducible refine Below.drew ?_) | (simp; done) | omega | (simp; omega))

set_option maxHeartbeats 400000 in
theorem rfill_okA (r s l t now : Int) (w : World) (HC : Hid (∀ W, Calls Try.prog 16 #[.agg #[.int .i64 r, .int .i64 s, .int .i64 l, .int .i64 t]] W fun e w' => e = .returned (.int .i64 0) ∧ Below W.heap.size W w'))
    (h1 : 0 ≤ r) (h2 : r ≤ 1000000000) (h3 : 1 ≤ s) (h4 : s ≤ 1000000000) (h5 : 0 ≤ l) (h6 : l ≤ s) (h7 : 0 ≤ t) (g2 : now ≤ 1073741824) (g3 : t ≤ now) (hm : l + r * (now - t) ≤ s) :
    Calls Try.prog 10 #[.agg #[.int .i64 r, .int .i64 s, .int .i64 l, .int .i64 t], .int .i64 now] w fun e w' => e = .returned (.tuple #[.agg #[.int .i64 r, .int .i64 s, .int .i64 (l + r * (now - t)), .int .i64 now], .int .i64 0]) ∧ Below w.heap.size w w' := by
  obtain ⟨p1, p2⟩ := prod_bd r now t h1 h2 g3 h7 g2
  go_enter Try.func10, Try.ntmps10
  go_wp2_with (go_at_call 16; refine (HC.out _).mono ?_; rintro e w' ⟨rfl, hb⟩; obtain ⟨⟨⟨a0, a1, a2, a3⟩, ⟨b0, b1, b2, b3⟩, ⟨e0, e1, e2, e3⟩, ⟨f0, f1, f2, f3⟩, hz⟩, hB⟩ := two_of hb; clear hb)
  refine bodyPost_ret (v := .tuple #[.agg #[.int .i64 r, .int .i64 s, .int .i64 (l + r * (now - t)), .int .i64 now], .int .i64 0]) ?_ rfl ⟨rfl, ?_⟩
  · simp [results, Try.results10, go_sem, *]
  repeat' (first | (with_reducible exact hB) | (with_reducible refine Below.setCell ?_ ?_ _) | (with_reducible refine Below.alloc ?_ ?_ _) | (with_reducible refine Below.drew ?_) | (simp; done) | omega | (simp; omega))

set_option maxHeartbeats 400000 in
theorem rfill_okB (r s l t now : Int) (w : World) (HC : Hid (∀ W, Calls Try.prog 16 #[.agg #[.int .i64 r, .int .i64 s, .int .i64 l, .int .i64 t]] W fun e w' => e = .returned (.int .i64 0) ∧ Below W.heap.size W w'))
    (h1 : 0 ≤ r) (h2 : r ≤ 1000000000) (h3 : 1 ≤ s) (h4 : s ≤ 1000000000) (_h5 : 0 ≤ l) (h6 : l ≤ s) (h7 : 0 ≤ t) (g2 : now ≤ 1073741824) (g3 : t ≤ now) (hm : s < l + r * (now - t)) :
    Calls Try.prog 10 #[.agg #[.int .i64 r, .int .i64 s, .int .i64 l, .int .i64 t], .int .i64 now] w fun e w' => e = .returned (.tuple #[.agg #[.int .i64 r, .int .i64 s, .int .i64 s, .int .i64 now], .int .i64 0]) ∧ Below w.heap.size w w' := by
  obtain ⟨p1, p2⟩ := prod_bd r now t h1 h2 g3 h7 g2
  go_enter Try.func10, Try.ntmps10
  go_wp2_with (go_at_call 16; refine (HC.out _).mono ?_; rintro e w' ⟨rfl, hb⟩; obtain ⟨⟨⟨a0, a1, a2, a3⟩, ⟨b0, b1, b2, b3⟩, ⟨e0, e1, e2, e3⟩, ⟨f0, f1, f2, f3⟩, hz⟩, hB⟩ := two_of hb; clear hb)
  refine bodyPost_ret (v := .tuple #[.agg #[.int .i64 r, .int .i64 s, .int .i64 s, .int .i64 now], .int .i64 0]) ?_ rfl ⟨rfl, ?_⟩
  · simp [results, Try.results10, go_sem, *]
  repeat' (first | (with_reducible exact hB) | (with_reducible refine Below.setCell ?_ ?_ _) | (with_reducible refine Below.alloc ?_ ?_ _) | (with_reducible refine Below.drew ?_) | (simp; done) | omega | (simp; omega))

theorem rfill_any (r s l t now : Int) (w : World) :
    Calls Try.prog 10 #[.agg #[.int .i64 r, .int .i64 s, .int .i64 l, .int .i64 t], .int .i64 now] w fun e w' => e = .returned (.tuple #[.agg #[.int .i64 (fillV r s l t now).r, .int .i64 (fillV r s l t now).s, .int .i64 (fillV r s l t now).l, .int .i64 (fillV r s l t now).t], .int .i64 (fillV r s l t now).e]) ∧ Below w.heap.size w w' := by
  cases hk : okB r s l t
  · rw [show fillV r s l t now = ⟨0, 0, 0, 0, 2⟩ by simp [fillV, hk]]
    exact rfill_no r s l t now w (fun W => by simpa [hk] using rcheck_any r s l t W)
  · have hv : 0 ≤ r ∧ r ≤ 1000000000 ∧ 1 ≤ s ∧ s ≤ 1000000000 ∧ 0 ≤ l ∧ l ≤ s ∧ 0 ≤ t ∧ t ≤ 1073741824 := by simpa [okB] using hk
    obtain ⟨h1, h2, h3, h4, h5, h6, h7, h8⟩ := hv
    have HC : Hid (∀ W, Calls Try.prog 16 #[.agg #[.int .i64 r, .int .i64 s, .int .i64 l, .int .i64 t]] W fun e w' => e = .returned (.int .i64 0) ∧ Below W.heap.size W w') := fun W => by simpa [hk] using rcheck_any r s l t W
    by_cases g1 : now < 0
    · rw [show fillV r s l t now = ⟨0, 0, 0, 0, 2⟩ by simp [fillV, hk, g1]]
      exact rfill_lo r s l t now w HC g1
    · by_cases g2 : 1073741824 < now
      · rw [show fillV r s l t now = ⟨0, 0, 0, 0, 2⟩ by simp [fillV, hk, g2]]
        exact rfill_hi r s l t now w HC g2
      · by_cases g3 : now < t
        · rw [show fillV r s l t now = ⟨0, 0, 0, 0, 11⟩ by simp [fillV, hk, g1, g2, g3]]
          exact rfill_old r s l t now w HC (by omega) (by omega) g3
        · by_cases hm : l + r * (now - t) ≤ s
          · rw [show fillV r s l t now = ⟨r, s, l + r * (now - t), now, 0⟩ by simp [fillV, hk, g1, g2, g3]; omega]
            exact rfill_okA r s l t now w HC h1 h2 h3 h4 h5 h6 h7 (by omega) (by omega) hm
          · rw [show fillV r s l t now = ⟨r, s, s, now, 0⟩ by simp [fillV, hk, g1, g2, g3]; omega]
            exact rfill_okB r s l t now w HC h1 h2 h3 h4 h5 h6 h7 (by omega) (by omega) (by omega)

end Go.Proofs.Ytmfekechdejefaa
