/- Contracts of layer 37 (instance): Step and Idle, and those of its reference. -/
import Derived.Test.YtfcihloebncmdaaDoorB
namespace Go.Proofs.YtfcihloebncmdaaDoor
open Go.ChangeShapes Go.WideShapes Go.ChangeAt Go.RowKit

def stepV (id : ByteArray) (st si us a now : Int) : IE := if chk id st si us = 0 then (if timeB now then (if now < si then ⟨⟨#[]⟩, 0, 0, 0, 11⟩ else if nxt st a = 0 then ⟨⟨#[]⟩, 0, 0, 0, 10⟩
  else if a = 2 then (if us = 1000000000 then ⟨⟨#[]⟩, 0, 0, 0, 8⟩ else ⟨id, nxt st a, now, us + 1, 0⟩) else ⟨id, nxt st a, now, us, 0⟩) else ⟨⟨#[]⟩, 0, 0, 0, 2⟩) else ⟨⟨#[]⟩, 0, 0, 0, chk id st si us⟩
theorem chk_ok (id : ByteArray) (st si us : Int) : chk id st si us = 0 ↔ (idB id = true ∧ 1 ≤ st ∧ st ≤ 5 ∧ timeB si = true ∧ 0 ≤ us ∧ us ≤ 1000000000) := by
  unfold chk
  cases idB id
  · simp
  · cases timeB si
    · simp
    · simp only [if_true, true_and, Bool.true_eq_false, false_or]
      split <;> simp <;> omega
theorem timeB_ok (n : Int) : timeB n = true ↔ (0 ≤ n ∧ n ≤ 1073741824) := by simp [timeB]
set_option maxHeartbeats 1000000 in
theorem step_err (id : ByteArray) (st si us a now e : Int) (w : World) (hT : Tab w) (HC : Hid (∀ W, Calls Tryd.prog 13 #[.agg #[.string id, .int .i64 st, .int .i64 si, .int .i64 us]] W fun e0 w' => e0 = .returned (.int .i64 e) ∧ Below W.heap.size W w')) (he : (e != 0) = true) :
    Calls Tryd.prog 11 #[.agg #[.string id, .int .i64 st, .int .i64 si, .int .i64 us], .int .i64 a, .int .i64 now] w fun e' w' => e' = .returned (.tuple #[.agg #[.string ⟨#[]⟩, .int .i64 0, .int .i64 0, .int .i64 0], .int .i64 e]) ∧ Below w.heap.size w w' := by
  go_enter Tryd.func11, Tryd.ntmps11
  go_wp2_with fail
  refine (HC.out _).mono ?_
  rintro _ w1 ⟨rfl, hb⟩
  have B3 := ((Box.new w 24 #[.string id, .int .i64 st, .int .i64 si, .int .i64 us]).alloc (.cells #[.string ⟨#[]⟩, .int .i64 0, .int .i64 0, .int .i64 0] 24)).next hb
  have B6 := (Box.new (w.alloc (.cells #[.string id, .int .i64 st, .int .i64 si, .int .i64 us] 24)) 24 #[.string ⟨#[]⟩, .int .i64 0, .int .i64 0, .int .i64 0]).next hb
  have hB := below_step (below_box ((Below.refl _ w).alloc (Nat.le_refl _) _) _) hb
  simp only [World.size_alloc] at B6
  have ht := hT.next hB
  have ht0 := hT
  clear hb hT
  have z := B6.lt
  obtain ⟨p0, p1, p2, p3⟩ := B3.cells4
  obtain ⟨f0, f1, f2, f3⟩ := B3.frozen4
  obtain ⟨q0, q1, q2, q3⟩ := B6.cells4
  obtain ⟨g0, g1, g2, g3⟩ := B6.frozen4
  go_wp2
  refine bodyPost_ret (v := .tuple #[.agg #[.string ⟨#[]⟩, .int .i64 0, .int .i64 0, .int .i64 0], .int .i64 e]) ?_ rfl ⟨rfl, ?_⟩
  · simp [results, Tryd.results11, go_sem, *]
  exact below_set4 hB (by simp) _ _ _ _
set_option maxHeartbeats 1000000 in
theorem step_time (id : ByteArray) (st si us a now  : Int) (w : World) (hT : Tab w) (HC : Hid (∀ W, Calls Tryd.prog 13 #[.agg #[.string id, .int .i64 st, .int .i64 si, .int .i64 us]] W fun e0 w' => e0 = .returned (.int .i64 0) ∧ Below W.heap.size W w')) (HT : Hid (∀ W, Calls Tryd.prog 22 #[.int .i64 now] W fun e w' => e = .returned (.bool false) ∧ W = w')) :
    Calls Tryd.prog 11 #[.agg #[.string id, .int .i64 st, .int .i64 si, .int .i64 us], .int .i64 a, .int .i64 now] w fun e' w' => e' = .returned (.tuple #[.agg #[.string ⟨#[]⟩, .int .i64 0, .int .i64 0, .int .i64 0], .int .i64 2]) ∧ Below w.heap.size w w' := by
  go_enter Tryd.func11, Tryd.ntmps11
  go_wp2_with fail
  refine (HC.out _).mono ?_
  rintro _ w1 ⟨rfl, hb⟩
  have B3 := ((Box.new w 24 #[.string id, .int .i64 st, .int .i64 si, .int .i64 us]).alloc (.cells #[.string ⟨#[]⟩, .int .i64 0, .int .i64 0, .int .i64 0] 24)).next hb
  have B6 := (Box.new (w.alloc (.cells #[.string id, .int .i64 st, .int .i64 si, .int .i64 us] 24)) 24 #[.string ⟨#[]⟩, .int .i64 0, .int .i64 0, .int .i64 0]).next hb
  have hB := below_step (below_box ((Below.refl _ w).alloc (Nat.le_refl _) _) _) hb
  simp only [World.size_alloc] at B6
  have ht := hT.next hB
  have ht0 := hT
  clear hb hT
  have z := B6.lt
  obtain ⟨p0, p1, p2, p3⟩ := B3.cells4
  obtain ⟨f0, f1, f2, f3⟩ := B3.frozen4
  obtain ⟨q0, q1, q2, q3⟩ := B6.cells4
  obtain ⟨g0, g1, g2, g3⟩ := B6.frozen4
  go_wp2_with (go_at_call 22; refine (HT.out _).mono ?_; rintro _ _ ⟨rfl, rfl⟩)
  refine bodyPost_ret (v := .tuple #[.agg #[.string ⟨#[]⟩, .int .i64 0, .int .i64 0, .int .i64 0], .int .i64 2]) ?_ rfl ⟨rfl, ?_⟩
  · simp [results, Tryd.results11, go_sem, *]
  exact below_set4 hB (by simp) _ _ _ _
set_option maxHeartbeats 1000000 in
theorem step_old (id : ByteArray) (st si us a now  : Int) (w : World) (hT : Tab w) (HC : Hid (∀ W, Calls Tryd.prog 13 #[.agg #[.string id, .int .i64 st, .int .i64 si, .int .i64 us]] W fun e0 w' => e0 = .returned (.int .i64 0) ∧ Below W.heap.size W w')) (HT : Hid (∀ W, Calls Tryd.prog 22 #[.int .i64 now] W fun e w' => e = .returned (.bool true) ∧ W = w')) (h : now < si) :
    Calls Tryd.prog 11 #[.agg #[.string id, .int .i64 st, .int .i64 si, .int .i64 us], .int .i64 a, .int .i64 now] w fun e' w' => e' = .returned (.tuple #[.agg #[.string ⟨#[]⟩, .int .i64 0, .int .i64 0, .int .i64 0], .int .i64 11]) ∧ Below w.heap.size w w' := by
  go_enter Tryd.func11, Tryd.ntmps11
  go_wp2_with fail
  refine (HC.out _).mono ?_
  rintro _ w1 ⟨rfl, hb⟩
  have B3 := ((Box.new w 24 #[.string id, .int .i64 st, .int .i64 si, .int .i64 us]).alloc (.cells #[.string ⟨#[]⟩, .int .i64 0, .int .i64 0, .int .i64 0] 24)).next hb
  have B6 := (Box.new (w.alloc (.cells #[.string id, .int .i64 st, .int .i64 si, .int .i64 us] 24)) 24 #[.string ⟨#[]⟩, .int .i64 0, .int .i64 0, .int .i64 0]).next hb
  have hB := below_step (below_box ((Below.refl _ w).alloc (Nat.le_refl _) _) _) hb
  simp only [World.size_alloc] at B6
  have ht := hT.next hB
  have ht0 := hT
  clear hb hT
  have z := B6.lt
  obtain ⟨p0, p1, p2, p3⟩ := B3.cells4
  obtain ⟨f0, f1, f2, f3⟩ := B3.frozen4
  obtain ⟨q0, q1, q2, q3⟩ := B6.cells4
  obtain ⟨g0, g1, g2, g3⟩ := B6.frozen4
  go_wp2_with (go_at_call 22; refine (HT.out _).mono ?_; rintro _ _ ⟨rfl, rfl⟩)
  refine bodyPost_ret (v := .tuple #[.agg #[.string ⟨#[]⟩, .int .i64 0, .int .i64 0, .int .i64 0], .int .i64 11]) ?_ rfl ⟨rfl, ?_⟩
  · simp [results, Tryd.results11, go_sem, *]
  exact below_set4 hB (by simp) _ _ _ _
set_option maxHeartbeats 1000000 in
theorem step_ill (id : ByteArray) (st si us a now  : Int) (w : World) (hT : Tab w) (HC : Hid (∀ W, Calls Tryd.prog 13 #[.agg #[.string id, .int .i64 st, .int .i64 si, .int .i64 us]] W fun e0 w' => e0 = .returned (.int .i64 0) ∧ Below W.heap.size W w')) (HT : Hid (∀ W, Calls Tryd.prog 22 #[.int .i64 now] W fun e w' => e = .returned (.bool true) ∧ W = w')) (HL : Hid (∀ W, Tab W → Calls Tryd.prog 17 #[.int .i64 st, .int .i64 a] W fun e w' => e = .returned (.bool false) ∧ W = w')) (h : si ≤ now) :
    Calls Tryd.prog 11 #[.agg #[.string id, .int .i64 st, .int .i64 si, .int .i64 us], .int .i64 a, .int .i64 now] w fun e' w' => e' = .returned (.tuple #[.agg #[.string ⟨#[]⟩, .int .i64 0, .int .i64 0, .int .i64 0], .int .i64 10]) ∧ Below w.heap.size w w' := by
  go_enter Tryd.func11, Tryd.ntmps11
  go_wp2_with fail
  refine (HC.out _).mono ?_
  rintro _ w1 ⟨rfl, hb⟩
  have B3 := ((Box.new w 24 #[.string id, .int .i64 st, .int .i64 si, .int .i64 us]).alloc (.cells #[.string ⟨#[]⟩, .int .i64 0, .int .i64 0, .int .i64 0] 24)).next hb
  have B6 := (Box.new (w.alloc (.cells #[.string id, .int .i64 st, .int .i64 si, .int .i64 us] 24)) 24 #[.string ⟨#[]⟩, .int .i64 0, .int .i64 0, .int .i64 0]).next hb
  have hB := below_step (below_box ((Below.refl _ w).alloc (Nat.le_refl _) _) _) hb
  simp only [World.size_alloc] at B6
  have ht := hT.next hB
  have ht0 := hT
  clear hb hT
  have z := B6.lt
  obtain ⟨p0, p1, p2, p3⟩ := B3.cells4
  obtain ⟨f0, f1, f2, f3⟩ := B3.frozen4
  obtain ⟨q0, q1, q2, q3⟩ := B6.cells4
  obtain ⟨g0, g1, g2, g3⟩ := B6.frozen4
  go_wp2_with (first | (go_at_call 22; refine (HT.out _).mono ?_; rintro _ _ ⟨rfl, rfl⟩) | (go_at_call 17; refine (HL.out _ ht).mono ?_; rintro _ _ ⟨rfl, rfl⟩))
  refine bodyPost_ret (v := .tuple #[.agg #[.string ⟨#[]⟩, .int .i64 0, .int .i64 0, .int .i64 0], .int .i64 10]) ?_ rfl ⟨rfl, ?_⟩
  · simp [results, Tryd.results11, go_sem, *]
  exact below_set4 hB (by simp) _ _ _ _
set_option maxHeartbeats 1000000 in
theorem step_over (id : ByteArray) (st si us a now v : Int) (w : World) (hT : Tab w) (HC : Hid (∀ W, Calls Tryd.prog 13 #[.agg #[.string id, .int .i64 st, .int .i64 si, .int .i64 us]] W fun e0 w' => e0 = .returned (.int .i64 0) ∧ Below W.heap.size W w')) (HT : Hid (∀ W, Calls Tryd.prog 22 #[.int .i64 now] W fun e w' => e = .returned (.bool true) ∧ W = w')) (HL : Hid (∀ W, Tab W → Calls Tryd.prog 17 #[.int .i64 st, .int .i64 a] W fun e w' => e = .returned (.bool true) ∧ W = w')) (HA : Hid (∀ W, Tab W → Calls Tryd.prog 25 #[.int .i64 st, .int .i64 a] W fun e w' => e = .returned (.int .i64 v) ∧ W = w')) (h : si ≤ now) (ha : a = 2) (hu1 : 1000000000 ≤ us) (hu2 : us ≤ 1000000000) :
    Calls Tryd.prog 11 #[.agg #[.string id, .int .i64 st, .int .i64 si, .int .i64 us], .int .i64 a, .int .i64 now] w fun e' w' => e' = .returned (.tuple #[.agg #[.string ⟨#[]⟩, .int .i64 0, .int .i64 0, .int .i64 0], .int .i64 8]) ∧ Below w.heap.size w w' := by
  go_enter Tryd.func11, Tryd.ntmps11
  go_wp2_with fail
  refine (HC.out _).mono ?_
  rintro _ w1 ⟨rfl, hb⟩
  have B3 := ((Box.new w 24 #[.string id, .int .i64 st, .int .i64 si, .int .i64 us]).alloc (.cells #[.string ⟨#[]⟩, .int .i64 0, .int .i64 0, .int .i64 0] 24)).next hb
  have B6 := (Box.new (w.alloc (.cells #[.string id, .int .i64 st, .int .i64 si, .int .i64 us] 24)) 24 #[.string ⟨#[]⟩, .int .i64 0, .int .i64 0, .int .i64 0]).next hb
  have hB := below_step (below_box ((Below.refl _ w).alloc (Nat.le_refl _) _) _) hb
  simp only [World.size_alloc] at B6
  have ht := hT.next hB
  have ht0 := hT
  clear hb hT
  have z := B6.lt
  obtain ⟨p0, p1, p2, p3⟩ := B3.cells4
  obtain ⟨f0, f1, f2, f3⟩ := B3.frozen4
  obtain ⟨q0, q1, q2, q3⟩ := B6.cells4
  obtain ⟨g0, g1, g2, g3⟩ := B6.frozen4
  subst ha
  go_upto_region 11 with (first | (go_at_call 22; refine (HT.out _).mono ?_; rintro _ _ ⟨rfl, rfl⟩) | (go_at_call 17; refine (HL.out _ ht).mono ?_; rintro _ _ ⟨rfl, rfl⟩) | (go_at_call 25; refine (HA.out _ ht).mono ?_; rintro _ _ ⟨rfl, rfl⟩))
  refine wp_forget (fun w2 => Box w2 w.heap.size 24 #[.string id, .int .i64 v, .int .i64 now, .int .i64 us] ∧ Box w2 (w.heap.size + 1) 24 #[.string ⟨#[]⟩, .int .i64 0, .int .i64 0, .int .i64 0] ∧ Below w.heap.size w w2 ∧ Tab w2) ⟨((B3.set 1 (.int .i64 v)).set 2 (.int .i64 now)).eq_ (by simp), (B6.far (p := ⟨w.heap.size, 1, none⟩) (by simp) _).far (p := ⟨w.heap.size, 2, none⟩) (by simp) _, (hB.setCell (p := ⟨w.heap.size, 1, none⟩) (Nat.le_refl _) _).setCell (p := ⟨w.heap.size, 2, none⟩) (Nat.le_refl _) _, (ht0.next ((hB.setCell (p := ⟨w.heap.size, 1, none⟩) (Nat.le_refl _) _).setCell (p := ⟨w.heap.size, 2, none⟩) (Nat.le_refl _) _))⟩ ?_
  clear B3 B6 hB z p0 p1 p2 p3 f0 f1 f2 f3 q0 q1 q2 q3 g0 g1 g2 g3 ht
  rintro w2 ⟨B3, B6, hB, ht⟩
  have z := B6.lt
  obtain ⟨p0, p1, p2, p3⟩ := B3.cells4
  obtain ⟨f0, f1, f2, f3⟩ := B3.frozen4
  obtain ⟨q0, q1, q2, q3⟩ := B6.cells4
  obtain ⟨g0, g1, g2, g3⟩ := B6.frozen4
  go_wp2_with (first | (go_at_call 22; refine (HT.out _).mono ?_; rintro _ _ ⟨rfl, rfl⟩) | (go_at_call 17; refine (HL.out _ ht).mono ?_; rintro _ _ ⟨rfl, rfl⟩) | (go_at_call 25; refine (HA.out _ ht).mono ?_; rintro _ _ ⟨rfl, rfl⟩))
  refine bodyPost_ret (v := .tuple #[.agg #[.string ⟨#[]⟩, .int .i64 0, .int .i64 0, .int .i64 0], .int .i64 8]) ?_ rfl ⟨rfl, ?_⟩
  · simp [results, Tryd.results11, go_sem, *]
  exact below_set4 (hB.setCell (p := ⟨w.heap.size, 3, none⟩) (Nat.le_refl _) _) (by simp) _ _ _ _
set_option maxHeartbeats 1000000 in
theorem step_use (id : ByteArray) (st si us a now v : Int) (w : World) (hT : Tab w) (HC : Hid (∀ W, Calls Tryd.prog 13 #[.agg #[.string id, .int .i64 st, .int .i64 si, .int .i64 us]] W fun e0 w' => e0 = .returned (.int .i64 0) ∧ Below W.heap.size W w')) (HT : Hid (∀ W, Calls Tryd.prog 22 #[.int .i64 now] W fun e w' => e = .returned (.bool true) ∧ W = w')) (HL : Hid (∀ W, Tab W → Calls Tryd.prog 17 #[.int .i64 st, .int .i64 a] W fun e w' => e = .returned (.bool true) ∧ W = w')) (HA : Hid (∀ W, Tab W → Calls Tryd.prog 25 #[.int .i64 st, .int .i64 a] W fun e w' => e = .returned (.int .i64 v) ∧ W = w')) (h : si ≤ now) (ha : a = 2) (hu : us < 1000000000) (hu0 : 0 ≤ us) :
    Calls Tryd.prog 11 #[.agg #[.string id, .int .i64 st, .int .i64 si, .int .i64 us], .int .i64 a, .int .i64 now] w fun e' w' => e' = .returned (.tuple #[.agg #[.string id, .int .i64 v, .int .i64 now, .int .i64 (us + 1)], .int .i64 0]) ∧ Below w.heap.size w w' := by
  go_enter Tryd.func11, Tryd.ntmps11
  go_wp2_with fail
  refine (HC.out _).mono ?_
  rintro _ w1 ⟨rfl, hb⟩
  have B3 := ((Box.new w 24 #[.string id, .int .i64 st, .int .i64 si, .int .i64 us]).alloc (.cells #[.string ⟨#[]⟩, .int .i64 0, .int .i64 0, .int .i64 0] 24)).next hb
  have B6 := (Box.new (w.alloc (.cells #[.string id, .int .i64 st, .int .i64 si, .int .i64 us] 24)) 24 #[.string ⟨#[]⟩, .int .i64 0, .int .i64 0, .int .i64 0]).next hb
  have hB := below_step (below_box ((Below.refl _ w).alloc (Nat.le_refl _) _) _) hb
  simp only [World.size_alloc] at B6
  have ht := hT.next hB
  have ht0 := hT
  clear hb hT
  have z := B6.lt
  obtain ⟨p0, p1, p2, p3⟩ := B3.cells4
  obtain ⟨f0, f1, f2, f3⟩ := B3.frozen4
  obtain ⟨q0, q1, q2, q3⟩ := B6.cells4
  obtain ⟨g0, g1, g2, g3⟩ := B6.frozen4
  subst ha
  go_upto_region 11 with (first | (go_at_call 22; refine (HT.out _).mono ?_; rintro _ _ ⟨rfl, rfl⟩) | (go_at_call 17; refine (HL.out _ ht).mono ?_; rintro _ _ ⟨rfl, rfl⟩) | (go_at_call 25; refine (HA.out _ ht).mono ?_; rintro _ _ ⟨rfl, rfl⟩))
  refine wp_forget (fun w2 => Box w2 w.heap.size 24 #[.string id, .int .i64 v, .int .i64 now, .int .i64 us] ∧ Box w2 (w.heap.size + 1) 24 #[.string ⟨#[]⟩, .int .i64 0, .int .i64 0, .int .i64 0] ∧ Below w.heap.size w w2 ∧ Tab w2) ⟨((B3.set 1 (.int .i64 v)).set 2 (.int .i64 now)).eq_ (by simp), (B6.far (p := ⟨w.heap.size, 1, none⟩) (by simp) _).far (p := ⟨w.heap.size, 2, none⟩) (by simp) _, (hB.setCell (p := ⟨w.heap.size, 1, none⟩) (Nat.le_refl _) _).setCell (p := ⟨w.heap.size, 2, none⟩) (Nat.le_refl _) _, (ht0.next ((hB.setCell (p := ⟨w.heap.size, 1, none⟩) (Nat.le_refl _) _).setCell (p := ⟨w.heap.size, 2, none⟩) (Nat.le_refl _) _))⟩ ?_
  clear B3 B6 hB z p0 p1 p2 p3 f0 f1 f2 f3 q0 q1 q2 q3 g0 g1 g2 g3 ht
  rintro w2 ⟨B3, B6, hB, ht⟩
  have z := B6.lt
  obtain ⟨p0, p1, p2, p3⟩ := B3.cells4
  obtain ⟨f0, f1, f2, f3⟩ := B3.frozen4
  obtain ⟨q0, q1, q2, q3⟩ := B6.cells4
  obtain ⟨g0, g1, g2, g3⟩ := B6.frozen4
  go_wp2_with (first | (go_at_call 22; refine (HT.out _).mono ?_; rintro _ _ ⟨rfl, rfl⟩) | (go_at_call 17; refine (HL.out _ ht).mono ?_; rintro _ _ ⟨rfl, rfl⟩) | (go_at_call 25; refine (HA.out _ ht).mono ?_; rintro _ _ ⟨rfl, rfl⟩))
  refine bodyPost_ret (v := .tuple #[.agg #[.string id, .int .i64 v, .int .i64 now, .int .i64 (us + 1)], .int .i64 0]) ?_ rfl ⟨rfl, ?_⟩
  · simp [results, Tryd.results11, go_sem, *]
  exact below_set4 (hB.setCell (p := ⟨w.heap.size, 3, none⟩) (Nat.le_refl _) _) (by simp) _ _ _ _
set_option maxHeartbeats 1000000 in
theorem step_move (id : ByteArray) (st si us a now v : Int) (w : World) (hT : Tab w) (HC : Hid (∀ W, Calls Tryd.prog 13 #[.agg #[.string id, .int .i64 st, .int .i64 si, .int .i64 us]] W fun e0 w' => e0 = .returned (.int .i64 0) ∧ Below W.heap.size W w')) (HT : Hid (∀ W, Calls Tryd.prog 22 #[.int .i64 now] W fun e w' => e = .returned (.bool true) ∧ W = w')) (HL : Hid (∀ W, Tab W → Calls Tryd.prog 17 #[.int .i64 st, .int .i64 a] W fun e w' => e = .returned (.bool true) ∧ W = w')) (HA : Hid (∀ W, Tab W → Calls Tryd.prog 25 #[.int .i64 st, .int .i64 a] W fun e w' => e = .returned (.int .i64 v) ∧ W = w')) (h : si ≤ now) (ha : (a == 2) = false) (hu : us ≤ 1000000000) :
    Calls Tryd.prog 11 #[.agg #[.string id, .int .i64 st, .int .i64 si, .int .i64 us], .int .i64 a, .int .i64 now] w fun e' w' => e' = .returned (.tuple #[.agg #[.string id, .int .i64 v, .int .i64 now, .int .i64 us], .int .i64 0]) ∧ Below w.heap.size w w' := by
  go_enter Tryd.func11, Tryd.ntmps11
  go_wp2_with fail
  refine (HC.out _).mono ?_
  rintro _ w1 ⟨rfl, hb⟩
  have B3 := ((Box.new w 24 #[.string id, .int .i64 st, .int .i64 si, .int .i64 us]).alloc (.cells #[.string ⟨#[]⟩, .int .i64 0, .int .i64 0, .int .i64 0] 24)).next hb
  have B6 := (Box.new (w.alloc (.cells #[.string id, .int .i64 st, .int .i64 si, .int .i64 us] 24)) 24 #[.string ⟨#[]⟩, .int .i64 0, .int .i64 0, .int .i64 0]).next hb
  have hB := below_step (below_box ((Below.refl _ w).alloc (Nat.le_refl _) _) _) hb
  simp only [World.size_alloc] at B6
  have ht := hT.next hB
  have ht0 := hT
  clear hb hT
  have z := B6.lt
  obtain ⟨p0, p1, p2, p3⟩ := B3.cells4
  obtain ⟨f0, f1, f2, f3⟩ := B3.frozen4
  obtain ⟨q0, q1, q2, q3⟩ := B6.cells4
  obtain ⟨g0, g1, g2, g3⟩ := B6.frozen4
  go_upto_region 11 with (first | (go_at_call 22; refine (HT.out _).mono ?_; rintro _ _ ⟨rfl, rfl⟩) | (go_at_call 17; refine (HL.out _ ht).mono ?_; rintro _ _ ⟨rfl, rfl⟩) | (go_at_call 25; refine (HA.out _ ht).mono ?_; rintro _ _ ⟨rfl, rfl⟩))
  refine wp_forget (fun w2 => Box w2 w.heap.size 24 #[.string id, .int .i64 v, .int .i64 now, .int .i64 us] ∧ Box w2 (w.heap.size + 1) 24 #[.string ⟨#[]⟩, .int .i64 0, .int .i64 0, .int .i64 0] ∧ Below w.heap.size w w2 ∧ Tab w2) ⟨((B3.set 1 (.int .i64 v)).set 2 (.int .i64 now)).eq_ (by simp), (B6.far (p := ⟨w.heap.size, 1, none⟩) (by simp) _).far (p := ⟨w.heap.size, 2, none⟩) (by simp) _, (hB.setCell (p := ⟨w.heap.size, 1, none⟩) (Nat.le_refl _) _).setCell (p := ⟨w.heap.size, 2, none⟩) (Nat.le_refl _) _, (ht0.next ((hB.setCell (p := ⟨w.heap.size, 1, none⟩) (Nat.le_refl _) _).setCell (p := ⟨w.heap.size, 2, none⟩) (Nat.le_refl _) _))⟩ ?_
  clear B3 B6 hB z p0 p1 p2 p3 f0 f1 f2 f3 q0 q1 q2 q3 g0 g1 g2 g3 ht
  rintro w2 ⟨B3, B6, hB, ht⟩
  have z := B6.lt
  obtain ⟨p0, p1, p2, p3⟩ := B3.cells4
  obtain ⟨f0, f1, f2, f3⟩ := B3.frozen4
  obtain ⟨q0, q1, q2, q3⟩ := B6.cells4
  obtain ⟨g0, g1, g2, g3⟩ := B6.frozen4
  go_wp2_with (first | (go_at_call 22; refine (HT.out _).mono ?_; rintro _ _ ⟨rfl, rfl⟩) | (go_at_call 17; refine (HL.out _ ht).mono ?_; rintro _ _ ⟨rfl, rfl⟩) | (go_at_call 25; refine (HA.out _ ht).mono ?_; rintro _ _ ⟨rfl, rfl⟩))
  refine bodyPost_ret (v := .tuple #[.agg #[.string id, .int .i64 v, .int .i64 now, .int .i64 us], .int .i64 0]) ?_ rfl ⟨rfl, ?_⟩
  · simp [results, Tryd.results11, go_sem, *]
  exact below_set4 hB (by simp) _ _ _ _
set_option maxHeartbeats 1000000 in
theorem rstep_err (id : ByteArray) (st si us a now e : Int) (w : World) (hT : Tab w) (HC : Hid (∀ W, Calls Tryd.prog 14 #[.agg #[.string id, .int .i64 st, .int .i64 si, .int .i64 us]] W fun e0 w' => e0 = .returned (.int .i64 e) ∧ Below W.heap.size W w')) (he : (e != 0) = true) :
    Calls Tryd.prog 12 #[.agg #[.string id, .int .i64 st, .int .i64 si, .int .i64 us], .int .i64 a, .int .i64 now] w fun e' w' => e' = .returned (.tuple #[.agg #[.string ⟨#[]⟩, .int .i64 0, .int .i64 0, .int .i64 0], .int .i64 e]) ∧ Below w.heap.size w w' := by
  go_enter Tryd.func12, Tryd.ntmps12
  go_wp2_with fail
  refine (HC.out _).mono ?_
  rintro _ w1 ⟨rfl, hb⟩
  have B3 := ((Box.new w 24 #[.string id, .int .i64 st, .int .i64 si, .int .i64 us]).alloc (.cells #[.string ⟨#[]⟩, .int .i64 0, .int .i64 0, .int .i64 0] 24)).next hb
  have B6 := (Box.new (w.alloc (.cells #[.string id, .int .i64 st, .int .i64 si, .int .i64 us] 24)) 24 #[.string ⟨#[]⟩, .int .i64 0, .int .i64 0, .int .i64 0]).next hb
  have hB := below_step (below_box ((Below.refl _ w).alloc (Nat.le_refl _) _) _) hb
  simp only [World.size_alloc] at B6
  have ht := hT.next hB
  have ht0 := hT
  clear hb hT
  have z := B6.lt
  obtain ⟨p0, p1, p2, p3⟩ := B3.cells4
  obtain ⟨f0, f1, f2, f3⟩ := B3.frozen4
  obtain ⟨q0, q1, q2, q3⟩ := B6.cells4
  obtain ⟨g0, g1, g2, g3⟩ := B6.frozen4
  go_wp2
  refine bodyPost_ret (v := .tuple #[.agg #[.string ⟨#[]⟩, .int .i64 0, .int .i64 0, .int .i64 0], .int .i64 e]) ?_ rfl ⟨rfl, ?_⟩
  · simp [results, Tryd.results12, go_sem, *]
  exact below_set4 hB (by simp) _ _ _ _
set_option maxHeartbeats 1000000 in
theorem rstep_time (id : ByteArray) (st si us a now  : Int) (w : World) (hT : Tab w) (HC : Hid (∀ W, Calls Tryd.prog 14 #[.agg #[.string id, .int .i64 st, .int .i64 si, .int .i64 us]] W fun e0 w' => e0 = .returned (.int .i64 0) ∧ Below W.heap.size W w')) (HT : Hid (∀ W, Calls Tryd.prog 24 #[.int .i64 now] W fun e w' => e = .returned (.bool false) ∧ W = w')) :
    Calls Tryd.prog 12 #[.agg #[.string id, .int .i64 st, .int .i64 si, .int .i64 us], .int .i64 a, .int .i64 now] w fun e' w' => e' = .returned (.tuple #[.agg #[.string ⟨#[]⟩, .int .i64 0, .int .i64 0, .int .i64 0], .int .i64 2]) ∧ Below w.heap.size w w' := by
  go_enter Tryd.func12, Tryd.ntmps12
  go_wp2_with fail
  refine (HC.out _).mono ?_
  rintro _ w1 ⟨rfl, hb⟩
  have B3 := ((Box.new w 24 #[.string id, .int .i64 st, .int .i64 si, .int .i64 us]).alloc (.cells #[.string ⟨#[]⟩, .int .i64 0, .int .i64 0, .int .i64 0] 24)).next hb
  have B6 := (Box.new (w.alloc (.cells #[.string id, .int .i64 st, .int .i64 si, .int .i64 us] 24)) 24 #[.string ⟨#[]⟩, .int .i64 0, .int .i64 0, .int .i64 0]).next hb
  have hB := below_step (below_box ((Below.refl _ w).alloc (Nat.le_refl _) _) _) hb
  simp only [World.size_alloc] at B6
  have ht := hT.next hB
  have ht0 := hT
  clear hb hT
  have z := B6.lt
  obtain ⟨p0, p1, p2, p3⟩ := B3.cells4
  obtain ⟨f0, f1, f2, f3⟩ := B3.frozen4
  obtain ⟨q0, q1, q2, q3⟩ := B6.cells4
  obtain ⟨g0, g1, g2, g3⟩ := B6.frozen4
  go_wp2_with (go_at_call 24; refine (HT.out _).mono ?_; rintro _ _ ⟨rfl, rfl⟩)
  refine bodyPost_ret (v := .tuple #[.agg #[.string ⟨#[]⟩, .int .i64 0, .int .i64 0, .int .i64 0], .int .i64 2]) ?_ rfl ⟨rfl, ?_⟩
  · simp [results, Tryd.results12, go_sem, *]
  exact below_set4 hB (by simp) _ _ _ _
set_option maxHeartbeats 1000000 in
theorem rstep_old (id : ByteArray) (st si us a now  : Int) (w : World) (hT : Tab w) (HC : Hid (∀ W, Calls Tryd.prog 14 #[.agg #[.string id, .int .i64 st, .int .i64 si, .int .i64 us]] W fun e0 w' => e0 = .returned (.int .i64 0) ∧ Below W.heap.size W w')) (HT : Hid (∀ W, Calls Tryd.prog 24 #[.int .i64 now] W fun e w' => e = .returned (.bool true) ∧ W = w')) (h : now < si) :
    Calls Tryd.prog 12 #[.agg #[.string id, .int .i64 st, .int .i64 si, .int .i64 us], .int .i64 a, .int .i64 now] w fun e' w' => e' = .returned (.tuple #[.agg #[.string ⟨#[]⟩, .int .i64 0, .int .i64 0, .int .i64 0], .int .i64 11]) ∧ Below w.heap.size w w' := by
  go_enter Tryd.func12, Tryd.ntmps12
  go_wp2_with fail
  refine (HC.out _).mono ?_
  rintro _ w1 ⟨rfl, hb⟩
  have B3 := ((Box.new w 24 #[.string id, .int .i64 st, .int .i64 si, .int .i64 us]).alloc (.cells #[.string ⟨#[]⟩, .int .i64 0, .int .i64 0, .int .i64 0] 24)).next hb
  have B6 := (Box.new (w.alloc (.cells #[.string id, .int .i64 st, .int .i64 si, .int .i64 us] 24)) 24 #[.string ⟨#[]⟩, .int .i64 0, .int .i64 0, .int .i64 0]).next hb
  have hB := below_step (below_box ((Below.refl _ w).alloc (Nat.le_refl _) _) _) hb
  simp only [World.size_alloc] at B6
  have ht := hT.next hB
  have ht0 := hT
  clear hb hT
  have z := B6.lt
  obtain ⟨p0, p1, p2, p3⟩ := B3.cells4
  obtain ⟨f0, f1, f2, f3⟩ := B3.frozen4
  obtain ⟨q0, q1, q2, q3⟩ := B6.cells4
  obtain ⟨g0, g1, g2, g3⟩ := B6.frozen4
  go_wp2_with (go_at_call 24; refine (HT.out _).mono ?_; rintro _ _ ⟨rfl, rfl⟩)
  refine bodyPost_ret (v := .tuple #[.agg #[.string ⟨#[]⟩, .int .i64 0, .int .i64 0, .int .i64 0], .int .i64 11]) ?_ rfl ⟨rfl, ?_⟩
  · simp [results, Tryd.results12, go_sem, *]
  exact below_set4 hB (by simp) _ _ _ _
set_option maxHeartbeats 1000000 in
theorem rstep_ill (id : ByteArray) (st si us a now  : Int) (w : World) (hT : Tab w) (HC : Hid (∀ W, Calls Tryd.prog 14 #[.agg #[.string id, .int .i64 st, .int .i64 si, .int .i64 us]] W fun e0 w' => e0 = .returned (.int .i64 0) ∧ Below W.heap.size W w')) (HT : Hid (∀ W, Calls Tryd.prog 24 #[.int .i64 now] W fun e w' => e = .returned (.bool true) ∧ W = w')) (HL : Hid (∀ W, Tab W → Calls Tryd.prog 18 #[.int .i64 st, .int .i64 a] W fun e w' => e = .returned (.bool false) ∧ W = w')) (h : si ≤ now) :
    Calls Tryd.prog 12 #[.agg #[.string id, .int .i64 st, .int .i64 si, .int .i64 us], .int .i64 a, .int .i64 now] w fun e' w' => e' = .returned (.tuple #[.agg #[.string ⟨#[]⟩, .int .i64 0, .int .i64 0, .int .i64 0], .int .i64 10]) ∧ Below w.heap.size w w' := by
  go_enter Tryd.func12, Tryd.ntmps12
  go_wp2_with fail
  refine (HC.out _).mono ?_
  rintro _ w1 ⟨rfl, hb⟩
  have B3 := ((Box.new w 24 #[.string id, .int .i64 st, .int .i64 si, .int .i64 us]).alloc (.cells #[.string ⟨#[]⟩, .int .i64 0, .int .i64 0, .int .i64 0] 24)).next hb
  have B6 := (Box.new (w.alloc (.cells #[.string id, .int .i64 st, .int .i64 si, .int .i64 us] 24)) 24 #[.string ⟨#[]⟩, .int .i64 0, .int .i64 0, .int .i64 0]).next hb
  have hB := below_step (below_box ((Below.refl _ w).alloc (Nat.le_refl _) _) _) hb
  simp only [World.size_alloc] at B6
  have ht := hT.next hB
  have ht0 := hT
  clear hb hT
  have z := B6.lt
  obtain ⟨p0, p1, p2, p3⟩ := B3.cells4
  obtain ⟨f0, f1, f2, f3⟩ := B3.frozen4
  obtain ⟨q0, q1, q2, q3⟩ := B6.cells4
  obtain ⟨g0, g1, g2, g3⟩ := B6.frozen4
  go_wp2_with (first | (go_at_call 24; refine (HT.out _).mono ?_; rintro _ _ ⟨rfl, rfl⟩) | (go_at_call 18; refine (HL.out _ ht).mono ?_; rintro _ _ ⟨rfl, rfl⟩))
  refine bodyPost_ret (v := .tuple #[.agg #[.string ⟨#[]⟩, .int .i64 0, .int .i64 0, .int .i64 0], .int .i64 10]) ?_ rfl ⟨rfl, ?_⟩
  · simp [results, Tryd.results12, go_sem, *]
  exact below_set4 hB (by simp) _ _ _ _
set_option maxHeartbeats 1000000 in
theorem rstep_over (id : ByteArray) (st si us a now  : Int) (w : World) (hT : Tab w) (HC : Hid (∀ W, Calls Tryd.prog 14 #[.agg #[.string id, .int .i64 st, .int .i64 si, .int .i64 us]] W fun e0 w' => e0 = .returned (.int .i64 0) ∧ Below W.heap.size W w')) (HT : Hid (∀ W, Calls Tryd.prog 24 #[.int .i64 now] W fun e w' => e = .returned (.bool true) ∧ W = w')) (HL : Hid (∀ W, Tab W → Calls Tryd.prog 18 #[.int .i64 st, .int .i64 a] W fun e w' => e = .returned (.bool true) ∧ W = w')) (h : si ≤ now) (ha : a = 2) (hu : (us == 1000000000) = true) :
    Calls Tryd.prog 12 #[.agg #[.string id, .int .i64 st, .int .i64 si, .int .i64 us], .int .i64 a, .int .i64 now] w fun e' w' => e' = .returned (.tuple #[.agg #[.string ⟨#[]⟩, .int .i64 0, .int .i64 0, .int .i64 0], .int .i64 8]) ∧ Below w.heap.size w w' := by
  go_enter Tryd.func12, Tryd.ntmps12
  go_wp2_with fail
  refine (HC.out _).mono ?_
  rintro _ w1 ⟨rfl, hb⟩
  have B3 := ((Box.new w 24 #[.string id, .int .i64 st, .int .i64 si, .int .i64 us]).alloc (.cells #[.string ⟨#[]⟩, .int .i64 0, .int .i64 0, .int .i64 0] 24)).next hb
  have B6 := (Box.new (w.alloc (.cells #[.string id, .int .i64 st, .int .i64 si, .int .i64 us] 24)) 24 #[.string ⟨#[]⟩, .int .i64 0, .int .i64 0, .int .i64 0]).next hb
  have hB := below_step (below_box ((Below.refl _ w).alloc (Nat.le_refl _) _) _) hb
  simp only [World.size_alloc] at B6
  have ht := hT.next hB
  have ht0 := hT
  clear hb hT
  have z := B6.lt
  obtain ⟨p0, p1, p2, p3⟩ := B3.cells4
  obtain ⟨f0, f1, f2, f3⟩ := B3.frozen4
  obtain ⟨q0, q1, q2, q3⟩ := B6.cells4
  obtain ⟨g0, g1, g2, g3⟩ := B6.frozen4
  subst ha
  go_wp2_with (first | (go_at_call 24; refine (HT.out _).mono ?_; rintro _ _ ⟨rfl, rfl⟩) | (go_at_call 18; refine (HL.out _ ht).mono ?_; rintro _ _ ⟨rfl, rfl⟩))
  refine bodyPost_ret (v := .tuple #[.agg #[.string ⟨#[]⟩, .int .i64 0, .int .i64 0, .int .i64 0], .int .i64 8]) ?_ rfl ⟨rfl, ?_⟩
  · simp [results, Tryd.results12, go_sem, *]
  exact below_set4 hB (by simp) _ _ _ _
set_option maxHeartbeats 1000000 in
theorem rstep_use (id : ByteArray) (st si us a now v : Int) (w : World) (hT : Tab w) (HC : Hid (∀ W, Calls Tryd.prog 14 #[.agg #[.string id, .int .i64 st, .int .i64 si, .int .i64 us]] W fun e0 w' => e0 = .returned (.int .i64 0) ∧ Below W.heap.size W w')) (HT : Hid (∀ W, Calls Tryd.prog 24 #[.int .i64 now] W fun e w' => e = .returned (.bool true) ∧ W = w')) (HL : Hid (∀ W, Tab W → Calls Tryd.prog 18 #[.int .i64 st, .int .i64 a] W fun e w' => e = .returned (.bool true) ∧ W = w')) (HA : Hid (∀ W, Tab W → Calls Tryd.prog 26 #[.int .i64 st, .int .i64 a] W fun e w' => e = .returned (.int .i64 v) ∧ W = w')) (h : si ≤ now) (ha : a = 2) (hu : us < 1000000000) (hu0 : 0 ≤ us) :
    Calls Tryd.prog 12 #[.agg #[.string id, .int .i64 st, .int .i64 si, .int .i64 us], .int .i64 a, .int .i64 now] w fun e' w' => e' = .returned (.tuple #[.agg #[.string id, .int .i64 v, .int .i64 now, .int .i64 (us + 1)], .int .i64 0]) ∧ Below w.heap.size w w' := by
  go_enter Tryd.func12, Tryd.ntmps12
  go_wp2_with fail
  refine (HC.out _).mono ?_
  rintro _ w1 ⟨rfl, hb⟩
  have B3 := ((Box.new w 24 #[.string id, .int .i64 st, .int .i64 si, .int .i64 us]).alloc (.cells #[.string ⟨#[]⟩, .int .i64 0, .int .i64 0, .int .i64 0] 24)).next hb
  have B6 := (Box.new (w.alloc (.cells #[.string id, .int .i64 st, .int .i64 si, .int .i64 us] 24)) 24 #[.string ⟨#[]⟩, .int .i64 0, .int .i64 0, .int .i64 0]).next hb
  have hB := below_step (below_box ((Below.refl _ w).alloc (Nat.le_refl _) _) _) hb
  simp only [World.size_alloc] at B6
  have ht := hT.next hB
  have ht0 := hT
  clear hb hT
  have z := B6.lt
  obtain ⟨p0, p1, p2, p3⟩ := B3.cells4
  obtain ⟨f0, f1, f2, f3⟩ := B3.frozen4
  obtain ⟨q0, q1, q2, q3⟩ := B6.cells4
  obtain ⟨g0, g1, g2, g3⟩ := B6.frozen4
  subst ha
  have hu1 : (us == 1000000000) = false := by simp; omega
  go_upto_region 14 with (first | (go_at_call 24; refine (HT.out _).mono ?_; rintro _ _ ⟨rfl, rfl⟩) | (go_at_call 18; refine (HL.out _ ht).mono ?_; rintro _ _ ⟨rfl, rfl⟩) | (go_at_call 26; refine (HA.out _ ht).mono ?_; rintro _ _ ⟨rfl, rfl⟩))
  refine wp_forget (fun w2 => Box w2 w.heap.size 24 #[.string id, .int .i64 st, .int .i64 si, .int .i64 (us + 1)] ∧ Box w2 (w.heap.size + 1) 24 #[.string ⟨#[]⟩, .int .i64 0, .int .i64 0, .int .i64 0] ∧ Below w.heap.size w w2 ∧ Tab w2) ⟨(B3.set 3 (.int .i64 (us + 1))).eq_ (by simp), B6.far (p := ⟨w.heap.size, 3, none⟩) (by simp) _, hB.setCell (p := ⟨w.heap.size, 3, none⟩) (Nat.le_refl _) _, (ht0.next (hB.setCell (p := ⟨w.heap.size, 3, none⟩) (Nat.le_refl _) _))⟩ ?_
  clear B3 B6 hB z p0 p1 p2 p3 f0 f1 f2 f3 q0 q1 q2 q3 g0 g1 g2 g3 ht
  rintro w2 ⟨B3, B6, hB, ht⟩
  have z := B6.lt
  obtain ⟨p0, p1, p2, p3⟩ := B3.cells4
  obtain ⟨f0, f1, f2, f3⟩ := B3.frozen4
  obtain ⟨q0, q1, q2, q3⟩ := B6.cells4
  obtain ⟨g0, g1, g2, g3⟩ := B6.frozen4
  go_wp2_with (first | (go_at_call 24; refine (HT.out _).mono ?_; rintro _ _ ⟨rfl, rfl⟩) | (go_at_call 18; refine (HL.out _ ht).mono ?_; rintro _ _ ⟨rfl, rfl⟩) | (go_at_call 26; refine (HA.out _ ht).mono ?_; rintro _ _ ⟨rfl, rfl⟩))
  refine bodyPost_ret (v := .tuple #[.agg #[.string id, .int .i64 v, .int .i64 now, .int .i64 (us + 1)], .int .i64 0]) ?_ rfl ⟨rfl, ?_⟩
  · simp [results, Tryd.results12, go_sem, *]
  exact below_set4 ((hB.setCell (p := ⟨w.heap.size, 1, none⟩) (Nat.le_refl _) _).setCell (p := ⟨w.heap.size, 2, none⟩) (Nat.le_refl _) _) (by simp) _ _ _ _
set_option maxHeartbeats 1000000 in
theorem rstep_move (id : ByteArray) (st si us a now v : Int) (w : World) (hT : Tab w) (HC : Hid (∀ W, Calls Tryd.prog 14 #[.agg #[.string id, .int .i64 st, .int .i64 si, .int .i64 us]] W fun e0 w' => e0 = .returned (.int .i64 0) ∧ Below W.heap.size W w')) (HT : Hid (∀ W, Calls Tryd.prog 24 #[.int .i64 now] W fun e w' => e = .returned (.bool true) ∧ W = w')) (HL : Hid (∀ W, Tab W → Calls Tryd.prog 18 #[.int .i64 st, .int .i64 a] W fun e w' => e = .returned (.bool true) ∧ W = w')) (HA : Hid (∀ W, Tab W → Calls Tryd.prog 26 #[.int .i64 st, .int .i64 a] W fun e w' => e = .returned (.int .i64 v) ∧ W = w')) (h : si ≤ now) (ha : (a == 2) = false) :
    Calls Tryd.prog 12 #[.agg #[.string id, .int .i64 st, .int .i64 si, .int .i64 us], .int .i64 a, .int .i64 now] w fun e' w' => e' = .returned (.tuple #[.agg #[.string id, .int .i64 v, .int .i64 now, .int .i64 us], .int .i64 0]) ∧ Below w.heap.size w w' := by
  go_enter Tryd.func12, Tryd.ntmps12
  go_wp2_with fail
  refine (HC.out _).mono ?_
  rintro _ w1 ⟨rfl, hb⟩
  have B3 := ((Box.new w 24 #[.string id, .int .i64 st, .int .i64 si, .int .i64 us]).alloc (.cells #[.string ⟨#[]⟩, .int .i64 0, .int .i64 0, .int .i64 0] 24)).next hb
  have B6 := (Box.new (w.alloc (.cells #[.string id, .int .i64 st, .int .i64 si, .int .i64 us] 24)) 24 #[.string ⟨#[]⟩, .int .i64 0, .int .i64 0, .int .i64 0]).next hb
  have hB := below_step (below_box ((Below.refl _ w).alloc (Nat.le_refl _) _) _) hb
  simp only [World.size_alloc] at B6
  have ht := hT.next hB
  have ht0 := hT
  clear hb hT
  have z := B6.lt
  obtain ⟨p0, p1, p2, p3⟩ := B3.cells4
  obtain ⟨f0, f1, f2, f3⟩ := B3.frozen4
  obtain ⟨q0, q1, q2, q3⟩ := B6.cells4
  obtain ⟨g0, g1, g2, g3⟩ := B6.frozen4
  go_wp2_with (first | (go_at_call 24; refine (HT.out _).mono ?_; rintro _ _ ⟨rfl, rfl⟩) | (go_at_call 18; refine (HL.out _ ht).mono ?_; rintro _ _ ⟨rfl, rfl⟩) | (go_at_call 26; refine (HA.out _ ht).mono ?_; rintro _ _ ⟨rfl, rfl⟩))
  refine bodyPost_ret (v := .tuple #[.agg #[.string id, .int .i64 v, .int .i64 now, .int .i64 us], .int .i64 0]) ?_ rfl ⟨rfl, ?_⟩
  · simp [results, Tryd.results12, go_sem, *]
  exact below_set4 ((hB.setCell (p := ⟨w.heap.size, 1, none⟩) (Nat.le_refl _) _).setCell (p := ⟨w.heap.size, 2, none⟩) (Nat.le_refl _) _) (by simp) _ _ _ _

theorem step_any (id : ByteArray) (st si us a now : Int) (w : World) (hs : id.size ≤ maxLen) (hT : Tab w) : Calls Tryd.prog 11 #[.agg #[.string id, .int .i64 st, .int .i64 si, .int .i64 us], .int .i64 a, .int .i64 now] w fun e' w' =>
    e' = .returned (.tuple #[.agg #[.string (stepV id st si us a now).id, .int .i64 (stepV id st si us a now).st, .int .i64 (stepV id st si us a now).si, .int .i64 (stepV id st si us a now).us], .int .i64 (stepV id st si us a now).e]) ∧ Below w.heap.size w w' := by
  have HC : Hid (∀ W, _) := fun W => check_any id st si us W hs
  have HT : Hid (∀ W, _) := fun W => time_any now W
  have HL : Hid (∀ W, Tab W → _) := fun W k => legal_any st a W k
  have HA : Hid (∀ W, Tab W → _) := fun W k => after_any st a W k
  have hok := chk_ok id st si us
  unfold legB at HL
  unfold stepV
  generalize chk id st si us = e at *
  generalize timeB now = b at *
  generalize nxt st a = v at *
  by_cases he : e = 0
  · subst he
    obtain ⟨_, _, _, _, k1, k2⟩ := hok.1 rfl
    rw [if_pos rfl]
    cases b
    · exact step_time id st si us a now w hT HC HT
    · rw [if_pos rfl]
      by_cases h1 : now < si
      · rw [if_pos h1]
        exact step_old id st si us a now w hT HC HT h1
      · rw [if_neg h1]
        by_cases h2 : v = 0
        · rw [if_pos h2]
          subst h2
          exact step_ill id st si us a now w hT HC HT HL (by omega)
        · rw [if_neg h2]
          have hv : (v != 0) = true := by simpa using h2
          rw [hv] at HL
          by_cases h3 : a = 2
          · rw [if_pos h3]
            by_cases h4 : us = 1000000000
            · rw [if_pos h4]
              exact step_over id st si us a now v w hT HC HT HL HA (by omega) h3 (by omega) (by omega)
            · rw [if_neg h4]
              exact step_use id st si us a now v w hT HC HT HL HA (by omega) h3 (by omega) k1
          · rw [if_neg h3]
            exact step_move id st si us a now v w hT HC HT HL HA (by omega) (by simpa using h3) (by omega)
  · rw [if_neg he]
    exact step_err id st si us a now e w hT HC (by simpa using he)

theorem rstep_any (id : ByteArray) (st si us a now : Int) (w : World) (hs : id.size ≤ maxLen) (hT : Tab w) : Calls Tryd.prog 12 #[.agg #[.string id, .int .i64 st, .int .i64 si, .int .i64 us], .int .i64 a, .int .i64 now] w fun e' w' =>
    e' = .returned (.tuple #[.agg #[.string (stepV id st si us a now).id, .int .i64 (stepV id st si us a now).st, .int .i64 (stepV id st si us a now).si, .int .i64 (stepV id st si us a now).us], .int .i64 (stepV id st si us a now).e]) ∧ Below w.heap.size w w' := by
  have HC : Hid (∀ W, _) := fun W => rcheck_any id st si us W hs
  have HT : Hid (∀ W, _) := fun W => span_any now W
  have HL : Hid (∀ W, Tab W → _) := fun W _ => rlegal_any st a W
  have HA : Hid (∀ W, Tab W → _) := fun W _ => next_any st a W
  have hok := chk_ok id st si us
  unfold legB at HL
  unfold stepV
  generalize chk id st si us = e at *
  generalize timeB now = b at *
  generalize nxt st a = v at *
  by_cases he : e = 0
  · subst he
    obtain ⟨_, _, _, _, k1, k2⟩ := hok.1 rfl
    rw [if_pos rfl]
    cases b
    · exact rstep_time id st si us a now w hT HC HT
    · rw [if_pos rfl]
      by_cases h1 : now < si
      · rw [if_pos h1]
        exact rstep_old id st si us a now w hT HC HT h1
      · rw [if_neg h1]
        by_cases h2 : v = 0
        · rw [if_pos h2]
          subst h2
          exact rstep_ill id st si us a now w hT HC HT HL (by omega)
        · rw [if_neg h2]
          have hv : (v != 0) = true := by simpa using h2
          rw [hv] at HL
          by_cases h3 : a = 2
          · rw [if_pos h3]
            by_cases h4 : us = 1000000000
            · rw [if_pos h4]
              exact rstep_over id st si us a now w hT HC HT HL (by omega) h3 (by simpa using h4)
            · rw [if_neg h4]
              exact rstep_use id st si us a now v w hT HC HT HL HA (by omega) h3 (by omega) k1
          · rw [if_neg h3]
            exact rstep_move id st si us a now v w hT HC HT HL HA (by omega) (by simpa using h3)
  · rw [if_neg he]
    exact rstep_err id st si us a now e w hT HC (by simpa using he)

def idleV (id : ByteArray) (st si us now : Int) : Int := if chk id st si us = 0 ∧ st = 2 ∧ si ≤ now ∧ now ≤ 1073741824 then now - si else 0
theorem idle_cases (e st si now : Int) : (e ≠ 0) ∨ (e = 0 ∧ st ≠ 2) ∨ (e = 0 ∧ st = 2 ∧ now < si) ∨ (e = 0 ∧ st = 2 ∧ si ≤ now ∧ 1073741824 < now) ∨ (e = 0 ∧ st = 2 ∧ si ≤ now ∧ now ≤ 1073741824) := by omega

set_option maxHeartbeats 1000000 in
theorem idle_any (id : ByteArray) (st si us now : Int) (w : World) (hs : id.size ≤ maxLen) : Calls Tryd.prog 15 #[.agg #[.string id, .int .i64 st, .int .i64 si, .int .i64 us], .int .i64 now] w fun e w' => e = .returned (.int .i64 (idleV id st si us now)) ∧ Below w.heap.size w w' := by
  have HC : Hid (∀ W, _) := fun W => check_any id st si us W hs
  clear hs
  have hok := chk_ok id st si us
  unfold idleV
  generalize chk id st si us = e at *
  rcases idle_cases e st si now with h | ⟨rfl, h⟩ | ⟨rfl, rfl, h⟩ | ⟨rfl, rfl, h, h1⟩ | ⟨rfl, rfl, h, h1⟩
  · rw [if_neg (by omega)]
    clear hok
    have h0 : (e != 0) = true := by simpa using h
    clear h
    go_enter Tryd.func15, Tryd.ntmps15
    go_wp2_with fail
    refine (HC.out _).mono ?_
    rintro _ w1 ⟨rfl, hb⟩
    have B := (Box.new w 24 #[.string id, .int .i64 st, .int .i64 si, .int .i64 us]).next hb
    have hB := below_step ((Below.refl _ w).alloc (Nat.le_refl _) _) hb
    clear hb
    obtain ⟨p0, p1, p2, p3⟩ := B.cells4
    go_wp2
    go_ret
    exact ⟨ret_int (by rfl), hB⟩
  · rw [if_neg (by omega)]
    clear hok
    have h0 : (st != 2) = true := by simpa using h
    clear h
    go_enter Tryd.func15, Tryd.ntmps15
    go_wp2_with fail
    refine (HC.out _).mono ?_
    rintro _ w1 ⟨rfl, hb⟩
    have B := (Box.new w 24 #[.string id, .int .i64 st, .int .i64 si, .int .i64 us]).next hb
    have hB := below_step ((Below.refl _ w).alloc (Nat.le_refl _) _) hb
    clear hb
    obtain ⟨p0, p1, p2, p3⟩ := B.cells4
    go_wp2
    go_ret
    exact ⟨ret_int (by rfl), hB⟩
  · rw [if_neg (by omega)]
    clear hok
    go_enter Tryd.func15, Tryd.ntmps15
    go_wp2_with fail
    refine (HC.out _).mono ?_
    rintro _ w1 ⟨rfl, hb⟩
    have B := (Box.new w 24 #[.string id, .int .i64 2, .int .i64 si, .int .i64 us]).next hb
    have hB := below_step ((Below.refl _ w).alloc (Nat.le_refl _) _) hb
    clear hb
    obtain ⟨p0, p1, p2, p3⟩ := B.cells4
    go_wp2
    go_ret
    exact ⟨ret_int (by rfl), hB⟩
  · rw [if_neg (by omega)]
    clear hok
    go_enter Tryd.func15, Tryd.ntmps15
    go_wp2_with fail
    refine (HC.out _).mono ?_
    rintro _ w1 ⟨rfl, hb⟩
    have B := (Box.new w 24 #[.string id, .int .i64 2, .int .i64 si, .int .i64 us]).next hb
    have hB := below_step ((Below.refl _ w).alloc (Nat.le_refl _) _) hb
    clear hb
    obtain ⟨p0, p1, p2, p3⟩ := B.cells4
    go_wp2
    go_ret
    exact ⟨ret_int (by rfl), hB⟩
  · rw [if_pos (by omega)]
    have hsi := (timeB_ok si).1 (hok.1 rfl).2.2.2.1
    obtain ⟨k1, k2⟩ := hsi
    clear hok
    go_enter Tryd.func15, Tryd.ntmps15
    go_wp2_with fail
    refine (HC.out _).mono ?_
    rintro _ w1 ⟨rfl, hb⟩
    have B := (Box.new w 24 #[.string id, .int .i64 2, .int .i64 si, .int .i64 us]).next hb
    have hB := below_step ((Below.refl _ w).alloc (Nat.le_refl _) _) hb
    clear hb
    obtain ⟨p0, p1, p2, p3⟩ := B.cells4
    go_wp2
    go_ret
    exact ⟨ret_int (by rfl), hB⟩

set_option maxHeartbeats 1000000 in
theorem ridle_any (id : ByteArray) (st si us now : Int) (w : World) (hs : id.size ≤ maxLen) : Calls Tryd.prog 16 #[.agg #[.string id, .int .i64 st, .int .i64 si, .int .i64 us], .int .i64 now] w fun e w' => e = .returned (.int .i64 (idleV id st si us now)) ∧ Below w.heap.size w w' := by
  have HC : Hid (∀ W, _) := fun W => rcheck_any id st si us W hs
  clear hs
  have hok := chk_ok id st si us
  unfold idleV
  generalize chk id st si us = e at *
  rcases idle_cases e st si now with h | ⟨rfl, h⟩ | ⟨rfl, rfl, h⟩ | ⟨rfl, rfl, h, h1⟩ | ⟨rfl, rfl, h, h1⟩
  · rw [if_neg (by omega)]
    clear hok
    have h0 : (e != 0) = true := by simpa using h
    clear h
    go_enter Tryd.func16, Tryd.ntmps16
    go_wp2_with fail
    refine (HC.out _).mono ?_
    rintro _ w1 ⟨rfl, hb⟩
    have B := (Box.new w 24 #[.string id, .int .i64 st, .int .i64 si, .int .i64 us]).next hb
    have hB := below_step ((Below.refl _ w).alloc (Nat.le_refl _) _) hb
    clear hb
    obtain ⟨p0, p1, p2, p3⟩ := B.cells4
    go_wp2
    go_ret
    exact ⟨ret_int (by rfl), hB⟩
  · rw [if_neg (by omega)]
    clear hok
    have h0 : (st != 2) = true := by simpa using h
    clear h
    go_enter Tryd.func16, Tryd.ntmps16
    go_wp2_with fail
    refine (HC.out _).mono ?_
    rintro _ w1 ⟨rfl, hb⟩
    have B := (Box.new w 24 #[.string id, .int .i64 st, .int .i64 si, .int .i64 us]).next hb
    have hB := below_step ((Below.refl _ w).alloc (Nat.le_refl _) _) hb
    clear hb
    obtain ⟨p0, p1, p2, p3⟩ := B.cells4
    go_wp2
    go_ret
    exact ⟨ret_int (by rfl), hB⟩
  · rw [if_neg (by omega)]
    clear hok
    go_enter Tryd.func16, Tryd.ntmps16
    go_wp2_with fail
    refine (HC.out _).mono ?_
    rintro _ w1 ⟨rfl, hb⟩
    have B := (Box.new w 24 #[.string id, .int .i64 2, .int .i64 si, .int .i64 us]).next hb
    have hB := below_step ((Below.refl _ w).alloc (Nat.le_refl _) _) hb
    clear hb
    obtain ⟨p0, p1, p2, p3⟩ := B.cells4
    go_wp2
    go_ret
    exact ⟨ret_int (by rfl), hB⟩
  · rw [if_neg (by omega)]
    clear hok
    go_enter Tryd.func16, Tryd.ntmps16
    go_wp2_with fail
    refine (HC.out _).mono ?_
    rintro _ w1 ⟨rfl, hb⟩
    have B := (Box.new w 24 #[.string id, .int .i64 2, .int .i64 si, .int .i64 us]).next hb
    have hB := below_step ((Below.refl _ w).alloc (Nat.le_refl _) _) hb
    clear hb
    obtain ⟨p0, p1, p2, p3⟩ := B.cells4
    go_wp2
    go_ret
    exact ⟨ret_int (by rfl), hB⟩
  · rw [if_pos (by omega)]
    have hsi := (timeB_ok si).1 (hok.1 rfl).2.2.2.1
    obtain ⟨k1, k2⟩ := hsi
    clear hok
    go_enter Tryd.func16, Tryd.ntmps16
    go_wp2_with fail
    refine (HC.out _).mono ?_
    rintro _ w1 ⟨rfl, hb⟩
    have B := (Box.new w 24 #[.string id, .int .i64 2, .int .i64 si, .int .i64 us]).next hb
    have hB := below_step ((Below.refl _ w).alloc (Nat.le_refl _) _) hb
    clear hb
    obtain ⟨p0, p1, p2, p3⟩ := B.cells4
    go_wp2
    go_ret
    exact ⟨ret_int (by rfl), hB⟩
end Go.Proofs.YtfcihloebncmdaaDoor
