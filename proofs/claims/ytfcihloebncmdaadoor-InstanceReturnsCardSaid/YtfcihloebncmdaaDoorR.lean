/- Layer 37 (instance): the walk of the law InstanceReturns. -/
import Derived.Test.YtfcihloebncmdaaDoorE
namespace Go.Proofs.YtfcihloebncmdaaDoor
open Go.ChangeShapes Go.WideShapes Go.ChangeAt Go.RowKit
attribute [local go_sem] ownAt ownUpon

theorem step_way (id : ByteArray) (st si us a now v : Int) (h0 : chk id st si us = 0) (ht : timeB now = true) (hs : si ≤ now) (hv : nxt st a = v) (hv0 : v ≠ 0) (ha : a ≠ 2) : stepV id st si us a now = ⟨id, v, now, us, 0⟩ := by
  unfold stepV
  rw [if_pos h0, if_pos ht, if_neg (by omega), hv, if_neg hv0, if_neg ha]
theorem step_dead (id : ByteArray) (si us a now : Int) (h0 : chk id 5 si us = 0) (ht : timeB now = true) (hs : si ≤ now) : stepV id 5 si us a now = ⟨⟨#[]⟩, 0, 0, 0, 10⟩ := by
  have hv : nxt 5 a = 0 := by
    unfold nxt
    rw [if_neg (by omega), if_neg (by omega), if_neg (by omega), if_neg (by omega)]
  unfold stepV
  rw [if_pos h0, if_pos ht, if_neg (by omega), hv, if_pos rfl]
theorem play_way (id : ByteArray) (st si us a now v : Int) (h : stepV id st si us a now = ⟨id, v, now, us, 0⟩) : playI id now [a] st si us 0 = ⟨v, now, us, 1⟩ := by
  simp [playI, h]

set_option maxHeartbeats 400000 in
theorem returns_long (id : ByteArray) (st si us now : Int) (w : World) (hT : Tab w) (h : decide ((300 : Int) < (id.size : Int)) = true) : Calls Tryd.prog 7 #[.agg #[.string id, .int .i64 st, .int .i64 si, .int .i64 us], .int .i64 now] w fun e w' => e = .returned (.bool true) ∧ Below w.heap.size w w' := by
  have b1 := (Below.refl w.heap.size w).alloc (Nat.le_refl _) (.cells #[.string id, .int .i64 st, .int .i64 si, .int .i64 us] 24)
  have h3 : Hid (Calls _ _ _ _ _) := awake_any _ (hT.next b1)
  clear hT
  go_enter Tryd.func7, Tryd.ntmps7
  go_wp2_with (go_at_call 8; refine h3.out.mono ?_; rintro _ w1 ⟨rfl, hb⟩)
  go_ret
  exact ⟨rfl, below_step b1 hb⟩
set_option maxHeartbeats 400000 in
theorem returns_e1 (id : ByteArray) (st si us now : Int) (e : Int) (w : World) (hT : Tab w) (g0 : decide ((300 : Int) < (id.size : Int)) = false) (HC : Hid (∀ W, Calls Tryd.prog 13 #[.agg #[.string id, .int .i64 st, .int .i64 si, .int .i64 us]] W fun e0 w' => e0 = .returned (.int .i64 e) ∧ Below W.heap.size W w')) (he : (e != 0) = true) : Calls Tryd.prog 7 #[.agg #[.string id, .int .i64 st, .int .i64 si, .int .i64 us], .int .i64 now] w fun e w' => e = .returned (.bool true) ∧ Below w.heap.size w w' := by
  go_enter Tryd.func7, Tryd.ntmps7
  go_wp2_with fail
  refine (HC.out _).mono ?_
  rintro _ w1 ⟨rfl, hb⟩
  have B0 := (Box.new w 24 #[.string id, .int .i64 st, .int .i64 si, .int .i64 us]).next hb
  have hB := below_step ((Below.refl _ w).alloc (Nat.le_refl _) _) hb
  clear hb
  obtain ⟨p0, p1, p2, p3⟩ := B0.cells4
  have z0 := B0.lt
  have z1 : w.heap.size < w1.heap.size + 1 := by omega
  have z2 : w.heap.size < w1.heap.size + 1 + 1 := by omega
  have z3 : w.heap.size < w1.heap.size + 1 + 1 + 1 := by omega
  go_wp2_with fail
  refine (awake_any _ (hT.next hB)).mono ?_
  rintro _ w3 ⟨rfl, hb⟩
  go_wp2
  go_ret
  exact ⟨rfl, below_step hB hb⟩
set_option maxHeartbeats 400000 in
theorem returns_e2 (id : ByteArray) (st si us now : Int) (w : World) (hT : Tab w) (g0 : decide ((300 : Int) < (id.size : Int)) = false) (HC : Hid (∀ W, Calls Tryd.prog 13 #[.agg #[.string id, .int .i64 st, .int .i64 si, .int .i64 us]] W fun e0 w' => e0 = .returned (.int .i64 0) ∧ Below W.heap.size W w')) (h : now < si) : Calls Tryd.prog 7 #[.agg #[.string id, .int .i64 st, .int .i64 si, .int .i64 us], .int .i64 now] w fun e w' => e = .returned (.bool true) ∧ Below w.heap.size w w' := by
  go_enter Tryd.func7, Tryd.ntmps7
  go_wp2_with fail
  refine (HC.out _).mono ?_
  rintro _ w1 ⟨rfl, hb⟩
  have B0 := (Box.new w 24 #[.string id, .int .i64 st, .int .i64 si, .int .i64 us]).next hb
  have hB := below_step ((Below.refl _ w).alloc (Nat.le_refl _) _) hb
  clear hb
  obtain ⟨p0, p1, p2, p3⟩ := B0.cells4
  have z0 := B0.lt
  have z1 : w.heap.size < w1.heap.size + 1 := by omega
  have z2 : w.heap.size < w1.heap.size + 1 + 1 := by omega
  have z3 : w.heap.size < w1.heap.size + 1 + 1 + 1 := by omega
  go_wp2_with fail
  refine (awake_any _ (hT.next hB)).mono ?_
  rintro _ w3 ⟨rfl, hb⟩
  go_wp2
  go_ret
  exact ⟨rfl, below_step hB hb⟩
set_option maxHeartbeats 400000 in
theorem returns_e3 (id : ByteArray) (st si us now : Int) (w : World) (hT : Tab w) (g0 : decide ((300 : Int) < (id.size : Int)) = false) (HC : Hid (∀ W, Calls Tryd.prog 13 #[.agg #[.string id, .int .i64 st, .int .i64 si, .int .i64 us]] W fun e0 w' => e0 = .returned (.int .i64 0) ∧ Below W.heap.size W w')) (h : si ≤ now) (h2 : 1073741824 < now) : Calls Tryd.prog 7 #[.agg #[.string id, .int .i64 st, .int .i64 si, .int .i64 us], .int .i64 now] w fun e w' => e = .returned (.bool true) ∧ Below w.heap.size w w' := by
  go_enter Tryd.func7, Tryd.ntmps7
  go_wp2_with fail
  refine (HC.out _).mono ?_
  rintro _ w1 ⟨rfl, hb⟩
  have B0 := (Box.new w 24 #[.string id, .int .i64 st, .int .i64 si, .int .i64 us]).next hb
  have hB := below_step ((Below.refl _ w).alloc (Nat.le_refl _) _) hb
  clear hb
  obtain ⟨p0, p1, p2, p3⟩ := B0.cells4
  have z0 := B0.lt
  have z1 : w.heap.size < w1.heap.size + 1 := by omega
  have z2 : w.heap.size < w1.heap.size + 1 + 1 := by omega
  have z3 : w.heap.size < w1.heap.size + 1 + 1 + 1 := by omega
  go_wp2_with fail
  refine (awake_any _ (hT.next hB)).mono ?_
  rintro _ w3 ⟨rfl, hb⟩
  go_wp2
  go_ret
  exact ⟨rfl, below_step hB hb⟩

set_option maxHeartbeats 1000000 in
theorem returns_dead (id : ByteArray) (si us now : Int) (w : World) (hT : Tab w) (g0 : decide ((300 : Int) < (id.size : Int)) = false) (HC : Hid (∀ W, Calls Tryd.prog 13 #[.agg #[.string id, .int .i64 5, .int .i64 si, .int .i64 us]] W fun e0 w' => e0 = .returned (.int .i64 0) ∧ Below W.heap.size W w'))
    (HS : Hid (∀ W (a : Int), Tab W → Calls Tryd.prog 11 #[.agg #[.string id, .int .i64 5, .int .i64 si, .int .i64 us], .int .i64 a, .int .i64 now] W fun e w' => e = .returned (.tuple #[.agg #[.string ⟨#[]⟩, .int .i64 0, .int .i64 0, .int .i64 0], .int .i64 10]) ∧ Below W.heap.size W w'))
    (h1 : si ≤ now) (h2 : now ≤ 1073741824) : Calls Tryd.prog 7 #[.agg #[.string id, .int .i64 5, .int .i64 si, .int .i64 us], .int .i64 now] w fun e w' => e = .returned (.bool true) ∧ Below w.heap.size w w' := by
  have HT := Lib.hid hT
  clear hT
  go_enter Tryd.func7, Tryd.ntmps7
  go_wp2_with fail
  refine (HC.out _).mono ?_
  rintro _ w1 ⟨rfl, hb⟩
  have B0 := (Box.new w 24 #[.string id, .int .i64 5, .int .i64 si, .int .i64 us]).next hb
  have hB := below_step ((Below.refl _ w).alloc (Nat.le_refl _) _) hb
  clear hb
  obtain ⟨p0, p1, p2, p3⟩ := B0.cells4
  have z0 := B0.lt
  have z1 : w.heap.size < w1.heap.size + 1 := by omega
  have z2 : w.heap.size < w1.heap.size + 1 + 1 := by omega
  have z3 : w.heap.size < w1.heap.size + 1 + 1 + 1 := by omega
  go_wp2_with fail
  have hst : ∃ k : Nat, (.int .i64 0 : Value) = .int .i64 k ∧ k ≤ 8 ∧ Box (((((w1.alloc (.cells #[.int .i64 1] 25)).alloc (.cells #[.int .i64 3] 25)).alloc (.cells #[.int .i64 5] 25))).alloc (.cells #[.slice none 0 0, .slice (some ⟨w1.heap.size, 0, none⟩) 1 1, .slice none 0 0, .slice (some ⟨w1.heap.size + 1, 0, none⟩) 1 1, .slice (some ⟨w1.heap.size + 1 + 1, 0, none⟩) 1 1] 35)) w.heap.size 24 #[.string id, .int .i64 5, .int .i64 si, .int .i64 us] ∧ Below w.heap.size w (((((w1.alloc (.cells #[.int .i64 1] 25)).alloc (.cells #[.int .i64 3] 25)).alloc (.cells #[.int .i64 5] 25))).alloc (.cells #[.slice none 0 0, .slice (some ⟨w1.heap.size, 0, none⟩) 1 1, .slice none 0 0, .slice (some ⟨w1.heap.size + 1, 0, none⟩) 1 1, .slice (some ⟨w1.heap.size + 1 + 1, 0, none⟩) 1 1] 35)) := ⟨0, rfl, by omega, ((((((B0.alloc (.cells #[.int .i64 1] 25)).alloc (.cells #[.int .i64 3] 25)).alloc (.cells #[.int .i64 5] 25))).alloc _)), below_box (below_box (below_box (below_box hB _) _) _) _⟩
  have HST := Lib.hid hst
  clear hst p0 p1 p2 p3 B0 hB z0 z1 z2 z3
  go_loopw [6] (fun i wr => ∃ k : Nat, i = .int .i64 k ∧ k ≤ 8 ∧ Box wr w.heap.size 24 #[.string id, .int .i64 5, .int .i64 si, .int .i64 us] ∧ Below w.heap.size w wr) (fun i _ => 8 - (intOf i).toNat)
  case atStart => exact HST.out
  case round =>
    clear HST
    obtain ⟨k, rfl, hk, B0, hB⟩ := hrel
    by_cases hlt : k < 8
    · have hk7 : (k : Int) ≤ 7 := by omega
      obtain ⟨p0, p1, p2, p3⟩ := B0.cells4
      go_wp2_with fail
      refine (HS.out _ _ (HT.out.next hB)).mono ?_
      rintro _ w3 ⟨rfl, hb⟩
      replace B0 := B0.next hb
      replace hB := below_step hB hb
      clear hb p0 p1 p2 p3
      go_wp2_with fail
      go_roundw
      case rel => exact ⟨k + 1, by go_num, by omega, B0.alloc _, below_box hB _⟩
      case measure => simp [intOf]; omega
    · have hk7 : ¬ (k : Int) ≤ 7 := by omega
      go_wp2_with fail
      refine (awake_any _ (HT.out.next hB)).mono ?_
      rintro _ w3 ⟨rfl, hb⟩
      go_wp2
      go_ret
      exact ⟨rfl, below_step hB hb⟩

set_option maxHeartbeats 2000000 in
set_option maxRecDepth 100000 in
theorem returns_1 (id : ByteArray) (si us now xb : Int) (w : World) (hT : Tab w) (g0 : decide ((300 : Int) < (id.size : Int)) = false) (HC : Hid (∀ W, Calls Tryd.prog 13 #[.agg #[.string id, .int .i64 1, .int .i64 si, .int .i64 us]] W fun e0 w' => e0 = .returned (.int .i64 0) ∧ Below W.heap.size W w'))
    (HP : Hid (∀ W (A : Option Addr) (cap : Nat), Tab W → Seg W A 1 (ints [1]) → Calls Tryd.prog 19 #[.agg #[.string id, .int .i64 1, .int .i64 si, .int .i64 us], .slice A 1 cap, .int .i64 now] W fun e w' => e = .returned (.tuple #[.agg #[.string id, .int .i64 2, .int .i64 xb, .int .i64 us], .int .i64 1]) ∧ Below W.heap.size W w'))
    (h1 : si ≤ now) (h2 : now ≤ 1073741824) : Calls Tryd.prog 7 #[.agg #[.string id, .int .i64 1, .int .i64 si, .int .i64 us], .int .i64 now] w fun e w' => e = .returned (.bool true) ∧ Below w.heap.size w w' := by
  have HT := Lib.hid hT
  clear hT
  go_enter Tryd.func7, Tryd.ntmps7
  go_wp2_with fail
  refine (HC.out _).mono ?_
  rintro _ w1 ⟨rfl, hb⟩
  have B0 := (Box.new w 24 #[.string id, .int .i64 1, .int .i64 si, .int .i64 us]).next hb
  have hB := below_step ((Below.refl _ w).alloc (Nat.le_refl _) _) hb
  clear hb
  obtain ⟨p0, p1, p2, p3⟩ := B0.cells4
  have z0 := B0.lt
  have z1 : w.heap.size < w1.heap.size + 1 := by omega
  have z2 : w.heap.size < w1.heap.size + 1 + 1 := by omega
  have z3 : w.heap.size < w1.heap.size + 1 + 1 + 1 := by omega
  go_upto_region 12 with fail
  clear p0 p1 p2 p3 z0 z1 z2 z3
  have BG := Box.new ((((w1.alloc (.cells #[.int .i64 1] 25)).alloc (.cells #[.int .i64 3] 25)).alloc (.cells #[.int .i64 5] 25))) 35 #[.slice none 0 0, .slice (some ⟨w1.heap.size, 0, none⟩) 1 1, .slice none 0 0, .slice (some ⟨w1.heap.size + 1, 0, none⟩) 1 1, .slice (some ⟨w1.heap.size + 1 + 1, 0, none⟩) 1 1]
  simp only [World.size_alloc] at BG
  have BS := (Box.new w1 25 #[.int .i64 1]).alloc (.cells #[.int .i64 3] 25) |>.alloc (.cells #[.int .i64 5] 25) |>.alloc (.cells #[.slice none 0 0, .slice (some ⟨w1.heap.size, 0, none⟩) 1 1, .slice none 0 0, .slice (some ⟨w1.heap.size + 1, 0, none⟩) 1 1, .slice (some ⟨w1.heap.size + 1 + 1, 0, none⟩) 1 1] 35)
  have sg : Seg (((((w1.alloc (.cells #[.int .i64 1] 25)).alloc (.cells #[.int .i64 3] 25)).alloc (.cells #[.int .i64 5] 25))).alloc (.cells #[.slice none 0 0, .slice (some ⟨w1.heap.size, 0, none⟩) 1 1, .slice none 0 0, .slice (some ⟨w1.heap.size + 1, 0, none⟩) 1 1, .slice (some ⟨w1.heap.size + 1 + 1, 0, none⟩) 1 1] 35)) (some ⟨w1.heap.size, 0, none⟩) 1 (ints [1]) := seg_of_box BS (fun k hk => by match k, hk with | 0, _ => rfl)
  clear BS
  replace B0 := ((((B0.alloc (.cells #[.int .i64 1] 25)).alloc (.cells #[.int .i64 3] 25)).alloc (.cells #[.int .i64 5] 25))).alloc (.cells #[.slice none 0 0, .slice (some ⟨w1.heap.size, 0, none⟩) 1 1, .slice none 0 0, .slice (some ⟨w1.heap.size + 1, 0, none⟩) 1 1, .slice (some ⟨w1.heap.size + 1 + 1, 0, none⟩) 1 1] 35)
  replace hB := below_box (below_box (below_box (below_box hB (.cells #[.int .i64 1] 25)) (.cells #[.int .i64 3] 25)) (.cells #[.int .i64 5] 25)) (.cells #[.slice none 0 0, .slice (some ⟨w1.heap.size, 0, none⟩) 1 1, .slice none 0 0, .slice (some ⟨w1.heap.size + 1, 0, none⟩) 1 1, .slice (some ⟨w1.heap.size + 1 + 1, 0, none⟩) 1 1] 35)
  generalize (((((w1.alloc (.cells #[.int .i64 1] 25)).alloc (.cells #[.int .i64 3] 25)).alloc (.cells #[.int .i64 5] 25))).alloc (.cells #[.slice none 0 0, .slice (some ⟨w1.heap.size, 0, none⟩) 1 1, .slice none 0 0, .slice (some ⟨w1.heap.size + 1, 0, none⟩) 1 1, .slice (some ⟨w1.heap.size + 1 + 1, 0, none⟩) 1 1] 35)) = w0 at *
  generalize w1.heap.size = b1 at *
  have HSG := Lib.hid sg
  clear sg
  obtain ⟨i0, i1, i2, i3⟩ := B0.icells4
  have j0 : ∀ n : Idx w0, n.at.cell? ⟨b1 + 1 + 1 + 1, 1, none⟩ = some (.slice (some ⟨b1, 0, none⟩) 1 1) := fun n => (BG.idx n).cell 1 _ rfl
  refine wp_region_own 11 (by kernel_rfl) (by kernel_rfl) ?_
  simp only [List.take_succ_cons, List.take_zero, List.drop_succ_cons, List.drop_zero]
  iterate 11 (refine wpCalm_step (fun K hK => ?_); go_simp; first | (refine hK _ ?_; clear hK K) | (apply Exists.intro; refine ⟨fun ni => ?_, hK _ ?_⟩; (go_at_call 19; exact HP.out _ _ _ ((HT.out.next hB).next ni.below) (HSG.out.next ni.below)); clear hK K))
  refine wpCalm_nil ?_
  clear i0 i1 i2 i3 j0
  refine wpOwn_step (fun w2 hb2 K hK => ?_)
  go_simp
  refine ⟨below_box hb2 _, hK _ _ ?_⟩
  clear hK K
  have hg2 := hb2.size
  refine wpOwn_step (fun w3 hb3 K hK => ?_)
  have G := (Box.new w2 24 #[.string ⟨#[]⟩, .int .i64 0, .int .i64 0, .int .i64 0]).next hb3
  replace hb2 := below_step (below_box hb2 _) hb3
  clear hb3
  obtain ⟨q0, q1, q2, q3⟩ := G.cells4
  obtain ⟨f0, f1, f2, f3⟩ := G.frozen4
  go_simp
  clear q0 q1 q2 q3 f0 f1 f2 f3
  refine ⟨below_set4 hb2 hg2 _ _ _ _, hK _ _ ?_⟩
  clear hK K
  refine wpOwn_step (fun w4 hb4 K hK => ?_)
  go_simp
  replace G := (G.set4 (v0 := .string id) (v1 := .int .i64 2) (v2 := .int .i64 xb) (v3 := .int .i64 us)).next hb4
  replace hb2 := below_step (below_set4 hb2 hg2 _ _ _ _) hb4
  clear hb4
  refine ⟨hb2, hK _ _ ?_⟩
  clear hK K
  refine wpOwn_nil (fun w5 hb5 => ?_)
  replace G := G.next hb5
  replace hb2 := below_step hb2 hb5
  clear hb5
  replace B0 := B0.next hb2
  replace BG := BG.next hb2
  replace hB := below_step hB hb2
  clear hb2
  obtain ⟨p0, p1, p2, p3⟩ := B0.cells4
  obtain ⟨q0, q1, q2, q3⟩ := G.cells4
  have j0 := BG.cell 1 _ rfl
  go_wp2_with fail
  refine (awake_any _ (HT.out.next hB)).mono ?_
  rintro _ w6 ⟨rfl, hb⟩
  go_wp2
  go_ret
  exact ⟨rfl, below_step hB hb⟩

set_option maxHeartbeats 2000000 in
set_option maxRecDepth 100000 in
theorem returns_2 (id : ByteArray) (si us now xb : Int) (w : World) (hT : Tab w) (g0 : decide ((300 : Int) < (id.size : Int)) = false) (HC : Hid (∀ W, Calls Tryd.prog 13 #[.agg #[.string id, .int .i64 2, .int .i64 si, .int .i64 us]] W fun e0 w' => e0 = .returned (.int .i64 0) ∧ Below W.heap.size W w'))
    (HP : Hid (∀ W (A : Option Addr) (cap : Nat), Tab W → Seg W A 0 (ints []) → Calls Tryd.prog 19 #[.agg #[.string id, .int .i64 2, .int .i64 si, .int .i64 us], .slice A 0 cap, .int .i64 now] W fun e w' => e = .returned (.tuple #[.agg #[.string id, .int .i64 2, .int .i64 xb, .int .i64 us], .int .i64 0]) ∧ Below W.heap.size W w'))
    (h1 : si ≤ now) (h2 : now ≤ 1073741824) : Calls Tryd.prog 7 #[.agg #[.string id, .int .i64 2, .int .i64 si, .int .i64 us], .int .i64 now] w fun e w' => e = .returned (.bool true) ∧ Below w.heap.size w w' := by
  have HT := Lib.hid hT
  clear hT
  go_enter Tryd.func7, Tryd.ntmps7
  go_wp2_with fail
  refine (HC.out _).mono ?_
  rintro _ w1 ⟨rfl, hb⟩
  have B0 := (Box.new w 24 #[.string id, .int .i64 2, .int .i64 si, .int .i64 us]).next hb
  have hB := below_step ((Below.refl _ w).alloc (Nat.le_refl _) _) hb
  clear hb
  obtain ⟨p0, p1, p2, p3⟩ := B0.cells4
  have z0 := B0.lt
  have z1 : w.heap.size < w1.heap.size + 1 := by omega
  have z2 : w.heap.size < w1.heap.size + 1 + 1 := by omega
  have z3 : w.heap.size < w1.heap.size + 1 + 1 + 1 := by omega
  go_upto_region 12 with fail
  clear p0 p1 p2 p3 z0 z1 z2 z3
  have BG := Box.new ((((w1.alloc (.cells #[.int .i64 1] 25)).alloc (.cells #[.int .i64 3] 25)).alloc (.cells #[.int .i64 5] 25))) 35 #[.slice none 0 0, .slice (some ⟨w1.heap.size, 0, none⟩) 1 1, .slice none 0 0, .slice (some ⟨w1.heap.size + 1, 0, none⟩) 1 1, .slice (some ⟨w1.heap.size + 1 + 1, 0, none⟩) 1 1]
  simp only [World.size_alloc] at BG
  have sg : Seg (((((w1.alloc (.cells #[.int .i64 1] 25)).alloc (.cells #[.int .i64 3] 25)).alloc (.cells #[.int .i64 5] 25))).alloc (.cells #[.slice none 0 0, .slice (some ⟨w1.heap.size, 0, none⟩) 1 1, .slice none 0 0, .slice (some ⟨w1.heap.size + 1, 0, none⟩) 1 1, .slice (some ⟨w1.heap.size + 1 + 1, 0, none⟩) 1 1] 35)) none 0 (ints []) := fun k hk => absurd hk (by omega)
  replace B0 := ((((B0.alloc (.cells #[.int .i64 1] 25)).alloc (.cells #[.int .i64 3] 25)).alloc (.cells #[.int .i64 5] 25))).alloc (.cells #[.slice none 0 0, .slice (some ⟨w1.heap.size, 0, none⟩) 1 1, .slice none 0 0, .slice (some ⟨w1.heap.size + 1, 0, none⟩) 1 1, .slice (some ⟨w1.heap.size + 1 + 1, 0, none⟩) 1 1] 35)
  replace hB := below_box (below_box (below_box (below_box hB (.cells #[.int .i64 1] 25)) (.cells #[.int .i64 3] 25)) (.cells #[.int .i64 5] 25)) (.cells #[.slice none 0 0, .slice (some ⟨w1.heap.size, 0, none⟩) 1 1, .slice none 0 0, .slice (some ⟨w1.heap.size + 1, 0, none⟩) 1 1, .slice (some ⟨w1.heap.size + 1 + 1, 0, none⟩) 1 1] 35)
  generalize (((((w1.alloc (.cells #[.int .i64 1] 25)).alloc (.cells #[.int .i64 3] 25)).alloc (.cells #[.int .i64 5] 25))).alloc (.cells #[.slice none 0 0, .slice (some ⟨w1.heap.size, 0, none⟩) 1 1, .slice none 0 0, .slice (some ⟨w1.heap.size + 1, 0, none⟩) 1 1, .slice (some ⟨w1.heap.size + 1 + 1, 0, none⟩) 1 1] 35)) = w0 at *
  generalize w1.heap.size = b1 at *
  have HSG := Lib.hid sg
  clear sg
  obtain ⟨i0, i1, i2, i3⟩ := B0.icells4
  have j0 : ∀ n : Idx w0, n.at.cell? ⟨b1 + 1 + 1 + 1, 2, none⟩ = some (.slice none 0 0) := fun n => (BG.idx n).cell 2 _ rfl
  refine wp_region_own 11 (by kernel_rfl) (by kernel_rfl) ?_
  simp only [List.take_succ_cons, List.take_zero, List.drop_succ_cons, List.drop_zero]
  iterate 11 (refine wpCalm_step (fun K hK => ?_); go_simp; first | (refine hK _ ?_; clear hK K) | (apply Exists.intro; refine ⟨fun ni => ?_, hK _ ?_⟩; (go_at_call 19; exact HP.out _ _ _ ((HT.out.next hB).next ni.below) (HSG.out.next ni.below)); clear hK K))
  refine wpCalm_nil ?_
  clear i0 i1 i2 i3 j0
  refine wpOwn_step (fun w2 hb2 K hK => ?_)
  go_simp
  refine ⟨below_box hb2 _, hK _ _ ?_⟩
  clear hK K
  have hg2 := hb2.size
  refine wpOwn_step (fun w3 hb3 K hK => ?_)
  have G := (Box.new w2 24 #[.string ⟨#[]⟩, .int .i64 0, .int .i64 0, .int .i64 0]).next hb3
  replace hb2 := below_step (below_box hb2 _) hb3
  clear hb3
  obtain ⟨q0, q1, q2, q3⟩ := G.cells4
  obtain ⟨f0, f1, f2, f3⟩ := G.frozen4
  go_simp
  clear q0 q1 q2 q3 f0 f1 f2 f3
  refine ⟨below_set4 hb2 hg2 _ _ _ _, hK _ _ ?_⟩
  clear hK K
  refine wpOwn_step (fun w4 hb4 K hK => ?_)
  go_simp
  replace G := (G.set4 (v0 := .string id) (v1 := .int .i64 2) (v2 := .int .i64 xb) (v3 := .int .i64 us)).next hb4
  replace hb2 := below_step (below_set4 hb2 hg2 _ _ _ _) hb4
  clear hb4
  refine ⟨hb2, hK _ _ ?_⟩
  clear hK K
  refine wpOwn_nil (fun w5 hb5 => ?_)
  replace G := G.next hb5
  replace hb2 := below_step hb2 hb5
  clear hb5
  replace B0 := B0.next hb2
  replace BG := BG.next hb2
  replace hB := below_step hB hb2
  clear hb2
  obtain ⟨p0, p1, p2, p3⟩ := B0.cells4
  obtain ⟨q0, q1, q2, q3⟩ := G.cells4
  have j0 := BG.cell 2 _ rfl
  go_wp2_with fail
  refine (awake_any _ (HT.out.next hB)).mono ?_
  rintro _ w6 ⟨rfl, hb⟩
  go_wp2
  go_ret
  exact ⟨rfl, below_step hB hb⟩

set_option maxHeartbeats 2000000 in
set_option maxRecDepth 100000 in
theorem returns_3 (id : ByteArray) (si us now xb : Int) (w : World) (hT : Tab w) (g0 : decide ((300 : Int) < (id.size : Int)) = false) (HC : Hid (∀ W, Calls Tryd.prog 13 #[.agg #[.string id, .int .i64 3, .int .i64 si, .int .i64 us]] W fun e0 w' => e0 = .returned (.int .i64 0) ∧ Below W.heap.size W w'))
    (HP : Hid (∀ W (A : Option Addr) (cap : Nat), Tab W → Seg W A 1 (ints [3]) → Calls Tryd.prog 19 #[.agg #[.string id, .int .i64 3, .int .i64 si, .int .i64 us], .slice A 1 cap, .int .i64 now] W fun e w' => e = .returned (.tuple #[.agg #[.string id, .int .i64 2, .int .i64 xb, .int .i64 us], .int .i64 1]) ∧ Below W.heap.size W w'))
    (h1 : si ≤ now) (h2 : now ≤ 1073741824) : Calls Tryd.prog 7 #[.agg #[.string id, .int .i64 3, .int .i64 si, .int .i64 us], .int .i64 now] w fun e w' => e = .returned (.bool true) ∧ Below w.heap.size w w' := by
  have HT := Lib.hid hT
  clear hT
  go_enter Tryd.func7, Tryd.ntmps7
  go_wp2_with fail
  refine (HC.out _).mono ?_
  rintro _ w1 ⟨rfl, hb⟩
  have B0 := (Box.new w 24 #[.string id, .int .i64 3, .int .i64 si, .int .i64 us]).next hb
  have hB := below_step ((Below.refl _ w).alloc (Nat.le_refl _) _) hb
  clear hb
  obtain ⟨p0, p1, p2, p3⟩ := B0.cells4
  have z0 := B0.lt
  have z1 : w.heap.size < w1.heap.size + 1 := by omega
  have z2 : w.heap.size < w1.heap.size + 1 + 1 := by omega
  have z3 : w.heap.size < w1.heap.size + 1 + 1 + 1 := by omega
  go_upto_region 12 with fail
  clear p0 p1 p2 p3 z0 z1 z2 z3
  have BG := Box.new ((((w1.alloc (.cells #[.int .i64 1] 25)).alloc (.cells #[.int .i64 3] 25)).alloc (.cells #[.int .i64 5] 25))) 35 #[.slice none 0 0, .slice (some ⟨w1.heap.size, 0, none⟩) 1 1, .slice none 0 0, .slice (some ⟨w1.heap.size + 1, 0, none⟩) 1 1, .slice (some ⟨w1.heap.size + 1 + 1, 0, none⟩) 1 1]
  simp only [World.size_alloc] at BG
  have BS := (Box.new (w1.alloc (.cells #[.int .i64 1] 25)) 25 #[.int .i64 3]).alloc (.cells #[.int .i64 5] 25) |>.alloc (.cells #[.slice none 0 0, .slice (some ⟨w1.heap.size, 0, none⟩) 1 1, .slice none 0 0, .slice (some ⟨w1.heap.size + 1, 0, none⟩) 1 1, .slice (some ⟨w1.heap.size + 1 + 1, 0, none⟩) 1 1] 35)
  simp only [World.size_alloc] at BS
  have sg : Seg (((((w1.alloc (.cells #[.int .i64 1] 25)).alloc (.cells #[.int .i64 3] 25)).alloc (.cells #[.int .i64 5] 25))).alloc (.cells #[.slice none 0 0, .slice (some ⟨w1.heap.size, 0, none⟩) 1 1, .slice none 0 0, .slice (some ⟨w1.heap.size + 1, 0, none⟩) 1 1, .slice (some ⟨w1.heap.size + 1 + 1, 0, none⟩) 1 1] 35)) (some ⟨w1.heap.size + 1, 0, none⟩) 1 (ints [3]) := seg_of_box BS (fun k hk => by match k, hk with | 0, _ => rfl)
  clear BS
  replace B0 := ((((B0.alloc (.cells #[.int .i64 1] 25)).alloc (.cells #[.int .i64 3] 25)).alloc (.cells #[.int .i64 5] 25))).alloc (.cells #[.slice none 0 0, .slice (some ⟨w1.heap.size, 0, none⟩) 1 1, .slice none 0 0, .slice (some ⟨w1.heap.size + 1, 0, none⟩) 1 1, .slice (some ⟨w1.heap.size + 1 + 1, 0, none⟩) 1 1] 35)
  replace hB := below_box (below_box (below_box (below_box hB (.cells #[.int .i64 1] 25)) (.cells #[.int .i64 3] 25)) (.cells #[.int .i64 5] 25)) (.cells #[.slice none 0 0, .slice (some ⟨w1.heap.size, 0, none⟩) 1 1, .slice none 0 0, .slice (some ⟨w1.heap.size + 1, 0, none⟩) 1 1, .slice (some ⟨w1.heap.size + 1 + 1, 0, none⟩) 1 1] 35)
  generalize (((((w1.alloc (.cells #[.int .i64 1] 25)).alloc (.cells #[.int .i64 3] 25)).alloc (.cells #[.int .i64 5] 25))).alloc (.cells #[.slice none 0 0, .slice (some ⟨w1.heap.size, 0, none⟩) 1 1, .slice none 0 0, .slice (some ⟨w1.heap.size + 1, 0, none⟩) 1 1, .slice (some ⟨w1.heap.size + 1 + 1, 0, none⟩) 1 1] 35)) = w0 at *
  generalize w1.heap.size = b1 at *
  have HSG := Lib.hid sg
  clear sg
  obtain ⟨i0, i1, i2, i3⟩ := B0.icells4
  have j0 : ∀ n : Idx w0, n.at.cell? ⟨b1 + 1 + 1 + 1, 3, none⟩ = some (.slice (some ⟨b1 + 1, 0, none⟩) 1 1) := fun n => (BG.idx n).cell 3 _ rfl
  refine wp_region_own 11 (by kernel_rfl) (by kernel_rfl) ?_
  simp only [List.take_succ_cons, List.take_zero, List.drop_succ_cons, List.drop_zero]
  iterate 11 (refine wpCalm_step (fun K hK => ?_); go_simp; first | (refine hK _ ?_; clear hK K) | (apply Exists.intro; refine ⟨fun ni => ?_, hK _ ?_⟩; (go_at_call 19; exact HP.out _ _ _ ((HT.out.next hB).next ni.below) (HSG.out.next ni.below)); clear hK K))
  refine wpCalm_nil ?_
  clear i0 i1 i2 i3 j0
  refine wpOwn_step (fun w2 hb2 K hK => ?_)
  go_simp
  refine ⟨below_box hb2 _, hK _ _ ?_⟩
  clear hK K
  have hg2 := hb2.size
  refine wpOwn_step (fun w3 hb3 K hK => ?_)
  have G := (Box.new w2 24 #[.string ⟨#[]⟩, .int .i64 0, .int .i64 0, .int .i64 0]).next hb3
  replace hb2 := below_step (below_box hb2 _) hb3
  clear hb3
  obtain ⟨q0, q1, q2, q3⟩ := G.cells4
  obtain ⟨f0, f1, f2, f3⟩ := G.frozen4
  go_simp
  clear q0 q1 q2 q3 f0 f1 f2 f3
  refine ⟨below_set4 hb2 hg2 _ _ _ _, hK _ _ ?_⟩
  clear hK K
  refine wpOwn_step (fun w4 hb4 K hK => ?_)
  go_simp
  replace G := (G.set4 (v0 := .string id) (v1 := .int .i64 2) (v2 := .int .i64 xb) (v3 := .int .i64 us)).next hb4
  replace hb2 := below_step (below_set4 hb2 hg2 _ _ _ _) hb4
  clear hb4
  refine ⟨hb2, hK _ _ ?_⟩
  clear hK K
  refine wpOwn_nil (fun w5 hb5 => ?_)
  replace G := G.next hb5
  replace hb2 := below_step hb2 hb5
  clear hb5
  replace B0 := B0.next hb2
  replace BG := BG.next hb2
  replace hB := below_step hB hb2
  clear hb2
  obtain ⟨p0, p1, p2, p3⟩ := B0.cells4
  obtain ⟨q0, q1, q2, q3⟩ := G.cells4
  have j0 := BG.cell 3 _ rfl
  go_wp2_with fail
  refine (awake_any _ (HT.out.next hB)).mono ?_
  rintro _ w6 ⟨rfl, hb⟩
  go_wp2
  go_ret
  exact ⟨rfl, below_step hB hb⟩

set_option maxHeartbeats 2000000 in
set_option maxRecDepth 100000 in
theorem returns_4 (id : ByteArray) (si us now xb : Int) (w : World) (hT : Tab w) (g0 : decide ((300 : Int) < (id.size : Int)) = false) (HC : Hid (∀ W, Calls Tryd.prog 13 #[.agg #[.string id, .int .i64 4, .int .i64 si, .int .i64 us]] W fun e0 w' => e0 = .returned (.int .i64 0) ∧ Below W.heap.size W w'))
    (HP : Hid (∀ W (A : Option Addr) (cap : Nat), Tab W → Seg W A 1 (ints [5]) → Calls Tryd.prog 19 #[.agg #[.string id, .int .i64 4, .int .i64 si, .int .i64 us], .slice A 1 cap, .int .i64 now] W fun e w' => e = .returned (.tuple #[.agg #[.string id, .int .i64 2, .int .i64 xb, .int .i64 us], .int .i64 1]) ∧ Below W.heap.size W w'))
    (h1 : si ≤ now) (h2 : now ≤ 1073741824) : Calls Tryd.prog 7 #[.agg #[.string id, .int .i64 4, .int .i64 si, .int .i64 us], .int .i64 now] w fun e w' => e = .returned (.bool true) ∧ Below w.heap.size w w' := by
  have HT := Lib.hid hT
  clear hT
  go_enter Tryd.func7, Tryd.ntmps7
  go_wp2_with fail
  refine (HC.out _).mono ?_
  rintro _ w1 ⟨rfl, hb⟩
  have B0 := (Box.new w 24 #[.string id, .int .i64 4, .int .i64 si, .int .i64 us]).next hb
  have hB := below_step ((Below.refl _ w).alloc (Nat.le_refl _) _) hb
  clear hb
  obtain ⟨p0, p1, p2, p3⟩ := B0.cells4
  have z0 := B0.lt
  have z1 : w.heap.size < w1.heap.size + 1 := by omega
  have z2 : w.heap.size < w1.heap.size + 1 + 1 := by omega
  have z3 : w.heap.size < w1.heap.size + 1 + 1 + 1 := by omega
  go_upto_region 12 with fail
  clear p0 p1 p2 p3 z0 z1 z2 z3
  have BG := Box.new ((((w1.alloc (.cells #[.int .i64 1] 25)).alloc (.cells #[.int .i64 3] 25)).alloc (.cells #[.int .i64 5] 25))) 35 #[.slice none 0 0, .slice (some ⟨w1.heap.size, 0, none⟩) 1 1, .slice none 0 0, .slice (some ⟨w1.heap.size + 1, 0, none⟩) 1 1, .slice (some ⟨w1.heap.size + 1 + 1, 0, none⟩) 1 1]
  simp only [World.size_alloc] at BG
  have BS := (Box.new ((w1.alloc (.cells #[.int .i64 1] 25)).alloc (.cells #[.int .i64 3] 25)) 25 #[.int .i64 5]).alloc (.cells #[.slice none 0 0, .slice (some ⟨w1.heap.size, 0, none⟩) 1 1, .slice none 0 0, .slice (some ⟨w1.heap.size + 1, 0, none⟩) 1 1, .slice (some ⟨w1.heap.size + 1 + 1, 0, none⟩) 1 1] 35)
  simp only [World.size_alloc] at BS
  have sg : Seg (((((w1.alloc (.cells #[.int .i64 1] 25)).alloc (.cells #[.int .i64 3] 25)).alloc (.cells #[.int .i64 5] 25))).alloc (.cells #[.slice none 0 0, .slice (some ⟨w1.heap.size, 0, none⟩) 1 1, .slice none 0 0, .slice (some ⟨w1.heap.size + 1, 0, none⟩) 1 1, .slice (some ⟨w1.heap.size + 1 + 1, 0, none⟩) 1 1] 35)) (some ⟨w1.heap.size + 1 + 1, 0, none⟩) 1 (ints [5]) := seg_of_box BS (fun k hk => by match k, hk with | 0, _ => rfl)
  clear BS
  replace B0 := ((((B0.alloc (.cells #[.int .i64 1] 25)).alloc (.cells #[.int .i64 3] 25)).alloc (.cells #[.int .i64 5] 25))).alloc (.cells #[.slice none 0 0, .slice (some ⟨w1.heap.size, 0, none⟩) 1 1, .slice none 0 0, .slice (some ⟨w1.heap.size + 1, 0, none⟩) 1 1, .slice (some ⟨w1.heap.size + 1 + 1, 0, none⟩) 1 1] 35)
  replace hB := below_box (below_box (below_box (below_box hB (.cells #[.int .i64 1] 25)) (.cells #[.int .i64 3] 25)) (.cells #[.int .i64 5] 25)) (.cells #[.slice none 0 0, .slice (some ⟨w1.heap.size, 0, none⟩) 1 1, .slice none 0 0, .slice (some ⟨w1.heap.size + 1, 0, none⟩) 1 1, .slice (some ⟨w1.heap.size + 1 + 1, 0, none⟩) 1 1] 35)
  generalize (((((w1.alloc (.cells #[.int .i64 1] 25)).alloc (.cells #[.int .i64 3] 25)).alloc (.cells #[.int .i64 5] 25))).alloc (.cells #[.slice none 0 0, .slice (some ⟨w1.heap.size, 0, none⟩) 1 1, .slice none 0 0, .slice (some ⟨w1.heap.size + 1, 0, none⟩) 1 1, .slice (some ⟨w1.heap.size + 1 + 1, 0, none⟩) 1 1] 35)) = w0 at *
  generalize w1.heap.size = b1 at *
  have HSG := Lib.hid sg
  clear sg
  obtain ⟨i0, i1, i2, i3⟩ := B0.icells4
  have j0 : ∀ n : Idx w0, n.at.cell? ⟨b1 + 1 + 1 + 1, 4, none⟩ = some (.slice (some ⟨b1 + 1 + 1, 0, none⟩) 1 1) := fun n => (BG.idx n).cell 4 _ rfl
  refine wp_region_own 11 (by kernel_rfl) (by kernel_rfl) ?_
  simp only [List.take_succ_cons, List.take_zero, List.drop_succ_cons, List.drop_zero]
  iterate 11 (refine wpCalm_step (fun K hK => ?_); go_simp; first | (refine hK _ ?_; clear hK K) | (apply Exists.intro; refine ⟨fun ni => ?_, hK _ ?_⟩; (go_at_call 19; exact HP.out _ _ _ ((HT.out.next hB).next ni.below) (HSG.out.next ni.below)); clear hK K))
  refine wpCalm_nil ?_
  clear i0 i1 i2 i3 j0
  refine wpOwn_step (fun w2 hb2 K hK => ?_)
  go_simp
  refine ⟨below_box hb2 _, hK _ _ ?_⟩
  clear hK K
  have hg2 := hb2.size
  refine wpOwn_step (fun w3 hb3 K hK => ?_)
  have G := (Box.new w2 24 #[.string ⟨#[]⟩, .int .i64 0, .int .i64 0, .int .i64 0]).next hb3
  replace hb2 := below_step (below_box hb2 _) hb3
  clear hb3
  obtain ⟨q0, q1, q2, q3⟩ := G.cells4
  obtain ⟨f0, f1, f2, f3⟩ := G.frozen4
  go_simp
  clear q0 q1 q2 q3 f0 f1 f2 f3
  refine ⟨below_set4 hb2 hg2 _ _ _ _, hK _ _ ?_⟩
  clear hK K
  refine wpOwn_step (fun w4 hb4 K hK => ?_)
  go_simp
  replace G := (G.set4 (v0 := .string id) (v1 := .int .i64 2) (v2 := .int .i64 xb) (v3 := .int .i64 us)).next hb4
  replace hb2 := below_step (below_set4 hb2 hg2 _ _ _ _) hb4
  clear hb4
  refine ⟨hb2, hK _ _ ?_⟩
  clear hK K
  refine wpOwn_nil (fun w5 hb5 => ?_)
  replace G := G.next hb5
  replace hb2 := below_step hb2 hb5
  clear hb5
  replace B0 := B0.next hb2
  replace BG := BG.next hb2
  replace hB := below_step hB hb2
  clear hb2
  obtain ⟨p0, p1, p2, p3⟩ := B0.cells4
  obtain ⟨q0, q1, q2, q3⟩ := G.cells4
  have j0 := BG.cell 4 _ rfl
  go_wp2_with fail
  refine (awake_any _ (HT.out.next hB)).mono ?_
  rintro _ w6 ⟨rfl, hb⟩
  go_wp2
  go_ret
  exact ⟨rfl, below_step hB hb⟩

theorem instanceReturns_walk (id : ByteArray) (st si us now : Int) (w : World) (hT : Tab w) (m1 : id.size ≤ maxLen) (_ : (Lit.int .i64 st).wf = true) (_ : (Lit.int .i64 si).wf = true) (_ : (Lit.int .i64 us).wf = true) (_ : (Lit.int .i64 now).wf = true) : Calls Tryd.prog 7 #[.agg #[.string id, .int .i64 st, .int .i64 si, .int .i64 us], .int .i64 now] w fun e w' => e = .returned (.bool true) ∧ Below w.heap.size w w' := by
  by_cases g0 : 300 < id.size
  · exact returns_long id st si us now w hT (by simp; omega)
  have g1 : decide ((300 : Int) < (id.size : Int)) = false := by simp; omega
  have HC : Hid (∀ W, _) := fun W => check_any id st si us W m1
  by_cases h0 : chk id st si us = 0
  · have hk := (chk_ok id st si us).1 h0
    rw [h0] at HC
    by_cases h1 : now < si
    · exact returns_e2 id st si us now w hT g1 HC h1
    by_cases h2 : 1073741824 < now
    · exact returns_e3 id st si us now w hT g1 HC (by omega) h2
    obtain ⟨k1, k2, k3, k4, k5, k6⟩ := hk
    have ht : timeB now = true := (timeB_ok now).2 ⟨by have := (timeB_ok si).1 k4; omega, by omega⟩
    rcases (by omega : st = 1 ∨ st = 2 ∨ st = 3 ∨ st = 4 ∨ st = 5) with rfl | rfl | rfl | rfl | rfl
    · exact returns_1 id si us now now w hT g1 HC (fun W A cap t1 t2 => by
        have h := play_any id 1 si us now A 1 cap [1] W m1 t1 rfl t2 (by decide)
        rw [play_way id 1 si us 1 now 2 (step_way id 1 si us 1 now 2 h0 ht (by omega) (by decide) (by decide) (by decide))] at h
        exact h) (by omega) (by omega)
    · exact returns_2 id si us now si w hT g1 HC (fun W A cap t1 t2 => by
        have h := play_any id 2 si us now A 0 cap [] W m1 t1 rfl t2 (by decide)
        exact h) (by omega) (by omega)
    · exact returns_3 id si us now now w hT g1 HC (fun W A cap t1 t2 => by
        have h := play_any id 3 si us now A 1 cap [3] W m1 t1 rfl t2 (by decide)
        rw [play_way id 3 si us 3 now 2 (step_way id 3 si us 3 now 2 h0 ht (by omega) (by decide) (by decide) (by decide))] at h
        exact h) (by omega) (by omega)
    · exact returns_4 id si us now now w hT g1 HC (fun W A cap t1 t2 => by
        have h := play_any id 4 si us now A 1 cap [5] W m1 t1 rfl t2 (by decide)
        rw [play_way id 4 si us 5 now 2 (step_way id 4 si us 5 now 2 h0 ht (by omega) (by decide) (by decide) (by decide))] at h
        exact h) (by omega) (by omega)
    · exact returns_dead id si us now w hT g1 HC (fun W a t1 => by
        have h := step_any id 5 si us a now W m1 t1
        rw [step_dead id si us a now h0 ht (by omega)] at h
        exact h) (by omega) (by omega)
  · exact returns_e1 id st si us now _ w hT g1 HC (by simpa using h0)
end Go.Proofs.YtfcihloebncmdaaDoor
