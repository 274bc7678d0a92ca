/- The walks of MeterAdds of layer 34. -/
import Derived.Test.YtdlkpohjeedbiaaT
namespace Go.Proofs.Ytdlkpohjeedbiaa
open Go.ChangeShapes Go.WideShapes Go.ChangeAt Go.RowKit
attribute [local go_sem high] eql33 neq33

set_option maxHeartbeats 1000000 in
theorem ma_out0 (a1 a2 a3 a4 b1 b2 b3 b4 c1 c2 c3 c4 : Int) (A A' : Option Addr) (n cap n' cap' : Nat) (w : World) (g : decide ((300 : Int) < (n : Int)) = true) : Calls Try.prog 7 #[.agg #[.int .i64 a1, .int .i64 a2, .int .i64 a3, .int .i64 a4], .agg #[.int .i64 b1, .int .i64 b2, .int .i64 b3, .int .i64 b4], .agg #[.int .i64 c1, .int .i64 c2, .int .i64 c3, .int .i64 c4], .slice A n cap, .slice A' n' cap'] w fun e w' => e = .returned (.bool true) ∧ Below w.heap.size w w' := by
  go_enter Try.func7, Try.ntmps7
  go_wp2_with fail
  refine (awake_any _).mono ?_
  rintro _ wx1 ⟨rfl, hb⟩
  have A0 := (((Box.new w 33 #[.int .i64 a1, .int .i64 a2, .int .i64 a3, .int .i64 a4]).alloc _).alloc _).next hb
  have B0 := ((Box.new ((w).alloc (.cells #[.int .i64 a1, .int .i64 a2, .int .i64 a3, .int .i64 a4] 33)) 33 #[.int .i64 b1, .int .i64 b2, .int .i64 b3, .int .i64 b4]).alloc _).next hb
  simp only [World.size_alloc] at B0
  have C0 := (Box.new (((w).alloc (.cells #[.int .i64 a1, .int .i64 a2, .int .i64 a3, .int .i64 a4] 33)).alloc (.cells #[.int .i64 b1, .int .i64 b2, .int .i64 b3, .int .i64 b4] 33)) 33 #[.int .i64 c1, .int .i64 c2, .int .i64 c3, .int .i64 c4]).next hb
  simp only [World.size_alloc] at C0
  have hB := below_step (below_box (below_box (below_box (Below.refl _ w) _) _) _) hb
  clear hb
  go_wp2
  go_ret
  exact ⟨rfl, hB⟩
set_option maxHeartbeats 1000000 in
theorem ma_out1 (a1 a2 a3 a4 b1 b2 b3 b4 c1 c2 c3 c4 : Int) (A A' : Option Addr) (n cap n' cap' : Nat) (w : World) (g0 : decide ((300 : Int) < (n : Int)) = false) (g : decide ((300 : Int) < (n' : Int)) = true) : Calls Try.prog 7 #[.agg #[.int .i64 a1, .int .i64 a2, .int .i64 a3, .int .i64 a4], .agg #[.int .i64 b1, .int .i64 b2, .int .i64 b3, .int .i64 b4], .agg #[.int .i64 c1, .int .i64 c2, .int .i64 c3, .int .i64 c4], .slice A n cap, .slice A' n' cap'] w fun e w' => e = .returned (.bool true) ∧ Below w.heap.size w w' := by
  go_enter Try.func7, Try.ntmps7
  go_wp2_with fail
  refine (awake_any _).mono ?_
  rintro _ wx1 ⟨rfl, hb⟩
  have A0 := (((Box.new w 33 #[.int .i64 a1, .int .i64 a2, .int .i64 a3, .int .i64 a4]).alloc _).alloc _).next hb
  have B0 := ((Box.new ((w).alloc (.cells #[.int .i64 a1, .int .i64 a2, .int .i64 a3, .int .i64 a4] 33)) 33 #[.int .i64 b1, .int .i64 b2, .int .i64 b3, .int .i64 b4]).alloc _).next hb
  simp only [World.size_alloc] at B0
  have C0 := (Box.new (((w).alloc (.cells #[.int .i64 a1, .int .i64 a2, .int .i64 a3, .int .i64 a4] 33)).alloc (.cells #[.int .i64 b1, .int .i64 b2, .int .i64 b3, .int .i64 b4] 33)) 33 #[.int .i64 c1, .int .i64 c2, .int .i64 c3, .int .i64 c4]).next hb
  simp only [World.size_alloc] at C0
  have hB := below_step (below_box (below_box (below_box (Below.refl _ w) _) _) _) hb
  clear hb
  go_wp2
  go_ret
  exact ⟨rfl, hB⟩
set_option maxRecDepth 100000 in
set_option maxHeartbeats 4000000 in
theorem ma_skip_bad (a1 a2 a3 a4 b1 b2 b3 b4 c1 c2 c3 c4 : Int) (A A' : Option Addr) (n cap n' cap' : Nat) (us vs : List U4) (x1 x2 x3 x4 x5 s1 s2 s3 s4 p1 p2 p3 p4 q1 q2 q3 q4 s5 p5 q5 : Int) (w : World) (g0 : decide ((300 : Int) < (n : Int)) = false) (g1 : decide ((300 : Int) < (n' : Int)) = false) (n0 : n ≤ 300) (n1 : n' ≤ 300) (hn : Hid (us.length = n)) (hn' : Hid (vs.length = n')) (hs : Hid (Seg w A (n * 4) (uCell us))) (hs' : Hid (Seg w A' (n' * 4) (uCell vs))) (HX : Hid (∀ W, Calls Try.prog 19 #[.agg #[.int .i64 a1, .int .i64 a2, .int .i64 a3, .int .i64 a4], .agg #[.int .i64 b1, .int .i64 b2, .int .i64 b3, .int .i64 b4]] W fun e w' => e = .returned (.tuple #[.agg #[.int .i64 x1, .int .i64 x2, .int .i64 x3, .int .i64 x4], .int .i64 x5]) ∧ Below W.heap.size W w')) (HY : Hid (∀ W, Calls Try.prog 19 #[.agg #[.int .i64 b1, .int .i64 b2, .int .i64 b3, .int .i64 b4], .agg #[.int .i64 a1, .int .i64 a2, .int .i64 a3, .int .i64 a4]] W fun e w' => e = .returned (.tuple #[.agg #[.int .i64 x1, .int .i64 x2, .int .i64 x3, .int .i64 x4], .int .i64 x5]) ∧ Below W.heap.size W w')) (hx : (x5 != 0) = true) (HS : Hid (∀ W B k, Seg W B ((n + n') * 4) (uCell (us ++ vs)) → Calls Try.prog 21 #[.slice B (n + n') k] W fun e w' => e = .returned (.tuple #[.agg #[.int .i64 s1, .int .i64 s2, .int .i64 s3, .int .i64 s4], .int .i64 s5]) ∧ Below W.heap.size W w')) (h5 : (s5 != 0) = true) (HP : Hid (∀ W, Seg W A (n * 4) (uCell us) → Calls Try.prog 21 #[.slice A n cap] W fun e w' => e = .returned (.tuple #[.agg #[.int .i64 p1, .int .i64 p2, .int .i64 p3, .int .i64 p4], .int .i64 p5]) ∧ Below W.heap.size W w')) (HQ : Hid (∀ W, Seg W A' (n' * 4) (uCell vs) → Calls Try.prog 21 #[.slice A' n' cap'] W fun e w' => e = .returned (.tuple #[.agg #[.int .i64 q1, .int .i64 q2, .int .i64 q3, .int .i64 q4], .int .i64 q5]) ∧ Below W.heap.size W w')) : Calls Try.prog 7 #[.agg #[.int .i64 a1, .int .i64 a2, .int .i64 a3, .int .i64 a4], .agg #[.int .i64 b1, .int .i64 b2, .int .i64 b3, .int .i64 b4], .agg #[.int .i64 c1, .int .i64 c2, .int .i64 c3, .int .i64 c4], .slice A n cap, .slice A' n' cap'] w fun e w' => e = .returned (.bool true) ∧ Below w.heap.size w w' := by
  obtain ⟨i0, hi, hz0, hz1, hz2⟩ := info_parts info33
  have HI33 := Lib.hid hi
  clear hi
  have hq1 := eq4_self x1 x2 x3 x4
  have hq3 := eq4_self s1 s2 s3 s4
  go_enter Try.func7, Try.ntmps7
  go_wp2_with fail
  refine (HX.out _).mono ?_
  rintro _ wx1 ⟨rfl, hb⟩
  have A0 := (((Box.new w 33 #[.int .i64 a1, .int .i64 a2, .int .i64 a3, .int .i64 a4]).alloc _).alloc _).next hb
  have B0 := ((Box.new ((w).alloc (.cells #[.int .i64 a1, .int .i64 a2, .int .i64 a3, .int .i64 a4] 33)) 33 #[.int .i64 b1, .int .i64 b2, .int .i64 b3, .int .i64 b4]).alloc _).next hb
  simp only [World.size_alloc] at B0
  have C0 := (Box.new (((w).alloc (.cells #[.int .i64 a1, .int .i64 a2, .int .i64 a3, .int .i64 a4] 33)).alloc (.cells #[.int .i64 b1, .int .i64 b2, .int .i64 b3, .int .i64 b4] 33)) 33 #[.int .i64 c1, .int .i64 c2, .int .i64 c3, .int .i64 c4]).next hb
  simp only [World.size_alloc] at C0
  have hB := below_step (below_box (below_box (below_box (Below.refl _ w) _) _) _) hb
  clear hb
  have cA0_0 := A0.cell 0 _ rfl
  have cA0_1 := A0.cell 1 _ rfl
  have cA0_2 := A0.cell 2 _ rfl
  have cA0_3 := A0.cell 3 _ rfl
  have lA0 := A0.lt
  have cB0_0 := B0.cell 0 _ rfl
  have cB0_1 := B0.cell 1 _ rfl
  have cB0_2 := B0.cell 2 _ rfl
  have cB0_3 := B0.cell 3 _ rfl
  have lB0 := B0.lt
  have cC0_0 := C0.cell 0 _ rfl
  have cC0_1 := C0.cell 1 _ rfl
  have cC0_2 := C0.cell 2 _ rfl
  have cC0_3 := C0.cell 3 _ rfl
  have lC0 := C0.lt
  go_wp2_with fail
  refine (HY.out _).mono ?_
  rintro _ wx2 ⟨rfl, hb⟩
  clear cA0_0 cA0_1 cA0_2 cA0_3 lA0 cB0_0 cB0_1 cB0_2 cB0_3 lB0 cC0_0 cC0_1 cC0_2 cC0_3 lC0
  replace A0 := (A0.alloc _).next hb
  replace B0 := (B0.alloc _).next hb
  replace C0 := (C0.alloc _).next hb
  have X := (Box.new wx1 33 #[.int .i64 x1, .int .i64 x2, .int .i64 x3, .int .i64 x4]).next hb
  replace hB := below_step (below_box hB _) hb
  clear hb
  have cA0_0 := A0.cell 0 _ rfl
  have cA0_1 := A0.cell 1 _ rfl
  have cA0_2 := A0.cell 2 _ rfl
  have cA0_3 := A0.cell 3 _ rfl
  have lA0 := A0.lt
  have cB0_0 := B0.cell 0 _ rfl
  have cB0_1 := B0.cell 1 _ rfl
  have cB0_2 := B0.cell 2 _ rfl
  have cB0_3 := B0.cell 3 _ rfl
  have lB0 := B0.lt
  have cC0_0 := C0.cell 0 _ rfl
  have cC0_1 := C0.cell 1 _ rfl
  have cC0_2 := C0.cell 2 _ rfl
  have cC0_3 := C0.cell 3 _ rfl
  have lC0 := C0.lt
  have cX_0 := X.cell 0 _ rfl
  have cX_1 := X.cell 1 _ rfl
  have cX_2 := X.cell 2 _ rfl
  have cX_3 := X.cell 3 _ rfl
  have lX := X.lt
  go_upto_region 5 with fail
  clear cA0_0 cA0_1 cA0_2 cA0_3 lA0 cB0_0 cB0_1 cB0_2 cB0_3 lB0 cC0_0 cC0_1 cC0_2 cC0_3 lC0 cX_0 cX_1 cX_2 cX_3 lX
  have zA0 := A0.lt
  have zB0 := B0.lt
  have zC0 := C0.lt
  have zX := X.lt
  refine wp_forget (fun W => Box W w.heap.size 33 #[.int .i64 a1, .int .i64 a2, .int .i64 a3, .int .i64 a4] ∧ Box W (w.heap.size + 1) 33 #[.int .i64 b1, .int .i64 b2, .int .i64 b3, .int .i64 b4] ∧ Box W (w.heap.size + 2) 33 #[.int .i64 c1, .int .i64 c2, .int .i64 c3, .int .i64 c4] ∧ Box W wx1.heap.size 33 #[.int .i64 x1, .int .i64 x2, .int .i64 x3, .int .i64 x4] ∧ Box W (wx2.heap.size) 33 #[.int .i64 x1, .int .i64 x2, .int .i64 x3, .int .i64 x4] ∧ Below w.heap.size w W)
    ⟨(A0.alloc _), (B0.alloc _), (C0.alloc _), (X.alloc _), (Box.new wx2 33 #[.int .i64 x1, .int .i64 x2, .int .i64 x3, .int .i64 x4]), (below_box hB _)⟩ ?_
  clear A0 B0 C0 X hB
  rintro wx3 ⟨A0, B0, C0, X, X2, hB⟩
  have cA0_0 := A0.cell 0 _ rfl
  have cA0_1 := A0.cell 1 _ rfl
  have cA0_2 := A0.cell 2 _ rfl
  have cA0_3 := A0.cell 3 _ rfl
  have lA0 := A0.lt
  have cB0_0 := B0.cell 0 _ rfl
  have cB0_1 := B0.cell 1 _ rfl
  have cB0_2 := B0.cell 2 _ rfl
  have cB0_3 := B0.cell 3 _ rfl
  have lB0 := B0.lt
  have cC0_0 := C0.cell 0 _ rfl
  have cC0_1 := C0.cell 1 _ rfl
  have cC0_2 := C0.cell 2 _ rfl
  have cC0_3 := C0.cell 3 _ rfl
  have lC0 := C0.lt
  have cX_0 := X.cell 0 _ rfl
  have cX_1 := X.cell 1 _ rfl
  have cX_2 := X.cell 2 _ rfl
  have cX_3 := X.cell 3 _ rfl
  have lX := X.lt
  have cX2_0 := X2.cell 0 _ rfl
  have cX2_1 := X2.cell 1 _ rfl
  have cX2_2 := X2.cell 2 _ rfl
  have cX2_3 := X2.cell 3 _ rfl
  have lX2 := X2.lt
  go_upto_region 14 with fail
  clear cA0_0 cA0_1 cA0_2 cA0_3 lA0 cB0_0 cB0_1 cB0_2 cB0_3 lB0 cC0_0 cC0_1 cC0_2 cC0_3 lC0 cX_0 cX_1 cX_2 cX_3 lX cX2_0 cX2_1 cX2_2 cX2_3 lX2
  clear A0 B0 C0 X X2
  have hle := hB.size
  have sg := Lib.hid (hs.out.next hB)
  go_upto_region 15 with (at_builtin; go_loud (refine wpList_append_seg _ rfl (.tmp 95) (.tmp 96) 38 rfl w.heap.size 33 i0 (.agg #[.int .i64 0, .int .i64 0, .int .i64 0, .int .i64 0]) 4 32 Try.underlying38 HI33.out hz0 hz1 hz2 rfl (by decide) (.slice none 0 0) 0 [] rfl ⟨rfl, .inl ⟨rfl, rfl⟩⟩ A n cap (uCell us) rfl sg.out (fun _ _ => rfl) (by unfold maxLen; omega) (by omega) hle (seg_none sg.out) ?_); intro v1 wa1 ho hg _)
  rw [Nat.zero_add, List.nil_append] at ho
  have hB1 : Below w.heap.size w wa1 := hB.trans (grown_below hg (fun k hk => by simp [Value.ownBlock] at hk) hle)
  have HO := Lib.hid ho
  clear ho hg sg hle hB
  have hle := hB1.size
  have sg := Lib.hid (hs'.out.next hB1)
  obtain ⟨_, _, _, _, _, hbk⟩ := own_seg HO.out
  have HBK := Lib.hid hbk
  clear hbk
  go_upto_region 16 with (at_builtin; go_loud (refine wpList_append_seg _ rfl (.tmp 98) (.tmp 99) 38 rfl w.heap.size 33 i0 (.agg #[.int .i64 0, .int .i64 0, .int .i64 0, .int .i64 0]) 4 32 Try.underlying38 HI33.out hz0 hz1 hz2 rfl (by decide) v1 n (segCells (uCell us) (n * 4)) rfl HO.out A' n' cap' (uCell vs) rfl sg.out (fun _ _ => rfl) (by unfold maxLen; omega) (by omega) hle (seg_none sg.out) ?_); intro v2 wa2 ho hg _)
  have hB : Below w.heap.size w wa2 := hB1.trans (grown_below hg HBK.out hle)
  obtain ⟨B, capB, rfl, sB, _, _⟩ := own_seg ho
  have SB := Lib.hid (sB.congr (fun k hk => uCells_app us vs n n' k hn.out hn'.out hk))
  clear ho hg sg hle hB1 HO HBK sB
  go_wp2_with fail
  refine (HS.out _ _ _ SB.out).mono ?_
  rintro _ wx4 ⟨rfl, hb⟩
  replace hB := below_step hB hb
  clear hb
  clear SB
  go_wp2_with fail
  refine (HP.out _ (hs.out.next (below_box hB _))).mono ?_
  rintro _ wx5 ⟨rfl, hb⟩
  have S := (Box.new wx4 33 #[.int .i64 s1, .int .i64 s2, .int .i64 s3, .int .i64 s4]).next hb
  replace hB := below_step (below_box hB _) hb
  clear hb
  have cS_0 := S.cell 0 _ rfl
  have cS_1 := S.cell 1 _ rfl
  have cS_2 := S.cell 2 _ rfl
  have cS_3 := S.cell 3 _ rfl
  have lS := S.lt
  go_wp2_with fail
  refine (HQ.out _ (hs'.out.next (below_box hB _))).mono ?_
  rintro _ wx6 ⟨rfl, hb⟩
  clear cS_0 cS_1 cS_2 cS_3 lS
  replace S := (S.alloc _).next hb
  have P := (Box.new wx5 33 #[.int .i64 p1, .int .i64 p2, .int .i64 p3, .int .i64 p4]).next hb
  replace hB := below_step (below_box hB _) hb
  clear hb
  have cS_0 := S.cell 0 _ rfl
  have cS_1 := S.cell 1 _ rfl
  have cS_2 := S.cell 2 _ rfl
  have cS_3 := S.cell 3 _ rfl
  have lS := S.lt
  have cP_0 := P.cell 0 _ rfl
  have cP_1 := P.cell 1 _ rfl
  have cP_2 := P.cell 2 _ rfl
  have cP_3 := P.cell 3 _ rfl
  have lP := P.lt
  go_wp2_with fail
  refine (awake_any _).mono ?_
  rintro _ wx7 ⟨rfl, hb⟩
  clear cS_0 cS_1 cS_2 cS_3 lS cP_0 cP_1 cP_2 cP_3 lP
  replace S := (S.alloc _).next hb
  replace P := (P.alloc _).next hb
  have Q := (Box.new wx6 33 #[.int .i64 q1, .int .i64 q2, .int .i64 q3, .int .i64 q4]).next hb
  replace hB := below_step (below_box hB _) hb
  clear hb
  go_wp2
  go_ret
  exact ⟨rfl, hB⟩
set_option maxRecDepth 100000 in
set_option maxHeartbeats 4000000 in
theorem ma_skip_ok (a1 a2 a3 a4 b1 b2 b3 b4 c1 c2 c3 c4 : Int) (A A' : Option Addr) (n cap n' cap' : Nat) (us vs : List U4) (x1 x2 x3 x4 x5 s1 s2 s3 s4 p1 p2 p3 p4 q1 q2 q3 q4 : Int) (w : World) (g0 : decide ((300 : Int) < (n : Int)) = false) (g1 : decide ((300 : Int) < (n' : Int)) = false) (n0 : n ≤ 300) (n1 : n' ≤ 300) (hn : Hid (us.length = n)) (hn' : Hid (vs.length = n')) (hs : Hid (Seg w A (n * 4) (uCell us))) (hs' : Hid (Seg w A' (n' * 4) (uCell vs))) (HX : Hid (∀ W, Calls Try.prog 19 #[.agg #[.int .i64 a1, .int .i64 a2, .int .i64 a3, .int .i64 a4], .agg #[.int .i64 b1, .int .i64 b2, .int .i64 b3, .int .i64 b4]] W fun e w' => e = .returned (.tuple #[.agg #[.int .i64 x1, .int .i64 x2, .int .i64 x3, .int .i64 x4], .int .i64 x5]) ∧ Below W.heap.size W w')) (HY : Hid (∀ W, Calls Try.prog 19 #[.agg #[.int .i64 b1, .int .i64 b2, .int .i64 b3, .int .i64 b4], .agg #[.int .i64 a1, .int .i64 a2, .int .i64 a3, .int .i64 a4]] W fun e w' => e = .returned (.tuple #[.agg #[.int .i64 x1, .int .i64 x2, .int .i64 x3, .int .i64 x4], .int .i64 x5]) ∧ Below W.heap.size W w')) (hx : (x5 != 0) = true) (HS : Hid (∀ W B k, Seg W B ((n + n') * 4) (uCell (us ++ vs)) → Calls Try.prog 21 #[.slice B (n + n') k] W fun e w' => e = .returned (.tuple #[.agg #[.int .i64 s1, .int .i64 s2, .int .i64 s3, .int .i64 s4], .int .i64 0]) ∧ Below W.heap.size W w')) (HP : Hid (∀ W, Seg W A (n * 4) (uCell us) → Calls Try.prog 21 #[.slice A n cap] W fun e w' => e = .returned (.tuple #[.agg #[.int .i64 p1, .int .i64 p2, .int .i64 p3, .int .i64 p4], .int .i64 0]) ∧ Below W.heap.size W w')) (HQ : Hid (∀ W, Seg W A' (n' * 4) (uCell vs) → Calls Try.prog 21 #[.slice A' n' cap'] W fun e w' => e = .returned (.tuple #[.agg #[.int .i64 q1, .int .i64 q2, .int .i64 q3, .int .i64 q4], .int .i64 0]) ∧ Below W.heap.size W w')) (HR : Hid (∀ W, Calls Try.prog 19 #[.agg #[.int .i64 p1, .int .i64 p2, .int .i64 p3, .int .i64 p4], .agg #[.int .i64 q1, .int .i64 q2, .int .i64 q3, .int .i64 q4]] W fun e w' => e = .returned (.tuple #[.agg #[.int .i64 s1, .int .i64 s2, .int .i64 s3, .int .i64 s4], .int .i64 0]) ∧ Below W.heap.size W w')) : Calls Try.prog 7 #[.agg #[.int .i64 a1, .int .i64 a2, .int .i64 a3, .int .i64 a4], .agg #[.int .i64 b1, .int .i64 b2, .int .i64 b3, .int .i64 b4], .agg #[.int .i64 c1, .int .i64 c2, .int .i64 c3, .int .i64 c4], .slice A n cap, .slice A' n' cap'] w fun e w' => e = .returned (.bool true) ∧ Below w.heap.size w w' := by
  obtain ⟨i0, hi, hz0, hz1, hz2⟩ := info_parts info33
  have HI33 := Lib.hid hi
  clear hi
  have hq1 := eq4_self x1 x2 x3 x4
  have hq3 := eq4_self s1 s2 s3 s4
  go_enter Try.func7, Try.ntmps7
  go_wp2_with fail
  refine (HX.out _).mono ?_
  rintro _ wx1 ⟨rfl, hb⟩
  have A0 := (((Box.new w 33 #[.int .i64 a1, .int .i64 a2, .int .i64 a3, .int .i64 a4]).alloc _).alloc _).next hb
  have B0 := ((Box.new ((w).alloc (.cells #[.int .i64 a1, .int .i64 a2, .int .i64 a3, .int .i64 a4] 33)) 33 #[.int .i64 b1, .int .i64 b2, .int .i64 b3, .int .i64 b4]).alloc _).next hb
  simp only [World.size_alloc] at B0
  have C0 := (Box.new (((w).alloc (.cells #[.int .i64 a1, .int .i64 a2, .int .i64 a3, .int .i64 a4] 33)).alloc (.cells #[.int .i64 b1, .int .i64 b2, .int .i64 b3, .int .i64 b4] 33)) 33 #[.int .i64 c1, .int .i64 c2, .int .i64 c3, .int .i64 c4]).next hb
  simp only [World.size_alloc] at C0
  have hB := below_step (below_box (below_box (below_box (Below.refl _ w) _) _) _) hb
  clear hb
  have cA0_0 := A0.cell 0 _ rfl
  have cA0_1 := A0.cell 1 _ rfl
  have cA0_2 := A0.cell 2 _ rfl
  have cA0_3 := A0.cell 3 _ rfl
  have lA0 := A0.lt
  have cB0_0 := B0.cell 0 _ rfl
  have cB0_1 := B0.cell 1 _ rfl
  have cB0_2 := B0.cell 2 _ rfl
  have cB0_3 := B0.cell 3 _ rfl
  have lB0 := B0.lt
  have cC0_0 := C0.cell 0 _ rfl
  have cC0_1 := C0.cell 1 _ rfl
  have cC0_2 := C0.cell 2 _ rfl
  have cC0_3 := C0.cell 3 _ rfl
  have lC0 := C0.lt
  go_wp2_with fail
  refine (HY.out _).mono ?_
  rintro _ wx2 ⟨rfl, hb⟩
  clear cA0_0 cA0_1 cA0_2 cA0_3 lA0 cB0_0 cB0_1 cB0_2 cB0_3 lB0 cC0_0 cC0_1 cC0_2 cC0_3 lC0
  replace A0 := (A0.alloc _).next hb
  replace B0 := (B0.alloc _).next hb
  replace C0 := (C0.alloc _).next hb
  have X := (Box.new wx1 33 #[.int .i64 x1, .int .i64 x2, .int .i64 x3, .int .i64 x4]).next hb
  replace hB := below_step (below_box hB _) hb
  clear hb
  have cA0_0 := A0.cell 0 _ rfl
  have cA0_1 := A0.cell 1 _ rfl
  have cA0_2 := A0.cell 2 _ rfl
  have cA0_3 := A0.cell 3 _ rfl
  have lA0 := A0.lt
  have cB0_0 := B0.cell 0 _ rfl
  have cB0_1 := B0.cell 1 _ rfl
  have cB0_2 := B0.cell 2 _ rfl
  have cB0_3 := B0.cell 3 _ rfl
  have lB0 := B0.lt
  have cC0_0 := C0.cell 0 _ rfl
  have cC0_1 := C0.cell 1 _ rfl
  have cC0_2 := C0.cell 2 _ rfl
  have cC0_3 := C0.cell 3 _ rfl
  have lC0 := C0.lt
  have cX_0 := X.cell 0 _ rfl
  have cX_1 := X.cell 1 _ rfl
  have cX_2 := X.cell 2 _ rfl
  have cX_3 := X.cell 3 _ rfl
  have lX := X.lt
  go_upto_region 5 with fail
  clear cA0_0 cA0_1 cA0_2 cA0_3 lA0 cB0_0 cB0_1 cB0_2 cB0_3 lB0 cC0_0 cC0_1 cC0_2 cC0_3 lC0 cX_0 cX_1 cX_2 cX_3 lX
  have zA0 := A0.lt
  have zB0 := B0.lt
  have zC0 := C0.lt
  have zX := X.lt
  refine wp_forget (fun W => Box W w.heap.size 33 #[.int .i64 a1, .int .i64 a2, .int .i64 a3, .int .i64 a4] ∧ Box W (w.heap.size + 1) 33 #[.int .i64 b1, .int .i64 b2, .int .i64 b3, .int .i64 b4] ∧ Box W (w.heap.size + 2) 33 #[.int .i64 c1, .int .i64 c2, .int .i64 c3, .int .i64 c4] ∧ Box W wx1.heap.size 33 #[.int .i64 x1, .int .i64 x2, .int .i64 x3, .int .i64 x4] ∧ Box W (wx2.heap.size) 33 #[.int .i64 x1, .int .i64 x2, .int .i64 x3, .int .i64 x4] ∧ Below w.heap.size w W)
    ⟨(A0.alloc _), (B0.alloc _), (C0.alloc _), (X.alloc _), (Box.new wx2 33 #[.int .i64 x1, .int .i64 x2, .int .i64 x3, .int .i64 x4]), (below_box hB _)⟩ ?_
  clear A0 B0 C0 X hB
  rintro wx3 ⟨A0, B0, C0, X, X2, hB⟩
  have cA0_0 := A0.cell 0 _ rfl
  have cA0_1 := A0.cell 1 _ rfl
  have cA0_2 := A0.cell 2 _ rfl
  have cA0_3 := A0.cell 3 _ rfl
  have lA0 := A0.lt
  have cB0_0 := B0.cell 0 _ rfl
  have cB0_1 := B0.cell 1 _ rfl
  have cB0_2 := B0.cell 2 _ rfl
  have cB0_3 := B0.cell 3 _ rfl
  have lB0 := B0.lt
  have cC0_0 := C0.cell 0 _ rfl
  have cC0_1 := C0.cell 1 _ rfl
  have cC0_2 := C0.cell 2 _ rfl
  have cC0_3 := C0.cell 3 _ rfl
  have lC0 := C0.lt
  have cX_0 := X.cell 0 _ rfl
  have cX_1 := X.cell 1 _ rfl
  have cX_2 := X.cell 2 _ rfl
  have cX_3 := X.cell 3 _ rfl
  have lX := X.lt
  have cX2_0 := X2.cell 0 _ rfl
  have cX2_1 := X2.cell 1 _ rfl
  have cX2_2 := X2.cell 2 _ rfl
  have cX2_3 := X2.cell 3 _ rfl
  have lX2 := X2.lt
  go_upto_region 14 with fail
  clear cA0_0 cA0_1 cA0_2 cA0_3 lA0 cB0_0 cB0_1 cB0_2 cB0_3 lB0 cC0_0 cC0_1 cC0_2 cC0_3 lC0 cX_0 cX_1 cX_2 cX_3 lX cX2_0 cX2_1 cX2_2 cX2_3 lX2
  clear A0 B0 C0 X X2
  have hle := hB.size
  have sg := Lib.hid (hs.out.next hB)
  go_upto_region 15 with (at_builtin; go_loud (refine wpList_append_seg _ rfl (.tmp 95) (.tmp 96) 38 rfl w.heap.size 33 i0 (.agg #[.int .i64 0, .int .i64 0, .int .i64 0, .int .i64 0]) 4 32 Try.underlying38 HI33.out hz0 hz1 hz2 rfl (by decide) (.slice none 0 0) 0 [] rfl ⟨rfl, .inl ⟨rfl, rfl⟩⟩ A n cap (uCell us) rfl sg.out (fun _ _ => rfl) (by unfold maxLen; omega) (by omega) hle (seg_none sg.out) ?_); intro v1 wa1 ho hg _)
  rw [Nat.zero_add, List.nil_append] at ho
  have hB1 : Below w.heap.size w wa1 := hB.trans (grown_below hg (fun k hk => by simp [Value.ownBlock] at hk) hle)
  have HO := Lib.hid ho
  clear ho hg sg hle hB
  have hle := hB1.size
  have sg := Lib.hid (hs'.out.next hB1)
  obtain ⟨_, _, _, _, _, hbk⟩ := own_seg HO.out
  have HBK := Lib.hid hbk
  clear hbk
  go_upto_region 16 with (at_builtin; go_loud (refine wpList_append_seg _ rfl (.tmp 98) (.tmp 99) 38 rfl w.heap.size 33 i0 (.agg #[.int .i64 0, .int .i64 0, .int .i64 0, .int .i64 0]) 4 32 Try.underlying38 HI33.out hz0 hz1 hz2 rfl (by decide) v1 n (segCells (uCell us) (n * 4)) rfl HO.out A' n' cap' (uCell vs) rfl sg.out (fun _ _ => rfl) (by unfold maxLen; omega) (by omega) hle (seg_none sg.out) ?_); intro v2 wa2 ho hg _)
  have hB : Below w.heap.size w wa2 := hB1.trans (grown_below hg HBK.out hle)
  obtain ⟨B, capB, rfl, sB, _, _⟩ := own_seg ho
  have SB := Lib.hid (sB.congr (fun k hk => uCells_app us vs n n' k hn.out hn'.out hk))
  clear ho hg sg hle hB1 HO HBK sB
  go_wp2_with fail
  refine (HS.out _ _ _ SB.out).mono ?_
  rintro _ wx4 ⟨rfl, hb⟩
  replace hB := below_step hB hb
  clear hb
  clear SB
  go_wp2_with fail
  refine (HP.out _ (hs.out.next (below_box hB _))).mono ?_
  rintro _ wx5 ⟨rfl, hb⟩
  have S := (Box.new wx4 33 #[.int .i64 s1, .int .i64 s2, .int .i64 s3, .int .i64 s4]).next hb
  replace hB := below_step (below_box hB _) hb
  clear hb
  have cS_0 := S.cell 0 _ rfl
  have cS_1 := S.cell 1 _ rfl
  have cS_2 := S.cell 2 _ rfl
  have cS_3 := S.cell 3 _ rfl
  have lS := S.lt
  go_wp2_with fail
  refine (HQ.out _ (hs'.out.next (below_box hB _))).mono ?_
  rintro _ wx6 ⟨rfl, hb⟩
  clear cS_0 cS_1 cS_2 cS_3 lS
  replace S := (S.alloc _).next hb
  have P := (Box.new wx5 33 #[.int .i64 p1, .int .i64 p2, .int .i64 p3, .int .i64 p4]).next hb
  replace hB := below_step (below_box hB _) hb
  clear hb
  have cS_0 := S.cell 0 _ rfl
  have cS_1 := S.cell 1 _ rfl
  have cS_2 := S.cell 2 _ rfl
  have cS_3 := S.cell 3 _ rfl
  have lS := S.lt
  have cP_0 := P.cell 0 _ rfl
  have cP_1 := P.cell 1 _ rfl
  have cP_2 := P.cell 2 _ rfl
  have cP_3 := P.cell 3 _ rfl
  have lP := P.lt
  go_wp2_with fail
  refine (HR.out _).mono ?_
  rintro _ wx7 ⟨rfl, hb⟩
  clear cS_0 cS_1 cS_2 cS_3 lS cP_0 cP_1 cP_2 cP_3 lP
  replace S := (S.alloc _).next hb
  replace P := (P.alloc _).next hb
  have Q := (Box.new wx6 33 #[.int .i64 q1, .int .i64 q2, .int .i64 q3, .int .i64 q4]).next hb
  replace hB := below_step (below_box hB _) hb
  clear hb
  have cS_0 := S.cell 0 _ rfl
  have cS_1 := S.cell 1 _ rfl
  have cS_2 := S.cell 2 _ rfl
  have cS_3 := S.cell 3 _ rfl
  have lS := S.lt
  have cP_0 := P.cell 0 _ rfl
  have cP_1 := P.cell 1 _ rfl
  have cP_2 := P.cell 2 _ rfl
  have cP_3 := P.cell 3 _ rfl
  have lP := P.lt
  have cQ_0 := Q.cell 0 _ rfl
  have cQ_1 := Q.cell 1 _ rfl
  have cQ_2 := Q.cell 2 _ rfl
  have cQ_3 := Q.cell 3 _ rfl
  have lQ := Q.lt
  go_wp2_with fail
  refine (awake_any _).mono ?_
  rintro _ wx8 ⟨rfl, hb⟩
  clear cS_0 cS_1 cS_2 cS_3 lS cP_0 cP_1 cP_2 cP_3 lP cQ_0 cQ_1 cQ_2 cQ_3 lQ
  replace S := (S.alloc _).next hb
  replace P := (P.alloc _).next hb
  replace Q := (Q.alloc _).next hb
  have R := (Box.new wx7 33 #[.int .i64 s1, .int .i64 s2, .int .i64 s3, .int .i64 s4]).next hb
  replace hB := below_step (below_box hB _) hb
  clear hb
  go_wp2
  go_ret
  exact ⟨rfl, hB⟩
set_option maxRecDepth 100000 in
set_option maxHeartbeats 4000000 in
theorem ma_g0_bad (a1 a2 a3 a4 b1 b2 b3 b4 c1 c2 c3 c4 : Int) (A A' : Option Addr) (n cap n' cap' : Nat) (us vs : List U4) (x1 x2 x3 x4 y1 y2 y3 y4 t1 t2 t3 t4 _z1 _z2 _z3 _z4 s1 s2 s3 s4 p1 p2 p3 p4 q1 q2 q3 q4 s5 p5 q5 : Int) (w : World) (g0 : decide ((300 : Int) < (n : Int)) = false) (g1 : decide ((300 : Int) < (n' : Int)) = false) (n0 : n ≤ 300) (n1 : n' ≤ 300) (hn : Hid (us.length = n)) (hn' : Hid (vs.length = n')) (hs : Hid (Seg w A (n * 4) (uCell us))) (hs' : Hid (Seg w A' (n' * 4) (uCell vs))) (HX : Hid (∀ W, Calls Try.prog 19 #[.agg #[.int .i64 a1, .int .i64 a2, .int .i64 a3, .int .i64 a4], .agg #[.int .i64 b1, .int .i64 b2, .int .i64 b3, .int .i64 b4]] W fun e w' => e = .returned (.tuple #[.agg #[.int .i64 x1, .int .i64 x2, .int .i64 x3, .int .i64 x4], .int .i64 0]) ∧ Below W.heap.size W w')) (HY : Hid (∀ W, Calls Try.prog 19 #[.agg #[.int .i64 b1, .int .i64 b2, .int .i64 b3, .int .i64 b4], .agg #[.int .i64 a1, .int .i64 a2, .int .i64 a3, .int .i64 a4]] W fun e w' => e = .returned (.tuple #[.agg #[.int .i64 x1, .int .i64 x2, .int .i64 x3, .int .i64 x4], .int .i64 0]) ∧ Below W.heap.size W w')) (HG : Hid (∀ W, Calls Try.prog 19 #[.agg #[.int .i64 x1, .int .i64 x2, .int .i64 x3, .int .i64 x4], .agg #[.int .i64 c1, .int .i64 c2, .int .i64 c3, .int .i64 c4]] W fun e w' => e = .returned (.tuple #[.agg #[.int .i64 y1, .int .i64 y2, .int .i64 y3, .int .i64 y4], .int .i64 0]) ∧ Below W.heap.size W w')) (HT : Hid (∀ W, Calls Try.prog 19 #[.agg #[.int .i64 b1, .int .i64 b2, .int .i64 b3, .int .i64 b4], .agg #[.int .i64 c1, .int .i64 c2, .int .i64 c3, .int .i64 c4]] W fun e w' => e = .returned (.tuple #[.agg #[.int .i64 t1, .int .i64 t2, .int .i64 t3, .int .i64 t4], .int .i64 0]) ∧ Below W.heap.size W w')) (HI : Hid (∀ W, Calls Try.prog 19 #[.agg #[.int .i64 a1, .int .i64 a2, .int .i64 a3, .int .i64 a4], .agg #[.int .i64 t1, .int .i64 t2, .int .i64 t3, .int .i64 t4]] W fun e w' => e = .returned (.tuple #[.agg #[.int .i64 y1, .int .i64 y2, .int .i64 y3, .int .i64 y4], .int .i64 0]) ∧ Below W.heap.size W w')) (HS : Hid (∀ W B k, Seg W B ((n + n') * 4) (uCell (us ++ vs)) → Calls Try.prog 21 #[.slice B (n + n') k] W fun e w' => e = .returned (.tuple #[.agg #[.int .i64 s1, .int .i64 s2, .int .i64 s3, .int .i64 s4], .int .i64 s5]) ∧ Below W.heap.size W w')) (h5 : (s5 != 0) = true) (HP : Hid (∀ W, Seg W A (n * 4) (uCell us) → Calls Try.prog 21 #[.slice A n cap] W fun e w' => e = .returned (.tuple #[.agg #[.int .i64 p1, .int .i64 p2, .int .i64 p3, .int .i64 p4], .int .i64 p5]) ∧ Below W.heap.size W w')) (HQ : Hid (∀ W, Seg W A' (n' * 4) (uCell vs) → Calls Try.prog 21 #[.slice A' n' cap'] W fun e w' => e = .returned (.tuple #[.agg #[.int .i64 q1, .int .i64 q2, .int .i64 q3, .int .i64 q4], .int .i64 q5]) ∧ Below W.heap.size W w')) : Calls Try.prog 7 #[.agg #[.int .i64 a1, .int .i64 a2, .int .i64 a3, .int .i64 a4], .agg #[.int .i64 b1, .int .i64 b2, .int .i64 b3, .int .i64 b4], .agg #[.int .i64 c1, .int .i64 c2, .int .i64 c3, .int .i64 c4], .slice A n cap, .slice A' n' cap'] w fun e w' => e = .returned (.bool true) ∧ Below w.heap.size w w' := by
  obtain ⟨i0, hi, hz0, hz1, hz2⟩ := info_parts info33
  have HI33 := Lib.hid hi
  clear hi
  have hq1 := eq4_self x1 x2 x3 x4
  have hq2 := eq4_self y1 y2 y3 y4
  have hq3 := eq4_self s1 s2 s3 s4
  go_enter Try.func7, Try.ntmps7
  go_wp2_with fail
  refine (HX.out _).mono ?_
  rintro _ wx1 ⟨rfl, hb⟩
  have A0 := (((Box.new w 33 #[.int .i64 a1, .int .i64 a2, .int .i64 a3, .int .i64 a4]).alloc _).alloc _).next hb
  have B0 := ((Box.new ((w).alloc (.cells #[.int .i64 a1, .int .i64 a2, .int .i64 a3, .int .i64 a4] 33)) 33 #[.int .i64 b1, .int .i64 b2, .int .i64 b3, .int .i64 b4]).alloc _).next hb
  simp only [World.size_alloc] at B0
  have C0 := (Box.new (((w).alloc (.cells #[.int .i64 a1, .int .i64 a2, .int .i64 a3, .int .i64 a4] 33)).alloc (.cells #[.int .i64 b1, .int .i64 b2, .int .i64 b3, .int .i64 b4] 33)) 33 #[.int .i64 c1, .int .i64 c2, .int .i64 c3, .int .i64 c4]).next hb
  simp only [World.size_alloc] at C0
  have hB := below_step (below_box (below_box (below_box (Below.refl _ w) _) _) _) hb
  clear hb
  have cA0_0 := A0.cell 0 _ rfl
  have cA0_1 := A0.cell 1 _ rfl
  have cA0_2 := A0.cell 2 _ rfl
  have cA0_3 := A0.cell 3 _ rfl
  have lA0 := A0.lt
  have cB0_0 := B0.cell 0 _ rfl
  have cB0_1 := B0.cell 1 _ rfl
  have cB0_2 := B0.cell 2 _ rfl
  have cB0_3 := B0.cell 3 _ rfl
  have lB0 := B0.lt
  have cC0_0 := C0.cell 0 _ rfl
  have cC0_1 := C0.cell 1 _ rfl
  have cC0_2 := C0.cell 2 _ rfl
  have cC0_3 := C0.cell 3 _ rfl
  have lC0 := C0.lt
  go_wp2_with fail
  refine (HY.out _).mono ?_
  rintro _ wx2 ⟨rfl, hb⟩
  clear cA0_0 cA0_1 cA0_2 cA0_3 lA0 cB0_0 cB0_1 cB0_2 cB0_3 lB0 cC0_0 cC0_1 cC0_2 cC0_3 lC0
  replace A0 := (A0.alloc _).next hb
  replace B0 := (B0.alloc _).next hb
  replace C0 := (C0.alloc _).next hb
  have X := (Box.new wx1 33 #[.int .i64 x1, .int .i64 x2, .int .i64 x3, .int .i64 x4]).next hb
  replace hB := below_step (below_box hB _) hb
  clear hb
  have cA0_0 := A0.cell 0 _ rfl
  have cA0_1 := A0.cell 1 _ rfl
  have cA0_2 := A0.cell 2 _ rfl
  have cA0_3 := A0.cell 3 _ rfl
  have lA0 := A0.lt
  have cB0_0 := B0.cell 0 _ rfl
  have cB0_1 := B0.cell 1 _ rfl
  have cB0_2 := B0.cell 2 _ rfl
  have cB0_3 := B0.cell 3 _ rfl
  have lB0 := B0.lt
  have cC0_0 := C0.cell 0 _ rfl
  have cC0_1 := C0.cell 1 _ rfl
  have cC0_2 := C0.cell 2 _ rfl
  have cC0_3 := C0.cell 3 _ rfl
  have lC0 := C0.lt
  have cX_0 := X.cell 0 _ rfl
  have cX_1 := X.cell 1 _ rfl
  have cX_2 := X.cell 2 _ rfl
  have cX_3 := X.cell 3 _ rfl
  have lX := X.lt
  go_upto_region 8 with fail
  clear cA0_0 cA0_1 cA0_2 cA0_3 lA0 cB0_0 cB0_1 cB0_2 cB0_3 lB0 cC0_0 cC0_1 cC0_2 cC0_3 lC0 cX_0 cX_1 cX_2 cX_3 lX
  have zA0 := A0.lt
  have zB0 := B0.lt
  have zC0 := C0.lt
  have zX := X.lt
  refine wp_forget (fun W => Box W w.heap.size 33 #[.int .i64 a1, .int .i64 a2, .int .i64 a3, .int .i64 a4] ∧ Box W (w.heap.size + 1) 33 #[.int .i64 b1, .int .i64 b2, .int .i64 b3, .int .i64 b4] ∧ Box W (w.heap.size + 2) 33 #[.int .i64 c1, .int .i64 c2, .int .i64 c3, .int .i64 c4] ∧ Box W wx1.heap.size 33 #[.int .i64 x1, .int .i64 x2, .int .i64 x3, .int .i64 x4] ∧ Box W (wx2.heap.size) 33 #[.int .i64 x1, .int .i64 x2, .int .i64 x3, .int .i64 x4] ∧ Below w.heap.size w W)
    ⟨(A0.alloc _), (B0.alloc _), (C0.alloc _), (X.alloc _), (Box.new wx2 33 #[.int .i64 x1, .int .i64 x2, .int .i64 x3, .int .i64 x4]), (below_box hB _)⟩ ?_
  clear A0 B0 C0 X hB
  rintro wx3 ⟨A0, B0, C0, X, X2, hB⟩
  have cA0_0 := A0.cell 0 _ rfl
  have cA0_1 := A0.cell 1 _ rfl
  have cA0_2 := A0.cell 2 _ rfl
  have cA0_3 := A0.cell 3 _ rfl
  have lA0 := A0.lt
  have cB0_0 := B0.cell 0 _ rfl
  have cB0_1 := B0.cell 1 _ rfl
  have cB0_2 := B0.cell 2 _ rfl
  have cB0_3 := B0.cell 3 _ rfl
  have lB0 := B0.lt
  have cC0_0 := C0.cell 0 _ rfl
  have cC0_1 := C0.cell 1 _ rfl
  have cC0_2 := C0.cell 2 _ rfl
  have cC0_3 := C0.cell 3 _ rfl
  have lC0 := C0.lt
  have cX_0 := X.cell 0 _ rfl
  have cX_1 := X.cell 1 _ rfl
  have cX_2 := X.cell 2 _ rfl
  have cX_3 := X.cell 3 _ rfl
  have lX := X.lt
  have cX2_0 := X2.cell 0 _ rfl
  have cX2_1 := X2.cell 1 _ rfl
  have cX2_2 := X2.cell 2 _ rfl
  have cX2_3 := X2.cell 3 _ rfl
  have lX2 := X2.lt
  go_wp2_with fail
  refine (HG.out _).mono ?_
  rintro _ wx4 ⟨rfl, hb⟩
  clear cA0_0 cA0_1 cA0_2 cA0_3 lA0 cB0_0 cB0_1 cB0_2 cB0_3 lB0 cC0_0 cC0_1 cC0_2 cC0_3 lC0 cX_0 cX_1 cX_2 cX_3 lX cX2_0 cX2_1 cX2_2 cX2_3 lX2
  replace A0 := A0.next hb
  replace B0 := B0.next hb
  replace C0 := C0.next hb
  replace X := X.next hb
  replace X2 := X2.next hb
  replace hB := below_step hB hb
  clear hb
  have cA0_0 := A0.cell 0 _ rfl
  have cA0_1 := A0.cell 1 _ rfl
  have cA0_2 := A0.cell 2 _ rfl
  have cA0_3 := A0.cell 3 _ rfl
  have lA0 := A0.lt
  have cB0_0 := B0.cell 0 _ rfl
  have cB0_1 := B0.cell 1 _ rfl
  have cB0_2 := B0.cell 2 _ rfl
  have cB0_3 := B0.cell 3 _ rfl
  have lB0 := B0.lt
  have cC0_0 := C0.cell 0 _ rfl
  have cC0_1 := C0.cell 1 _ rfl
  have cC0_2 := C0.cell 2 _ rfl
  have cC0_3 := C0.cell 3 _ rfl
  have lC0 := C0.lt
  have cX_0 := X.cell 0 _ rfl
  have cX_1 := X.cell 1 _ rfl
  have cX_2 := X.cell 2 _ rfl
  have cX_3 := X.cell 3 _ rfl
  have lX := X.lt
  have cX2_0 := X2.cell 0 _ rfl
  have cX2_1 := X2.cell 1 _ rfl
  have cX2_2 := X2.cell 2 _ rfl
  have cX2_3 := X2.cell 3 _ rfl
  have lX2 := X2.lt
  go_wp2_with fail
  refine (HT.out _).mono ?_
  rintro _ wx5 ⟨rfl, hb⟩
  clear cA0_0 cA0_1 cA0_2 cA0_3 lA0 cB0_0 cB0_1 cB0_2 cB0_3 lB0 cC0_0 cC0_1 cC0_2 cC0_3 lC0 cX_0 cX_1 cX_2 cX_3 lX cX2_0 cX2_1 cX2_2 cX2_3 lX2
  replace A0 := (A0.alloc _).next hb
  replace B0 := (B0.alloc _).next hb
  replace C0 := (C0.alloc _).next hb
  replace X := (X.alloc _).next hb
  replace X2 := (X2.alloc _).next hb
  have Y := (Box.new wx4 33 #[.int .i64 y1, .int .i64 y2, .int .i64 y3, .int .i64 y4]).next hb
  replace hB := below_step (below_box hB _) hb
  clear hb
  have cA0_0 := A0.cell 0 _ rfl
  have cA0_1 := A0.cell 1 _ rfl
  have cA0_2 := A0.cell 2 _ rfl
  have cA0_3 := A0.cell 3 _ rfl
  have lA0 := A0.lt
  have cB0_0 := B0.cell 0 _ rfl
  have cB0_1 := B0.cell 1 _ rfl
  have cB0_2 := B0.cell 2 _ rfl
  have cB0_3 := B0.cell 3 _ rfl
  have lB0 := B0.lt
  have cC0_0 := C0.cell 0 _ rfl
  have cC0_1 := C0.cell 1 _ rfl
  have cC0_2 := C0.cell 2 _ rfl
  have cC0_3 := C0.cell 3 _ rfl
  have lC0 := C0.lt
  have cX_0 := X.cell 0 _ rfl
  have cX_1 := X.cell 1 _ rfl
  have cX_2 := X.cell 2 _ rfl
  have cX_3 := X.cell 3 _ rfl
  have lX := X.lt
  have cX2_0 := X2.cell 0 _ rfl
  have cX2_1 := X2.cell 1 _ rfl
  have cX2_2 := X2.cell 2 _ rfl
  have cX2_3 := X2.cell 3 _ rfl
  have lX2 := X2.lt
  have cY_0 := Y.cell 0 _ rfl
  have cY_1 := Y.cell 1 _ rfl
  have cY_2 := Y.cell 2 _ rfl
  have cY_3 := Y.cell 3 _ rfl
  have lY := Y.lt
  go_wp2_with fail
  refine (HI.out _).mono ?_
  rintro _ wx6 ⟨rfl, hb⟩
  clear cA0_0 cA0_1 cA0_2 cA0_3 lA0 cB0_0 cB0_1 cB0_2 cB0_3 lB0 cC0_0 cC0_1 cC0_2 cC0_3 lC0 cX_0 cX_1 cX_2 cX_3 lX cX2_0 cX2_1 cX2_2 cX2_3 lX2 cY_0 cY_1 cY_2 cY_3 lY
  replace A0 := (A0.alloc _).next hb
  replace B0 := (B0.alloc _).next hb
  replace C0 := (C0.alloc _).next hb
  replace X := (X.alloc _).next hb
  replace X2 := (X2.alloc _).next hb
  replace Y := (Y.alloc _).next hb
  have T := (Box.new wx5 33 #[.int .i64 t1, .int .i64 t2, .int .i64 t3, .int .i64 t4]).next hb
  replace hB := below_step (below_box hB _) hb
  clear hb
  have cA0_0 := A0.cell 0 _ rfl
  have cA0_1 := A0.cell 1 _ rfl
  have cA0_2 := A0.cell 2 _ rfl
  have cA0_3 := A0.cell 3 _ rfl
  have lA0 := A0.lt
  have cB0_0 := B0.cell 0 _ rfl
  have cB0_1 := B0.cell 1 _ rfl
  have cB0_2 := B0.cell 2 _ rfl
  have cB0_3 := B0.cell 3 _ rfl
  have lB0 := B0.lt
  have cC0_0 := C0.cell 0 _ rfl
  have cC0_1 := C0.cell 1 _ rfl
  have cC0_2 := C0.cell 2 _ rfl
  have cC0_3 := C0.cell 3 _ rfl
  have lC0 := C0.lt
  have cX_0 := X.cell 0 _ rfl
  have cX_1 := X.cell 1 _ rfl
  have cX_2 := X.cell 2 _ rfl
  have cX_3 := X.cell 3 _ rfl
  have lX := X.lt
  have cX2_0 := X2.cell 0 _ rfl
  have cX2_1 := X2.cell 1 _ rfl
  have cX2_2 := X2.cell 2 _ rfl
  have cX2_3 := X2.cell 3 _ rfl
  have lX2 := X2.lt
  have cY_0 := Y.cell 0 _ rfl
  have cY_1 := Y.cell 1 _ rfl
  have cY_2 := Y.cell 2 _ rfl
  have cY_3 := Y.cell 3 _ rfl
  have lY := Y.lt
  have cT_0 := T.cell 0 _ rfl
  have cT_1 := T.cell 1 _ rfl
  have cT_2 := T.cell 2 _ rfl
  have cT_3 := T.cell 3 _ rfl
  have lT := T.lt
  go_upto_region 11 with fail
  clear cA0_0 cA0_1 cA0_2 cA0_3 lA0 cB0_0 cB0_1 cB0_2 cB0_3 lB0 cC0_0 cC0_1 cC0_2 cC0_3 lC0 cX_0 cX_1 cX_2 cX_3 lX cX2_0 cX2_1 cX2_2 cX2_3 lX2 cY_0 cY_1 cY_2 cY_3 lY cT_0 cT_1 cT_2 cT_3 lT
  have zA0 := A0.lt
  have zB0 := B0.lt
  have zC0 := C0.lt
  have zX := X.lt
  have zX2 := X2.lt
  have zY := Y.lt
  have zT := T.lt
  refine wp_forget (fun W => Box W w.heap.size 33 #[.int .i64 a1, .int .i64 a2, .int .i64 a3, .int .i64 a4] ∧ Box W (w.heap.size + 1) 33 #[.int .i64 b1, .int .i64 b2, .int .i64 b3, .int .i64 b4] ∧ Box W (w.heap.size + 2) 33 #[.int .i64 c1, .int .i64 c2, .int .i64 c3, .int .i64 c4] ∧ Box W wx1.heap.size 33 #[.int .i64 x1, .int .i64 x2, .int .i64 x3, .int .i64 x4] ∧ Box W wx2.heap.size 33 #[.int .i64 x1, .int .i64 x2, .int .i64 x3, .int .i64 x4] ∧ Box W wx4.heap.size 33 #[.int .i64 y1, .int .i64 y2, .int .i64 y3, .int .i64 y4] ∧ Box W wx5.heap.size 33 #[.int .i64 t1, .int .i64 t2, .int .i64 t3, .int .i64 t4] ∧ Box W (wx6.heap.size) 33 #[.int .i64 y1, .int .i64 y2, .int .i64 y3, .int .i64 y4] ∧ Below w.heap.size w W)
    ⟨(A0.alloc _), (B0.alloc _), (C0.alloc _), (X.alloc _), (X2.alloc _), (Y.alloc _), (T.alloc _), (Box.new wx6 33 #[.int .i64 y1, .int .i64 y2, .int .i64 y3, .int .i64 y4]), (below_box hB _)⟩ ?_
  clear A0 B0 C0 X X2 Y T hB
  rintro wx7 ⟨A0, B0, C0, X, X2, Y, T, Z, hB⟩
  have cA0_0 := A0.cell 0 _ rfl
  have cA0_1 := A0.cell 1 _ rfl
  have cA0_2 := A0.cell 2 _ rfl
  have cA0_3 := A0.cell 3 _ rfl
  have lA0 := A0.lt
  have cB0_0 := B0.cell 0 _ rfl
  have cB0_1 := B0.cell 1 _ rfl
  have cB0_2 := B0.cell 2 _ rfl
  have cB0_3 := B0.cell 3 _ rfl
  have lB0 := B0.lt
  have cC0_0 := C0.cell 0 _ rfl
  have cC0_1 := C0.cell 1 _ rfl
  have cC0_2 := C0.cell 2 _ rfl
  have cC0_3 := C0.cell 3 _ rfl
  have lC0 := C0.lt
  have cX_0 := X.cell 0 _ rfl
  have cX_1 := X.cell 1 _ rfl
  have cX_2 := X.cell 2 _ rfl
  have cX_3 := X.cell 3 _ rfl
  have lX := X.lt
  have cX2_0 := X2.cell 0 _ rfl
  have cX2_1 := X2.cell 1 _ rfl
  have cX2_2 := X2.cell 2 _ rfl
  have cX2_3 := X2.cell 3 _ rfl
  have lX2 := X2.lt
  have cY_0 := Y.cell 0 _ rfl
  have cY_1 := Y.cell 1 _ rfl
  have cY_2 := Y.cell 2 _ rfl
  have cY_3 := Y.cell 3 _ rfl
  have lY := Y.lt
  have cT_0 := T.cell 0 _ rfl
  have cT_1 := T.cell 1 _ rfl
  have cT_2 := T.cell 2 _ rfl
  have cT_3 := T.cell 3 _ rfl
  have lT := T.lt
  have cZ_0 := Z.cell 0 _ rfl
  have cZ_1 := Z.cell 1 _ rfl
  have cZ_2 := Z.cell 2 _ rfl
  have cZ_3 := Z.cell 3 _ rfl
  have lZ := Z.lt
  go_upto_region 14 with fail
  clear cA0_0 cA0_1 cA0_2 cA0_3 lA0 cB0_0 cB0_1 cB0_2 cB0_3 lB0 cC0_0 cC0_1 cC0_2 cC0_3 lC0 cX_0 cX_1 cX_2 cX_3 lX cX2_0 cX2_1 cX2_2 cX2_3 lX2 cY_0 cY_1 cY_2 cY_3 lY cT_0 cT_1 cT_2 cT_3 lT cZ_0 cZ_1 cZ_2 cZ_3 lZ
  clear A0 B0 C0 X X2 Y T Z
  have hle := hB.size
  have sg := Lib.hid (hs.out.next hB)
  go_upto_region 15 with (at_builtin; go_loud (refine wpList_append_seg _ rfl (.tmp 95) (.tmp 96) 38 rfl w.heap.size 33 i0 (.agg #[.int .i64 0, .int .i64 0, .int .i64 0, .int .i64 0]) 4 32 Try.underlying38 HI33.out hz0 hz1 hz2 rfl (by decide) (.slice none 0 0) 0 [] rfl ⟨rfl, .inl ⟨rfl, rfl⟩⟩ A n cap (uCell us) rfl sg.out (fun _ _ => rfl) (by unfold maxLen; omega) (by omega) hle (seg_none sg.out) ?_); intro v1 wa1 ho hg _)
  rw [Nat.zero_add, List.nil_append] at ho
  have hB1 : Below w.heap.size w wa1 := hB.trans (grown_below hg (fun k hk => by simp [Value.ownBlock] at hk) hle)
  have HO := Lib.hid ho
  clear ho hg sg hle hB
  have hle := hB1.size
  have sg := Lib.hid (hs'.out.next hB1)
  obtain ⟨_, _, _, _, _, hbk⟩ := own_seg HO.out
  have HBK := Lib.hid hbk
  clear hbk
  go_upto_region 16 with (at_builtin; go_loud (refine wpList_append_seg _ rfl (.tmp 98) (.tmp 99) 38 rfl w.heap.size 33 i0 (.agg #[.int .i64 0, .int .i64 0, .int .i64 0, .int .i64 0]) 4 32 Try.underlying38 HI33.out hz0 hz1 hz2 rfl (by decide) v1 n (segCells (uCell us) (n * 4)) rfl HO.out A' n' cap' (uCell vs) rfl sg.out (fun _ _ => rfl) (by unfold maxLen; omega) (by omega) hle (seg_none sg.out) ?_); intro v2 wa2 ho hg _)
  have hB : Below w.heap.size w wa2 := hB1.trans (grown_below hg HBK.out hle)
  obtain ⟨B, capB, rfl, sB, _, _⟩ := own_seg ho
  have SB := Lib.hid (sB.congr (fun k hk => uCells_app us vs n n' k hn.out hn'.out hk))
  clear ho hg sg hle hB1 HO HBK sB
  go_wp2_with fail
  refine (HS.out _ _ _ SB.out).mono ?_
  rintro _ wx8 ⟨rfl, hb⟩
  replace hB := below_step hB hb
  clear hb
  clear SB
  go_wp2_with fail
  refine (HP.out _ (hs.out.next (below_box hB _))).mono ?_
  rintro _ wx9 ⟨rfl, hb⟩
  have S := (Box.new wx8 33 #[.int .i64 s1, .int .i64 s2, .int .i64 s3, .int .i64 s4]).next hb
  replace hB := below_step (below_box hB _) hb
  clear hb
  have cS_0 := S.cell 0 _ rfl
  have cS_1 := S.cell 1 _ rfl
  have cS_2 := S.cell 2 _ rfl
  have cS_3 := S.cell 3 _ rfl
  have lS := S.lt
  go_wp2_with fail
  refine (HQ.out _ (hs'.out.next (below_box hB _))).mono ?_
  rintro _ wx10 ⟨rfl, hb⟩
  clear cS_0 cS_1 cS_2 cS_3 lS
  replace S := (S.alloc _).next hb
  have P := (Box.new wx9 33 #[.int .i64 p1, .int .i64 p2, .int .i64 p3, .int .i64 p4]).next hb
  replace hB := below_step (below_box hB _) hb
  clear hb
  have cS_0 := S.cell 0 _ rfl
  have cS_1 := S.cell 1 _ rfl
  have cS_2 := S.cell 2 _ rfl
  have cS_3 := S.cell 3 _ rfl
  have lS := S.lt
  have cP_0 := P.cell 0 _ rfl
  have cP_1 := P.cell 1 _ rfl
  have cP_2 := P.cell 2 _ rfl
  have cP_3 := P.cell 3 _ rfl
  have lP := P.lt
  go_wp2_with fail
  refine (awake_any _).mono ?_
  rintro _ wx11 ⟨rfl, hb⟩
  clear cS_0 cS_1 cS_2 cS_3 lS cP_0 cP_1 cP_2 cP_3 lP
  replace S := (S.alloc _).next hb
  replace P := (P.alloc _).next hb
  have Q := (Box.new wx10 33 #[.int .i64 q1, .int .i64 q2, .int .i64 q3, .int .i64 q4]).next hb
  replace hB := below_step (below_box hB _) hb
  clear hb
  go_wp2
  go_ret
  exact ⟨rfl, hB⟩
set_option maxRecDepth 100000 in
set_option maxHeartbeats 4000000 in
theorem ma_g0_ok (a1 a2 a3 a4 b1 b2 b3 b4 c1 c2 c3 c4 : Int) (A A' : Option Addr) (n cap n' cap' : Nat) (us vs : List U4) (x1 x2 x3 x4 y1 y2 y3 y4 t1 t2 t3 t4 _z1 _z2 _z3 _z4 s1 s2 s3 s4 p1 p2 p3 p4 q1 q2 q3 q4 : Int) (w : World) (g0 : decide ((300 : Int) < (n : Int)) = false) (g1 : decide ((300 : Int) < (n' : Int)) = false) (n0 : n ≤ 300) (n1 : n' ≤ 300) (hn : Hid (us.length = n)) (hn' : Hid (vs.length = n')) (hs : Hid (Seg w A (n * 4) (uCell us))) (hs' : Hid (Seg w A' (n' * 4) (uCell vs))) (HX : Hid (∀ W, Calls Try.prog 19 #[.agg #[.int .i64 a1, .int .i64 a2, .int .i64 a3, .int .i64 a4], .agg #[.int .i64 b1, .int .i64 b2, .int .i64 b3, .int .i64 b4]] W fun e w' => e = .returned (.tuple #[.agg #[.int .i64 x1, .int .i64 x2, .int .i64 x3, .int .i64 x4], .int .i64 0]) ∧ Below W.heap.size W w')) (HY : Hid (∀ W, Calls Try.prog 19 #[.agg #[.int .i64 b1, .int .i64 b2, .int .i64 b3, .int .i64 b4], .agg #[.int .i64 a1, .int .i64 a2, .int .i64 a3, .int .i64 a4]] W fun e w' => e = .returned (.tuple #[.agg #[.int .i64 x1, .int .i64 x2, .int .i64 x3, .int .i64 x4], .int .i64 0]) ∧ Below W.heap.size W w')) (HG : Hid (∀ W, Calls Try.prog 19 #[.agg #[.int .i64 x1, .int .i64 x2, .int .i64 x3, .int .i64 x4], .agg #[.int .i64 c1, .int .i64 c2, .int .i64 c3, .int .i64 c4]] W fun e w' => e = .returned (.tuple #[.agg #[.int .i64 y1, .int .i64 y2, .int .i64 y3, .int .i64 y4], .int .i64 0]) ∧ Below W.heap.size W w')) (HT : Hid (∀ W, Calls Try.prog 19 #[.agg #[.int .i64 b1, .int .i64 b2, .int .i64 b3, .int .i64 b4], .agg #[.int .i64 c1, .int .i64 c2, .int .i64 c3, .int .i64 c4]] W fun e w' => e = .returned (.tuple #[.agg #[.int .i64 t1, .int .i64 t2, .int .i64 t3, .int .i64 t4], .int .i64 0]) ∧ Below W.heap.size W w')) (HI : Hid (∀ W, Calls Try.prog 19 #[.agg #[.int .i64 a1, .int .i64 a2, .int .i64 a3, .int .i64 a4], .agg #[.int .i64 t1, .int .i64 t2, .int .i64 t3, .int .i64 t4]] W fun e w' => e = .returned (.tuple #[.agg #[.int .i64 y1, .int .i64 y2, .int .i64 y3, .int .i64 y4], .int .i64 0]) ∧ Below W.heap.size W w')) (HS : Hid (∀ W B k, Seg W B ((n + n') * 4) (uCell (us ++ vs)) → Calls Try.prog 21 #[.slice B (n + n') k] W fun e w' => e = .returned (.tuple #[.agg #[.int .i64 s1, .int .i64 s2, .int .i64 s3, .int .i64 s4], .int .i64 0]) ∧ Below W.heap.size W w')) (HP : Hid (∀ W, Seg W A (n * 4) (uCell us) → Calls Try.prog 21 #[.slice A n cap] W fun e w' => e = .returned (.tuple #[.agg #[.int .i64 p1, .int .i64 p2, .int .i64 p3, .int .i64 p4], .int .i64 0]) ∧ Below W.heap.size W w')) (HQ : Hid (∀ W, Seg W A' (n' * 4) (uCell vs) → Calls Try.prog 21 #[.slice A' n' cap'] W fun e w' => e = .returned (.tuple #[.agg #[.int .i64 q1, .int .i64 q2, .int .i64 q3, .int .i64 q4], .int .i64 0]) ∧ Below W.heap.size W w')) (HR : Hid (∀ W, Calls Try.prog 19 #[.agg #[.int .i64 p1, .int .i64 p2, .int .i64 p3, .int .i64 p4], .agg #[.int .i64 q1, .int .i64 q2, .int .i64 q3, .int .i64 q4]] W fun e w' => e = .returned (.tuple #[.agg #[.int .i64 s1, .int .i64 s2, .int .i64 s3, .int .i64 s4], .int .i64 0]) ∧ Below W.heap.size W w')) : Calls Try.prog 7 #[.agg #[.int .i64 a1, .int .i64 a2, .int .i64 a3, .int .i64 a4], .agg #[.int .i64 b1, .int .i64 b2, .int .i64 b3, .int .i64 b4], .agg #[.int .i64 c1, .int .i64 c2, .int .i64 c3, .int .i64 c4], .slice A n cap, .slice A' n' cap'] w fun e w' => e = .returned (.bool true) ∧ Below w.heap.size w w' := by
  obtain ⟨i0, hi, hz0, hz1, hz2⟩ := info_parts info33
  have HI33 := Lib.hid hi
  clear hi
  have hq1 := eq4_self x1 x2 x3 x4
  have hq2 := eq4_self y1 y2 y3 y4
  have hq3 := eq4_self s1 s2 s3 s4
  go_enter Try.func7, Try.ntmps7
  go_wp2_with fail
  refine (HX.out _).mono ?_
  rintro _ wx1 ⟨rfl, hb⟩
  have A0 := (((Box.new w 33 #[.int .i64 a1, .int .i64 a2, .int .i64 a3, .int .i64 a4]).alloc _).alloc _).next hb
  have B0 := ((Box.new ((w).alloc (.cells #[.int .i64 a1, .int .i64 a2, .int .i64 a3, .int .i64 a4] 33)) 33 #[.int .i64 b1, .int .i64 b2, .int .i64 b3, .int .i64 b4]).alloc _).next hb
  simp only [World.size_alloc] at B0
  have C0 := (Box.new (((w).alloc (.cells #[.int .i64 a1, .int .i64 a2, .int .i64 a3, .int .i64 a4] 33)).alloc (.cells #[.int .i64 b1, .int .i64 b2, .int .i64 b3, .int .i64 b4] 33)) 33 #[.int .i64 c1, .int .i64 c2, .int .i64 c3, .int .i64 c4]).next hb
  simp only [World.size_alloc] at C0
  have hB := below_step (below_box (below_box (below_box (Below.refl _ w) _) _) _) hb
  clear hb
  have cA0_0 := A0.cell 0 _ rfl
  have cA0_1 := A0.cell 1 _ rfl
  have cA0_2 := A0.cell 2 _ rfl
  have cA0_3 := A0.cell 3 _ rfl
  have lA0 := A0.lt
  have cB0_0 := B0.cell 0 _ rfl
  have cB0_1 := B0.cell 1 _ rfl
  have cB0_2 := B0.cell 2 _ rfl
  have cB0_3 := B0.cell 3 _ rfl
  have lB0 := B0.lt
  have cC0_0 := C0.cell 0 _ rfl
  have cC0_1 := C0.cell 1 _ rfl
  have cC0_2 := C0.cell 2 _ rfl
  have cC0_3 := C0.cell 3 _ rfl
  have lC0 := C0.lt
  go_wp2_with fail
  refine (HY.out _).mono ?_
  rintro _ wx2 ⟨rfl, hb⟩
  clear cA0_0 cA0_1 cA0_2 cA0_3 lA0 cB0_0 cB0_1 cB0_2 cB0_3 lB0 cC0_0 cC0_1 cC0_2 cC0_3 lC0
  replace A0 := (A0.alloc _).next hb
  replace B0 := (B0.alloc _).next hb
  replace C0 := (C0.alloc _).next hb
  have X := (Box.new wx1 33 #[.int .i64 x1, .int .i64 x2, .int .i64 x3, .int .i64 x4]).next hb
  replace hB := below_step (below_box hB _) hb
  clear hb
  have cA0_0 := A0.cell 0 _ rfl
  have cA0_1 := A0.cell 1 _ rfl
  have cA0_2 := A0.cell 2 _ rfl
  have cA0_3 := A0.cell 3 _ rfl
  have lA0 := A0.lt
  have cB0_0 := B0.cell 0 _ rfl
  have cB0_1 := B0.cell 1 _ rfl
  have cB0_2 := B0.cell 2 _ rfl
  have cB0_3 := B0.cell 3 _ rfl
  have lB0 := B0.lt
  have cC0_0 := C0.cell 0 _ rfl
  have cC0_1 := C0.cell 1 _ rfl
  have cC0_2 := C0.cell 2 _ rfl
  have cC0_3 := C0.cell 3 _ rfl
  have lC0 := C0.lt
  have cX_0 := X.cell 0 _ rfl
  have cX_1 := X.cell 1 _ rfl
  have cX_2 := X.cell 2 _ rfl
  have cX_3 := X.cell 3 _ rfl
  have lX := X.lt
  go_upto_region 8 with fail
  clear cA0_0 cA0_1 cA0_2 cA0_3 lA0 cB0_0 cB0_1 cB0_2 cB0_3 lB0 cC0_0 cC0_1 cC0_2 cC0_3 lC0 cX_0 cX_1 cX_2 cX_3 lX
  have zA0 := A0.lt
  have zB0 := B0.lt
  have zC0 := C0.lt
  have zX := X.lt
  refine wp_forget (fun W => Box W w.heap.size 33 #[.int .i64 a1, .int .i64 a2, .int .i64 a3, .int .i64 a4] ∧ Box W (w.heap.size + 1) 33 #[.int .i64 b1, .int .i64 b2, .int .i64 b3, .int .i64 b4] ∧ Box W (w.heap.size + 2) 33 #[.int .i64 c1, .int .i64 c2, .int .i64 c3, .int .i64 c4] ∧ Box W wx1.heap.size 33 #[.int .i64 x1, .int .i64 x2, .int .i64 x3, .int .i64 x4] ∧ Box W (wx2.heap.size) 33 #[.int .i64 x1, .int .i64 x2, .int .i64 x3, .int .i64 x4] ∧ Below w.heap.size w W)
    ⟨(A0.alloc _), (B0.alloc _), (C0.alloc _), (X.alloc _), (Box.new wx2 33 #[.int .i64 x1, .int .i64 x2, .int .i64 x3, .int .i64 x4]), (below_box hB _)⟩ ?_
  clear A0 B0 C0 X hB
  rintro wx3 ⟨A0, B0, C0, X, X2, hB⟩
  have cA0_0 := A0.cell 0 _ rfl
  have cA0_1 := A0.cell 1 _ rfl
  have cA0_2 := A0.cell 2 _ rfl
  have cA0_3 := A0.cell 3 _ rfl
  have lA0 := A0.lt
  have cB0_0 := B0.cell 0 _ rfl
  have cB0_1 := B0.cell 1 _ rfl
  have cB0_2 := B0.cell 2 _ rfl
  have cB0_3 := B0.cell 3 _ rfl
  have lB0 := B0.lt
  have cC0_0 := C0.cell 0 _ rfl
  have cC0_1 := C0.cell 1 _ rfl
  have cC0_2 := C0.cell 2 _ rfl
  have cC0_3 := C0.cell 3 _ rfl
  have lC0 := C0.lt
  have cX_0 := X.cell 0 _ rfl
  have cX_1 := X.cell 1 _ rfl
  have cX_2 := X.cell 2 _ rfl
  have cX_3 := X.cell 3 _ rfl
  have lX := X.lt
  have cX2_0 := X2.cell 0 _ rfl
  have cX2_1 := X2.cell 1 _ rfl
  have cX2_2 := X2.cell 2 _ rfl
  have cX2_3 := X2.cell 3 _ rfl
  have lX2 := X2.lt
  go_wp2_with fail
  refine (HG.out _).mono ?_
  rintro _ wx4 ⟨rfl, hb⟩
  clear cA0_0 cA0_1 cA0_2 cA0_3 lA0 cB0_0 cB0_1 cB0_2 cB0_3 lB0 cC0_0 cC0_1 cC0_2 cC0_3 lC0 cX_0 cX_1 cX_2 cX_3 lX cX2_0 cX2_1 cX2_2 cX2_3 lX2
  replace A0 := A0.next hb
  replace B0 := B0.next hb
  replace C0 := C0.next hb
  replace X := X.next hb
  replace X2 := X2.next hb
  replace hB := below_step hB hb
  clear hb
  have cA0_0 := A0.cell 0 _ rfl
  have cA0_1 := A0.cell 1 _ rfl
  have cA0_2 := A0.cell 2 _ rfl
  have cA0_3 := A0.cell 3 _ rfl
  have lA0 := A0.lt
  have cB0_0 := B0.cell 0 _ rfl
  have cB0_1 := B0.cell 1 _ rfl
  have cB0_2 := B0.cell 2 _ rfl
  have cB0_3 := B0.cell 3 _ rfl
  have lB0 := B0.lt
  have cC0_0 := C0.cell 0 _ rfl
  have cC0_1 := C0.cell 1 _ rfl
  have cC0_2 := C0.cell 2 _ rfl
  have cC0_3 := C0.cell 3 _ rfl
  have lC0 := C0.lt
  have cX_0 := X.cell 0 _ rfl
  have cX_1 := X.cell 1 _ rfl
  have cX_2 := X.cell 2 _ rfl
  have cX_3 := X.cell 3 _ rfl
  have lX := X.lt
  have cX2_0 := X2.cell 0 _ rfl
  have cX2_1 := X2.cell 1 _ rfl
  have cX2_2 := X2.cell 2 _ rfl
  have cX2_3 := X2.cell 3 _ rfl
  have lX2 := X2.lt
  go_wp2_with fail
  refine (HT.out _).mono ?_
  rintro _ wx5 ⟨rfl, hb⟩
  clear cA0_0 cA0_1 cA0_2 cA0_3 lA0 cB0_0 cB0_1 cB0_2 cB0_3 lB0 cC0_0 cC0_1 cC0_2 cC0_3 lC0 cX_0 cX_1 cX_2 cX_3 lX cX2_0 cX2_1 cX2_2 cX2_3 lX2
  replace A0 := (A0.alloc _).next hb
  replace B0 := (B0.alloc _).next hb
  replace C0 := (C0.alloc _).next hb
  replace X := (X.alloc _).next hb
  replace X2 := (X2.alloc _).next hb
  have Y := (Box.new wx4 33 #[.int .i64 y1, .int .i64 y2, .int .i64 y3, .int .i64 y4]).next hb
  replace hB := below_step (below_box hB _) hb
  clear hb
  have cA0_0 := A0.cell 0 _ rfl
  have cA0_1 := A0.cell 1 _ rfl
  have cA0_2 := A0.cell 2 _ rfl
  have cA0_3 := A0.cell 3 _ rfl
  have lA0 := A0.lt
  have cB0_0 := B0.cell 0 _ rfl
  have cB0_1 := B0.cell 1 _ rfl
  have cB0_2 := B0.cell 2 _ rfl
  have cB0_3 := B0.cell 3 _ rfl
  have lB0 := B0.lt
  have cC0_0 := C0.cell 0 _ rfl
  have cC0_1 := C0.cell 1 _ rfl
  have cC0_2 := C0.cell 2 _ rfl
  have cC0_3 := C0.cell 3 _ rfl
  have lC0 := C0.lt
  have cX_0 := X.cell 0 _ rfl
  have cX_1 := X.cell 1 _ rfl
  have cX_2 := X.cell 2 _ rfl
  have cX_3 := X.cell 3 _ rfl
  have lX := X.lt
  have cX2_0 := X2.cell 0 _ rfl
  have cX2_1 := X2.cell 1 _ rfl
  have cX2_2 := X2.cell 2 _ rfl
  have cX2_3 := X2.cell 3 _ rfl
  have lX2 := X2.lt
  have cY_0 := Y.cell 0 _ rfl
  have cY_1 := Y.cell 1 _ rfl
  have cY_2 := Y.cell 2 _ rfl
  have cY_3 := Y.cell 3 _ rfl
  have lY := Y.lt
  go_wp2_with fail
  refine (HI.out _).mono ?_
  rintro _ wx6 ⟨rfl, hb⟩
  clear cA0_0 cA0_1 cA0_2 cA0_3 lA0 cB0_0 cB0_1 cB0_2 cB0_3 lB0 cC0_0 cC0_1 cC0_2 cC0_3 lC0 cX_0 cX_1 cX_2 cX_3 lX cX2_0 cX2_1 cX2_2 cX2_3 lX2 cY_0 cY_1 cY_2 cY_3 lY
  replace A0 := (A0.alloc _).next hb
  replace B0 := (B0.alloc _).next hb
  replace C0 := (C0.alloc _).next hb
  replace X := (X.alloc _).next hb
  replace X2 := (X2.alloc _).next hb
  replace Y := (Y.alloc _).next hb
  have T := (Box.new wx5 33 #[.int .i64 t1, .int .i64 t2, .int .i64 t3, .int .i64 t4]).next hb
  replace hB := below_step (below_box hB _) hb
  clear hb
  have cA0_0 := A0.cell 0 _ rfl
  have cA0_1 := A0.cell 1 _ rfl
  have cA0_2 := A0.cell 2 _ rfl
  have cA0_3 := A0.cell 3 _ rfl
  have lA0 := A0.lt
  have cB0_0 := B0.cell 0 _ rfl
  have cB0_1 := B0.cell 1 _ rfl
  have cB0_2 := B0.cell 2 _ rfl
  have cB0_3 := B0.cell 3 _ rfl
  have lB0 := B0.lt
  have cC0_0 := C0.cell 0 _ rfl
  have cC0_1 := C0.cell 1 _ rfl
  have cC0_2 := C0.cell 2 _ rfl
  have cC0_3 := C0.cell 3 _ rfl
  have lC0 := C0.lt
  have cX_0 := X.cell 0 _ rfl
  have cX_1 := X.cell 1 _ rfl
  have cX_2 := X.cell 2 _ rfl
  have cX_3 := X.cell 3 _ rfl
  have lX := X.lt
  have cX2_0 := X2.cell 0 _ rfl
  have cX2_1 := X2.cell 1 _ rfl
  have cX2_2 := X2.cell 2 _ rfl
  have cX2_3 := X2.cell 3 _ rfl
  have lX2 := X2.lt
  have cY_0 := Y.cell 0 _ rfl
  have cY_1 := Y.cell 1 _ rfl
  have cY_2 := Y.cell 2 _ rfl
  have cY_3 := Y.cell 3 _ rfl
  have lY := Y.lt
  have cT_0 := T.cell 0 _ rfl
  have cT_1 := T.cell 1 _ rfl
  have cT_2 := T.cell 2 _ rfl
  have cT_3 := T.cell 3 _ rfl
  have lT := T.lt
  go_upto_region 11 with fail
  clear cA0_0 cA0_1 cA0_2 cA0_3 lA0 cB0_0 cB0_1 cB0_2 cB0_3 lB0 cC0_0 cC0_1 cC0_2 cC0_3 lC0 cX_0 cX_1 cX_2 cX_3 lX cX2_0 cX2_1 cX2_2 cX2_3 lX2 cY_0 cY_1 cY_2 cY_3 lY cT_0 cT_1 cT_2 cT_3 lT
  have zA0 := A0.lt
  have zB0 := B0.lt
  have zC0 := C0.lt
  have zX := X.lt
  have zX2 := X2.lt
  have zY := Y.lt
  have zT := T.lt
  refine wp_forget (fun W => Box W w.heap.size 33 #[.int .i64 a1, .int .i64 a2, .int .i64 a3, .int .i64 a4] ∧ Box W (w.heap.size + 1) 33 #[.int .i64 b1, .int .i64 b2, .int .i64 b3, .int .i64 b4] ∧ Box W (w.heap.size + 2) 33 #[.int .i64 c1, .int .i64 c2, .int .i64 c3, .int .i64 c4] ∧ Box W wx1.heap.size 33 #[.int .i64 x1, .int .i64 x2, .int .i64 x3, .int .i64 x4] ∧ Box W wx2.heap.size 33 #[.int .i64 x1, .int .i64 x2, .int .i64 x3, .int .i64 x4] ∧ Box W wx4.heap.size 33 #[.int .i64 y1, .int .i64 y2, .int .i64 y3, .int .i64 y4] ∧ Box W wx5.heap.size 33 #[.int .i64 t1, .int .i64 t2, .int .i64 t3, .int .i64 t4] ∧ Box W (wx6.heap.size) 33 #[.int .i64 y1, .int .i64 y2, .int .i64 y3, .int .i64 y4] ∧ Below w.heap.size w W)
    ⟨(A0.alloc _), (B0.alloc _), (C0.alloc _), (X.alloc _), (X2.alloc _), (Y.alloc _), (T.alloc _), (Box.new wx6 33 #[.int .i64 y1, .int .i64 y2, .int .i64 y3, .int .i64 y4]), (below_box hB _)⟩ ?_
  clear A0 B0 C0 X X2 Y T hB
  rintro wx7 ⟨A0, B0, C0, X, X2, Y, T, Z, hB⟩
  have cA0_0 := A0.cell 0 _ rfl
  have cA0_1 := A0.cell 1 _ rfl
  have cA0_2 := A0.cell 2 _ rfl
  have cA0_3 := A0.cell 3 _ rfl
  have lA0 := A0.lt
  have cB0_0 := B0.cell 0 _ rfl
  have cB0_1 := B0.cell 1 _ rfl
  have cB0_2 := B0.cell 2 _ rfl
  have cB0_3 := B0.cell 3 _ rfl
  have lB0 := B0.lt
  have cC0_0 := C0.cell 0 _ rfl
  have cC0_1 := C0.cell 1 _ rfl
  have cC0_2 := C0.cell 2 _ rfl
  have cC0_3 := C0.cell 3 _ rfl
  have lC0 := C0.lt
  have cX_0 := X.cell 0 _ rfl
  have cX_1 := X.cell 1 _ rfl
  have cX_2 := X.cell 2 _ rfl
  have cX_3 := X.cell 3 _ rfl
  have lX := X.lt
  have cX2_0 := X2.cell 0 _ rfl
  have cX2_1 := X2.cell 1 _ rfl
  have cX2_2 := X2.cell 2 _ rfl
  have cX2_3 := X2.cell 3 _ rfl
  have lX2 := X2.lt
  have cY_0 := Y.cell 0 _ rfl
  have cY_1 := Y.cell 1 _ rfl
  have cY_2 := Y.cell 2 _ rfl
  have cY_3 := Y.cell 3 _ rfl
  have lY := Y.lt
  have cT_0 := T.cell 0 _ rfl
  have cT_1 := T.cell 1 _ rfl
  have cT_2 := T.cell 2 _ rfl
  have cT_3 := T.cell 3 _ rfl
  have lT := T.lt
  have cZ_0 := Z.cell 0 _ rfl
  have cZ_1 := Z.cell 1 _ rfl
  have cZ_2 := Z.cell 2 _ rfl
  have cZ_3 := Z.cell 3 _ rfl
  have lZ := Z.lt
  go_upto_region 14 with fail
  clear cA0_0 cA0_1 cA0_2 cA0_3 lA0 cB0_0 cB0_1 cB0_2 cB0_3 lB0 cC0_0 cC0_1 cC0_2 cC0_3 lC0 cX_0 cX_1 cX_2 cX_3 lX cX2_0 cX2_1 cX2_2 cX2_3 lX2 cY_0 cY_1 cY_2 cY_3 lY cT_0 cT_1 cT_2 cT_3 lT cZ_0 cZ_1 cZ_2 cZ_3 lZ
  clear A0 B0 C0 X X2 Y T Z
  have hle := hB.size
  have sg := Lib.hid (hs.out.next hB)
  go_upto_region 15 with (at_builtin; go_loud (refine wpList_append_seg _ rfl (.tmp 95) (.tmp 96) 38 rfl w.heap.size 33 i0 (.agg #[.int .i64 0, .int .i64 0, .int .i64 0, .int .i64 0]) 4 32 Try.underlying38 HI33.out hz0 hz1 hz2 rfl (by decide) (.slice none 0 0) 0 [] rfl ⟨rfl, .inl ⟨rfl, rfl⟩⟩ A n cap (uCell us) rfl sg.out (fun _ _ => rfl) (by unfold maxLen; omega) (by omega) hle (seg_none sg.out) ?_); intro v1 wa1 ho hg _)
  rw [Nat.zero_add, List.nil_append] at ho
  have hB1 : Below w.heap.size w wa1 := hB.trans (grown_below hg (fun k hk => by simp [Value.ownBlock] at hk) hle)
  have HO := Lib.hid ho
  clear ho hg sg hle hB
  have hle := hB1.size
  have sg := Lib.hid (hs'.out.next hB1)
  obtain ⟨_, _, _, _, _, hbk⟩ := own_seg HO.out
  have HBK := Lib.hid hbk
  clear hbk
  go_upto_region 16 with (at_builtin; go_loud (refine wpList_append_seg _ rfl (.tmp 98) (.tmp 99) 38 rfl w.heap.size 33 i0 (.agg #[.int .i64 0, .int .i64 0, .int .i64 0, .int .i64 0]) 4 32 Try.underlying38 HI33.out hz0 hz1 hz2 rfl (by decide) v1 n (segCells (uCell us) (n * 4)) rfl HO.out A' n' cap' (uCell vs) rfl sg.out (fun _ _ => rfl) (by unfold maxLen; omega) (by omega) hle (seg_none sg.out) ?_); intro v2 wa2 ho hg _)
  have hB : Below w.heap.size w wa2 := hB1.trans (grown_below hg HBK.out hle)
  obtain ⟨B, capB, rfl, sB, _, _⟩ := own_seg ho
  have SB := Lib.hid (sB.congr (fun k hk => uCells_app us vs n n' k hn.out hn'.out hk))
  clear ho hg sg hle hB1 HO HBK sB
  go_wp2_with fail
  refine (HS.out _ _ _ SB.out).mono ?_
  rintro _ wx8 ⟨rfl, hb⟩
  replace hB := below_step hB hb
  clear hb
  clear SB
  go_wp2_with fail
  refine (HP.out _ (hs.out.next (below_box hB _))).mono ?_
  rintro _ wx9 ⟨rfl, hb⟩
  have S := (Box.new wx8 33 #[.int .i64 s1, .int .i64 s2, .int .i64 s3, .int .i64 s4]).next hb
  replace hB := below_step (below_box hB _) hb
  clear hb
  have cS_0 := S.cell 0 _ rfl
  have cS_1 := S.cell 1 _ rfl
  have cS_2 := S.cell 2 _ rfl
  have cS_3 := S.cell 3 _ rfl
  have lS := S.lt
  go_wp2_with fail
  refine (HQ.out _ (hs'.out.next (below_box hB _))).mono ?_
  rintro _ wx10 ⟨rfl, hb⟩
  clear cS_0 cS_1 cS_2 cS_3 lS
  replace S := (S.alloc _).next hb
  have P := (Box.new wx9 33 #[.int .i64 p1, .int .i64 p2, .int .i64 p3, .int .i64 p4]).next hb
  replace hB := below_step (below_box hB _) hb
  clear hb
  have cS_0 := S.cell 0 _ rfl
  have cS_1 := S.cell 1 _ rfl
  have cS_2 := S.cell 2 _ rfl
  have cS_3 := S.cell 3 _ rfl
  have lS := S.lt
  have cP_0 := P.cell 0 _ rfl
  have cP_1 := P.cell 1 _ rfl
  have cP_2 := P.cell 2 _ rfl
  have cP_3 := P.cell 3 _ rfl
  have lP := P.lt
  go_wp2_with fail
  refine (HR.out _).mono ?_
  rintro _ wx11 ⟨rfl, hb⟩
  clear cS_0 cS_1 cS_2 cS_3 lS cP_0 cP_1 cP_2 cP_3 lP
  replace S := (S.alloc _).next hb
  replace P := (P.alloc _).next hb
  have Q := (Box.new wx10 33 #[.int .i64 q1, .int .i64 q2, .int .i64 q3, .int .i64 q4]).next hb
  replace hB := below_step (below_box hB _) hb
  clear hb
  have cS_0 := S.cell 0 _ rfl
  have cS_1 := S.cell 1 _ rfl
  have cS_2 := S.cell 2 _ rfl
  have cS_3 := S.cell 3 _ rfl
  have lS := S.lt
  have cP_0 := P.cell 0 _ rfl
  have cP_1 := P.cell 1 _ rfl
  have cP_2 := P.cell 2 _ rfl
  have cP_3 := P.cell 3 _ rfl
  have lP := P.lt
  have cQ_0 := Q.cell 0 _ rfl
  have cQ_1 := Q.cell 1 _ rfl
  have cQ_2 := Q.cell 2 _ rfl
  have cQ_3 := Q.cell 3 _ rfl
  have lQ := Q.lt
  go_wp2_with fail
  refine (awake_any _).mono ?_
  rintro _ wx12 ⟨rfl, hb⟩
  clear cS_0 cS_1 cS_2 cS_3 lS cP_0 cP_1 cP_2 cP_3 lP cQ_0 cQ_1 cQ_2 cQ_3 lQ
  replace S := (S.alloc _).next hb
  replace P := (P.alloc _).next hb
  replace Q := (Q.alloc _).next hb
  have R := (Box.new wx11 33 #[.int .i64 s1, .int .i64 s2, .int .i64 s3, .int .i64 s4]).next hb
  replace hB := below_step (below_box hB _) hb
  clear hb
  go_wp2
  go_ret
  exact ⟨rfl, hB⟩
set_option maxRecDepth 100000 in
set_option maxHeartbeats 4000000 in
theorem ma_gh_bad (a1 a2 a3 a4 b1 b2 b3 b4 c1 c2 c3 c4 : Int) (A A' : Option Addr) (n cap n' cap' : Nat) (us vs : List U4) (x1 x2 x3 x4 y1 y2 y3 y4 t1 t2 t3 t4 z1 z2 z3 z4 y5 t5 z5 s1 s2 s3 s4 p1 p2 p3 p4 q1 q2 q3 q4 s5 p5 q5 : Int) (w : World) (g0 : decide ((300 : Int) < (n : Int)) = false) (g1 : decide ((300 : Int) < (n' : Int)) = false) (n0 : n ≤ 300) (n1 : n' ≤ 300) (hn : Hid (us.length = n)) (hn' : Hid (vs.length = n')) (hs : Hid (Seg w A (n * 4) (uCell us))) (hs' : Hid (Seg w A' (n' * 4) (uCell vs))) (HX : Hid (∀ W, Calls Try.prog 19 #[.agg #[.int .i64 a1, .int .i64 a2, .int .i64 a3, .int .i64 a4], .agg #[.int .i64 b1, .int .i64 b2, .int .i64 b3, .int .i64 b4]] W fun e w' => e = .returned (.tuple #[.agg #[.int .i64 x1, .int .i64 x2, .int .i64 x3, .int .i64 x4], .int .i64 0]) ∧ Below W.heap.size W w')) (HY : Hid (∀ W, Calls Try.prog 19 #[.agg #[.int .i64 b1, .int .i64 b2, .int .i64 b3, .int .i64 b4], .agg #[.int .i64 a1, .int .i64 a2, .int .i64 a3, .int .i64 a4]] W fun e w' => e = .returned (.tuple #[.agg #[.int .i64 x1, .int .i64 x2, .int .i64 x3, .int .i64 x4], .int .i64 0]) ∧ Below W.heap.size W w')) (HG : Hid (∀ W, Calls Try.prog 19 #[.agg #[.int .i64 x1, .int .i64 x2, .int .i64 x3, .int .i64 x4], .agg #[.int .i64 c1, .int .i64 c2, .int .i64 c3, .int .i64 c4]] W fun e w' => e = .returned (.tuple #[.agg #[.int .i64 y1, .int .i64 y2, .int .i64 y3, .int .i64 y4], .int .i64 y5]) ∧ Below W.heap.size W w')) (HT : Hid (∀ W, Calls Try.prog 19 #[.agg #[.int .i64 b1, .int .i64 b2, .int .i64 b3, .int .i64 b4], .agg #[.int .i64 c1, .int .i64 c2, .int .i64 c3, .int .i64 c4]] W fun e w' => e = .returned (.tuple #[.agg #[.int .i64 t1, .int .i64 t2, .int .i64 t3, .int .i64 t4], .int .i64 t5]) ∧ Below W.heap.size W w')) (HI : Hid (∀ W, Calls Try.prog 19 #[.agg #[.int .i64 a1, .int .i64 a2, .int .i64 a3, .int .i64 a4], .agg #[.int .i64 t1, .int .i64 t2, .int .i64 t3, .int .i64 t4]] W fun e w' => e = .returned (.tuple #[.agg #[.int .i64 z1, .int .i64 z2, .int .i64 z3, .int .i64 z4], .int .i64 z5]) ∧ Below W.heap.size W w')) (hy : (y5 == 0) = false) (ht : (t5 == 0) = false) (HS : Hid (∀ W B k, Seg W B ((n + n') * 4) (uCell (us ++ vs)) → Calls Try.prog 21 #[.slice B (n + n') k] W fun e w' => e = .returned (.tuple #[.agg #[.int .i64 s1, .int .i64 s2, .int .i64 s3, .int .i64 s4], .int .i64 s5]) ∧ Below W.heap.size W w')) (h5 : (s5 != 0) = true) (HP : Hid (∀ W, Seg W A (n * 4) (uCell us) → Calls Try.prog 21 #[.slice A n cap] W fun e w' => e = .returned (.tuple #[.agg #[.int .i64 p1, .int .i64 p2, .int .i64 p3, .int .i64 p4], .int .i64 p5]) ∧ Below W.heap.size W w')) (HQ : Hid (∀ W, Seg W A' (n' * 4) (uCell vs) → Calls Try.prog 21 #[.slice A' n' cap'] W fun e w' => e = .returned (.tuple #[.agg #[.int .i64 q1, .int .i64 q2, .int .i64 q3, .int .i64 q4], .int .i64 q5]) ∧ Below W.heap.size W w')) : Calls Try.prog 7 #[.agg #[.int .i64 a1, .int .i64 a2, .int .i64 a3, .int .i64 a4], .agg #[.int .i64 b1, .int .i64 b2, .int .i64 b3, .int .i64 b4], .agg #[.int .i64 c1, .int .i64 c2, .int .i64 c3, .int .i64 c4], .slice A n cap, .slice A' n' cap'] w fun e w' => e = .returned (.bool true) ∧ Below w.heap.size w w' := by
  obtain ⟨i0, hi, hz0, hz1, hz2⟩ := info_parts info33
  have HI33 := Lib.hid hi
  clear hi
  have hq1 := eq4_self x1 x2 x3 x4
  have hq2 := eq4_self y1 y2 y3 y4
  have hq3 := eq4_self s1 s2 s3 s4
  go_enter Try.func7, Try.ntmps7
  go_wp2_with fail
  refine (HX.out _).mono ?_
  rintro _ wx1 ⟨rfl, hb⟩
  have A0 := (((Box.new w 33 #[.int .i64 a1, .int .i64 a2, .int .i64 a3, .int .i64 a4]).alloc _).alloc _).next hb
  have B0 := ((Box.new ((w).alloc (.cells #[.int .i64 a1, .int .i64 a2, .int .i64 a3, .int .i64 a4] 33)) 33 #[.int .i64 b1, .int .i64 b2, .int .i64 b3, .int .i64 b4]).alloc _).next hb
  simp only [World.size_alloc] at B0
  have C0 := (Box.new (((w).alloc (.cells #[.int .i64 a1, .int .i64 a2, .int .i64 a3, .int .i64 a4] 33)).alloc (.cells #[.int .i64 b1, .int .i64 b2, .int .i64 b3, .int .i64 b4] 33)) 33 #[.int .i64 c1, .int .i64 c2, .int .i64 c3, .int .i64 c4]).next hb
  simp only [World.size_alloc] at C0
  have hB := below_step (below_box (below_box (below_box (Below.refl _ w) _) _) _) hb
  clear hb
  have cA0_0 := A0.cell 0 _ rfl
  have cA0_1 := A0.cell 1 _ rfl
  have cA0_2 := A0.cell 2 _ rfl
  have cA0_3 := A0.cell 3 _ rfl
  have lA0 := A0.lt
  have cB0_0 := B0.cell 0 _ rfl
  have cB0_1 := B0.cell 1 _ rfl
  have cB0_2 := B0.cell 2 _ rfl
  have cB0_3 := B0.cell 3 _ rfl
  have lB0 := B0.lt
  have cC0_0 := C0.cell 0 _ rfl
  have cC0_1 := C0.cell 1 _ rfl
  have cC0_2 := C0.cell 2 _ rfl
  have cC0_3 := C0.cell 3 _ rfl
  have lC0 := C0.lt
  go_wp2_with fail
  refine (HY.out _).mono ?_
  rintro _ wx2 ⟨rfl, hb⟩
  clear cA0_0 cA0_1 cA0_2 cA0_3 lA0 cB0_0 cB0_1 cB0_2 cB0_3 lB0 cC0_0 cC0_1 cC0_2 cC0_3 lC0
  replace A0 := (A0.alloc _).next hb
  replace B0 := (B0.alloc _).next hb
  replace C0 := (C0.alloc _).next hb
  have X := (Box.new wx1 33 #[.int .i64 x1, .int .i64 x2, .int .i64 x3, .int .i64 x4]).next hb
  replace hB := below_step (below_box hB _) hb
  clear hb
  have cA0_0 := A0.cell 0 _ rfl
  have cA0_1 := A0.cell 1 _ rfl
  have cA0_2 := A0.cell 2 _ rfl
  have cA0_3 := A0.cell 3 _ rfl
  have lA0 := A0.lt
  have cB0_0 := B0.cell 0 _ rfl
  have cB0_1 := B0.cell 1 _ rfl
  have cB0_2 := B0.cell 2 _ rfl
  have cB0_3 := B0.cell 3 _ rfl
  have lB0 := B0.lt
  have cC0_0 := C0.cell 0 _ rfl
  have cC0_1 := C0.cell 1 _ rfl
  have cC0_2 := C0.cell 2 _ rfl
  have cC0_3 := C0.cell 3 _ rfl
  have lC0 := C0.lt
  have cX_0 := X.cell 0 _ rfl
  have cX_1 := X.cell 1 _ rfl
  have cX_2 := X.cell 2 _ rfl
  have cX_3 := X.cell 3 _ rfl
  have lX := X.lt
  go_upto_region 8 with fail
  clear cA0_0 cA0_1 cA0_2 cA0_3 lA0 cB0_0 cB0_1 cB0_2 cB0_3 lB0 cC0_0 cC0_1 cC0_2 cC0_3 lC0 cX_0 cX_1 cX_2 cX_3 lX
  have zA0 := A0.lt
  have zB0 := B0.lt
  have zC0 := C0.lt
  have zX := X.lt
  refine wp_forget (fun W => Box W w.heap.size 33 #[.int .i64 a1, .int .i64 a2, .int .i64 a3, .int .i64 a4] ∧ Box W (w.heap.size + 1) 33 #[.int .i64 b1, .int .i64 b2, .int .i64 b3, .int .i64 b4] ∧ Box W (w.heap.size + 2) 33 #[.int .i64 c1, .int .i64 c2, .int .i64 c3, .int .i64 c4] ∧ Box W wx1.heap.size 33 #[.int .i64 x1, .int .i64 x2, .int .i64 x3, .int .i64 x4] ∧ Box W (wx2.heap.size) 33 #[.int .i64 x1, .int .i64 x2, .int .i64 x3, .int .i64 x4] ∧ Below w.heap.size w W)
    ⟨(A0.alloc _), (B0.alloc _), (C0.alloc _), (X.alloc _), (Box.new wx2 33 #[.int .i64 x1, .int .i64 x2, .int .i64 x3, .int .i64 x4]), (below_box hB _)⟩ ?_
  clear A0 B0 C0 X hB
  rintro wx3 ⟨A0, B0, C0, X, X2, hB⟩
  have cA0_0 := A0.cell 0 _ rfl
  have cA0_1 := A0.cell 1 _ rfl
  have cA0_2 := A0.cell 2 _ rfl
  have cA0_3 := A0.cell 3 _ rfl
  have lA0 := A0.lt
  have cB0_0 := B0.cell 0 _ rfl
  have cB0_1 := B0.cell 1 _ rfl
  have cB0_2 := B0.cell 2 _ rfl
  have cB0_3 := B0.cell 3 _ rfl
  have lB0 := B0.lt
  have cC0_0 := C0.cell 0 _ rfl
  have cC0_1 := C0.cell 1 _ rfl
  have cC0_2 := C0.cell 2 _ rfl
  have cC0_3 := C0.cell 3 _ rfl
  have lC0 := C0.lt
  have cX_0 := X.cell 0 _ rfl
  have cX_1 := X.cell 1 _ rfl
  have cX_2 := X.cell 2 _ rfl
  have cX_3 := X.cell 3 _ rfl
  have lX := X.lt
  have cX2_0 := X2.cell 0 _ rfl
  have cX2_1 := X2.cell 1 _ rfl
  have cX2_2 := X2.cell 2 _ rfl
  have cX2_3 := X2.cell 3 _ rfl
  have lX2 := X2.lt
  go_wp2_with fail
  refine (HG.out _).mono ?_
  rintro _ wx4 ⟨rfl, hb⟩
  clear cA0_0 cA0_1 cA0_2 cA0_3 lA0 cB0_0 cB0_1 cB0_2 cB0_3 lB0 cC0_0 cC0_1 cC0_2 cC0_3 lC0 cX_0 cX_1 cX_2 cX_3 lX cX2_0 cX2_1 cX2_2 cX2_3 lX2
  replace A0 := A0.next hb
  replace B0 := B0.next hb
  replace C0 := C0.next hb
  replace X := X.next hb
  replace X2 := X2.next hb
  replace hB := below_step hB hb
  clear hb
  have cA0_0 := A0.cell 0 _ rfl
  have cA0_1 := A0.cell 1 _ rfl
  have cA0_2 := A0.cell 2 _ rfl
  have cA0_3 := A0.cell 3 _ rfl
  have lA0 := A0.lt
  have cB0_0 := B0.cell 0 _ rfl
  have cB0_1 := B0.cell 1 _ rfl
  have cB0_2 := B0.cell 2 _ rfl
  have cB0_3 := B0.cell 3 _ rfl
  have lB0 := B0.lt
  have cC0_0 := C0.cell 0 _ rfl
  have cC0_1 := C0.cell 1 _ rfl
  have cC0_2 := C0.cell 2 _ rfl
  have cC0_3 := C0.cell 3 _ rfl
  have lC0 := C0.lt
  have cX_0 := X.cell 0 _ rfl
  have cX_1 := X.cell 1 _ rfl
  have cX_2 := X.cell 2 _ rfl
  have cX_3 := X.cell 3 _ rfl
  have lX := X.lt
  have cX2_0 := X2.cell 0 _ rfl
  have cX2_1 := X2.cell 1 _ rfl
  have cX2_2 := X2.cell 2 _ rfl
  have cX2_3 := X2.cell 3 _ rfl
  have lX2 := X2.lt
  go_wp2_with fail
  refine (HT.out _).mono ?_
  rintro _ wx5 ⟨rfl, hb⟩
  clear cA0_0 cA0_1 cA0_2 cA0_3 lA0 cB0_0 cB0_1 cB0_2 cB0_3 lB0 cC0_0 cC0_1 cC0_2 cC0_3 lC0 cX_0 cX_1 cX_2 cX_3 lX cX2_0 cX2_1 cX2_2 cX2_3 lX2
  replace A0 := (A0.alloc _).next hb
  replace B0 := (B0.alloc _).next hb
  replace C0 := (C0.alloc _).next hb
  replace X := (X.alloc _).next hb
  replace X2 := (X2.alloc _).next hb
  have Y := (Box.new wx4 33 #[.int .i64 y1, .int .i64 y2, .int .i64 y3, .int .i64 y4]).next hb
  replace hB := below_step (below_box hB _) hb
  clear hb
  have cA0_0 := A0.cell 0 _ rfl
  have cA0_1 := A0.cell 1 _ rfl
  have cA0_2 := A0.cell 2 _ rfl
  have cA0_3 := A0.cell 3 _ rfl
  have lA0 := A0.lt
  have cB0_0 := B0.cell 0 _ rfl
  have cB0_1 := B0.cell 1 _ rfl
  have cB0_2 := B0.cell 2 _ rfl
  have cB0_3 := B0.cell 3 _ rfl
  have lB0 := B0.lt
  have cC0_0 := C0.cell 0 _ rfl
  have cC0_1 := C0.cell 1 _ rfl
  have cC0_2 := C0.cell 2 _ rfl
  have cC0_3 := C0.cell 3 _ rfl
  have lC0 := C0.lt
  have cX_0 := X.cell 0 _ rfl
  have cX_1 := X.cell 1 _ rfl
  have cX_2 := X.cell 2 _ rfl
  have cX_3 := X.cell 3 _ rfl
  have lX := X.lt
  have cX2_0 := X2.cell 0 _ rfl
  have cX2_1 := X2.cell 1 _ rfl
  have cX2_2 := X2.cell 2 _ rfl
  have cX2_3 := X2.cell 3 _ rfl
  have lX2 := X2.lt
  have cY_0 := Y.cell 0 _ rfl
  have cY_1 := Y.cell 1 _ rfl
  have cY_2 := Y.cell 2 _ rfl
  have cY_3 := Y.cell 3 _ rfl
  have lY := Y.lt
  go_wp2_with fail
  refine (HI.out _).mono ?_
  rintro _ wx6 ⟨rfl, hb⟩
  clear cA0_0 cA0_1 cA0_2 cA0_3 lA0 cB0_0 cB0_1 cB0_2 cB0_3 lB0 cC0_0 cC0_1 cC0_2 cC0_3 lC0 cX_0 cX_1 cX_2 cX_3 lX cX2_0 cX2_1 cX2_2 cX2_3 lX2 cY_0 cY_1 cY_2 cY_3 lY
  replace A0 := (A0.alloc _).next hb
  replace B0 := (B0.alloc _).next hb
  replace C0 := (C0.alloc _).next hb
  replace X := (X.alloc _).next hb
  replace X2 := (X2.alloc _).next hb
  replace Y := (Y.alloc _).next hb
  have T := (Box.new wx5 33 #[.int .i64 t1, .int .i64 t2, .int .i64 t3, .int .i64 t4]).next hb
  replace hB := below_step (below_box hB _) hb
  clear hb
  have cA0_0 := A0.cell 0 _ rfl
  have cA0_1 := A0.cell 1 _ rfl
  have cA0_2 := A0.cell 2 _ rfl
  have cA0_3 := A0.cell 3 _ rfl
  have lA0 := A0.lt
  have cB0_0 := B0.cell 0 _ rfl
  have cB0_1 := B0.cell 1 _ rfl
  have cB0_2 := B0.cell 2 _ rfl
  have cB0_3 := B0.cell 3 _ rfl
  have lB0 := B0.lt
  have cC0_0 := C0.cell 0 _ rfl
  have cC0_1 := C0.cell 1 _ rfl
  have cC0_2 := C0.cell 2 _ rfl
  have cC0_3 := C0.cell 3 _ rfl
  have lC0 := C0.lt
  have cX_0 := X.cell 0 _ rfl
  have cX_1 := X.cell 1 _ rfl
  have cX_2 := X.cell 2 _ rfl
  have cX_3 := X.cell 3 _ rfl
  have lX := X.lt
  have cX2_0 := X2.cell 0 _ rfl
  have cX2_1 := X2.cell 1 _ rfl
  have cX2_2 := X2.cell 2 _ rfl
  have cX2_3 := X2.cell 3 _ rfl
  have lX2 := X2.lt
  have cY_0 := Y.cell 0 _ rfl
  have cY_1 := Y.cell 1 _ rfl
  have cY_2 := Y.cell 2 _ rfl
  have cY_3 := Y.cell 3 _ rfl
  have lY := Y.lt
  have cT_0 := T.cell 0 _ rfl
  have cT_1 := T.cell 1 _ rfl
  have cT_2 := T.cell 2 _ rfl
  have cT_3 := T.cell 3 _ rfl
  have lT := T.lt
  go_upto_region 11 with fail
  clear cA0_0 cA0_1 cA0_2 cA0_3 lA0 cB0_0 cB0_1 cB0_2 cB0_3 lB0 cC0_0 cC0_1 cC0_2 cC0_3 lC0 cX_0 cX_1 cX_2 cX_3 lX cX2_0 cX2_1 cX2_2 cX2_3 lX2 cY_0 cY_1 cY_2 cY_3 lY cT_0 cT_1 cT_2 cT_3 lT
  have zA0 := A0.lt
  have zB0 := B0.lt
  have zC0 := C0.lt
  have zX := X.lt
  have zX2 := X2.lt
  have zY := Y.lt
  have zT := T.lt
  refine wp_forget (fun W => Box W w.heap.size 33 #[.int .i64 a1, .int .i64 a2, .int .i64 a3, .int .i64 a4] ∧ Box W (w.heap.size + 1) 33 #[.int .i64 b1, .int .i64 b2, .int .i64 b3, .int .i64 b4] ∧ Box W (w.heap.size + 2) 33 #[.int .i64 c1, .int .i64 c2, .int .i64 c3, .int .i64 c4] ∧ Box W wx1.heap.size 33 #[.int .i64 x1, .int .i64 x2, .int .i64 x3, .int .i64 x4] ∧ Box W wx2.heap.size 33 #[.int .i64 x1, .int .i64 x2, .int .i64 x3, .int .i64 x4] ∧ Box W wx4.heap.size 33 #[.int .i64 y1, .int .i64 y2, .int .i64 y3, .int .i64 y4] ∧ Box W wx5.heap.size 33 #[.int .i64 t1, .int .i64 t2, .int .i64 t3, .int .i64 t4] ∧ Box W (wx6.heap.size) 33 #[.int .i64 z1, .int .i64 z2, .int .i64 z3, .int .i64 z4] ∧ Below w.heap.size w W)
    ⟨(A0.alloc _), (B0.alloc _), (C0.alloc _), (X.alloc _), (X2.alloc _), (Y.alloc _), (T.alloc _), (Box.new wx6 33 #[.int .i64 z1, .int .i64 z2, .int .i64 z3, .int .i64 z4]), (below_box hB _)⟩ ?_
  clear A0 B0 C0 X X2 Y T hB
  rintro wx7 ⟨A0, B0, C0, X, X2, Y, T, Z, hB⟩
  have cA0_0 := A0.cell 0 _ rfl
  have cA0_1 := A0.cell 1 _ rfl
  have cA0_2 := A0.cell 2 _ rfl
  have cA0_3 := A0.cell 3 _ rfl
  have lA0 := A0.lt
  have cB0_0 := B0.cell 0 _ rfl
  have cB0_1 := B0.cell 1 _ rfl
  have cB0_2 := B0.cell 2 _ rfl
  have cB0_3 := B0.cell 3 _ rfl
  have lB0 := B0.lt
  have cC0_0 := C0.cell 0 _ rfl
  have cC0_1 := C0.cell 1 _ rfl
  have cC0_2 := C0.cell 2 _ rfl
  have cC0_3 := C0.cell 3 _ rfl
  have lC0 := C0.lt
  have cX_0 := X.cell 0 _ rfl
  have cX_1 := X.cell 1 _ rfl
  have cX_2 := X.cell 2 _ rfl
  have cX_3 := X.cell 3 _ rfl
  have lX := X.lt
  have cX2_0 := X2.cell 0 _ rfl
  have cX2_1 := X2.cell 1 _ rfl
  have cX2_2 := X2.cell 2 _ rfl
  have cX2_3 := X2.cell 3 _ rfl
  have lX2 := X2.lt
  have cY_0 := Y.cell 0 _ rfl
  have cY_1 := Y.cell 1 _ rfl
  have cY_2 := Y.cell 2 _ rfl
  have cY_3 := Y.cell 3 _ rfl
  have lY := Y.lt
  have cT_0 := T.cell 0 _ rfl
  have cT_1 := T.cell 1 _ rfl
  have cT_2 := T.cell 2 _ rfl
  have cT_3 := T.cell 3 _ rfl
  have lT := T.lt
  have cZ_0 := Z.cell 0 _ rfl
  have cZ_1 := Z.cell 1 _ rfl
  have cZ_2 := Z.cell 2 _ rfl
  have cZ_3 := Z.cell 3 _ rfl
  have lZ := Z.lt
  go_upto_region 14 with fail
  clear cA0_0 cA0_1 cA0_2 cA0_3 lA0 cB0_0 cB0_1 cB0_2 cB0_3 lB0 cC0_0 cC0_1 cC0_2 cC0_3 lC0 cX_0 cX_1 cX_2 cX_3 lX cX2_0 cX2_1 cX2_2 cX2_3 lX2 cY_0 cY_1 cY_2 cY_3 lY cT_0 cT_1 cT_2 cT_3 lT cZ_0 cZ_1 cZ_2 cZ_3 lZ
  clear A0 B0 C0 X X2 Y T Z
  have hle := hB.size
  have sg := Lib.hid (hs.out.next hB)
  go_upto_region 15 with (at_builtin; go_loud (refine wpList_append_seg _ rfl (.tmp 95) (.tmp 96) 38 rfl w.heap.size 33 i0 (.agg #[.int .i64 0, .int .i64 0, .int .i64 0, .int .i64 0]) 4 32 Try.underlying38 HI33.out hz0 hz1 hz2 rfl (by decide) (.slice none 0 0) 0 [] rfl ⟨rfl, .inl ⟨rfl, rfl⟩⟩ A n cap (uCell us) rfl sg.out (fun _ _ => rfl) (by unfold maxLen; omega) (by omega) hle (seg_none sg.out) ?_); intro v1 wa1 ho hg _)
  rw [Nat.zero_add, List.nil_append] at ho
  have hB1 : Below w.heap.size w wa1 := hB.trans (grown_below hg (fun k hk => by simp [Value.ownBlock] at hk) hle)
  have HO := Lib.hid ho
  clear ho hg sg hle hB
  have hle := hB1.size
  have sg := Lib.hid (hs'.out.next hB1)
  obtain ⟨_, _, _, _, _, hbk⟩ := own_seg HO.out
  have HBK := Lib.hid hbk
  clear hbk
  go_upto_region 16 with (at_builtin; go_loud (refine wpList_append_seg _ rfl (.tmp 98) (.tmp 99) 38 rfl w.heap.size 33 i0 (.agg #[.int .i64 0, .int .i64 0, .int .i64 0, .int .i64 0]) 4 32 Try.underlying38 HI33.out hz0 hz1 hz2 rfl (by decide) v1 n (segCells (uCell us) (n * 4)) rfl HO.out A' n' cap' (uCell vs) rfl sg.out (fun _ _ => rfl) (by unfold maxLen; omega) (by omega) hle (seg_none sg.out) ?_); intro v2 wa2 ho hg _)
  have hB : Below w.heap.size w wa2 := hB1.trans (grown_below hg HBK.out hle)
  obtain ⟨B, capB, rfl, sB, _, _⟩ := own_seg ho
  have SB := Lib.hid (sB.congr (fun k hk => uCells_app us vs n n' k hn.out hn'.out hk))
  clear ho hg sg hle hB1 HO HBK sB
  go_wp2_with fail
  refine (HS.out _ _ _ SB.out).mono ?_
  rintro _ wx8 ⟨rfl, hb⟩
  replace hB := below_step hB hb
  clear hb
  clear SB
  go_wp2_with fail
  refine (HP.out _ (hs.out.next (below_box hB _))).mono ?_
  rintro _ wx9 ⟨rfl, hb⟩
  have S := (Box.new wx8 33 #[.int .i64 s1, .int .i64 s2, .int .i64 s3, .int .i64 s4]).next hb
  replace hB := below_step (below_box hB _) hb
  clear hb
  have cS_0 := S.cell 0 _ rfl
  have cS_1 := S.cell 1 _ rfl
  have cS_2 := S.cell 2 _ rfl
  have cS_3 := S.cell 3 _ rfl
  have lS := S.lt
  go_wp2_with fail
  refine (HQ.out _ (hs'.out.next (below_box hB _))).mono ?_
  rintro _ wx10 ⟨rfl, hb⟩
  clear cS_0 cS_1 cS_2 cS_3 lS
  replace S := (S.alloc _).next hb
  have P := (Box.new wx9 33 #[.int .i64 p1, .int .i64 p2, .int .i64 p3, .int .i64 p4]).next hb
  replace hB := below_step (below_box hB _) hb
  clear hb
  have cS_0 := S.cell 0 _ rfl
  have cS_1 := S.cell 1 _ rfl
  have cS_2 := S.cell 2 _ rfl
  have cS_3 := S.cell 3 _ rfl
  have lS := S.lt
  have cP_0 := P.cell 0 _ rfl
  have cP_1 := P.cell 1 _ rfl
  have cP_2 := P.cell 2 _ rfl
  have cP_3 := P.cell 3 _ rfl
  have lP := P.lt
  go_wp2_with fail
  refine (awake_any _).mono ?_
  rintro _ wx11 ⟨rfl, hb⟩
  clear cS_0 cS_1 cS_2 cS_3 lS cP_0 cP_1 cP_2 cP_3 lP
  replace S := (S.alloc _).next hb
  replace P := (P.alloc _).next hb
  have Q := (Box.new wx10 33 #[.int .i64 q1, .int .i64 q2, .int .i64 q3, .int .i64 q4]).next hb
  replace hB := below_step (below_box hB _) hb
  clear hb
  go_wp2
  go_ret
  exact ⟨rfl, hB⟩
set_option maxRecDepth 100000 in
set_option maxHeartbeats 4000000 in
theorem ma_gh_ok (a1 a2 a3 a4 b1 b2 b3 b4 c1 c2 c3 c4 : Int) (A A' : Option Addr) (n cap n' cap' : Nat) (us vs : List U4) (x1 x2 x3 x4 y1 y2 y3 y4 t1 t2 t3 t4 z1 z2 z3 z4 y5 t5 z5 s1 s2 s3 s4 p1 p2 p3 p4 q1 q2 q3 q4 : Int) (w : World) (g0 : decide ((300 : Int) < (n : Int)) = false) (g1 : decide ((300 : Int) < (n' : Int)) = false) (n0 : n ≤ 300) (n1 : n' ≤ 300) (hn : Hid (us.length = n)) (hn' : Hid (vs.length = n')) (hs : Hid (Seg w A (n * 4) (uCell us))) (hs' : Hid (Seg w A' (n' * 4) (uCell vs))) (HX : Hid (∀ W, Calls Try.prog 19 #[.agg #[.int .i64 a1, .int .i64 a2, .int .i64 a3, .int .i64 a4], .agg #[.int .i64 b1, .int .i64 b2, .int .i64 b3, .int .i64 b4]] W fun e w' => e = .returned (.tuple #[.agg #[.int .i64 x1, .int .i64 x2, .int .i64 x3, .int .i64 x4], .int .i64 0]) ∧ Below W.heap.size W w')) (HY : Hid (∀ W, Calls Try.prog 19 #[.agg #[.int .i64 b1, .int .i64 b2, .int .i64 b3, .int .i64 b4], .agg #[.int .i64 a1, .int .i64 a2, .int .i64 a3, .int .i64 a4]] W fun e w' => e = .returned (.tuple #[.agg #[.int .i64 x1, .int .i64 x2, .int .i64 x3, .int .i64 x4], .int .i64 0]) ∧ Below W.heap.size W w')) (HG : Hid (∀ W, Calls Try.prog 19 #[.agg #[.int .i64 x1, .int .i64 x2, .int .i64 x3, .int .i64 x4], .agg #[.int .i64 c1, .int .i64 c2, .int .i64 c3, .int .i64 c4]] W fun e w' => e = .returned (.tuple #[.agg #[.int .i64 y1, .int .i64 y2, .int .i64 y3, .int .i64 y4], .int .i64 y5]) ∧ Below W.heap.size W w')) (HT : Hid (∀ W, Calls Try.prog 19 #[.agg #[.int .i64 b1, .int .i64 b2, .int .i64 b3, .int .i64 b4], .agg #[.int .i64 c1, .int .i64 c2, .int .i64 c3, .int .i64 c4]] W fun e w' => e = .returned (.tuple #[.agg #[.int .i64 t1, .int .i64 t2, .int .i64 t3, .int .i64 t4], .int .i64 t5]) ∧ Below W.heap.size W w')) (HI : Hid (∀ W, Calls Try.prog 19 #[.agg #[.int .i64 a1, .int .i64 a2, .int .i64 a3, .int .i64 a4], .agg #[.int .i64 t1, .int .i64 t2, .int .i64 t3, .int .i64 t4]] W fun e w' => e = .returned (.tuple #[.agg #[.int .i64 z1, .int .i64 z2, .int .i64 z3, .int .i64 z4], .int .i64 z5]) ∧ Below W.heap.size W w')) (hy : (y5 == 0) = false) (ht : (t5 == 0) = false) (HS : Hid (∀ W B k, Seg W B ((n + n') * 4) (uCell (us ++ vs)) → Calls Try.prog 21 #[.slice B (n + n') k] W fun e w' => e = .returned (.tuple #[.agg #[.int .i64 s1, .int .i64 s2, .int .i64 s3, .int .i64 s4], .int .i64 0]) ∧ Below W.heap.size W w')) (HP : Hid (∀ W, Seg W A (n * 4) (uCell us) → Calls Try.prog 21 #[.slice A n cap] W fun e w' => e = .returned (.tuple #[.agg #[.int .i64 p1, .int .i64 p2, .int .i64 p3, .int .i64 p4], .int .i64 0]) ∧ Below W.heap.size W w')) (HQ : Hid (∀ W, Seg W A' (n' * 4) (uCell vs) → Calls Try.prog 21 #[.slice A' n' cap'] W fun e w' => e = .returned (.tuple #[.agg #[.int .i64 q1, .int .i64 q2, .int .i64 q3, .int .i64 q4], .int .i64 0]) ∧ Below W.heap.size W w')) (HR : Hid (∀ W, Calls Try.prog 19 #[.agg #[.int .i64 p1, .int .i64 p2, .int .i64 p3, .int .i64 p4], .agg #[.int .i64 q1, .int .i64 q2, .int .i64 q3, .int .i64 q4]] W fun e w' => e = .returned (.tuple #[.agg #[.int .i64 s1, .int .i64 s2, .int .i64 s3, .int .i64 s4], .int .i64 0]) ∧ Below W.heap.size W w')) : Calls Try.prog 7 #[.agg #[.int .i64 a1, .int .i64 a2, .int .i64 a3, .int .i64 a4], .agg #[.int .i64 b1, .int .i64 b2, .int .i64 b3, .int .i64 b4], .agg #[.int .i64 c1, .int .i64 c2, .int .i64 c3, .int .i64 c4], .slice A n cap, .slice A' n' cap'] w fun e w' => e = .returned (.bool true) ∧ Below w.heap.size w w' := by
  obtain ⟨i0, hi, hz0, hz1, hz2⟩ := info_parts info33
  have HI33 := Lib.hid hi
  clear hi
  have hq1 := eq4_self x1 x2 x3 x4
  have hq2 := eq4_self y1 y2 y3 y4
  have hq3 := eq4_self s1 s2 s3 s4
  go_enter Try.func7, Try.ntmps7
  go_wp2_with fail
  refine (HX.out _).mono ?_
  rintro _ wx1 ⟨rfl, hb⟩
  have A0 := (((Box.new w 33 #[.int .i64 a1, .int .i64 a2, .int .i64 a3, .int .i64 a4]).alloc _).alloc _).next hb
  have B0 := ((Box.new ((w).alloc (.cells #[.int .i64 a1, .int .i64 a2, .int .i64 a3, .int .i64 a4] 33)) 33 #[.int .i64 b1, .int .i64 b2, .int .i64 b3, .int .i64 b4]).alloc _).next hb
  simp only [World.size_alloc] at B0
  have C0 := (Box.new (((w).alloc (.cells #[.int .i64 a1, .int .i64 a2, .int .i64 a3, .int .i64 a4] 33)).alloc (.cells #[.int .i64 b1, .int .i64 b2, .int .i64 b3, .int .i64 b4] 33)) 33 #[.int .i64 c1, .int .i64 c2, .int .i64 c3, .int .i64 c4]).next hb
  simp only [World.size_alloc] at C0
  have hB := below_step (below_box (below_box (below_box (Below.refl _ w) _) _) _) hb
  clear hb
  have cA0_0 := A0.cell 0 _ rfl
  have cA0_1 := A0.cell 1 _ rfl
  have cA0_2 := A0.cell 2 _ rfl
  have cA0_3 := A0.cell 3 _ rfl
  have lA0 := A0.lt
  have cB0_0 := B0.cell 0 _ rfl
  have cB0_1 := B0.cell 1 _ rfl
  have cB0_2 := B0.cell 2 _ rfl
  have cB0_3 := B0.cell 3 _ rfl
  have lB0 := B0.lt
  have cC0_0 := C0.cell 0 _ rfl
  have cC0_1 := C0.cell 1 _ rfl
  have cC0_2 := C0.cell 2 _ rfl
  have cC0_3 := C0.cell 3 _ rfl
  have lC0 := C0.lt
  go_wp2_with fail
  refine (HY.out _).mono ?_
  rintro _ wx2 ⟨rfl, hb⟩
  clear cA0_0 cA0_1 cA0_2 cA0_3 lA0 cB0_0 cB0_1 cB0_2 cB0_3 lB0 cC0_0 cC0_1 cC0_2 cC0_3 lC0
  replace A0 := (A0.alloc _).next hb
  replace B0 := (B0.alloc _).next hb
  replace C0 := (C0.alloc _).next hb
  have X := (Box.new wx1 33 #[.int .i64 x1, .int .i64 x2, .int .i64 x3, .int .i64 x4]).next hb
  replace hB := below_step (below_box hB _) hb
  clear hb
  have cA0_0 := A0.cell 0 _ rfl
  have cA0_1 := A0.cell 1 _ rfl
  have cA0_2 := A0.cell 2 _ rfl
  have cA0_3 := A0.cell 3 _ rfl
  have lA0 := A0.lt
  have cB0_0 := B0.cell 0 _ rfl
  have cB0_1 := B0.cell 1 _ rfl
  have cB0_2 := B0.cell 2 _ rfl
  have cB0_3 := B0.cell 3 _ rfl
  have lB0 := B0.lt
  have cC0_0 := C0.cell 0 _ rfl
  have cC0_1 := C0.cell 1 _ rfl
  have cC0_2 := C0.cell 2 _ rfl
  have cC0_3 := C0.cell 3 _ rfl
  have lC0 := C0.lt
  have cX_0 := X.cell 0 _ rfl
  have cX_1 := X.cell 1 _ rfl
  have cX_2 := X.cell 2 _ rfl
  have cX_3 := X.cell 3 _ rfl
  have lX := X.lt
  go_upto_region 8 with fail
  clear cA0_0 cA0_1 cA0_2 cA0_3 lA0 cB0_0 cB0_1 cB0_2 cB0_3 lB0 cC0_0 cC0_1 cC0_2 cC0_3 lC0 cX_0 cX_1 cX_2 cX_3 lX
  have zA0 := A0.lt
  have zB0 := B0.lt
  have zC0 := C0.lt
  have zX := X.lt
  refine wp_forget (fun W => Box W w.heap.size 33 #[.int .i64 a1, .int .i64 a2, .int .i64 a3, .int .i64 a4] ∧ Box W (w.heap.size + 1) 33 #[.int .i64 b1, .int .i64 b2, .int .i64 b3, .int .i64 b4] ∧ Box W (w.heap.size + 2) 33 #[.int .i64 c1, .int .i64 c2, .int .i64 c3, .int .i64 c4] ∧ Box W wx1.heap.size 33 #[.int .i64 x1, .int .i64 x2, .int .i64 x3, .int .i64 x4] ∧ Box W (wx2.heap.size) 33 #[.int .i64 x1, .int .i64 x2, .int .i64 x3, .int .i64 x4] ∧ Below w.heap.size w W)
    ⟨(A0.alloc _), (B0.alloc _), (C0.alloc _), (X.alloc _), (Box.new wx2 33 #[.int .i64 x1, .int .i64 x2, .int .i64 x3, .int .i64 x4]), (below_box hB _)⟩ ?_
  clear A0 B0 C0 X hB
  rintro wx3 ⟨A0, B0, C0, X, X2, hB⟩
  have cA0_0 := A0.cell 0 _ rfl
  have cA0_1 := A0.cell 1 _ rfl
  have cA0_2 := A0.cell 2 _ rfl
  have cA0_3 := A0.cell 3 _ rfl
  have lA0 := A0.lt
  have cB0_0 := B0.cell 0 _ rfl
  have cB0_1 := B0.cell 1 _ rfl
  have cB0_2 := B0.cell 2 _ rfl
  have cB0_3 := B0.cell 3 _ rfl
  have lB0 := B0.lt
  have cC0_0 := C0.cell 0 _ rfl
  have cC0_1 := C0.cell 1 _ rfl
  have cC0_2 := C0.cell 2 _ rfl
  have cC0_3 := C0.cell 3 _ rfl
  have lC0 := C0.lt
  have cX_0 := X.cell 0 _ rfl
  have cX_1 := X.cell 1 _ rfl
  have cX_2 := X.cell 2 _ rfl
  have cX_3 := X.cell 3 _ rfl
  have lX := X.lt
  have cX2_0 := X2.cell 0 _ rfl
  have cX2_1 := X2.cell 1 _ rfl
  have cX2_2 := X2.cell 2 _ rfl
  have cX2_3 := X2.cell 3 _ rfl
  have lX2 := X2.lt
  go_wp2_with fail
  refine (HG.out _).mono ?_
  rintro _ wx4 ⟨rfl, hb⟩
  clear cA0_0 cA0_1 cA0_2 cA0_3 lA0 cB0_0 cB0_1 cB0_2 cB0_3 lB0 cC0_0 cC0_1 cC0_2 cC0_3 lC0 cX_0 cX_1 cX_2 cX_3 lX cX2_0 cX2_1 cX2_2 cX2_3 lX2
  replace A0 := A0.next hb
  replace B0 := B0.next hb
  replace C0 := C0.next hb
  replace X := X.next hb
  replace X2 := X2.next hb
  replace hB := below_step hB hb
  clear hb
  have cA0_0 := A0.cell 0 _ rfl
  have cA0_1 := A0.cell 1 _ rfl
  have cA0_2 := A0.cell 2 _ rfl
  have cA0_3 := A0.cell 3 _ rfl
  have lA0 := A0.lt
  have cB0_0 := B0.cell 0 _ rfl
  have cB0_1 := B0.cell 1 _ rfl
  have cB0_2 := B0.cell 2 _ rfl
  have cB0_3 := B0.cell 3 _ rfl
  have lB0 := B0.lt
  have cC0_0 := C0.cell 0 _ rfl
  have cC0_1 := C0.cell 1 _ rfl
  have cC0_2 := C0.cell 2 _ rfl
  have cC0_3 := C0.cell 3 _ rfl
  have lC0 := C0.lt
  have cX_0 := X.cell 0 _ rfl
  have cX_1 := X.cell 1 _ rfl
  have cX_2 := X.cell 2 _ rfl
  have cX_3 := X.cell 3 _ rfl
  have lX := X.lt
  have cX2_0 := X2.cell 0 _ rfl
  have cX2_1 := X2.cell 1 _ rfl
  have cX2_2 := X2.cell 2 _ rfl
  have cX2_3 := X2.cell 3 _ rfl
  have lX2 := X2.lt
  go_wp2_with fail
  refine (HT.out _).mono ?_
  rintro _ wx5 ⟨rfl, hb⟩
  clear cA0_0 cA0_1 cA0_2 cA0_3 lA0 cB0_0 cB0_1 cB0_2 cB0_3 lB0 cC0_0 cC0_1 cC0_2 cC0_3 lC0 cX_0 cX_1 cX_2 cX_3 lX cX2_0 cX2_1 cX2_2 cX2_3 lX2
  replace A0 := (A0.alloc _).next hb
  replace B0 := (B0.alloc _).next hb
  replace C0 := (C0.alloc _).next hb
  replace X := (X.alloc _).next hb
  replace X2 := (X2.alloc _).next hb
  have Y := (Box.new wx4 33 #[.int .i64 y1, .int .i64 y2, .int .i64 y3, .int .i64 y4]).next hb
  replace hB := below_step (below_box hB _) hb
  clear hb
  have cA0_0 := A0.cell 0 _ rfl
  have cA0_1 := A0.cell 1 _ rfl
  have cA0_2 := A0.cell 2 _ rfl
  have cA0_3 := A0.cell 3 _ rfl
  have lA0 := A0.lt
  have cB0_0 := B0.cell 0 _ rfl
  have cB0_1 := B0.cell 1 _ rfl
  have cB0_2 := B0.cell 2 _ rfl
  have cB0_3 := B0.cell 3 _ rfl
  have lB0 := B0.lt
  have cC0_0 := C0.cell 0 _ rfl
  have cC0_1 := C0.cell 1 _ rfl
  have cC0_2 := C0.cell 2 _ rfl
  have cC0_3 := C0.cell 3 _ rfl
  have lC0 := C0.lt
  have cX_0 := X.cell 0 _ rfl
  have cX_1 := X.cell 1 _ rfl
  have cX_2 := X.cell 2 _ rfl
  have cX_3 := X.cell 3 _ rfl
  have lX := X.lt
  have cX2_0 := X2.cell 0 _ rfl
  have cX2_1 := X2.cell 1 _ rfl
  have cX2_2 := X2.cell 2 _ rfl
  have cX2_3 := X2.cell 3 _ rfl
  have lX2 := X2.lt
  have cY_0 := Y.cell 0 _ rfl
  have cY_1 := Y.cell 1 _ rfl
  have cY_2 := Y.cell 2 _ rfl
  have cY_3 := Y.cell 3 _ rfl
  have lY := Y.lt
  go_wp2_with fail
  refine (HI.out _).mono ?_
  rintro _ wx6 ⟨rfl, hb⟩
  clear cA0_0 cA0_1 cA0_2 cA0_3 lA0 cB0_0 cB0_1 cB0_2 cB0_3 lB0 cC0_0 cC0_1 cC0_2 cC0_3 lC0 cX_0 cX_1 cX_2 cX_3 lX cX2_0 cX2_1 cX2_2 cX2_3 lX2 cY_0 cY_1 cY_2 cY_3 lY
  replace A0 := (A0.alloc _).next hb
  replace B0 := (B0.alloc _).next hb
  replace C0 := (C0.alloc _).next hb
  replace X := (X.alloc _).next hb
  replace X2 := (X2.alloc _).next hb
  replace Y := (Y.alloc _).next hb
  have T := (Box.new wx5 33 #[.int .i64 t1, .int .i64 t2, .int .i64 t3, .int .i64 t4]).next hb
  replace hB := below_step (below_box hB _) hb
  clear hb
  have cA0_0 := A0.cell 0 _ rfl
  have cA0_1 := A0.cell 1 _ rfl
  have cA0_2 := A0.cell 2 _ rfl
  have cA0_3 := A0.cell 3 _ rfl
  have lA0 := A0.lt
  have cB0_0 := B0.cell 0 _ rfl
  have cB0_1 := B0.cell 1 _ rfl
  have cB0_2 := B0.cell 2 _ rfl
  have cB0_3 := B0.cell 3 _ rfl
  have lB0 := B0.lt
  have cC0_0 := C0.cell 0 _ rfl
  have cC0_1 := C0.cell 1 _ rfl
  have cC0_2 := C0.cell 2 _ rfl
  have cC0_3 := C0.cell 3 _ rfl
  have lC0 := C0.lt
  have cX_0 := X.cell 0 _ rfl
  have cX_1 := X.cell 1 _ rfl
  have cX_2 := X.cell 2 _ rfl
  have cX_3 := X.cell 3 _ rfl
  have lX := X.lt
  have cX2_0 := X2.cell 0 _ rfl
  have cX2_1 := X2.cell 1 _ rfl
  have cX2_2 := X2.cell 2 _ rfl
  have cX2_3 := X2.cell 3 _ rfl
  have lX2 := X2.lt
  have cY_0 := Y.cell 0 _ rfl
  have cY_1 := Y.cell 1 _ rfl
  have cY_2 := Y.cell 2 _ rfl
  have cY_3 := Y.cell 3 _ rfl
  have lY := Y.lt
  have cT_0 := T.cell 0 _ rfl
  have cT_1 := T.cell 1 _ rfl
  have cT_2 := T.cell 2 _ rfl
  have cT_3 := T.cell 3 _ rfl
  have lT := T.lt
  go_upto_region 11 with fail
  clear cA0_0 cA0_1 cA0_2 cA0_3 lA0 cB0_0 cB0_1 cB0_2 cB0_3 lB0 cC0_0 cC0_1 cC0_2 cC0_3 lC0 cX_0 cX_1 cX_2 cX_3 lX cX2_0 cX2_1 cX2_2 cX2_3 lX2 cY_0 cY_1 cY_2 cY_3 lY cT_0 cT_1 cT_2 cT_3 lT
  have zA0 := A0.lt
  have zB0 := B0.lt
  have zC0 := C0.lt
  have zX := X.lt
  have zX2 := X2.lt
  have zY := Y.lt
  have zT := T.lt
  refine wp_forget (fun W => Box W w.heap.size 33 #[.int .i64 a1, .int .i64 a2, .int .i64 a3, .int .i64 a4] ∧ Box W (w.heap.size + 1) 33 #[.int .i64 b1, .int .i64 b2, .int .i64 b3, .int .i64 b4] ∧ Box W (w.heap.size + 2) 33 #[.int .i64 c1, .int .i64 c2, .int .i64 c3, .int .i64 c4] ∧ Box W wx1.heap.size 33 #[.int .i64 x1, .int .i64 x2, .int .i64 x3, .int .i64 x4] ∧ Box W wx2.heap.size 33 #[.int .i64 x1, .int .i64 x2, .int .i64 x3, .int .i64 x4] ∧ Box W wx4.heap.size 33 #[.int .i64 y1, .int .i64 y2, .int .i64 y3, .int .i64 y4] ∧ Box W wx5.heap.size 33 #[.int .i64 t1, .int .i64 t2, .int .i64 t3, .int .i64 t4] ∧ Box W (wx6.heap.size) 33 #[.int .i64 z1, .int .i64 z2, .int .i64 z3, .int .i64 z4] ∧ Below w.heap.size w W)
    ⟨(A0.alloc _), (B0.alloc _), (C0.alloc _), (X.alloc _), (X2.alloc _), (Y.alloc _), (T.alloc _), (Box.new wx6 33 #[.int .i64 z1, .int .i64 z2, .int .i64 z3, .int .i64 z4]), (below_box hB _)⟩ ?_
  clear A0 B0 C0 X X2 Y T hB
  rintro wx7 ⟨A0, B0, C0, X, X2, Y, T, Z, hB⟩
  have cA0_0 := A0.cell 0 _ rfl
  have cA0_1 := A0.cell 1 _ rfl
  have cA0_2 := A0.cell 2 _ rfl
  have cA0_3 := A0.cell 3 _ rfl
  have lA0 := A0.lt
  have cB0_0 := B0.cell 0 _ rfl
  have cB0_1 := B0.cell 1 _ rfl
  have cB0_2 := B0.cell 2 _ rfl
  have cB0_3 := B0.cell 3 _ rfl
  have lB0 := B0.lt
  have cC0_0 := C0.cell 0 _ rfl
  have cC0_1 := C0.cell 1 _ rfl
  have cC0_2 := C0.cell 2 _ rfl
  have cC0_3 := C0.cell 3 _ rfl
  have lC0 := C0.lt
  have cX_0 := X.cell 0 _ rfl
  have cX_1 := X.cell 1 _ rfl
  have cX_2 := X.cell 2 _ rfl
  have cX_3 := X.cell 3 _ rfl
  have lX := X.lt
  have cX2_0 := X2.cell 0 _ rfl
  have cX2_1 := X2.cell 1 _ rfl
  have cX2_2 := X2.cell 2 _ rfl
  have cX2_3 := X2.cell 3 _ rfl
  have lX2 := X2.lt
  have cY_0 := Y.cell 0 _ rfl
  have cY_1 := Y.cell 1 _ rfl
  have cY_2 := Y.cell 2 _ rfl
  have cY_3 := Y.cell 3 _ rfl
  have lY := Y.lt
  have cT_0 := T.cell 0 _ rfl
  have cT_1 := T.cell 1 _ rfl
  have cT_2 := T.cell 2 _ rfl
  have cT_3 := T.cell 3 _ rfl
  have lT := T.lt
  have cZ_0 := Z.cell 0 _ rfl
  have cZ_1 := Z.cell 1 _ rfl
  have cZ_2 := Z.cell 2 _ rfl
  have cZ_3 := Z.cell 3 _ rfl
  have lZ := Z.lt
  go_upto_region 14 with fail
  clear cA0_0 cA0_1 cA0_2 cA0_3 lA0 cB0_0 cB0_1 cB0_2 cB0_3 lB0 cC0_0 cC0_1 cC0_2 cC0_3 lC0 cX_0 cX_1 cX_2 cX_3 lX cX2_0 cX2_1 cX2_2 cX2_3 lX2 cY_0 cY_1 cY_2 cY_3 lY cT_0 cT_1 cT_2 cT_3 lT cZ_0 cZ_1 cZ_2 cZ_3 lZ
  clear A0 B0 C0 X X2 Y T Z
  have hle := hB.size
  have sg := Lib.hid (hs.out.next hB)
  go_upto_region 15 with (at_builtin; go_loud (refine wpList_append_seg _ rfl (.tmp 95) (.tmp 96) 38 rfl w.heap.size 33 i0 (.agg #[.int .i64 0, .int .i64 0, .int .i64 0, .int .i64 0]) 4 32 Try.underlying38 HI33.out hz0 hz1 hz2 rfl (by decide) (.slice none 0 0) 0 [] rfl ⟨rfl, .inl ⟨rfl, rfl⟩⟩ A n cap (uCell us) rfl sg.out (fun _ _ => rfl) (by unfold maxLen; omega) (by omega) hle (seg_none sg.out) ?_); intro v1 wa1 ho hg _)
  rw [Nat.zero_add, List.nil_append] at ho
  have hB1 : Below w.heap.size w wa1 := hB.trans (grown_below hg (fun k hk => by simp [Value.ownBlock] at hk) hle)
  have HO := Lib.hid ho
  clear ho hg sg hle hB
  have hle := hB1.size
  have sg := Lib.hid (hs'.out.next hB1)
  obtain ⟨_, _, _, _, _, hbk⟩ := own_seg HO.out
  have HBK := Lib.hid hbk
  clear hbk
  go_upto_region 16 with (at_builtin; go_loud (refine wpList_append_seg _ rfl (.tmp 98) (.tmp 99) 38 rfl w.heap.size 33 i0 (.agg #[.int .i64 0, .int .i64 0, .int .i64 0, .int .i64 0]) 4 32 Try.underlying38 HI33.out hz0 hz1 hz2 rfl (by decide) v1 n (segCells (uCell us) (n * 4)) rfl HO.out A' n' cap' (uCell vs) rfl sg.out (fun _ _ => rfl) (by unfold maxLen; omega) (by omega) hle (seg_none sg.out) ?_); intro v2 wa2 ho hg _)
  have hB : Below w.heap.size w wa2 := hB1.trans (grown_below hg HBK.out hle)
  obtain ⟨B, capB, rfl, sB, _, _⟩ := own_seg ho
  have SB := Lib.hid (sB.congr (fun k hk => uCells_app us vs n n' k hn.out hn'.out hk))
  clear ho hg sg hle hB1 HO HBK sB
  go_wp2_with fail
  refine (HS.out _ _ _ SB.out).mono ?_
  rintro _ wx8 ⟨rfl, hb⟩
  replace hB := below_step hB hb
  clear hb
  clear SB
  go_wp2_with fail
  refine (HP.out _ (hs.out.next (below_box hB _))).mono ?_
  rintro _ wx9 ⟨rfl, hb⟩
  have S := (Box.new wx8 33 #[.int .i64 s1, .int .i64 s2, .int .i64 s3, .int .i64 s4]).next hb
  replace hB := below_step (below_box hB _) hb
  clear hb
  have cS_0 := S.cell 0 _ rfl
  have cS_1 := S.cell 1 _ rfl
  have cS_2 := S.cell 2 _ rfl
  have cS_3 := S.cell 3 _ rfl
  have lS := S.lt
  go_wp2_with fail
  refine (HQ.out _ (hs'.out.next (below_box hB _))).mono ?_
  rintro _ wx10 ⟨rfl, hb⟩
  clear cS_0 cS_1 cS_2 cS_3 lS
  replace S := (S.alloc _).next hb
  have P := (Box.new wx9 33 #[.int .i64 p1, .int .i64 p2, .int .i64 p3, .int .i64 p4]).next hb
  replace hB := below_step (below_box hB _) hb
  clear hb
  have cS_0 := S.cell 0 _ rfl
  have cS_1 := S.cell 1 _ rfl
  have cS_2 := S.cell 2 _ rfl
  have cS_3 := S.cell 3 _ rfl
  have lS := S.lt
  have cP_0 := P.cell 0 _ rfl
  have cP_1 := P.cell 1 _ rfl
  have cP_2 := P.cell 2 _ rfl
  have cP_3 := P.cell 3 _ rfl
  have lP := P.lt
  go_wp2_with fail
  refine (HR.out _).mono ?_
  rintro _ wx11 ⟨rfl, hb⟩
  clear cS_0 cS_1 cS_2 cS_3 lS cP_0 cP_1 cP_2 cP_3 lP
  replace S := (S.alloc _).next hb
  replace P := (P.alloc _).next hb
  have Q := (Box.new wx10 33 #[.int .i64 q1, .int .i64 q2, .int .i64 q3, .int .i64 q4]).next hb
  replace hB := below_step (below_box hB _) hb
  clear hb
  have cS_0 := S.cell 0 _ rfl
  have cS_1 := S.cell 1 _ rfl
  have cS_2 := S.cell 2 _ rfl
  have cS_3 := S.cell 3 _ rfl
  have lS := S.lt
  have cP_0 := P.cell 0 _ rfl
  have cP_1 := P.cell 1 _ rfl
  have cP_2 := P.cell 2 _ rfl
  have cP_3 := P.cell 3 _ rfl
  have lP := P.lt
  have cQ_0 := Q.cell 0 _ rfl
  have cQ_1 := Q.cell 1 _ rfl
  have cQ_2 := Q.cell 2 _ rfl
  have cQ_3 := Q.cell 3 _ rfl
  have lQ := Q.lt
  go_wp2_with fail
  refine (awake_any _).mono ?_
  rintro _ wx12 ⟨rfl, hb⟩
  clear cS_0 cS_1 cS_2 cS_3 lS cP_0 cP_1 cP_2 cP_3 lP cQ_0 cQ_1 cQ_2 cQ_3 lQ
  replace S := (S.alloc _).next hb
  replace P := (P.alloc _).next hb
  replace Q := (Q.alloc _).next hb
  have R := (Box.new wx11 33 #[.int .i64 s1, .int .i64 s2, .int .i64 s3, .int .i64 s4]).next hb
  replace hB := below_step (below_box hB _) hb
  clear hb
  go_wp2
  go_ret
  exact ⟨rfl, hB⟩
set_option maxRecDepth 100000 in
set_option maxHeartbeats 4000000 in
theorem ma_gi_bad (a1 a2 a3 a4 b1 b2 b3 b4 c1 c2 c3 c4 : Int) (A A' : Option Addr) (n cap n' cap' : Nat) (us vs : List U4) (x1 x2 x3 x4 y1 y2 y3 y4 t1 t2 t3 t4 z1 z2 z3 z4 y5 z5 s1 s2 s3 s4 p1 p2 p3 p4 q1 q2 q3 q4 s5 p5 q5 : Int) (w : World) (g0 : decide ((300 : Int) < (n : Int)) = false) (g1 : decide ((300 : Int) < (n' : Int)) = false) (n0 : n ≤ 300) (n1 : n' ≤ 300) (hn : Hid (us.length = n)) (hn' : Hid (vs.length = n')) (hs : Hid (Seg w A (n * 4) (uCell us))) (hs' : Hid (Seg w A' (n' * 4) (uCell vs))) (HX : Hid (∀ W, Calls Try.prog 19 #[.agg #[.int .i64 a1, .int .i64 a2, .int .i64 a3, .int .i64 a4], .agg #[.int .i64 b1, .int .i64 b2, .int .i64 b3, .int .i64 b4]] W fun e w' => e = .returned (.tuple #[.agg #[.int .i64 x1, .int .i64 x2, .int .i64 x3, .int .i64 x4], .int .i64 0]) ∧ Below W.heap.size W w')) (HY : Hid (∀ W, Calls Try.prog 19 #[.agg #[.int .i64 b1, .int .i64 b2, .int .i64 b3, .int .i64 b4], .agg #[.int .i64 a1, .int .i64 a2, .int .i64 a3, .int .i64 a4]] W fun e w' => e = .returned (.tuple #[.agg #[.int .i64 x1, .int .i64 x2, .int .i64 x3, .int .i64 x4], .int .i64 0]) ∧ Below W.heap.size W w')) (HG : Hid (∀ W, Calls Try.prog 19 #[.agg #[.int .i64 x1, .int .i64 x2, .int .i64 x3, .int .i64 x4], .agg #[.int .i64 c1, .int .i64 c2, .int .i64 c3, .int .i64 c4]] W fun e w' => e = .returned (.tuple #[.agg #[.int .i64 y1, .int .i64 y2, .int .i64 y3, .int .i64 y4], .int .i64 y5]) ∧ Below W.heap.size W w')) (HT : Hid (∀ W, Calls Try.prog 19 #[.agg #[.int .i64 b1, .int .i64 b2, .int .i64 b3, .int .i64 b4], .agg #[.int .i64 c1, .int .i64 c2, .int .i64 c3, .int .i64 c4]] W fun e w' => e = .returned (.tuple #[.agg #[.int .i64 t1, .int .i64 t2, .int .i64 t3, .int .i64 t4], .int .i64 0]) ∧ Below W.heap.size W w')) (HI : Hid (∀ W, Calls Try.prog 19 #[.agg #[.int .i64 a1, .int .i64 a2, .int .i64 a3, .int .i64 a4], .agg #[.int .i64 t1, .int .i64 t2, .int .i64 t3, .int .i64 t4]] W fun e w' => e = .returned (.tuple #[.agg #[.int .i64 z1, .int .i64 z2, .int .i64 z3, .int .i64 z4], .int .i64 z5]) ∧ Below W.heap.size W w')) (hy : (y5 == 0) = false) (hz : (z5 == 0) = false) (HS : Hid (∀ W B k, Seg W B ((n + n') * 4) (uCell (us ++ vs)) → Calls Try.prog 21 #[.slice B (n + n') k] W fun e w' => e = .returned (.tuple #[.agg #[.int .i64 s1, .int .i64 s2, .int .i64 s3, .int .i64 s4], .int .i64 s5]) ∧ Below W.heap.size W w')) (h5 : (s5 != 0) = true) (HP : Hid (∀ W, Seg W A (n * 4) (uCell us) → Calls Try.prog 21 #[.slice A n cap] W fun e w' => e = .returned (.tuple #[.agg #[.int .i64 p1, .int .i64 p2, .int .i64 p3, .int .i64 p4], .int .i64 p5]) ∧ Below W.heap.size W w')) (HQ : Hid (∀ W, Seg W A' (n' * 4) (uCell vs) → Calls Try.prog 21 #[.slice A' n' cap'] W fun e w' => e = .returned (.tuple #[.agg #[.int .i64 q1, .int .i64 q2, .int .i64 q3, .int .i64 q4], .int .i64 q5]) ∧ Below W.heap.size W w')) : Calls Try.prog 7 #[.agg #[.int .i64 a1, .int .i64 a2, .int .i64 a3, .int .i64 a4], .agg #[.int .i64 b1, .int .i64 b2, .int .i64 b3, .int .i64 b4], .agg #[.int .i64 c1, .int .i64 c2, .int .i64 c3, .int .i64 c4], .slice A n cap, .slice A' n' cap'] w fun e w' => e = .returned (.bool true) ∧ Below w.heap.size w w' := by
  obtain ⟨i0, hi, hz0, hz1, hz2⟩ := info_parts info33
  have HI33 := Lib.hid hi
  clear hi
  have hq1 := eq4_self x1 x2 x3 x4
  have hq2 := eq4_self y1 y2 y3 y4
  have hq3 := eq4_self s1 s2 s3 s4
  go_enter Try.func7, Try.ntmps7
  go_wp2_with fail
  refine (HX.out _).mono ?_
  rintro _ wx1 ⟨rfl, hb⟩
  have A0 := (((Box.new w 33 #[.int .i64 a1, .int .i64 a2, .int .i64 a3, .int .i64 a4]).alloc _).alloc _).next hb
  have B0 := ((Box.new ((w).alloc (.cells #[.int .i64 a1, .int .i64 a2, .int .i64 a3, .int .i64 a4] 33)) 33 #[.int .i64 b1, .int .i64 b2, .int .i64 b3, .int .i64 b4]).alloc _).next hb
  simp only [World.size_alloc] at B0
  have C0 := (Box.new (((w).alloc (.cells #[.int .i64 a1, .int .i64 a2, .int .i64 a3, .int .i64 a4] 33)).alloc (.cells #[.int .i64 b1, .int .i64 b2, .int .i64 b3, .int .i64 b4] 33)) 33 #[.int .i64 c1, .int .i64 c2, .int .i64 c3, .int .i64 c4]).next hb
  simp only [World.size_alloc] at C0
  have hB := below_step (below_box (below_box (below_box (Below.refl _ w) _) _) _) hb
  clear hb
  have cA0_0 := A0.cell 0 _ rfl
  have cA0_1 := A0.cell 1 _ rfl
  have cA0_2 := A0.cell 2 _ rfl
  have cA0_3 := A0.cell 3 _ rfl
  have lA0 := A0.lt
  have cB0_0 := B0.cell 0 _ rfl
  have cB0_1 := B0.cell 1 _ rfl
  have cB0_2 := B0.cell 2 _ rfl
  have cB0_3 := B0.cell 3 _ rfl
  have lB0 := B0.lt
  have cC0_0 := C0.cell 0 _ rfl
  have cC0_1 := C0.cell 1 _ rfl
  have cC0_2 := C0.cell 2 _ rfl
  have cC0_3 := C0.cell 3 _ rfl
  have lC0 := C0.lt
  go_wp2_with fail
  refine (HY.out _).mono ?_
  rintro _ wx2 ⟨rfl, hb⟩
  clear cA0_0 cA0_1 cA0_2 cA0_3 lA0 cB0_0 cB0_1 cB0_2 cB0_3 lB0 cC0_0 cC0_1 cC0_2 cC0_3 lC0
  replace A0 := (A0.alloc _).next hb
  replace B0 := (B0.alloc _).next hb
  replace C0 := (C0.alloc _).next hb
  have X := (Box.new wx1 33 #[.int .i64 x1, .int .i64 x2, .int .i64 x3, .int .i64 x4]).next hb
  replace hB := below_step (below_box hB _) hb
  clear hb
  have cA0_0 := A0.cell 0 _ rfl
  have cA0_1 := A0.cell 1 _ rfl
  have cA0_2 := A0.cell 2 _ rfl
  have cA0_3 := A0.cell 3 _ rfl
  have lA0 := A0.lt
  have cB0_0 := B0.cell 0 _ rfl
  have cB0_1 := B0.cell 1 _ rfl
  have cB0_2 := B0.cell 2 _ rfl
  have cB0_3 := B0.cell 3 _ rfl
  have lB0 := B0.lt
  have cC0_0 := C0.cell 0 _ rfl
  have cC0_1 := C0.cell 1 _ rfl
  have cC0_2 := C0.cell 2 _ rfl
  have cC0_3 := C0.cell 3 _ rfl
  have lC0 := C0.lt
  have cX_0 := X.cell 0 _ rfl
  have cX_1 := X.cell 1 _ rfl
  have cX_2 := X.cell 2 _ rfl
  have cX_3 := X.cell 3 _ rfl
  have lX := X.lt
  go_upto_region 8 with fail
  clear cA0_0 cA0_1 cA0_2 cA0_3 lA0 cB0_0 cB0_1 cB0_2 cB0_3 lB0 cC0_0 cC0_1 cC0_2 cC0_3 lC0 cX_0 cX_1 cX_2 cX_3 lX
  have zA0 := A0.lt
  have zB0 := B0.lt
  have zC0 := C0.lt
  have zX := X.lt
  refine wp_forget (fun W => Box W w.heap.size 33 #[.int .i64 a1, .int .i64 a2, .int .i64 a3, .int .i64 a4] ∧ Box W (w.heap.size + 1) 33 #[.int .i64 b1, .int .i64 b2, .int .i64 b3, .int .i64 b4] ∧ Box W (w.heap.size + 2) 33 #[.int .i64 c1, .int .i64 c2, .int .i64 c3, .int .i64 c4] ∧ Box W wx1.heap.size 33 #[.int .i64 x1, .int .i64 x2, .int .i64 x3, .int .i64 x4] ∧ Box W (wx2.heap.size) 33 #[.int .i64 x1, .int .i64 x2, .int .i64 x3, .int .i64 x4] ∧ Below w.heap.size w W)
    ⟨(A0.alloc _), (B0.alloc _), (C0.alloc _), (X.alloc _), (Box.new wx2 33 #[.int .i64 x1, .int .i64 x2, .int .i64 x3, .int .i64 x4]), (below_box hB _)⟩ ?_
  clear A0 B0 C0 X hB
  rintro wx3 ⟨A0, B0, C0, X, X2, hB⟩
  have cA0_0 := A0.cell 0 _ rfl
  have cA0_1 := A0.cell 1 _ rfl
  have cA0_2 := A0.cell 2 _ rfl
  have cA0_3 := A0.cell 3 _ rfl
  have lA0 := A0.lt
  have cB0_0 := B0.cell 0 _ rfl
  have cB0_1 := B0.cell 1 _ rfl
  have cB0_2 := B0.cell 2 _ rfl
  have cB0_3 := B0.cell 3 _ rfl
  have lB0 := B0.lt
  have cC0_0 := C0.cell 0 _ rfl
  have cC0_1 := C0.cell 1 _ rfl
  have cC0_2 := C0.cell 2 _ rfl
  have cC0_3 := C0.cell 3 _ rfl
  have lC0 := C0.lt
  have cX_0 := X.cell 0 _ rfl
  have cX_1 := X.cell 1 _ rfl
  have cX_2 := X.cell 2 _ rfl
  have cX_3 := X.cell 3 _ rfl
  have lX := X.lt
  have cX2_0 := X2.cell 0 _ rfl
  have cX2_1 := X2.cell 1 _ rfl
  have cX2_2 := X2.cell 2 _ rfl
  have cX2_3 := X2.cell 3 _ rfl
  have lX2 := X2.lt
  go_wp2_with fail
  refine (HG.out _).mono ?_
  rintro _ wx4 ⟨rfl, hb⟩
  clear cA0_0 cA0_1 cA0_2 cA0_3 lA0 cB0_0 cB0_1 cB0_2 cB0_3 lB0 cC0_0 cC0_1 cC0_2 cC0_3 lC0 cX_0 cX_1 cX_2 cX_3 lX cX2_0 cX2_1 cX2_2 cX2_3 lX2
  replace A0 := A0.next hb
  replace B0 := B0.next hb
  replace C0 := C0.next hb
  replace X := X.next hb
  replace X2 := X2.next hb
  replace hB := below_step hB hb
  clear hb
  have cA0_0 := A0.cell 0 _ rfl
  have cA0_1 := A0.cell 1 _ rfl
  have cA0_2 := A0.cell 2 _ rfl
  have cA0_3 := A0.cell 3 _ rfl
  have lA0 := A0.lt
  have cB0_0 := B0.cell 0 _ rfl
  have cB0_1 := B0.cell 1 _ rfl
  have cB0_2 := B0.cell 2 _ rfl
  have cB0_3 := B0.cell 3 _ rfl
  have lB0 := B0.lt
  have cC0_0 := C0.cell 0 _ rfl
  have cC0_1 := C0.cell 1 _ rfl
  have cC0_2 := C0.cell 2 _ rfl
  have cC0_3 := C0.cell 3 _ rfl
  have lC0 := C0.lt
  have cX_0 := X.cell 0 _ rfl
  have cX_1 := X.cell 1 _ rfl
  have cX_2 := X.cell 2 _ rfl
  have cX_3 := X.cell 3 _ rfl
  have lX := X.lt
  have cX2_0 := X2.cell 0 _ rfl
  have cX2_1 := X2.cell 1 _ rfl
  have cX2_2 := X2.cell 2 _ rfl
  have cX2_3 := X2.cell 3 _ rfl
  have lX2 := X2.lt
  go_wp2_with fail
  refine (HT.out _).mono ?_
  rintro _ wx5 ⟨rfl, hb⟩
  clear cA0_0 cA0_1 cA0_2 cA0_3 lA0 cB0_0 cB0_1 cB0_2 cB0_3 lB0 cC0_0 cC0_1 cC0_2 cC0_3 lC0 cX_0 cX_1 cX_2 cX_3 lX cX2_0 cX2_1 cX2_2 cX2_3 lX2
  replace A0 := (A0.alloc _).next hb
  replace B0 := (B0.alloc _).next hb
  replace C0 := (C0.alloc _).next hb
  replace X := (X.alloc _).next hb
  replace X2 := (X2.alloc _).next hb
  have Y := (Box.new wx4 33 #[.int .i64 y1, .int .i64 y2, .int .i64 y3, .int .i64 y4]).next hb
  replace hB := below_step (below_box hB _) hb
  clear hb
  have cA0_0 := A0.cell 0 _ rfl
  have cA0_1 := A0.cell 1 _ rfl
  have cA0_2 := A0.cell 2 _ rfl
  have cA0_3 := A0.cell 3 _ rfl
  have lA0 := A0.lt
  have cB0_0 := B0.cell 0 _ rfl
  have cB0_1 := B0.cell 1 _ rfl
  have cB0_2 := B0.cell 2 _ rfl
  have cB0_3 := B0.cell 3 _ rfl
  have lB0 := B0.lt
  have cC0_0 := C0.cell 0 _ rfl
  have cC0_1 := C0.cell 1 _ rfl
  have cC0_2 := C0.cell 2 _ rfl
  have cC0_3 := C0.cell 3 _ rfl
  have lC0 := C0.lt
  have cX_0 := X.cell 0 _ rfl
  have cX_1 := X.cell 1 _ rfl
  have cX_2 := X.cell 2 _ rfl
  have cX_3 := X.cell 3 _ rfl
  have lX := X.lt
  have cX2_0 := X2.cell 0 _ rfl
  have cX2_1 := X2.cell 1 _ rfl
  have cX2_2 := X2.cell 2 _ rfl
  have cX2_3 := X2.cell 3 _ rfl
  have lX2 := X2.lt
  have cY_0 := Y.cell 0 _ rfl
  have cY_1 := Y.cell 1 _ rfl
  have cY_2 := Y.cell 2 _ rfl
  have cY_3 := Y.cell 3 _ rfl
  have lY := Y.lt
  go_wp2_with fail
  refine (HI.out _).mono ?_
  rintro _ wx6 ⟨rfl, hb⟩
  clear cA0_0 cA0_1 cA0_2 cA0_3 lA0 cB0_0 cB0_1 cB0_2 cB0_3 lB0 cC0_0 cC0_1 cC0_2 cC0_3 lC0 cX_0 cX_1 cX_2 cX_3 lX cX2_0 cX2_1 cX2_2 cX2_3 lX2 cY_0 cY_1 cY_2 cY_3 lY
  replace A0 := (A0.alloc _).next hb
  replace B0 := (B0.alloc _).next hb
  replace C0 := (C0.alloc _).next hb
  replace X := (X.alloc _).next hb
  replace X2 := (X2.alloc _).next hb
  replace Y := (Y.alloc _).next hb
  have T := (Box.new wx5 33 #[.int .i64 t1, .int .i64 t2, .int .i64 t3, .int .i64 t4]).next hb
  replace hB := below_step (below_box hB _) hb
  clear hb
  have cA0_0 := A0.cell 0 _ rfl
  have cA0_1 := A0.cell 1 _ rfl
  have cA0_2 := A0.cell 2 _ rfl
  have cA0_3 := A0.cell 3 _ rfl
  have lA0 := A0.lt
  have cB0_0 := B0.cell 0 _ rfl
  have cB0_1 := B0.cell 1 _ rfl
  have cB0_2 := B0.cell 2 _ rfl
  have cB0_3 := B0.cell 3 _ rfl
  have lB0 := B0.lt
  have cC0_0 := C0.cell 0 _ rfl
  have cC0_1 := C0.cell 1 _ rfl
  have cC0_2 := C0.cell 2 _ rfl
  have cC0_3 := C0.cell 3 _ rfl
  have lC0 := C0.lt
  have cX_0 := X.cell 0 _ rfl
  have cX_1 := X.cell 1 _ rfl
  have cX_2 := X.cell 2 _ rfl
  have cX_3 := X.cell 3 _ rfl
  have lX := X.lt
  have cX2_0 := X2.cell 0 _ rfl
  have cX2_1 := X2.cell 1 _ rfl
  have cX2_2 := X2.cell 2 _ rfl
  have cX2_3 := X2.cell 3 _ rfl
  have lX2 := X2.lt
  have cY_0 := Y.cell 0 _ rfl
  have cY_1 := Y.cell 1 _ rfl
  have cY_2 := Y.cell 2 _ rfl
  have cY_3 := Y.cell 3 _ rfl
  have lY := Y.lt
  have cT_0 := T.cell 0 _ rfl
  have cT_1 := T.cell 1 _ rfl
  have cT_2 := T.cell 2 _ rfl
  have cT_3 := T.cell 3 _ rfl
  have lT := T.lt
  go_upto_region 11 with fail
  clear cA0_0 cA0_1 cA0_2 cA0_3 lA0 cB0_0 cB0_1 cB0_2 cB0_3 lB0 cC0_0 cC0_1 cC0_2 cC0_3 lC0 cX_0 cX_1 cX_2 cX_3 lX cX2_0 cX2_1 cX2_2 cX2_3 lX2 cY_0 cY_1 cY_2 cY_3 lY cT_0 cT_1 cT_2 cT_3 lT
  have zA0 := A0.lt
  have zB0 := B0.lt
  have zC0 := C0.lt
  have zX := X.lt
  have zX2 := X2.lt
  have zY := Y.lt
  have zT := T.lt
  refine wp_forget (fun W => Box W w.heap.size 33 #[.int .i64 a1, .int .i64 a2, .int .i64 a3, .int .i64 a4] ∧ Box W (w.heap.size + 1) 33 #[.int .i64 b1, .int .i64 b2, .int .i64 b3, .int .i64 b4] ∧ Box W (w.heap.size + 2) 33 #[.int .i64 c1, .int .i64 c2, .int .i64 c3, .int .i64 c4] ∧ Box W wx1.heap.size 33 #[.int .i64 x1, .int .i64 x2, .int .i64 x3, .int .i64 x4] ∧ Box W wx2.heap.size 33 #[.int .i64 x1, .int .i64 x2, .int .i64 x3, .int .i64 x4] ∧ Box W wx4.heap.size 33 #[.int .i64 y1, .int .i64 y2, .int .i64 y3, .int .i64 y4] ∧ Box W wx5.heap.size 33 #[.int .i64 t1, .int .i64 t2, .int .i64 t3, .int .i64 t4] ∧ Box W (wx6.heap.size) 33 #[.int .i64 z1, .int .i64 z2, .int .i64 z3, .int .i64 z4] ∧ Below w.heap.size w W)
    ⟨(A0.alloc _), (B0.alloc _), (C0.alloc _), (X.alloc _), (X2.alloc _), (Y.alloc _), (T.alloc _), (Box.new wx6 33 #[.int .i64 z1, .int .i64 z2, .int .i64 z3, .int .i64 z4]), (below_box hB _)⟩ ?_
  clear A0 B0 C0 X X2 Y T hB
  rintro wx7 ⟨A0, B0, C0, X, X2, Y, T, Z, hB⟩
  have cA0_0 := A0.cell 0 _ rfl
  have cA0_1 := A0.cell 1 _ rfl
  have cA0_2 := A0.cell 2 _ rfl
  have cA0_3 := A0.cell 3 _ rfl
  have lA0 := A0.lt
  have cB0_0 := B0.cell 0 _ rfl
  have cB0_1 := B0.cell 1 _ rfl
  have cB0_2 := B0.cell 2 _ rfl
  have cB0_3 := B0.cell 3 _ rfl
  have lB0 := B0.lt
  have cC0_0 := C0.cell 0 _ rfl
  have cC0_1 := C0.cell 1 _ rfl
  have cC0_2 := C0.cell 2 _ rfl
  have cC0_3 := C0.cell 3 _ rfl
  have lC0 := C0.lt
  have cX_0 := X.cell 0 _ rfl
  have cX_1 := X.cell 1 _ rfl
  have cX_2 := X.cell 2 _ rfl
  have cX_3 := X.cell 3 _ rfl
  have lX := X.lt
  have cX2_0 := X2.cell 0 _ rfl
  have cX2_1 := X2.cell 1 _ rfl
  have cX2_2 := X2.cell 2 _ rfl
  have cX2_3 := X2.cell 3 _ rfl
  have lX2 := X2.lt
  have cY_0 := Y.cell 0 _ rfl
  have cY_1 := Y.cell 1 _ rfl
  have cY_2 := Y.cell 2 _ rfl
  have cY_3 := Y.cell 3 _ rfl
  have lY := Y.lt
  have cT_0 := T.cell 0 _ rfl
  have cT_1 := T.cell 1 _ rfl
  have cT_2 := T.cell 2 _ rfl
  have cT_3 := T.cell 3 _ rfl
  have lT := T.lt
  have cZ_0 := Z.cell 0 _ rfl
  have cZ_1 := Z.cell 1 _ rfl
  have cZ_2 := Z.cell 2 _ rfl
  have cZ_3 := Z.cell 3 _ rfl
  have lZ := Z.lt
  go_upto_region 14 with fail
  clear cA0_0 cA0_1 cA0_2 cA0_3 lA0 cB0_0 cB0_1 cB0_2 cB0_3 lB0 cC0_0 cC0_1 cC0_2 cC0_3 lC0 cX_0 cX_1 cX_2 cX_3 lX cX2_0 cX2_1 cX2_2 cX2_3 lX2 cY_0 cY_1 cY_2 cY_3 lY cT_0 cT_1 cT_2 cT_3 lT cZ_0 cZ_1 cZ_2 cZ_3 lZ
  clear A0 B0 C0 X X2 Y T Z
  have hle := hB.size
  have sg := Lib.hid (hs.out.next hB)
  go_upto_region 15 with (at_builtin; go_loud (refine wpList_append_seg _ rfl (.tmp 95) (.tmp 96) 38 rfl w.heap.size 33 i0 (.agg #[.int .i64 0, .int .i64 0, .int .i64 0, .int .i64 0]) 4 32 Try.underlying38 HI33.out hz0 hz1 hz2 rfl (by decide) (.slice none 0 0) 0 [] rfl ⟨rfl, .inl ⟨rfl, rfl⟩⟩ A n cap (uCell us) rfl sg.out (fun _ _ => rfl) (by unfold maxLen; omega) (by omega) hle (seg_none sg.out) ?_); intro v1 wa1 ho hg _)
  rw [Nat.zero_add, List.nil_append] at ho
  have hB1 : Below w.heap.size w wa1 := hB.trans (grown_below hg (fun k hk => by simp [Value.ownBlock] at hk) hle)
  have HO := Lib.hid ho
  clear ho hg sg hle hB
  have hle := hB1.size
  have sg := Lib.hid (hs'.out.next hB1)
  obtain ⟨_, _, _, _, _, hbk⟩ := own_seg HO.out
  have HBK := Lib.hid hbk
  clear hbk
  go_upto_region 16 with (at_builtin; go_loud (refine wpList_append_seg _ rfl (.tmp 98) (.tmp 99) 38 rfl w.heap.size 33 i0 (.agg #[.int .i64 0, .int .i64 0, .int .i64 0, .int .i64 0]) 4 32 Try.underlying38 HI33.out hz0 hz1 hz2 rfl (by decide) v1 n (segCells (uCell us) (n * 4)) rfl HO.out A' n' cap' (uCell vs) rfl sg.out (fun _ _ => rfl) (by unfold maxLen; omega) (by omega) hle (seg_none sg.out) ?_); intro v2 wa2 ho hg _)
  have hB : Below w.heap.size w wa2 := hB1.trans (grown_below hg HBK.out hle)
  obtain ⟨B, capB, rfl, sB, _, _⟩ := own_seg ho
  have SB := Lib.hid (sB.congr (fun k hk => uCells_app us vs n n' k hn.out hn'.out hk))
  clear ho hg sg hle hB1 HO HBK sB
  go_wp2_with fail
  refine (HS.out _ _ _ SB.out).mono ?_
  rintro _ wx8 ⟨rfl, hb⟩
  replace hB := below_step hB hb
  clear hb
  clear SB
  go_wp2_with fail
  refine (HP.out _ (hs.out.next (below_box hB _))).mono ?_
  rintro _ wx9 ⟨rfl, hb⟩
  have S := (Box.new wx8 33 #[.int .i64 s1, .int .i64 s2, .int .i64 s3, .int .i64 s4]).next hb
  replace hB := below_step (below_box hB _) hb
  clear hb
  have cS_0 := S.cell 0 _ rfl
  have cS_1 := S.cell 1 _ rfl
  have cS_2 := S.cell 2 _ rfl
  have cS_3 := S.cell 3 _ rfl
  have lS := S.lt
  go_wp2_with fail
  refine (HQ.out _ (hs'.out.next (below_box hB _))).mono ?_
  rintro _ wx10 ⟨rfl, hb⟩
  clear cS_0 cS_1 cS_2 cS_3 lS
  replace S := (S.alloc _).next hb
  have P := (Box.new wx9 33 #[.int .i64 p1, .int .i64 p2, .int .i64 p3, .int .i64 p4]).next hb
  replace hB := below_step (below_box hB _) hb
  clear hb
  have cS_0 := S.cell 0 _ rfl
  have cS_1 := S.cell 1 _ rfl
  have cS_2 := S.cell 2 _ rfl
  have cS_3 := S.cell 3 _ rfl
  have lS := S.lt
  have cP_0 := P.cell 0 _ rfl
  have cP_1 := P.cell 1 _ rfl
  have cP_2 := P.cell 2 _ rfl
  have cP_3 := P.cell 3 _ rfl
  have lP := P.lt
  go_wp2_with fail
  refine (awake_any _).mono ?_
  rintro _ wx11 ⟨rfl, hb⟩
  clear cS_0 cS_1 cS_2 cS_3 lS cP_0 cP_1 cP_2 cP_3 lP
  replace S := (S.alloc _).next hb
  replace P := (P.alloc _).next hb
  have Q := (Box.new wx10 33 #[.int .i64 q1, .int .i64 q2, .int .i64 q3, .int .i64 q4]).next hb
  replace hB := below_step (below_box hB _) hb
  clear hb
  go_wp2
  go_ret
  exact ⟨rfl, hB⟩
set_option maxRecDepth 100000 in
set_option maxHeartbeats 4000000 in
theorem ma_gi_ok (a1 a2 a3 a4 b1 b2 b3 b4 c1 c2 c3 c4 : Int) (A A' : Option Addr) (n cap n' cap' : Nat) (us vs : List U4) (x1 x2 x3 x4 y1 y2 y3 y4 t1 t2 t3 t4 z1 z2 z3 z4 y5 z5 s1 s2 s3 s4 p1 p2 p3 p4 q1 q2 q3 q4 : Int) (w : World) (g0 : decide ((300 : Int) < (n : Int)) = false) (g1 : decide ((300 : Int) < (n' : Int)) = false) (n0 : n ≤ 300) (n1 : n' ≤ 300) (hn : Hid (us.length = n)) (hn' : Hid (vs.length = n')) (hs : Hid (Seg w A (n * 4) (uCell us))) (hs' : Hid (Seg w A' (n' * 4) (uCell vs))) (HX : Hid (∀ W, Calls Try.prog 19 #[.agg #[.int .i64 a1, .int .i64 a2, .int .i64 a3, .int .i64 a4], .agg #[.int .i64 b1, .int .i64 b2, .int .i64 b3, .int .i64 b4]] W fun e w' => e = .returned (.tuple #[.agg #[.int .i64 x1, .int .i64 x2, .int .i64 x3, .int .i64 x4], .int .i64 0]) ∧ Below W.heap.size W w')) (HY : Hid (∀ W, Calls Try.prog 19 #[.agg #[.int .i64 b1, .int .i64 b2, .int .i64 b3, .int .i64 b4], .agg #[.int .i64 a1, .int .i64 a2, .int .i64 a3, .int .i64 a4]] W fun e w' => e = .returned (.tuple #[.agg #[.int .i64 x1, .int .i64 x2, .int .i64 x3, .int .i64 x4], .int .i64 0]) ∧ Below W.heap.size W w')) (HG : Hid (∀ W, Calls Try.prog 19 #[.agg #[.int .i64 x1, .int .i64 x2, .int .i64 x3, .int .i64 x4], .agg #[.int .i64 c1, .int .i64 c2, .int .i64 c3, .int .i64 c4]] W fun e w' => e = .returned (.tuple #[.agg #[.int .i64 y1, .int .i64 y2, .int .i64 y3, .int .i64 y4], .int .i64 y5]) ∧ Below W.heap.size W w')) (HT : Hid (∀ W, Calls Try.prog 19 #[.agg #[.int .i64 b1, .int .i64 b2, .int .i64 b3, .int .i64 b4], .agg #[.int .i64 c1, .int .i64 c2, .int .i64 c3, .int .i64 c4]] W fun e w' => e = .returned (.tuple #[.agg #[.int .i64 t1, .int .i64 t2, .int .i64 t3, .int .i64 t4], .int .i64 0]) ∧ Below W.heap.size W w')) (HI : Hid (∀ W, Calls Try.prog 19 #[.agg #[.int .i64 a1, .int .i64 a2, .int .i64 a3, .int .i64 a4], .agg #[.int .i64 t1, .int .i64 t2, .int .i64 t3, .int .i64 t4]] W fun e w' => e = .returned (.tuple #[.agg #[.int .i64 z1, .int .i64 z2, .int .i64 z3, .int .i64 z4], .int .i64 z5]) ∧ Below W.heap.size W w')) (hy : (y5 == 0) = false) (hz : (z5 == 0) = false) (HS : Hid (∀ W B k, Seg W B ((n + n') * 4) (uCell (us ++ vs)) → Calls Try.prog 21 #[.slice B (n + n') k] W fun e w' => e = .returned (.tuple #[.agg #[.int .i64 s1, .int .i64 s2, .int .i64 s3, .int .i64 s4], .int .i64 0]) ∧ Below W.heap.size W w')) (HP : Hid (∀ W, Seg W A (n * 4) (uCell us) → Calls Try.prog 21 #[.slice A n cap] W fun e w' => e = .returned (.tuple #[.agg #[.int .i64 p1, .int .i64 p2, .int .i64 p3, .int .i64 p4], .int .i64 0]) ∧ Below W.heap.size W w')) (HQ : Hid (∀ W, Seg W A' (n' * 4) (uCell vs) → Calls Try.prog 21 #[.slice A' n' cap'] W fun e w' => e = .returned (.tuple #[.agg #[.int .i64 q1, .int .i64 q2, .int .i64 q3, .int .i64 q4], .int .i64 0]) ∧ Below W.heap.size W w')) (HR : Hid (∀ W, Calls Try.prog 19 #[.agg #[.int .i64 p1, .int .i64 p2, .int .i64 p3, .int .i64 p4], .agg #[.int .i64 q1, .int .i64 q2, .int .i64 q3, .int .i64 q4]] W fun e w' => e = .returned (.tuple #[.agg #[.int .i64 s1, .int .i64 s2, .int .i64 s3, .int .i64 s4], .int .i64 0]) ∧ Below W.heap.size W w')) : Calls Try.prog 7 #[.agg #[.int .i64 a1, .int .i64 a2, .int .i64 a3, .int .i64 a4], .agg #[.int .i64 b1, .int .i64 b2, .int .i64 b3, .int .i64 b4], .agg #[.int .i64 c1, .int .i64 c2, .int .i64 c3, .int .i64 c4], .slice A n cap, .slice A' n' cap'] w fun e w' => e = .returned (.bool true) ∧ Below w.heap.size w w' := by
  obtain ⟨i0, hi, hz0, hz1, hz2⟩ := info_parts info33
  have HI33 := Lib.hid hi
  clear hi
  have hq1 := eq4_self x1 x2 x3 x4
  have hq2 := eq4_self y1 y2 y3 y4
  have hq3 := eq4_self s1 s2 s3 s4
  go_enter Try.func7, Try.ntmps7
  go_wp2_with fail
  refine (HX.out _).mono ?_
  rintro _ wx1 ⟨rfl, hb⟩
  have A0 := (((Box.new w 33 #[.int .i64 a1, .int .i64 a2, .int .i64 a3, .int .i64 a4]).alloc _).alloc _).next hb
  have B0 := ((Box.new ((w).alloc (.cells #[.int .i64 a1, .int .i64 a2, .int .i64 a3, .int .i64 a4] 33)) 33 #[.int .i64 b1, .int .i64 b2, .int .i64 b3, .int .i64 b4]).alloc _).next hb
  simp only [World.size_alloc] at B0
  have C0 := (Box.new (((w).alloc (.cells #[.int .i64 a1, .int .i64 a2, .int .i64 a3, .int .i64 a4] 33)).alloc (.cells #[.int .i64 b1, .int .i64 b2, .int .i64 b3, .int .i64 b4] 33)) 33 #[.int .i64 c1, .int .i64 c2, .int .i64 c3, .int .i64 c4]).next hb
  simp only [World.size_alloc] at C0
  have hB := below_step (below_box (below_box (below_box (Below.refl _ w) _) _) _) hb
  clear hb
  have cA0_0 := A0.cell 0 _ rfl
  have cA0_1 := A0.cell 1 _ rfl
  have cA0_2 := A0.cell 2 _ rfl
  have cA0_3 := A0.cell 3 _ rfl
  have lA0 := A0.lt
  have cB0_0 := B0.cell 0 _ rfl
  have cB0_1 := B0.cell 1 _ rfl
  have cB0_2 := B0.cell 2 _ rfl
  have cB0_3 := B0.cell 3 _ rfl
  have lB0 := B0.lt
  have cC0_0 := C0.cell 0 _ rfl
  have cC0_1 := C0.cell 1 _ rfl
  have cC0_2 := C0.cell 2 _ rfl
  have cC0_3 := C0.cell 3 _ rfl
  have lC0 := C0.lt
  go_wp2_with fail
  refine (HY.out _).mono ?_
  rintro _ wx2 ⟨rfl, hb⟩
  clear cA0_0 cA0_1 cA0_2 cA0_3 lA0 cB0_0 cB0_1 cB0_2 cB0_3 lB0 cC0_0 cC0_1 cC0_2 cC0_3 lC0
  replace A0 := (A0.alloc _).next hb
  replace B0 := (B0.alloc _).next hb
  replace C0 := (C0.alloc _).next hb
  have X := (Box.new wx1 33 #[.int .i64 x1, .int .i64 x2, .int .i64 x3, .int .i64 x4]).next hb
  replace hB := below_step (below_box hB _) hb
  clear hb
  have cA0_0 := A0.cell 0 _ rfl
  have cA0_1 := A0.cell 1 _ rfl
  have cA0_2 := A0.cell 2 _ rfl
  have cA0_3 := A0.cell 3 _ rfl
  have lA0 := A0.lt
  have cB0_0 := B0.cell 0 _ rfl
  have cB0_1 := B0.cell 1 _ rfl
  have cB0_2 := B0.cell 2 _ rfl
  have cB0_3 := B0.cell 3 _ rfl
  have lB0 := B0.lt
  have cC0_0 := C0.cell 0 _ rfl
  have cC0_1 := C0.cell 1 _ rfl
  have cC0_2 := C0.cell 2 _ rfl
  have cC0_3 := C0.cell 3 _ rfl
  have lC0 := C0.lt
  have cX_0 := X.cell 0 _ rfl
  have cX_1 := X.cell 1 _ rfl
  have cX_2 := X.cell 2 _ rfl
  have cX_3 := X.cell 3 _ rfl
  have lX := X.lt
  go_upto_region 8 with fail
  clear cA0_0 cA0_1 cA0_2 cA0_3 lA0 cB0_0 cB0_1 cB0_2 cB0_3 lB0 cC0_0 cC0_1 cC0_2 cC0_3 lC0 cX_0 cX_1 cX_2 cX_3 lX
  have zA0 := A0.lt
  have zB0 := B0.lt
  have zC0 := C0.lt
  have zX := X.lt
  refine wp_forget (fun W => Box W w.heap.size 33 #[.int .i64 a1, .int .i64 a2, .int .i64 a3, .int .i64 a4] ∧ Box W (w.heap.size + 1) 33 #[.int .i64 b1, .int .i64 b2, .int .i64 b3, .int .i64 b4] ∧ Box W (w.heap.size + 2) 33 #[.int .i64 c1, .int .i64 c2, .int .i64 c3, .int .i64 c4] ∧ Box W wx1.heap.size 33 #[.int .i64 x1, .int .i64 x2, .int .i64 x3, .int .i64 x4] ∧ Box W (wx2.heap.size) 33 #[.int .i64 x1, .int .i64 x2, .int .i64 x3, .int .i64 x4] ∧ Below w.heap.size w W)
    ⟨(A0.alloc _), (B0.alloc _), (C0.alloc _), (X.alloc _), (Box.new wx2 33 #[.int .i64 x1, .int .i64 x2, .int .i64 x3, .int .i64 x4]), (below_box hB _)⟩ ?_
  clear A0 B0 C0 X hB
  rintro wx3 ⟨A0, B0, C0, X, X2, hB⟩
  have cA0_0 := A0.cell 0 _ rfl
  have cA0_1 := A0.cell 1 _ rfl
  have cA0_2 := A0.cell 2 _ rfl
  have cA0_3 := A0.cell 3 _ rfl
  have lA0 := A0.lt
  have cB0_0 := B0.cell 0 _ rfl
  have cB0_1 := B0.cell 1 _ rfl
  have cB0_2 := B0.cell 2 _ rfl
  have cB0_3 := B0.cell 3 _ rfl
  have lB0 := B0.lt
  have cC0_0 := C0.cell 0 _ rfl
  have cC0_1 := C0.cell 1 _ rfl
  have cC0_2 := C0.cell 2 _ rfl
  have cC0_3 := C0.cell 3 _ rfl
  have lC0 := C0.lt
  have cX_0 := X.cell 0 _ rfl
  have cX_1 := X.cell 1 _ rfl
  have cX_2 := X.cell 2 _ rfl
  have cX_3 := X.cell 3 _ rfl
  have lX := X.lt
  have cX2_0 := X2.cell 0 _ rfl
  have cX2_1 := X2.cell 1 _ rfl
  have cX2_2 := X2.cell 2 _ rfl
  have cX2_3 := X2.cell 3 _ rfl
  have lX2 := X2.lt
  go_wp2_with fail
  refine (HG.out _).mono ?_
  rintro _ wx4 ⟨rfl, hb⟩
  clear cA0_0 cA0_1 cA0_2 cA0_3 lA0 cB0_0 cB0_1 cB0_2 cB0_3 lB0 cC0_0 cC0_1 cC0_2 cC0_3 lC0 cX_0 cX_1 cX_2 cX_3 lX cX2_0 cX2_1 cX2_2 cX2_3 lX2
  replace A0 := A0.next hb
  replace B0 := B0.next hb
  replace C0 := C0.next hb
  replace X := X.next hb
  replace X2 := X2.next hb
  replace hB := below_step hB hb
  clear hb
  have cA0_0 := A0.cell 0 _ rfl
  have cA0_1 := A0.cell 1 _ rfl
  have cA0_2 := A0.cell 2 _ rfl
  have cA0_3 := A0.cell 3 _ rfl
  have lA0 := A0.lt
  have cB0_0 := B0.cell 0 _ rfl
  have cB0_1 := B0.cell 1 _ rfl
  have cB0_2 := B0.cell 2 _ rfl
  have cB0_3 := B0.cell 3 _ rfl
  have lB0 := B0.lt
  have cC0_0 := C0.cell 0 _ rfl
  have cC0_1 := C0.cell 1 _ rfl
  have cC0_2 := C0.cell 2 _ rfl
  have cC0_3 := C0.cell 3 _ rfl
  have lC0 := C0.lt
  have cX_0 := X.cell 0 _ rfl
  have cX_1 := X.cell 1 _ rfl
  have cX_2 := X.cell 2 _ rfl
  have cX_3 := X.cell 3 _ rfl
  have lX := X.lt
  have cX2_0 := X2.cell 0 _ rfl
  have cX2_1 := X2.cell 1 _ rfl
  have cX2_2 := X2.cell 2 _ rfl
  have cX2_3 := X2.cell 3 _ rfl
  have lX2 := X2.lt
  go_wp2_with fail
  refine (HT.out _).mono ?_
  rintro _ wx5 ⟨rfl, hb⟩
  clear cA0_0 cA0_1 cA0_2 cA0_3 lA0 cB0_0 cB0_1 cB0_2 cB0_3 lB0 cC0_0 cC0_1 cC0_2 cC0_3 lC0 cX_0 cX_1 cX_2 cX_3 lX cX2_0 cX2_1 cX2_2 cX2_3 lX2
  replace A0 := (A0.alloc _).next hb
  replace B0 := (B0.alloc _).next hb
  replace C0 := (C0.alloc _).next hb
  replace X := (X.alloc _).next hb
  replace X2 := (X2.alloc _).next hb
  have Y := (Box.new wx4 33 #[.int .i64 y1, .int .i64 y2, .int .i64 y3, .int .i64 y4]).next hb
  replace hB := below_step (below_box hB _) hb
  clear hb
  have cA0_0 := A0.cell 0 _ rfl
  have cA0_1 := A0.cell 1 _ rfl
  have cA0_2 := A0.cell 2 _ rfl
  have cA0_3 := A0.cell 3 _ rfl
  have lA0 := A0.lt
  have cB0_0 := B0.cell 0 _ rfl
  have cB0_1 := B0.cell 1 _ rfl
  have cB0_2 := B0.cell 2 _ rfl
  have cB0_3 := B0.cell 3 _ rfl
  have lB0 := B0.lt
  have cC0_0 := C0.cell 0 _ rfl
  have cC0_1 := C0.cell 1 _ rfl
  have cC0_2 := C0.cell 2 _ rfl
  have cC0_3 := C0.cell 3 _ rfl
  have lC0 := C0.lt
  have cX_0 := X.cell 0 _ rfl
  have cX_1 := X.cell 1 _ rfl
  have cX_2 := X.cell 2 _ rfl
  have cX_3 := X.cell 3 _ rfl
  have lX := X.lt
  have cX2_0 := X2.cell 0 _ rfl
  have cX2_1 := X2.cell 1 _ rfl
  have cX2_2 := X2.cell 2 _ rfl
  have cX2_3 := X2.cell 3 _ rfl
  have lX2 := X2.lt
  have cY_0 := Y.cell 0 _ rfl
  have cY_1 := Y.cell 1 _ rfl
  have cY_2 := Y.cell 2 _ rfl
  have cY_3 := Y.cell 3 _ rfl
  have lY := Y.lt
  go_wp2_with fail
  refine (HI.out _).mono ?_
  rintro _ wx6 ⟨rfl, hb⟩
  clear cA0_0 cA0_1 cA0_2 cA0_3 lA0 cB0_0 cB0_1 cB0_2 cB0_3 lB0 cC0_0 cC0_1 cC0_2 cC0_3 lC0 cX_0 cX_1 cX_2 cX_3 lX cX2_0 cX2_1 cX2_2 cX2_3 lX2 cY_0 cY_1 cY_2 cY_3 lY
  replace A0 := (A0.alloc _).next hb
  replace B0 := (B0.alloc _).next hb
  replace C0 := (C0.alloc _).next hb
  replace X := (X.alloc _).next hb
  replace X2 := (X2.alloc _).next hb
  replace Y := (Y.alloc _).next hb
  have T := (Box.new wx5 33 #[.int .i64 t1, .int .i64 t2, .int .i64 t3, .int .i64 t4]).next hb
  replace hB := below_step (below_box hB _) hb
  clear hb
  have cA0_0 := A0.cell 0 _ rfl
  have cA0_1 := A0.cell 1 _ rfl
  have cA0_2 := A0.cell 2 _ rfl
  have cA0_3 := A0.cell 3 _ rfl
  have lA0 := A0.lt
  have cB0_0 := B0.cell 0 _ rfl
  have cB0_1 := B0.cell 1 _ rfl
  have cB0_2 := B0.cell 2 _ rfl
  have cB0_3 := B0.cell 3 _ rfl
  have lB0 := B0.lt
  have cC0_0 := C0.cell 0 _ rfl
  have cC0_1 := C0.cell 1 _ rfl
  have cC0_2 := C0.cell 2 _ rfl
  have cC0_3 := C0.cell 3 _ rfl
  have lC0 := C0.lt
  have cX_0 := X.cell 0 _ rfl
  have cX_1 := X.cell 1 _ rfl
  have cX_2 := X.cell 2 _ rfl
  have cX_3 := X.cell 3 _ rfl
  have lX := X.lt
  have cX2_0 := X2.cell 0 _ rfl
  have cX2_1 := X2.cell 1 _ rfl
  have cX2_2 := X2.cell 2 _ rfl
  have cX2_3 := X2.cell 3 _ rfl
  have lX2 := X2.lt
  have cY_0 := Y.cell 0 _ rfl
  have cY_1 := Y.cell 1 _ rfl
  have cY_2 := Y.cell 2 _ rfl
  have cY_3 := Y.cell 3 _ rfl
  have lY := Y.lt
  have cT_0 := T.cell 0 _ rfl
  have cT_1 := T.cell 1 _ rfl
  have cT_2 := T.cell 2 _ rfl
  have cT_3 := T.cell 3 _ rfl
  have lT := T.lt
  go_upto_region 11 with fail
  clear cA0_0 cA0_1 cA0_2 cA0_3 lA0 cB0_0 cB0_1 cB0_2 cB0_3 lB0 cC0_0 cC0_1 cC0_2 cC0_3 lC0 cX_0 cX_1 cX_2 cX_3 lX cX2_0 cX2_1 cX2_2 cX2_3 lX2 cY_0 cY_1 cY_2 cY_3 lY cT_0 cT_1 cT_2 cT_3 lT
  have zA0 := A0.lt
  have zB0 := B0.lt
  have zC0 := C0.lt
  have zX := X.lt
  have zX2 := X2.lt
  have zY := Y.lt
  have zT := T.lt
  refine wp_forget (fun W => Box W w.heap.size 33 #[.int .i64 a1, .int .i64 a2, .int .i64 a3, .int .i64 a4] ∧ Box W (w.heap.size + 1) 33 #[.int .i64 b1, .int .i64 b2, .int .i64 b3, .int .i64 b4] ∧ Box W (w.heap.size + 2) 33 #[.int .i64 c1, .int .i64 c2, .int .i64 c3, .int .i64 c4] ∧ Box W wx1.heap.size 33 #[.int .i64 x1, .int .i64 x2, .int .i64 x3, .int .i64 x4] ∧ Box W wx2.heap.size 33 #[.int .i64 x1, .int .i64 x2, .int .i64 x3, .int .i64 x4] ∧ Box W wx4.heap.size 33 #[.int .i64 y1, .int .i64 y2, .int .i64 y3, .int .i64 y4] ∧ Box W wx5.heap.size 33 #[.int .i64 t1, .int .i64 t2, .int .i64 t3, .int .i64 t4] ∧ Box W (wx6.heap.size) 33 #[.int .i64 z1, .int .i64 z2, .int .i64 z3, .int .i64 z4] ∧ Below w.heap.size w W)
    ⟨(A0.alloc _), (B0.alloc _), (C0.alloc _), (X.alloc _), (X2.alloc _), (Y.alloc _), (T.alloc _), (Box.new wx6 33 #[.int .i64 z1, .int .i64 z2, .int .i64 z3, .int .i64 z4]), (below_box hB _)⟩ ?_
  clear A0 B0 C0 X X2 Y T hB
  rintro wx7 ⟨A0, B0, C0, X, X2, Y, T, Z, hB⟩
  have cA0_0 := A0.cell 0 _ rfl
  have cA0_1 := A0.cell 1 _ rfl
  have cA0_2 := A0.cell 2 _ rfl
  have cA0_3 := A0.cell 3 _ rfl
  have lA0 := A0.lt
  have cB0_0 := B0.cell 0 _ rfl
  have cB0_1 := B0.cell 1 _ rfl
  have cB0_2 := B0.cell 2 _ rfl
  have cB0_3 := B0.cell 3 _ rfl
  have lB0 := B0.lt
  have cC0_0 := C0.cell 0 _ rfl
  have cC0_1 := C0.cell 1 _ rfl
  have cC0_2 := C0.cell 2 _ rfl
  have cC0_3 := C0.cell 3 _ rfl
  have lC0 := C0.lt
  have cX_0 := X.cell 0 _ rfl
  have cX_1 := X.cell 1 _ rfl
  have cX_2 := X.cell 2 _ rfl
  have cX_3 := X.cell 3 _ rfl
  have lX := X.lt
  have cX2_0 := X2.cell 0 _ rfl
  have cX2_1 := X2.cell 1 _ rfl
  have cX2_2 := X2.cell 2 _ rfl
  have cX2_3 := X2.cell 3 _ rfl
  have lX2 := X2.lt
  have cY_0 := Y.cell 0 _ rfl
  have cY_1 := Y.cell 1 _ rfl
  have cY_2 := Y.cell 2 _ rfl
  have cY_3 := Y.cell 3 _ rfl
  have lY := Y.lt
  have cT_0 := T.cell 0 _ rfl
  have cT_1 := T.cell 1 _ rfl
  have cT_2 := T.cell 2 _ rfl
  have cT_3 := T.cell 3 _ rfl
  have lT := T.lt
  have cZ_0 := Z.cell 0 _ rfl
  have cZ_1 := Z.cell 1 _ rfl
  have cZ_2 := Z.cell 2 _ rfl
  have cZ_3 := Z.cell 3 _ rfl
  have lZ := Z.lt
  go_upto_region 14 with fail
  clear cA0_0 cA0_1 cA0_2 cA0_3 lA0 cB0_0 cB0_1 cB0_2 cB0_3 lB0 cC0_0 cC0_1 cC0_2 cC0_3 lC0 cX_0 cX_1 cX_2 cX_3 lX cX2_0 cX2_1 cX2_2 cX2_3 lX2 cY_0 cY_1 cY_2 cY_3 lY cT_0 cT_1 cT_2 cT_3 lT cZ_0 cZ_1 cZ_2 cZ_3 lZ
  clear A0 B0 C0 X X2 Y T Z
  have hle := hB.size
  have sg := Lib.hid (hs.out.next hB)
  go_upto_region 15 with (at_builtin; go_loud (refine wpList_append_seg _ rfl (.tmp 95) (.tmp 96) 38 rfl w.heap.size 33 i0 (.agg #[.int .i64 0, .int .i64 0, .int .i64 0, .int .i64 0]) 4 32 Try.underlying38 HI33.out hz0 hz1 hz2 rfl (by decide) (.slice none 0 0) 0 [] rfl ⟨rfl, .inl ⟨rfl, rfl⟩⟩ A n cap (uCell us) rfl sg.out (fun _ _ => rfl) (by unfold maxLen; omega) (by omega) hle (seg_none sg.out) ?_); intro v1 wa1 ho hg _)
  rw [Nat.zero_add, List.nil_append] at ho
  have hB1 : Below w.heap.size w wa1 := hB.trans (grown_below hg (fun k hk => by simp [Value.ownBlock] at hk) hle)
  have HO := Lib.hid ho
  clear ho hg sg hle hB
  have hle := hB1.size
  have sg := Lib.hid (hs'.out.next hB1)
  obtain ⟨_, _, _, _, _, hbk⟩ := own_seg HO.out
  have HBK := Lib.hid hbk
  clear hbk
  go_upto_region 16 with (at_builtin; go_loud (refine wpList_append_seg _ rfl (.tmp 98) (.tmp 99) 38 rfl w.heap.size 33 i0 (.agg #[.int .i64 0, .int .i64 0, .int .i64 0, .int .i64 0]) 4 32 Try.underlying38 HI33.out hz0 hz1 hz2 rfl (by decide) v1 n (segCells (uCell us) (n * 4)) rfl HO.out A' n' cap' (uCell vs) rfl sg.out (fun _ _ => rfl) (by unfold maxLen; omega) (by omega) hle (seg_none sg.out) ?_); intro v2 wa2 ho hg _)
  have hB : Below w.heap.size w wa2 := hB1.trans (grown_below hg HBK.out hle)
  obtain ⟨B, capB, rfl, sB, _, _⟩ := own_seg ho
  have SB := Lib.hid (sB.congr (fun k hk => uCells_app us vs n n' k hn.out hn'.out hk))
  clear ho hg sg hle hB1 HO HBK sB
  go_wp2_with fail
  refine (HS.out _ _ _ SB.out).mono ?_
  rintro _ wx8 ⟨rfl, hb⟩
  replace hB := below_step hB hb
  clear hb
  clear SB
  go_wp2_with fail
  refine (HP.out _ (hs.out.next (below_box hB _))).mono ?_
  rintro _ wx9 ⟨rfl, hb⟩
  have S := (Box.new wx8 33 #[.int .i64 s1, .int .i64 s2, .int .i64 s3, .int .i64 s4]).next hb
  replace hB := below_step (below_box hB _) hb
  clear hb
  have cS_0 := S.cell 0 _ rfl
  have cS_1 := S.cell 1 _ rfl
  have cS_2 := S.cell 2 _ rfl
  have cS_3 := S.cell 3 _ rfl
  have lS := S.lt
  go_wp2_with fail
  refine (HQ.out _ (hs'.out.next (below_box hB _))).mono ?_
  rintro _ wx10 ⟨rfl, hb⟩
  clear cS_0 cS_1 cS_2 cS_3 lS
  replace S := (S.alloc _).next hb
  have P := (Box.new wx9 33 #[.int .i64 p1, .int .i64 p2, .int .i64 p3, .int .i64 p4]).next hb
  replace hB := below_step (below_box hB _) hb
  clear hb
  have cS_0 := S.cell 0 _ rfl
  have cS_1 := S.cell 1 _ rfl
  have cS_2 := S.cell 2 _ rfl
  have cS_3 := S.cell 3 _ rfl
  have lS := S.lt
  have cP_0 := P.cell 0 _ rfl
  have cP_1 := P.cell 1 _ rfl
  have cP_2 := P.cell 2 _ rfl
  have cP_3 := P.cell 3 _ rfl
  have lP := P.lt
  go_wp2_with fail
  refine (HR.out _).mono ?_
  rintro _ wx11 ⟨rfl, hb⟩
  clear cS_0 cS_1 cS_2 cS_3 lS cP_0 cP_1 cP_2 cP_3 lP
  replace S := (S.alloc _).next hb
  replace P := (P.alloc _).next hb
  have Q := (Box.new wx10 33 #[.int .i64 q1, .int .i64 q2, .int .i64 q3, .int .i64 q4]).next hb
  replace hB := below_step (below_box hB _) hb
  clear hb
  have cS_0 := S.cell 0 _ rfl
  have cS_1 := S.cell 1 _ rfl
  have cS_2 := S.cell 2 _ rfl
  have cS_3 := S.cell 3 _ rfl
  have lS := S.lt
  have cP_0 := P.cell 0 _ rfl
  have cP_1 := P.cell 1 _ rfl
  have cP_2 := P.cell 2 _ rfl
  have cP_3 := P.cell 3 _ rfl
  have lP := P.lt
  have cQ_0 := Q.cell 0 _ rfl
  have cQ_1 := Q.cell 1 _ rfl
  have cQ_2 := Q.cell 2 _ rfl
  have cQ_3 := Q.cell 3 _ rfl
  have lQ := Q.lt
  go_wp2_with fail
  refine (awake_any _).mono ?_
  rintro _ wx12 ⟨rfl, hb⟩
  clear cS_0 cS_1 cS_2 cS_3 lS cP_0 cP_1 cP_2 cP_3 lP cQ_0 cQ_1 cQ_2 cQ_3 lQ
  replace S := (S.alloc _).next hb
  replace P := (P.alloc _).next hb
  replace Q := (Q.alloc _).next hb
  have R := (Box.new wx11 33 #[.int .i64 s1, .int .i64 s2, .int .i64 s3, .int .i64 s4]).next hb
  replace hB := below_step (below_box hB _) hb
  clear hb
  go_wp2
  go_ret
  exact ⟨rfl, hB⟩

end Go.Proofs.Ytdlkpohjeedbiaa
