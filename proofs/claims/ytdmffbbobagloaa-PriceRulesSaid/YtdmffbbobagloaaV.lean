/- PriceRules: the walk. -/
import Derived.Test.YtdmffbbobagloaaU
namespace Go.Proofs.Ytdmffbbobagloaa
open Go.ChangeShapes Go.WideShapes Go.ChangeAt Go.RowKit
attribute [local go_sem] ownAt ownUpon mixAt mixUpon

set_option maxHeartbeats 2000000 in
set_option maxRecDepth 100000 in
theorem pr_out (fi fu iv : Int) (A : Option Addr) (n cap : Nat) (ts : List T2) (u1 u2 u3 u4 units : Int) (w : World) (_hs : Hid (Seg w A (n * 2) (tCell ts))) (h : 100 < (n : Int)) : Calls Try.prog 3 #[.agg #[.int .i64 fi, .int .i64 fu, .int .i64 iv, .slice A n cap], .agg #[.int .i64 u1, .int .i64 u2, .int .i64 u3, .int .i64 u4], .int .i64 units] w fun e w' => e = .returned (.bool true) ∧ Below w.heap.size w w' := by
  go_enter Try.func3, Try.ntmps3
  go_wp2_with fail
  refine (awake_any _).mono ?_
  rintro _ wx1 ⟨rfl, hb⟩
  have P := ((Box.new w 24 #[.int .i64 fi, .int .i64 fu, .int .i64 iv, .slice A n cap]).alloc _).next hb
  have U := (Box.new ((w).alloc (.cells #[.int .i64 fi, .int .i64 fu, .int .i64 iv, .slice A n cap] 24)) 26 #[.int .i64 u1, .int .i64 u2, .int .i64 u3, .int .i64 u4]).next hb
  simp only [World.size_alloc] at U
  have hB := below_step (below_box (below_box (Below.refl _ w) _) _) hb
  clear hb
  go_wp2
  go_ret
  exact ⟨rfl, hB⟩
set_option maxHeartbeats 2000000 in
set_option maxRecDepth 100000 in
theorem pr_main (fi fu iv : Int) (A : Option Addr) (n cap : Nat) (ts : List T2) (u1 u2 u3 u4 units a b e0 x y j c : Int) (l : List Int) (w : World) (hs : Hid (Seg w A (n * 2) (tCell ts))) (HB : Hid (∀ W, Seg W A (n * 2) (tCell ts) → Calls Try.prog 9 #[.agg #[.int .i64 fi, .int .i64 fu, .int .i64 iv, .slice A n cap], .agg #[.int .i64 u1, .int .i64 u2, .int .i64 u3, .int .i64 u4]] W fun e w' => e = .returned (.tuple #[.int .i64 a, .int .i64 b, .int .i64 e0]) ∧ Below W.heap.size W w')) (HRB : Hid (∀ W, Seg W A (n * 2) (tCell ts) → Calls Try.prog 10 #[.agg #[.int .i64 fi, .int .i64 fu, .int .i64 iv, .slice A n cap], .agg #[.int .i64 u1, .int .i64 u2, .int .i64 u3, .int .i64 u4]] W fun e w' => e = .returned (.tuple #[.int .i64 a, .int .i64 b, .int .i64 e0]) ∧ Below W.heap.size W w')) (HS : Hid (∀ W, Seg W A (n * 2) (tCell ts) → Calls Try.prog 11 #[.agg #[.int .i64 fi, .int .i64 fu, .int .i64 iv, .slice A n cap], .int .i64 units] W (LOut W l x))) (HRS : Hid (∀ W, Seg W A (n * 2) (tCell ts) → Calls Try.prog 12 #[.agg #[.int .i64 fi, .int .i64 fu, .int .i64 iv, .slice A n cap], .int .i64 units] W (LOut W l x))) (HM : Hid (∀ W, Seg W A (n * 2) (tCell ts) → Calls Try.prog 13 #[.agg #[.int .i64 fi, .int .i64 fu, .int .i64 iv, .slice A n cap], .int .i64 units] W fun e w' => e = .returned (.tuple #[.int .i64 y, .int .i64 j]) ∧ Below W.heap.size W w')) (HRM : Hid (∀ W, Seg W A (n * 2) (tCell ts) → Calls Try.prog 14 #[.agg #[.int .i64 fi, .int .i64 fu, .int .i64 iv, .slice A n cap], .int .i64 units] W fun e w' => e = .returned (.tuple #[.int .i64 y, .int .i64 j]) ∧ Below W.heap.size W w')) (HC : Hid (∀ W, Seg W A (n * 2) (tCell ts) → Calls Try.prog 15 #[.agg #[.int .i64 fi, .int .i64 fu, .int .i64 iv, .slice A n cap]] W fun e w' => e = .returned (.int .i64 c) ∧ Below W.heap.size W w')) (HRC : Hid (∀ W, Seg W A (n * 2) (tCell ts) → Calls Try.prog 16 #[.agg #[.int .i64 fi, .int .i64 fu, .int .i64 iv, .slice A n cap]] W fun e w' => e = .returned (.int .i64 c) ∧ Below W.heap.size W w')) (hl : l.length ≤ 8) (h : (n : Int) ≤ 100) : Calls Try.prog 3 #[.agg #[.int .i64 fi, .int .i64 fu, .int .i64 iv, .slice A n cap], .agg #[.int .i64 u1, .int .i64 u2, .int .i64 u3, .int .i64 u4], .int .i64 units] w fun e w' => e = .returned (.bool true) ∧ Below w.heap.size w w' := by
  go_enter Try.func3, Try.ntmps3
  go_wp2_with fail
  refine (HB.out _ (hs.out.next (below_box (below_box (Below.refl _ _) _) _))).mono ?_
  rintro _ wx1 ⟨rfl, hb⟩
  have P := ((Box.new w 24 #[.int .i64 fi, .int .i64 fu, .int .i64 iv, .slice A n cap]).alloc _).next hb
  have U := (Box.new ((w).alloc (.cells #[.int .i64 fi, .int .i64 fu, .int .i64 iv, .slice A n cap] 24)) 26 #[.int .i64 u1, .int .i64 u2, .int .i64 u3, .int .i64 u4]).next hb
  simp only [World.size_alloc] at U
  have hB := below_step (below_box (below_box (Below.refl _ w) _) _) hb
  clear hb
  have cP_0 := P.cell 0 _ rfl
  have cP_1 := P.cell 1 _ rfl
  have cP_2 := P.cell 2 _ rfl
  have cP_3 := P.cell 3 _ rfl
  have lP := P.lt
  have cU_0 := U.cell 0 _ rfl
  have cU_1 := U.cell 1 _ rfl
  have cU_2 := U.cell 2 _ rfl
  have cU_3 := U.cell 3 _ rfl
  have lU := U.lt
  go_wp2_with fail
  refine (HRB.out _ (hs.out.next hB)).mono ?_
  rintro _ wx2 ⟨rfl, hb⟩
  clear cP_0 cP_1 cP_2 cP_3 lP cU_0 cU_1 cU_2 cU_3 lU
  replace P := P.next hb
  replace U := U.next hb
  replace hB := below_step hB hb
  clear hb
  have cP_0 := P.cell 0 _ rfl
  have cP_1 := P.cell 1 _ rfl
  have cP_2 := P.cell 2 _ rfl
  have cP_3 := P.cell 3 _ rfl
  have lP := P.lt
  have cU_0 := U.cell 0 _ rfl
  have cU_1 := U.cell 1 _ rfl
  have cU_2 := U.cell 2 _ rfl
  have cU_3 := U.cell 3 _ rfl
  have lU := U.lt
  go_wp2_with fail
  refine (HS.out _ (hs.out.next hB)).mono ?_
  intro e0 wx3 hl
  obtain ⟨AL, capL, rfl, hpL, hAL, hb⟩ := lout_seg hl
  clear hl
  clear cP_0 cP_1 cP_2 cP_3 lP cU_0 cU_1 cU_2 cU_3 lU
  replace P := P.next hb
  replace U := U.next hb
  replace hB := below_step hB hb
  clear hb
  have cP_0 := P.cell 0 _ rfl
  have cP_1 := P.cell 1 _ rfl
  have cP_2 := P.cell 2 _ rfl
  have cP_3 := P.cell 3 _ rfl
  have lP := P.lt
  have cU_0 := U.cell 0 _ rfl
  have cU_1 := U.cell 1 _ rfl
  have cU_2 := U.cell 2 _ rfl
  have cU_3 := U.cell 3 _ rfl
  have lU := U.lt
  go_wp2_with fail
  refine (HRS.out _ (hs.out.next hB)).mono ?_
  intro e0 wx4 hl
  obtain ⟨AM, capM, rfl, hpM, hAM, hb⟩ := lout_seg hl
  clear hl
  clear cP_0 cP_1 cP_2 cP_3 lP cU_0 cU_1 cU_2 cU_3 lU
  replace P := P.next hb
  replace U := U.next hb
  replace hpL := hpL.next hb
  replace hB := below_step hB hb
  clear hb
  have cP_0 := P.cell 0 _ rfl
  have cP_1 := P.cell 1 _ rfl
  have cP_2 := P.cell 2 _ rfl
  have cP_3 := P.cell 3 _ rfl
  have lP := P.lt
  have cU_0 := U.cell 0 _ rfl
  have cU_1 := U.cell 1 _ rfl
  have cU_2 := U.cell 2 _ rfl
  have cU_3 := U.cell 3 _ rfl
  have lU := U.lt
  go_wp2_with fail
  refine (HM.out _ (hs.out.next hB)).mono ?_
  rintro _ wx5 ⟨rfl, hb⟩
  clear cP_0 cP_1 cP_2 cP_3 lP cU_0 cU_1 cU_2 cU_3 lU
  replace P := P.next hb
  replace U := U.next hb
  replace hpL := hpL.next hb
  replace hpM := hpM.next hb
  replace hB := below_step hB hb
  clear hb
  have cP_0 := P.cell 0 _ rfl
  have cP_1 := P.cell 1 _ rfl
  have cP_2 := P.cell 2 _ rfl
  have cP_3 := P.cell 3 _ rfl
  have lP := P.lt
  have cU_0 := U.cell 0 _ rfl
  have cU_1 := U.cell 1 _ rfl
  have cU_2 := U.cell 2 _ rfl
  have cU_3 := U.cell 3 _ rfl
  have lU := U.lt
  go_wp2_with fail
  refine (HRM.out _ (hs.out.next hB)).mono ?_
  rintro _ wx6 ⟨rfl, hb⟩
  clear cP_0 cP_1 cP_2 cP_3 lP cU_0 cU_1 cU_2 cU_3 lU
  replace P := P.next hb
  replace U := U.next hb
  replace hpL := hpL.next hb
  replace hpM := hpM.next hb
  replace hB := below_step hB hb
  clear hb
  have cP_0 := P.cell 0 _ rfl
  have cP_1 := P.cell 1 _ rfl
  have cP_2 := P.cell 2 _ rfl
  have cP_3 := P.cell 3 _ rfl
  have lP := P.lt
  have cU_0 := U.cell 0 _ rfl
  have cU_1 := U.cell 1 _ rfl
  have cU_2 := U.cell 2 _ rfl
  have cU_3 := U.cell 3 _ rfl
  have lU := U.lt
  go_upto_region 8 with fail
  clear cP_0 cP_1 cP_2 cP_3 lP cU_0 cU_1 cU_2 cU_3 lU
  have iP_0 : ∀ i : Idx wx6, _ := fun i => (P.idx i).cell 0 _ rfl
  have iP_1 : ∀ i : Idx wx6, _ := fun i => (P.idx i).cell 1 _ rfl
  have iP_2 : ∀ i : Idx wx6, _ := fun i => (P.idx i).cell 2 _ rfl
  have iP_3 : ∀ i : Idx wx6, _ := fun i => (P.idx i).cell 3 _ rfl
  have iU_0 : ∀ i : Idx wx6, _ := fun i => (U.idx i).cell 0 _ rfl
  have iU_1 : ∀ i : Idx wx6, _ := fun i => (U.idx i).cell 1 _ rfl
  have iU_2 : ∀ i : Idx wx6, _ := fun i => (U.idx i).cell 2 _ rfl
  have iU_3 : ∀ i : Idx wx6, _ := fun i => (U.idx i).cell 3 _ rfl
  refine wp_region_mix [0, 0, 0, 0, 0, 0, 0, 0, 0, 0, 0, 0, 0, 0, 0, 0, 0, 0, 0, 0, 0, 0, 0, 0, 0, 0, 0, 0, 0, 0, 0, 0, 0, 0, 0, 0, 0, 0, 0, 0, 0, 0, 0, 0] (by kernel_rfl) (by kernel_rfl) ?_
  iterate 44 (refine wpMix_calm (fun K hK => ?_); go_simp; first | (refine hK _ ?_; clear hK K) | (apply Exists.intro; refine ⟨fun _ => ?_, hK _ ?_⟩; first | (go_at_call 15; exact HC.out _ (hs.out.next (below_step hB (Idx.below _)))) | (go_at_call 16; exact HRC.out _ (hs.out.next (below_step hB (Idx.below _)))) | (go_at_call 17; exact same_yes _ _ _ _ _ _ _ (Lib.hid (hpL.next (Idx.below _))) (Lib.hid (hpM.next (Idx.below _))) (by omega)) | (go_at_call 8; exact awake_any _); clear hK K))
  refine wpMix_nil (fun w33 hb => ?_)
  go_wp2
  go_ret
  exact ⟨rfl, below_step hB hb⟩
theorem spl_len (fi fu iv : Int) (ts : List T2) (units : Int) : (splV fi fu iv ts units).l.length ≤ 8 := by
  unfold splV
  split
  · next hc =>
    obtain ⟨_, _, _, ⟨_, _⟩, _⟩ := chkV_good fi fu iv ts hc
    split
    · rw [partL_len]; omega
    · simp
  · simp
theorem priceRules_walk (fi fu iv : Int) (A : Option Addr) (n cap : Nat) (ts : List T2) (u1 u2 u3 u4 units : Int) (w : World) (_ : (Lit.int .i64 fi).wf = true) (_ : (Lit.int .i64 fu).wf = true) (_ : (Lit.int .i64 iv).wf = true) (_ : (Lit.int .i64 u1).wf = true) (_ : (Lit.int .i64 u2).wf = true) (_ : (Lit.int .i64 u3).wf = true) (_ : (Lit.int .i64 u4).wf = true) (_ : (Lit.int .i64 units).wf = true) (HZ : ts.length = n ∧ Seg w A (n * 2) (tCell ts) ∧ n ≤ maxLen) : Calls Try.prog 3 #[.agg #[.int .i64 fi, .int .i64 fu, .int .i64 iv, .slice A n cap], .agg #[.int .i64 u1, .int .i64 u2, .int .i64 u3, .int .i64 u4], .int .i64 units] w fun e w' => e = .returned (.bool true) ∧ Below w.heap.size w w' := by
  obtain ⟨hn, hs0, _⟩ := HZ
  have hs := Lib.hid hs0
  by_cases h : 100 < n
  · exact pr_out fi fu iv A n cap ts u1 u2 u3 u4 units w hs (by omega)
  · exact pr_main fi fu iv A n cap ts u1 u2 u3 u4 units _ _ _ _ _ _ _ _ w hs (fun W k => bill_any fi fu iv A n cap ts u1 u2 u3 u4 W hn k) (fun W k => rbill_any fi fu iv A n cap ts u1 u2 u3 u4 W hn k) (fun W k => spl_any fi fu iv A n cap ts units W hn k) (fun W k => rspl_any fi fu iv A n cap ts units W hn k)
      (fun W k => marg_any fi fu iv A n cap ts units W hn k) (fun W k => rmarg_any fi fu iv A n cap ts units W hn k) (fun W k => chk_any fi fu iv A n cap ts W hn k) (fun W k => rchk_any fi fu iv A n cap ts W hn k) (spl_len fi fu iv ts units) (by omega)

end Go.Proofs.Ytdmffbbobagloaa
