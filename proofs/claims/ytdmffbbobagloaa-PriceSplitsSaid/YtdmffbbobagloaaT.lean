/- The law's own helpers of layer 53 (price): same and awake. -/
import Derived.Test.YtdmffbbobagloaaO
namespace Go.Proofs.Ytdmffbbobagloaa
open Go.ChangeShapes Go.WideShapes Go.ChangeAt Go.RowKit
attribute [local go_sem] ownAt ownUpon mixAt mixUpon

def SameRel (w : World) (n : Nat) (i : Value) (wr : World) : Prop := ∃ k : Nat, i = .int .i64 k ∧ k ≤ n ∧ Below w.heap.size w wr
set_option maxHeartbeats 1000000 in
theorem same_yes (A B : Option Addr) (n ca cb : Nat) (l : List Int) (w : World) (hA : Hid (Seg w A n (ints l))) (hB : Hid (Seg w B n (ints l))) (hn : n ≤ 1000) : Calls Try.prog 17 #[.slice A n ca, .slice B n cb] w fun e w' => e = .returned (.bool true) ∧ Below w.heap.size w w' := by
  go_enter Try.func17, Try.ntmps17
  go_wp2
  go_loopw [13] (SameRel w n) (fun i _ => n - (intOf i).toNat)
  case atStart => exact ⟨0, rfl, by omega, Below.refl _ _⟩
  case round =>
    obtain ⟨k, rfl, hk, hb⟩ := hrel
    by_cases hlt : k < n
    · obtain ⟨b1, o1, rfl, hb1, q1⟩ := hA.out k hlt
      obtain ⟨b2, o2, rfl, hb2, q2⟩ := hB.out k hlt
      unfold ints at q1 q2
      generalize l.getD k 0 = x at *
      have i1 : ∀ i : Idx wr, i.at.cell? ⟨b1, o1 + k, none⟩ = some (.int .i64 x) := fun i => (i.below.cell (p := ⟨b1, o1 + k, none⟩) (Nat.lt_of_lt_of_le hb1 hb.size)).trans ((hb.cell (p := ⟨b1, o1 + k, none⟩) hb1).trans q1)
      have i2 : ∀ i : Idx wr, i.at.cell? ⟨b2, o2 + k, none⟩ = some (.int .i64 x) := fun i => (i.below.cell (p := ⟨b2, o2 + k, none⟩) (Nat.lt_of_lt_of_le hb2 hb.size)).trans ((hb.cell (p := ⟨b2, o2 + k, none⟩) hb2).trans q2)
      clear q1 q2
      go_upto_region 6 with fail
      refine wp_region_mix [0, 0, 0, 0, 0, 0, 0, 0, 0] (by kernel_rfl) (by kernel_rfl) ?_
      iterate 9 (refine wpMix_calm (fun K hK => ?_); go_simp; refine hK _ ?_; clear hK K)
      refine wpMix_nil (fun w33 hb3 => ?_)
      replace hb := below_step hb hb3
      clear hb3 i1 i2
      go_wp2
      go_roundw
      case rel => exact ⟨k + 1, by go_num, by omega, hb⟩
      case measure => simp [intOf]; omega
    · obtain rfl : k = n := by omega
      go_wp2
      go_ret
      exact ⟨rfl, hb⟩
def awT : List T2 := [⟨100, 3⟩, ⟨0, 2⟩]
theorem awT_seg {w : World} {b : Nat} (h : Box w b 43 #[.int .i64 100, .int .i64 3, .int .i64 0, .int .i64 2]) : Seg w (some ⟨b, 0, none⟩) (2 * 2) (tCell awT) := fun k hk => ⟨b, 0, rfl, h.lt, h.cell (0 + k) _ (by
  have : k = 0 ∨ k = 1 ∨ k = 2 ∨ k = 3 := by omega
  rcases this with rfl | rfl | rfl | rfl <;> rfl)⟩
theorem aw_a1 (w : World) (b : Nat) (h : Box w b 43 #[.int .i64 100, .int .i64 3, .int .i64 0, .int .i64 2]) : Calls Try.prog 18 #[.agg #[.int .i64 0, .int .i64 10, .int .i64 0, .slice (some ⟨b, 0, none⟩) 2 2], .agg #[.int .i64 0, .int .i64 0, .int .i64 0, .int .i64 10]] w fun e w' => e = .returned (.tuple #[.int .i64 0, .int .i64 0]) ∧ Below w.heap.size w w' := amt_any 0 10 0 _ 2 2 awT 0 0 0 10 w rfl (awT_seg h)
theorem aw_a2 (w : World) (b : Nat) (h : Box w b 43 #[.int .i64 100, .int .i64 3, .int .i64 0, .int .i64 2]) : Calls Try.prog 18 #[.agg #[.int .i64 0, .int .i64 10, .int .i64 0, .slice (some ⟨b, 0, none⟩) 2 2], .agg #[.int .i64 0, .int .i64 0, .int .i64 0, .int .i64 111]] w fun e w' => e = .returned (.tuple #[.int .i64 302, .int .i64 0]) ∧ Below w.heap.size w w' := amt_any 0 10 0 _ 2 2 awT 0 0 0 111 w rfl (awT_seg h)
theorem aw_a3 (w : World) (b : Nat) (h : Box w b 43 #[.int .i64 100, .int .i64 3, .int .i64 0, .int .i64 2]) : Calls Try.prog 13 #[.agg #[.int .i64 0, .int .i64 10, .int .i64 0, .slice (some ⟨b, 0, none⟩) 2 2], .int .i64 100] w fun e w' => e = .returned (.tuple #[.int .i64 2, .int .i64 0]) ∧ Below w.heap.size w w' := marg_any 0 10 0 _ 2 2 awT 100 w rfl (awT_seg h)
theorem aw_a4 (w : World) (b : Nat) (h : Box w b 43 #[.int .i64 100, .int .i64 3, .int .i64 0, .int .i64 2]) : Calls Try.prog 13 #[.agg #[.int .i64 0, .int .i64 10, .int .i64 0, .slice (some ⟨b, 0, none⟩) 2 2], .int .i64 99] w fun e w' => e = .returned (.tuple #[.int .i64 3, .int .i64 0]) ∧ Below w.heap.size w w' := marg_any 0 10 0 _ 2 2 awT 99 w rfl (awT_seg h)
theorem aw_a5 (w : World) (b : Nat) (h : Box w b 43 #[.int .i64 100, .int .i64 3, .int .i64 0, .int .i64 2]) : Calls Try.prog 11 #[.agg #[.int .i64 0, .int .i64 10, .int .i64 0, .slice (some ⟨b, 0, none⟩) 2 2], .int .i64 150] w (LOut w [100, 50] 0) := spl_any 0 10 0 _ 2 2 awT 150 w rfl (awT_seg h)
theorem aw_a6 (w : World) : Calls Try.prog 15 #[.agg #[.int .i64 0, .int .i64 0, .int .i64 0, .slice none 0 0]] w fun e w' => e = .returned (.int .i64 3) ∧ Below w.heap.size w w' := chk_any 0 0 0 none 0 0 [] w rfl (fun k hk => absurd hk (by omega))
set_option maxHeartbeats 1000000 in
theorem awake_any (w : World) : Calls Try.prog 8 #[] w fun e w' => e = .returned (.bool true) ∧ Below w.heap.size w w' := by
  go_enter Try.func8, Try.ntmps8
  go_wp2_with fail
  refine (aw_a1 _ _ ((Box.new w 43 #[.int .i64 100, .int .i64 3, .int .i64 0, .int .i64 2]).alloc _)).mono ?_
  rintro _ wx1 ⟨rfl, hb⟩
  have T := ((Box.new w 43 #[.int .i64 100, .int .i64 3, .int .i64 0, .int .i64 2]).alloc _).next hb
  have P := (Box.new ((w).alloc (.cells #[.int .i64 100, .int .i64 3, .int .i64 0, .int .i64 2] 43)) 24 #[.int .i64 0, .int .i64 10, .int .i64 0, .slice (some ⟨w.heap.size, 0, none⟩) 2 2]).next hb
  simp only [World.size_alloc] at P
  have hB := below_step (below_box (below_box (Below.refl _ w) _) _) hb
  clear hb
  have cT_0 := T.cell 0 _ rfl
  have cT_1 := T.cell 1 _ rfl
  have cT_2 := T.cell 2 _ rfl
  have cT_3 := T.cell 3 _ rfl
  have lT := T.lt
  have cP_0 := P.cell 0 _ rfl
  have cP_1 := P.cell 1 _ rfl
  have cP_2 := P.cell 2 _ rfl
  have cP_3 := P.cell 3 _ rfl
  have lP := P.lt
  go_wp2_with fail
  refine (aw_a2 _ _ T).mono ?_
  rintro _ wx2 ⟨rfl, hb⟩
  clear cT_0 cT_1 cT_2 cT_3 lT cP_0 cP_1 cP_2 cP_3 lP
  replace T := T.next hb
  replace P := P.next hb
  replace hB := below_step hB hb
  clear hb
  have cT_0 := T.cell 0 _ rfl
  have cT_1 := T.cell 1 _ rfl
  have cT_2 := T.cell 2 _ rfl
  have cT_3 := T.cell 3 _ rfl
  have lT := T.lt
  have cP_0 := P.cell 0 _ rfl
  have cP_1 := P.cell 1 _ rfl
  have cP_2 := P.cell 2 _ rfl
  have cP_3 := P.cell 3 _ rfl
  have lP := P.lt
  go_wp2_with fail
  refine (aw_a3 _ _ T).mono ?_
  rintro _ wx3 ⟨rfl, hb⟩
  clear cT_0 cT_1 cT_2 cT_3 lT cP_0 cP_1 cP_2 cP_3 lP
  replace T := T.next hb
  replace P := P.next hb
  replace hB := below_step hB hb
  clear hb
  have cT_0 := T.cell 0 _ rfl
  have cT_1 := T.cell 1 _ rfl
  have cT_2 := T.cell 2 _ rfl
  have cT_3 := T.cell 3 _ rfl
  have lT := T.lt
  have cP_0 := P.cell 0 _ rfl
  have cP_1 := P.cell 1 _ rfl
  have cP_2 := P.cell 2 _ rfl
  have cP_3 := P.cell 3 _ rfl
  have lP := P.lt
  go_wp2_with fail
  refine (aw_a4 _ _ T).mono ?_
  rintro _ wx4 ⟨rfl, hb⟩
  clear cT_0 cT_1 cT_2 cT_3 lT cP_0 cP_1 cP_2 cP_3 lP
  replace T := T.next hb
  replace P := P.next hb
  replace hB := below_step hB hb
  clear hb
  have cT_0 := T.cell 0 _ rfl
  have cT_1 := T.cell 1 _ rfl
  have cT_2 := T.cell 2 _ rfl
  have cT_3 := T.cell 3 _ rfl
  have lT := T.lt
  have cP_0 := P.cell 0 _ rfl
  have cP_1 := P.cell 1 _ rfl
  have cP_2 := P.cell 2 _ rfl
  have cP_3 := P.cell 3 _ rfl
  have lP := P.lt
  go_wp2_with fail
  refine (aw_a5 _ _ T).mono ?_
  intro e0 wx5 hl
  obtain ⟨A2, cap2, rfl, hp, _, hb⟩ := lout_seg hl
  clear hl
  obtain ⟨b2, o2, rfl, hb2, c0⟩ := hp 0 (by decide)
  obtain ⟨b3, o3, he, _, c1⟩ := hp 1 (by decide)
  obtain ⟨rfl, rfl⟩ : b2 = b3 ∧ o2 = o3 := by injection he with h; injection h with h1 h2; exact ⟨h1, h2⟩
  clear he hp
  clear cT_0 cT_1 cT_2 cT_3 lT cP_0 cP_1 cP_2 cP_3 lP
  replace T := T.next hb
  replace P := P.next hb
  replace hB := below_step hB hb
  clear hb
  replace c0 : wx5.cell? ⟨b2, o2, none⟩ = some (.int .i64 100) := c0
  replace c1 : wx5.cell? ⟨b2, o2 + 1, none⟩ = some (.int .i64 50) := c1
  clear T P
  go_wp2_with fail
  refine (aw_a6 _).mono ?_
  rintro _ wx5 ⟨rfl, hb⟩
  replace hB := below_step hB hb
  clear hb
  go_wp2
  go_ret
  exact ⟨rfl, hB⟩

end Go.Proofs.Ytdmffbbobagloaa
