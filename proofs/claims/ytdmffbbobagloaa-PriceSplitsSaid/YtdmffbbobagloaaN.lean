/- Amount of layer 53 (price). -/
import Derived.Test.YtdmffbbobagloaaS
namespace Go.Proofs.Ytdmffbbobagloaa
open Go.ChangeShapes Go.WideShapes Go.ChangeAt Go.RowKit
attribute [local go_sem] ownAt ownUpon mixAt mixUpon

def AmtRel (fi fu iv : Int) (A : Option Addr) (n cap : Nat) (ts : List T2) (b base : Int) (gS gO : Nat) (w : World) (i f : Value) (wr : World) : Prop :=
  ∃ (k : Nat) (s : Int), i = .int .i64 k ∧ f = .bool (decide (base + sumP ts b k ≤ 1000000000000)) ∧ k ≤ n ∧ (base + sumP ts b k ≤ 1000000000000 → s = base + sumP ts b k) ∧ Box wr w.heap.size 24 #[.int .i64 fi, .int .i64 fu, .int .i64 iv, .slice A n cap] ∧ Box wr gS 51 #[.int .u64 s] ∧ Box wr gO 47 (partArr ts b n) ∧ Below w.heap.size w wr
set_option maxHeartbeats 1000000 in
theorem amt_0 (fi fu iv : Int) (A : Option Addr) (n cap : Nat) (ts : List T2) (u1 u2 u3 u4 a b x : Int) (w : World) (hs : Hid (Seg w A (n * 2) (tCell ts))) (HC : Hid (∀ W, Seg W A (n * 2) (tCell ts) → Calls Try.prog 9 #[.agg #[.int .i64 fi, .int .i64 fu, .int .i64 iv, .slice A n cap], .agg #[.int .i64 u1, .int .i64 u2, .int .i64 u3, .int .i64 u4]] W fun e w' => e = .returned (.tuple #[.int .i64 a, .int .i64 b, .int .i64 x]) ∧ Below W.heap.size W w')) (hx : (x != 0) = true) : Calls Try.prog 18 #[.agg #[.int .i64 fi, .int .i64 fu, .int .i64 iv, .slice A n cap], .agg #[.int .i64 u1, .int .i64 u2, .int .i64 u3, .int .i64 u4]] w fun e w' => e = .returned (.tuple #[.int .i64 0, .int .i64 x]) ∧ Below w.heap.size w w' := by
  go_enter Try.func18, Try.ntmps18
  go_wp2_with fail
  refine (HC.out _ (hs.out.next (below_box (below_box (Below.refl _ _) _) _))).mono ?_
  rintro _ wx1 ⟨rfl, hb⟩
  have P := ((Box.new w 24 #[.int .i64 fi, .int .i64 fu, .int .i64 iv, .slice A n cap]).alloc _).next hb
  have U := (Box.new ((w).alloc (.cells #[.int .i64 fi, .int .i64 fu, .int .i64 iv, .slice A n cap] 24)) 26 #[.int .i64 u1, .int .i64 u2, .int .i64 u3, .int .i64 u4]).next hb
  simp only [World.size_alloc] at U
  have hB := below_step (below_box (below_box (Below.refl _ w) _) _) hb
  clear hb
  have cP_0 := P.cell 0 _ rfl
  have cP_1 := P.cell 1 _ rfl
  have cP_2 := P.cell 2 _ rfl
  have cP_3 := P.cell 3 _ rfl
  have lP := P.lt
  have cU_0 := U.cell 0 _ rfl
  have cU_1 := U.cell 1 _ rfl
  have cU_2 := U.cell 2 _ rfl
  have cU_3 := U.cell 3 _ rfl
  have lU := U.lt
  go_wp2
  go_ret2
  exact ⟨rfl, hB⟩
set_option maxHeartbeats 4000000 in
theorem amt_1 (fi fu iv : Int) (A : Option Addr) (n cap : Nat) (ts : List T2) (u1 u2 u3 u4 a b base rv re : Int) (w : World) (hn : ts.length = n) (hs : Hid (Seg w A (n * 2) (tCell ts))) (HC : Hid (∀ W, Seg W A (n * 2) (tCell ts) → Calls Try.prog 9 #[.agg #[.int .i64 fi, .int .i64 fu, .int .i64 iv, .slice A n cap], .agg #[.int .i64 u1, .int .i64 u2, .int .i64 u3, .int .i64 u4]] W fun e w' => e = .returned (.tuple #[.int .i64 a, .int .i64 b, .int .i64 0]) ∧ Below W.heap.size W w')) (HS : Hid (∀ W, Seg W A (n * 2) (tCell ts) → Calls Try.prog 23 #[.agg #[.int .i64 fi, .int .i64 fu, .int .i64 iv, .slice A n cap], .int .i64 b] W fun e w' => e = .returned (.agg #[.int .i64 (pI ts b n 0), .int .i64 (pI ts b n 1), .int .i64 (pI ts b n 2), .int .i64 (pI ts b n 3), .int .i64 (pI ts b n 4), .int .i64 (pI ts b n 5), .int .i64 (pI ts b n 6), .int .i64 (pI ts b n 7)]) ∧ Below W.heap.size W w')) (h3 : 0 ≤ a) (h4 : a ≤ 1000000000000) (h5 : 0 ≤ iv) (h6 : iv ≤ 1000000000) (hb0 : 0 ≤ b) (hb1 : b ≤ 1000000000000) (h1 : 1 ≤ n) (h2 : n ≤ 8) (hg : chkL ts 0 = 0) (hbe : a * iv = base) (hV : Hid ((base + sumP ts b n ≤ 1000000000000 → rv = base + sumP ts b n ∧ re = 0) ∧ (1000000000000 < base + sumP ts b n → rv = 0 ∧ re = 8))) : Calls Try.prog 18 #[.agg #[.int .i64 fi, .int .i64 fu, .int .i64 iv, .slice A n cap], .agg #[.int .i64 u1, .int .i64 u2, .int .i64 u3, .int .i64 u4]] w fun e w' => e = .returned (.tuple #[.int .i64 rv, .int .i64 re]) ∧ Below w.heap.size w w' := by
  go_enter Try.func18, Try.ntmps18
  go_wp2_with fail
  refine (HC.out _ (hs.out.next (below_box (below_box (Below.refl _ _) _) _))).mono ?_
  rintro _ wx1 ⟨rfl, hb⟩
  have P := ((Box.new w 24 #[.int .i64 fi, .int .i64 fu, .int .i64 iv, .slice A n cap]).alloc _).next hb
  have U := (Box.new ((w).alloc (.cells #[.int .i64 fi, .int .i64 fu, .int .i64 iv, .slice A n cap] 24)) 26 #[.int .i64 u1, .int .i64 u2, .int .i64 u3, .int .i64 u4]).next hb
  simp only [World.size_alloc] at U
  have hB := below_step (below_box (below_box (Below.refl _ w) _) _) hb
  clear hb
  have cP_0 := P.cell 0 _ rfl
  have cP_1 := P.cell 1 _ rfl
  have cP_2 := P.cell 2 _ rfl
  have cP_3 := P.cell 3 _ rfl
  have lP := P.lt
  have cU_0 := U.cell 0 _ rfl
  have cU_1 := U.cell 1 _ rfl
  have cU_2 := U.cell 2 _ rfl
  have cU_3 := U.cell 3 _ rfl
  have lU := U.lt
  have zP_S := P.lt
  have zU_S := U.lt
  have zB_S := hB.size
  have hgS0 : w.heap.size + 1 < wx1.heap.size := U.lt
  go_upto_region 6 with fail
  clear cP_0 cP_1 cP_2 cP_3 lP cU_0 cU_1 cU_2 cU_3 lU
  have zP := P.lt
  have zU := U.lt
  refine wp_forget (fun W => Box W w.heap.size 24 #[.int .i64 fi, .int .i64 fu, .int .i64 iv, .slice A n cap] ∧ Box W (w.heap.size + 1) 26 #[.int .i64 u1, .int .i64 u2, .int .i64 u3, .int .i64 u4] ∧ Box W (wx1.heap.size) 51 #[.int .u64 0] ∧ Below w.heap.size w W)
    ⟨(P.alloc _), (U.alloc _), (Box.new wx1 51 #[.int .u64 0]), (below_box hB _)⟩ ?_
  clear P U hB
  rintro wx2 ⟨P, U, S, hB⟩
  have cP_0 := P.cell 0 _ rfl
  have cP_1 := P.cell 1 _ rfl
  have cP_2 := P.cell 2 _ rfl
  have cP_3 := P.cell 3 _ rfl
  have lP := P.lt
  have cU_0 := U.cell 0 _ rfl
  have cU_1 := U.cell 1 _ rfl
  have cU_2 := U.cell 2 _ rfl
  have cU_3 := U.cell 3 _ rfl
  have lU := U.lt
  have cS_0 := S.cell 0 _ rfl
  have lS := S.lt
  have HA := Lib.hid (add_any a iv 0 _ wx2 S (by omega) (by omega) h3 h4 h5 h6)
  go_wp2_with (go_at_call 27; refine HA.out.mono ?_; rintro e w' ⟨rfl, v, rfl, hv⟩)
  clear HA
  clear cP_0 cP_1 cP_2 cP_3 lP cU_0 cU_1 cU_2 cU_3 lU cS_0 lS
  replace P := (P.far (p := ⟨wx1.heap.size, 0, none⟩) (by first | omega | (simp only []; omega)) (.int .u64 v))
  replace U := (U.far (p := ⟨wx1.heap.size, 0, none⟩) (by first | omega | (simp only []; omega)) (.int .u64 v))
  replace S : Box _ _ _ #[.int .u64 v] := (S.set 0 (.int .u64 v)).eq_ (by simp)
  replace hB := (hB.setCell (p := ⟨wx1.heap.size, 0, none⟩) (by first | omega | (simp only []; omega)) (.int .u64 v))
  have hle := hB.size
  have zS := P.lt
  refine (HS.out _ (hs.out.next hB)).mono ?_
  rintro _ wx5 ⟨rfl, hb⟩
  have hgS : w.heap.size + 1 < wx1.heap.size := hgS0
  have hgO0 : wx1.heap.size < wx5.heap.size := (S.next hb).lt
  replace P := P.next hb
  replace S := S.next hb
  replace hB := below_step hB hb
  clear U hb hle zS
  have cP_0 := P.cell 0 _ rfl
  have cP_1 := P.cell 1 _ rfl
  have cP_2 := P.cell 2 _ rfl
  have cP_3 := P.cell 3 _ rfl
  have lP := P.lt
  have cS_0 := S.cell 0 _ rfl
  have lS := S.lt
  have zP_O := P.lt
  have zS_O := S.lt
  have zB_O := hB.size
  go_wp2
  clear cP_0 cP_1 cP_2 cP_3 lP cS_0 lS
  have zP := P.lt
  have zS := S.lt
  refine wp_forget (fun W => Box W w.heap.size 24 #[.int .i64 fi, .int .i64 fu, .int .i64 iv, .slice A n cap] ∧ Box W wx1.heap.size 51 #[.int .u64 v] ∧ Box W (wx5.heap.size) 47 #[.int .i64 (pI ts b n 0), .int .i64 (pI ts b n 1), .int .i64 (pI ts b n 2), .int .i64 (pI ts b n 3), .int .i64 (pI ts b n 4), .int .i64 (pI ts b n 5), .int .i64 (pI ts b n 6), .int .i64 (pI ts b n 7)] ∧ Below w.heap.size w W)
    ⟨(P.alloc _), (S.alloc _), (Box.new wx5 47 #[.int .i64 (pI ts b n 0), .int .i64 (pI ts b n 1), .int .i64 (pI ts b n 2), .int .i64 (pI ts b n 3), .int .i64 (pI ts b n 4), .int .i64 (pI ts b n 5), .int .i64 (pI ts b n 6), .int .i64 (pI ts b n 7)]), (below_box hB _)⟩ ?_
  clear P S hB
  rintro wx3 ⟨P, S, O, hB⟩
  have cP_0 := P.cell 0 _ rfl
  have cP_1 := P.cell 1 _ rfl
  have cP_2 := P.cell 2 _ rfl
  have cP_3 := P.cell 3 _ rfl
  have lP := P.lt
  have cS_0 := S.cell 0 _ rfl
  have lS := S.lt
  have cO_0 := O.cell 0 _ rfl
  have cO_1 := O.cell 1 _ rfl
  have cO_2 := O.cell 2 _ rfl
  have cO_3 := O.cell 3 _ rfl
  have cO_4 := O.cell 4 _ rfl
  have cO_5 := O.cell 5 _ rfl
  have cO_6 := O.cell 6 _ rfl
  have cO_7 := O.cell 7 _ rfl
  have lO := O.lt
  clear cP_0 cP_1 cP_2 cP_3 lP cS_0 lS cO_0 cO_1 cO_2 cO_3 cO_4 cO_5 cO_6 cO_7 lO
  have hgO : wx1.heap.size < wx5.heap.size := hgO0
  have O2 : Box wx3 wx5.heap.size 47 (partArr ts b n) := O
  clear O hgO0 hgS0
  have HN := Lib.hid hn
  have HG := Lib.hid hg
  clear hn hg HC HS
  generalize wx1.heap.size = gS at *
  generalize wx5.heap.size = gO at *
  clear wx1 wx5
  have k0 : 0 ≤ a * iv := Int.mul_nonneg h3 h5
  rw [hbe] at k0 hv
  simp only [Int.zero_add] at hv
  have HBE := Lib.hid hbe
  clear hbe
  go_loopw [37, 11] (AmtRel fi fu iv A n cap ts b base gS gO w) (fun i _ _ => n - (intOf i).toNat)
  case atStart => exact ⟨0, v, rfl, (by simp [sumP]), by omega, fun h => by have := hv (by simp [sumP] at h; omega); simp [sumP]; omega, P, S, O2, hB⟩
  case round =>
    clear P S O2 hB
    obtain ⟨k, s, rfl, rfl, hk, hsum, P, S, O, hB⟩ := hrel
    by_cases hlt : k < n
    · obtain ⟨b1, o1, rfl, hb1, q0, q1⟩ := tseg hs.out k hlt
      have Q0 := Lib.hid q0
      have Q1 := Lib.hid q1
      clear q0 q1
      have pp := part_bd ts HG.out b hb0 k (by rw [HN.out]; exact hlt)
      obtain ⟨m0, m1, _, _, _, _⟩ := tier_ok ts HG.out k (by rw [HN.out]; exact hlt)
      have nn := sumP_nn ts HG.out b hb0 k (by rw [HN.out]; omega)
      have nn2 := sumP_nn ts HG.out b hb0 (k + 1) (by rw [HN.out]; omega)
      have SS := Lib.hid (sumP_succ ts b k)
      have hp : pI ts b n k = partV ts b k := by rw [pI, if_pos hlt]
      have cO : ∀ W, Box W gO 47 (partArr ts b n) → W.cell? ⟨gO, k, none⟩ = some (.int .i64 (partV ts b k)) := fun W h => by rw [← hp]; exact h.cell k _ (partArr_get ts b n k (by omega))
      have CO := Lib.hid cO
      clear cO hp
      generalize ts.getD k T2.z = t at *
      obtain ⟨u, m⟩ := t
      simp only at Q0 Q1 SS m0 m1
      generalize partV ts b k = p at *
      generalize hx2 : sumP ts b (k + 1) = x2 at *
      have HX2 := Lib.hid hx2
      generalize hx1 : sumP ts b k = x1 at *
      clear hx1 hx2
      obtain ⟨pp0, pp1⟩ := pp
      have hk8 : (k : Int) < 8 := by omega
      have cP_0 := P.cell 0 _ rfl
      have cP_1 := P.cell 1 _ rfl
      have cP_2 := P.cell 2 _ rfl
      have cP_3 := P.cell 3 _ rfl
      have lP := P.lt
      have q0 := (hB.cell (p := ⟨b1, o1 + k * 2, none⟩) hb1).trans Q0.out
      have q1 := (hB.cell (p := ⟨b1, o1 + k * 2 + 1, none⟩) hb1).trans Q1.out
      have zP_T := P.lt
      have zB_T := hB.size
      have lS := S.lt
      have lO := O.lt
      go_upto_region 11 with fail
      clear cP_0 cP_1 cP_2 cP_3 lP q0 q1
      refine wp_forget (fun W => Box W w.heap.size 24 #[.int .i64 fi, .int .i64 fu, .int .i64 iv, .slice (some ⟨b1, o1, none⟩) n cap] ∧ Box W gS 51 #[.int .u64 s] ∧ Box W gO 47 (partArr ts b n) ∧ Box W wr.heap.size 43 #[.int .i64 u, .int .i64 m] ∧ Below w.heap.size w W)
        ⟨P.alloc _, S.alloc _, O.alloc _, Box.new _ _ _, below_box hB _⟩ ?_
      clear P S O hB
      rintro wx30 ⟨P, S, O, T, hB⟩
      have hgT : gO < wr.heap.size := lO
      generalize wr.heap.size = gT at *
      clear wr lS lO
      have iO : ∀ i : Idx wx30, i.at.cell? ⟨gO, k, none⟩ = some (.int .i64 p) := fun i => CO.out _ (O.idx i)
      have iT0 : ∀ i : Idx wx30, i.at.cell? ⟨gT, 0, none⟩ = some (.int .i64 u) := fun i => (T.idx i).cell 0 _ rfl
      have iT1 : ∀ i : Idx wx30, i.at.cell? ⟨gT, 1, none⟩ = some (.int .i64 m) := fun i => (T.idx i).cell 1 _ rfl
      by_cases hf : base + x1 ≤ 1000000000000
      · skip
        obtain rfl := hsum hf
        refine wp_region_mix [1, 1, 1, 1, 1, 0, 1, 0, 2, 1, 1] (by kernel_rfl) (by kernel_rfl) ?_
        iterate 5 (refine wpMix_pure (fun K hK => ?_); go_simp; refine hK _ ?_; clear hK K)
        (refine wpMix_calm (fun K hK => ?_); go_simp; refine hK _ ?_; clear hK K)
        (refine wpMix_pure (fun K hK => ?_); go_simp; refine hK _ ?_; clear hK K)
        (refine wpMix_calm (fun K hK => ?_); go_simp; refine hK _ ?_; clear hK K)
        clear iO iT0 iT1
        refine wpMix_own (fun w31 hb K hK => ?_)
        replace P := P.next hb
        replace S := S.next hb
        replace O := O.next hb
        replace hB := below_step hB hb
        have HA := Lib.hid (add_any p m (base + x1) gS w31 S (by omega) hf pp0 (by omega) m0 m1)
        go_simp
        go_at_call 27
        refine HA.out.mono ?_
        rintro _ _ ⟨rfl, v2, rfl, hv2⟩
        refine ⟨_, rfl, hK _ _ ?_⟩
        clear hK K HA hb
        replace P := P.far (p := ⟨gS, 0, none⟩) (by simp only []; omega) (.int .u64 v2)
        replace O := O.far (p := ⟨gS, 0, none⟩) (by simp only []; omega) (.int .u64 v2)
        replace S : Box _ gS 51 #[.int .u64 v2] := (S.set 0 (.int .u64 v2)).eq_ (by simp)
        replace hB := hB.setCell (p := ⟨gS, 0, none⟩) (by simp only []; omega) (.int .u64 v2)
        iterate 2 (refine wpMix_pure (fun K hK => ?_); go_simp; refine hK _ ?_; clear hK K)
        refine wpMix_nil (fun w33 hb => ?_)
        replace P := P.next hb
        replace S := S.next hb
        replace O := O.next hb
        replace hB := below_step hB hb
        clear hb
        go_wp2
        go_roundw
        case rel => exact ⟨k + 1, v2, by go_num, congrArg Value.bool (by rw [HX2.out, decide_eq_decide]; have e := SS.out; generalize p * m = pm at *; omega), by omega, fun h => by rw [HX2.out] at h ⊢; have e := SS.out; generalize p * m = pm at *; omega, P, S, O, hB⟩
        case measure => simp [intOf]; omega
      · skip
        have pm := Int.mul_nonneg pp0 m0
        refine wp_region_mix [1, 1, 1, 1, 1, 0, 1, 0, 2, 1, 1] (by kernel_rfl) (by kernel_rfl) ?_
        iterate 5 (refine wpMix_pure (fun K hK => ?_); go_simp; refine hK _ ?_; clear hK K)
        (refine wpMix_calm (fun K hK => ?_); go_simp; refine hK _ ?_; clear hK K)
        (refine wpMix_pure (fun K hK => ?_); go_simp; refine hK _ ?_; clear hK K)
        (refine wpMix_calm (fun K hK => ?_); go_simp; refine hK _ ?_; clear hK K)
        clear iO iT0 iT1
        refine wpMix_own (fun w31 hb K hK => ?_)
        replace P := P.next hb
        replace S := S.next hb
        replace O := O.next hb
        replace hB := below_step hB hb
        go_simp
        refine hK _ _ ?_
        clear hK K hb
        iterate 2 (refine wpMix_pure (fun K hK => ?_); go_simp; refine hK _ ?_; clear hK K)
        refine wpMix_nil (fun w33 hb => ?_)
        replace P := P.next hb
        replace S := S.next hb
        replace O := O.next hb
        replace hB := below_step hB hb
        clear hb
        go_wp2
        go_roundw
        case rel => exact ⟨k + 1, s, by go_num, congrArg Value.bool (by rw [HX2.out]; symm; rw [decide_eq_false_iff_not]; have e := SS.out; generalize p * m = pm at *; omega), by omega, fun h => by rw [HX2.out] at h; exfalso; have e := SS.out; generalize p * m = pm at *; omega, P, S, O, hB⟩
        case measure => simp [intOf]; omega
    · obtain rfl : k = n := by omega
      have cS := S.cell 0 _ rfl
      have cP_0 := P.cell 0 _ rfl
      have cP_1 := P.cell 1 _ rfl
      have cP_2 := P.cell 2 _ rfl
      have cP_3 := P.cell 3 _ rfl
      have lP := P.lt
      by_cases hf : base + sumP ts b k ≤ 1000000000000
      · obtain rfl := hsum hf
        have nn := sumP_nn ts HG.out b hb0 k (by rw [HN.out]; omega)
        have HF := Lib.hid hf
        have hfd : decide (base + sumP ts b k ≤ 1000000000000) = true := by simp [hf]
        have hwc : IntKind.i64.wrap (base + sumP ts b k) = base + sumP ts b k := IntWalk.i64_in _ (by omega)
        rw [hfd]
        clear hfd hsum
        go_wp2
        refine bodyPost_ret (v := .tuple #[.int .i64 (base + sumP ts b k), .int .i64 0]) (by simp [results, Try.results18, go_sem]) (by with_reducible rfl) ⟨by rw [(hV.out.1 HF.out).1, (hV.out.1 HF.out).2], hB⟩
      · have HF := Lib.hid hf
        have hfd : decide (base + sumP ts b k ≤ 1000000000000) = false := by simp; omega
        rw [hfd]
        clear hfd hsum hf
        go_wp2
        refine bodyPost_ret (v := .tuple #[.int .i64 0, .int .i64 8]) (by simp [results, Try.results18, go_sem]) (by with_reducible rfl) ⟨by rw [(hV.out.2 (by have := HF.out; omega)).1, (hV.out.2 (by have := HF.out; omega)).2], hB⟩

end Go.Proofs.Ytdmffbbobagloaa
