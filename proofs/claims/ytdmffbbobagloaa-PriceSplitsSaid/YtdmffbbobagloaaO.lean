/- Amount of the reference of layer 53 (price), and Amount for any price. -/
import Derived.Test.YtdmffbbobagloaaN
namespace Go.Proofs.Ytdmffbbobagloaa
open Go.ChangeShapes Go.WideShapes Go.ChangeAt Go.RowKit
attribute [local go_sem] ownAt ownUpon mixAt mixUpon

theorem lout_seg {w w' : World} {l : List Int} {x : Int} {e : Ending} (h : LOut w l x e w') : ∃ A cap, e = .returned (.tuple #[.slice A l.length cap, .int .i64 x]) ∧ Seg w' A l.length (ints l) ∧ (A = none → l.length = 0) ∧ Below w.heap.size w w' := by
  obtain ⟨v, rfl, ho, hb⟩ := h
  obtain ⟨A, cap, rfl, hs, _, hA⟩ := own_ints ho
  exact ⟨A, cap, rfl, hs, hA, hb⟩
theorem sum_le (ts : List T2) (hg : chkL ts 0 = 0) (b : Int) (hb : 0 ≤ b) (k j : Nat) (hk : k + j ≤ ts.length) : sumP ts b k ≤ sumP ts b (k + j) := by
  induction j with
  | zero => exact Int.le_refl _
  | succ j ih =>
    have := ih (by omega)
    have := Int.mul_nonneg (part_bd ts hg b hb (k + j) (by omega)).1 (tier_ok ts hg (k + j) (by omega)).m0
    have e := sumP_succ ts b (k + j)
    rw [← Nat.add_assoc]
    omega
theorem bill_ok (fi fu iv : Int) (ts : List T2) (u1 u2 u3 u4 : Int) (h : (billV fi fu iv ts u1 u2 u3 u4).e = 0) : chkV fi fu iv ts = 0 ∧ 0 ≤ (billV fi fu iv ts u1 u2 u3 u4).a ∧ (billV fi fu iv ts u1 u2 u3 u4).a ≤ 1000000000000 ∧ 0 ≤ (billV fi fu iv ts u1 u2 u3 u4).b ∧ (billV fi fu iv ts u1 u2 u3 u4).b ≤ 1000000000000 := by
  unfold billV at *
  split at h
  · next hc =>
    rw [if_pos hc]
    obtain ⟨⟨_, _⟩, ⟨_, _⟩, _⟩ := chkV_good fi fu iv ts hc
    split at h
    · next hu =>
      rw [if_pos hu]
      obtain ⟨⟨_, _⟩, _, _, ⟨_, _⟩⟩ := usB_bd u1 u2 u3 u4 hu
      refine ⟨hc, ?_, ?_, ?_, ?_⟩ <;> dsimp only <;> omega
    · cases h
  · next hc => exact absurd h hc
theorem amt_split (iv : Int) (ts : List T2) (n : Nat) (a b : Int) (hn : ts.length = n) : (a * iv + sumP ts b n ≤ 1000000000000 → (if amtT iv ts a b ≤ 1000000000000 then (⟨amtT iv ts a b, 0⟩ : N2) else ⟨0, 8⟩).v = a * iv + sumP ts b n ∧ (if amtT iv ts a b ≤ 1000000000000 then (⟨amtT iv ts a b, 0⟩ : N2) else ⟨0, 8⟩).e = 0) ∧
    (1000000000000 < a * iv + sumP ts b n → (if amtT iv ts a b ≤ 1000000000000 then (⟨amtT iv ts a b, 0⟩ : N2) else ⟨0, 8⟩).v = 0 ∧ (if amtT iv ts a b ≤ 1000000000000 then (⟨amtT iv ts a b, 0⟩ : N2) else ⟨0, 8⟩).e = 8) := by
  unfold amtT
  rw [hn]
  constructor <;> intro h
  · rw [if_pos h]; exact ⟨rfl, rfl⟩
  · rw [if_neg (by omega)]; exact ⟨rfl, rfl⟩
def AmtRelR (fi fu iv : Int) (A : Option Addr) (n cap : Nat) (ts : List T2) (b base : Int) (A2 : Option Addr) (w : World) (i f : Value) (wr : World) : Prop :=
  ∃ k : Nat, i = .int .i64 k ∧ f = .int .i64 (base + sumP ts b k) ∧ base + sumP ts b k ≤ 1000000000000 ∧ k ≤ n ∧ Box wr w.heap.size 24 #[.int .i64 fi, .int .i64 fu, .int .i64 iv, .slice A n cap] ∧ Seg wr A2 n (ints (partL ts b n)) ∧ Below w.heap.size w wr
set_option maxHeartbeats 1000000 in
theorem ramt_0 (fi fu iv : Int) (A : Option Addr) (n cap : Nat) (ts : List T2) (u1 u2 u3 u4 a b x : Int) (w : World) (hs : Hid (Seg w A (n * 2) (tCell ts))) (HC : Hid (∀ W, Seg W A (n * 2) (tCell ts) → Calls Try.prog 10 #[.agg #[.int .i64 fi, .int .i64 fu, .int .i64 iv, .slice A n cap], .agg #[.int .i64 u1, .int .i64 u2, .int .i64 u3, .int .i64 u4]] W fun e w' => e = .returned (.tuple #[.int .i64 a, .int .i64 b, .int .i64 x]) ∧ Below W.heap.size W w')) (hx : (x != 0) = true) : Calls Try.prog 19 #[.agg #[.int .i64 fi, .int .i64 fu, .int .i64 iv, .slice A n cap], .agg #[.int .i64 u1, .int .i64 u2, .int .i64 u3, .int .i64 u4]] w fun e w' => e = .returned (.tuple #[.int .i64 0, .int .i64 x]) ∧ Below w.heap.size w w' := by
  go_enter Try.func19, Try.ntmps19
  go_wp2_with fail
  refine (HC.out _ (hs.out.next (below_box (below_box (Below.refl _ _) _) _))).mono ?_
  rintro _ wx1 ⟨rfl, hb⟩
  have P := ((Box.new w 24 #[.int .i64 fi, .int .i64 fu, .int .i64 iv, .slice A n cap]).alloc _).next hb
  have U := (Box.new ((w).alloc (.cells #[.int .i64 fi, .int .i64 fu, .int .i64 iv, .slice A n cap] 24)) 26 #[.int .i64 u1, .int .i64 u2, .int .i64 u3, .int .i64 u4]).next hb
  simp only [World.size_alloc] at U
  have hB := below_step (below_box (below_box (Below.refl _ w) _) _) hb
  clear hb
  have cP_0 := P.cell 0 _ rfl
  have cP_1 := P.cell 1 _ rfl
  have cP_2 := P.cell 2 _ rfl
  have cP_3 := P.cell 3 _ rfl
  have lP := P.lt
  have cU_0 := U.cell 0 _ rfl
  have cU_1 := U.cell 1 _ rfl
  have cU_2 := U.cell 2 _ rfl
  have cU_3 := U.cell 3 _ rfl
  have lU := U.lt
  go_wp2
  refine bodyPost_ret (v := .tuple #[.int .i64 0, .int .i64 x]) ?_ (by with_reducible rfl) ⟨(by with_reducible rfl), hB⟩
  simp [results, Try.results19, go_sem]
set_option maxHeartbeats 1000000 in
theorem ramt_1 (fi fu iv : Int) (A : Option Addr) (n cap : Nat) (ts : List T2) (u1 u2 u3 u4 a b : Int) (w : World) (hs : Hid (Seg w A (n * 2) (tCell ts))) (HC : Hid (∀ W, Seg W A (n * 2) (tCell ts) → Calls Try.prog 10 #[.agg #[.int .i64 fi, .int .i64 fu, .int .i64 iv, .slice A n cap], .agg #[.int .i64 u1, .int .i64 u2, .int .i64 u3, .int .i64 u4]] W fun e w' => e = .returned (.tuple #[.int .i64 a, .int .i64 b, .int .i64 0]) ∧ Below W.heap.size W w')) (HM : Hid (∀ W, Calls Try.prog 29 #[.int .i64 a, .int .i64 iv] W fun e w' => e = .returned (.tuple #[.int .i64 0, .int .i64 8]) ∧ W = w')) : Calls Try.prog 19 #[.agg #[.int .i64 fi, .int .i64 fu, .int .i64 iv, .slice A n cap], .agg #[.int .i64 u1, .int .i64 u2, .int .i64 u3, .int .i64 u4]] w fun e w' => e = .returned (.tuple #[.int .i64 0, .int .i64 8]) ∧ Below w.heap.size w w' := by
  go_enter Try.func19, Try.ntmps19
  go_wp2_with fail
  refine (HC.out _ (hs.out.next (below_box (below_box (Below.refl _ _) _) _))).mono ?_
  rintro _ wx1 ⟨rfl, hb⟩
  have P := ((Box.new w 24 #[.int .i64 fi, .int .i64 fu, .int .i64 iv, .slice A n cap]).alloc _).next hb
  have U := (Box.new ((w).alloc (.cells #[.int .i64 fi, .int .i64 fu, .int .i64 iv, .slice A n cap] 24)) 26 #[.int .i64 u1, .int .i64 u2, .int .i64 u3, .int .i64 u4]).next hb
  simp only [World.size_alloc] at U
  have hB := below_step (below_box (below_box (Below.refl _ w) _) _) hb
  clear hb
  have cP_0 := P.cell 0 _ rfl
  have cP_1 := P.cell 1 _ rfl
  have cP_2 := P.cell 2 _ rfl
  have cP_3 := P.cell 3 _ rfl
  have lP := P.lt
  have cU_0 := U.cell 0 _ rfl
  have cU_1 := U.cell 1 _ rfl
  have cU_2 := U.cell 2 _ rfl
  have cU_3 := U.cell 3 _ rfl
  have lU := U.lt
  go_wp2_with fail
  refine (HM.out _).mono ?_
  rintro _ wy2 ⟨rfl, rfl⟩
  go_wp2
  refine bodyPost_ret (v := .tuple #[.int .i64 0, .int .i64 8]) ?_ (by with_reducible rfl) ⟨(by with_reducible rfl), hB⟩
  simp [results, Try.results19, go_sem]
set_option maxHeartbeats 4000000 in
theorem ramt_2 (fi fu iv : Int) (A : Option Addr) (n cap : Nat) (ts : List T2) (u1 u2 u3 u4 a b base rv re : Int) (w : World) (hn : ts.length = n) (hs : Hid (Seg w A (n * 2) (tCell ts))) (HC : Hid (∀ W, Seg W A (n * 2) (tCell ts) → Calls Try.prog 10 #[.agg #[.int .i64 fi, .int .i64 fu, .int .i64 iv, .slice A n cap], .agg #[.int .i64 u1, .int .i64 u2, .int .i64 u3, .int .i64 u4]] W fun e w' => e = .returned (.tuple #[.int .i64 a, .int .i64 b, .int .i64 0]) ∧ Below W.heap.size W w')) (HM : Hid (∀ W, Calls Try.prog 29 #[.int .i64 a, .int .i64 iv] W fun e w' => e = .returned (.tuple #[.int .i64 base, .int .i64 0]) ∧ W = w')) (HS : Hid (∀ W, Seg W A (n * 2) (tCell ts) → Calls Try.prog 12 #[.agg #[.int .i64 fi, .int .i64 fu, .int .i64 iv, .slice A n cap], .int .i64 b] W (LOut W (partL ts b n) 0))) (k0 : 0 ≤ base) (k1 : base ≤ 1000000000000) (hb0 : 0 ≤ b) (hb1 : b ≤ 1000000000000) (h1 : 1 ≤ n) (h2 : n ≤ 8) (hg : chkL ts 0 = 0) (hV : Hid ((base + sumP ts b n ≤ 1000000000000 → rv = base + sumP ts b n ∧ re = 0) ∧ (1000000000000 < base + sumP ts b n → rv = 0 ∧ re = 8))) : Calls Try.prog 19 #[.agg #[.int .i64 fi, .int .i64 fu, .int .i64 iv, .slice A n cap], .agg #[.int .i64 u1, .int .i64 u2, .int .i64 u3, .int .i64 u4]] w fun e w' => e = .returned (.tuple #[.int .i64 rv, .int .i64 re]) ∧ Below w.heap.size w w' := by
  go_enter Try.func19, Try.ntmps19
  go_wp2_with fail
  refine (HC.out _ (hs.out.next (below_box (below_box (Below.refl _ _) _) _))).mono ?_
  rintro _ wx1 ⟨rfl, hb⟩
  have P := ((Box.new w 24 #[.int .i64 fi, .int .i64 fu, .int .i64 iv, .slice A n cap]).alloc _).next hb
  have U := (Box.new ((w).alloc (.cells #[.int .i64 fi, .int .i64 fu, .int .i64 iv, .slice A n cap] 24)) 26 #[.int .i64 u1, .int .i64 u2, .int .i64 u3, .int .i64 u4]).next hb
  simp only [World.size_alloc] at U
  have hB := below_step (below_box (below_box (Below.refl _ w) _) _) hb
  clear hb
  have cP_0 := P.cell 0 _ rfl
  have cP_1 := P.cell 1 _ rfl
  have cP_2 := P.cell 2 _ rfl
  have cP_3 := P.cell 3 _ rfl
  have lP := P.lt
  have cU_0 := U.cell 0 _ rfl
  have cU_1 := U.cell 1 _ rfl
  have cU_2 := U.cell 2 _ rfl
  have cU_3 := U.cell 3 _ rfl
  have lU := U.lt
  go_wp2_with fail
  refine (HM.out _).mono ?_
  rintro _ wy2 ⟨rfl, rfl⟩
  go_wp2_with fail
  refine (HS.out _ (hs.out.next hB)).mono ?_
  intro e0 wx5 hl
  obtain ⟨A2, cap2, rfl, hp, hA2, hb⟩ := lout_seg hl
  clear hl
  rw [partL_len] at hp hA2
  rw [partL_len]
  clear cP_0 cP_1 cP_2 cP_3 lP cU_0 cU_1 cU_2 cU_3 lU
  replace P := P.next hb
  replace U := U.next hb
  replace hB := below_step hB hb
  clear hb
  clear U
  have cP_0 := P.cell 0 _ rfl
  have cP_1 := P.cell 1 _ rfl
  have cP_2 := P.cell 2 _ rfl
  have cP_3 := P.cell 3 _ rfl
  have lP := P.lt
  go_wp2
  have HN := Lib.hid hn
  have HG := Lib.hid hg
  have HP := Lib.hid hp
  clear hn hg HC HS HM hp hA2
  go_loopw [44, 9] (AmtRelR fi fu iv A n cap ts b base A2 w) (fun i _ _ => n - (intOf i).toNat)
  case atStart => exact ⟨0, rfl, by simp [sumP], by simpa [sumP] using k1, by omega, P, HP.out, hB⟩
  case round =>
    clear cP_0 cP_1 cP_2 cP_3 lP P hB HP
    obtain ⟨k, rfl, rfl, hle, hk, P, hp, hB⟩ := hrel
    by_cases hlt : k < n
    · obtain ⟨b1, o1, rfl, hb1, q0, q1⟩ := tseg hs.out k hlt
      have Q1 := Lib.hid q1
      clear q0 q1
      obtain ⟨b2, o2, rfl, hb2, hc2⟩ := hp k hlt
      have CC : Hid (wr.cell? ⟨b2, o2 + k, none⟩ = some (.int .i64 (partV ts b k))) := Lib.hid (by rw [hc2, ints, partL_get ts b n k hlt])
      clear hc2
      have pp := part_bd ts HG.out b hb0 k (by rw [HN.out]; exact hlt)
      obtain ⟨m0, m1, _, _, _, _⟩ := tier_ok ts HG.out k (by rw [HN.out]; exact hlt)
      have nn := sumP_nn ts HG.out b hb0 k (by rw [HN.out]; omega)
      have SS := Lib.hid (sumP_succ ts b k)
      have LE := Lib.hid (sum_le ts HG.out b hb0 (k + 1) (n - (k + 1)) (by rw [HN.out]; omega))
      rw [show k + 1 + (n - (k + 1)) = n by omega] at LE
      have HPP := Lib.hid hp
      clear hp
      generalize ts.getD k T2.z = t at *
      obtain ⟨u, m⟩ := t
      simp only at Q1 SS m0 m1
      generalize partV ts b k = p at *
      generalize hx2 : sumP ts b (k + 1) = x2 at *
      have HX2 := Lib.hid hx2
      generalize hx1 : sumP ts b k = x1 at *
      clear hx1 hx2
      obtain ⟨pp0, pp1⟩ := pp
      have hk8 : (k : Int) < 8 := by omega
      have iP : ∀ i : Idx wr, i.at.cell? ⟨w.heap.size, 3, none⟩ = some (.slice (some ⟨b1, o1, none⟩) n cap) := fun i => (P.idx i).cell 3 _ rfl
      have iA : ∀ i : Idx wr, i.at.cell? ⟨b2, o2 + k, none⟩ = some (.int .i64 p) := fun i => (i.below.cell (p := ⟨b2, o2 + k, none⟩) hb2).trans CC.out
      have iT : ∀ i : Idx wr, i.at.cell? ⟨b1, o1 + k * 2 + 1, none⟩ = some (.int .i64 m) := fun i => (i.below.cell (p := ⟨b1, o1 + k * 2 + 1, none⟩) (Nat.lt_of_lt_of_le hb1 hB.size)).trans ((hB.cell (p := ⟨b1, o1 + k * 2 + 1, none⟩) hb1).trans Q1.out)
      have lP := P.lt
      have HML := Lib.hid (fun W => rmul_any p m W pp0 (by omega) m0 (by omega))
      have pm0 := Int.mul_nonneg pp0 m0
      unfold mulV at HML
      have SP := SS.out
      generalize p * m = pm at *
      by_cases hpm : pm ≤ 1000000000000
      · rw [if_pos hpm] at HML
        dsimp only at HML
        have HAD := Lib.hid (fun W => radd_any (base + x1) pm W (by omega) hle pm0 hpm)
        unfold addV at HAD
        by_cases hf : base + x1 + pm ≤ 1000000000000
        · rw [if_pos hf] at HAD
          dsimp only at HAD
          go_upto_region 11 with fail
          refine wp_region_mix [0, 0, 0, 0, 0, 0, 0, 0, 0, 0, 0, 1, 1, 1, 1, 1] (by kernel_rfl) (by kernel_rfl) ?_
          iterate 10 (refine wpMix_calm (fun K hK => ?_); go_simp; refine hK _ ?_; clear hK K)
          refine wpMix_calm (fun K hK => ?_)
          go_simp
          apply Exists.intro
          refine ⟨fun _ => ?_, hK _ ?_⟩
          go_at_call 29
          exact (HML.out _).mono fun _ _ ⟨he, h⟩ => ⟨he, h ▸ Below.refl _ _⟩
          clear hK K
          iterate 5 (refine wpMix_pure (fun K hK => ?_); go_simp; refine hK _ ?_; clear hK K)
          refine wpMix_nil (fun w33 hb => ?_)
          replace P := P.next hb
          replace hB := below_step hB hb
          have HB3 := Lib.hid hb
          clear hb iP iA iT lP
          go_wp2_with (go_at_call 30; refine (HAD.out _).mono ?_; rintro _ wy ⟨rfl, rfl⟩)
          go_roundw
          case rel => exact ⟨k + 1, by go_num, congrArg (Value.int .i64) (by rw [HX2.out]; omega), by rw [HX2.out]; omega, by omega, P, HPP.out.next HB3.out, hB⟩
          case measure => simp [intOf]; omega
        · rw [if_neg hf] at HAD
          dsimp only at HAD
          go_upto_region 11 with fail
          refine wp_region_mix [0, 0, 0, 0, 0, 0, 0, 0, 0, 0, 0, 1, 1, 1, 1, 1] (by kernel_rfl) (by kernel_rfl) ?_
          iterate 10 (refine wpMix_calm (fun K hK => ?_); go_simp; refine hK _ ?_; clear hK K)
          refine wpMix_calm (fun K hK => ?_)
          go_simp
          apply Exists.intro
          refine ⟨fun _ => ?_, hK _ ?_⟩
          go_at_call 29
          exact (HML.out _).mono fun _ _ ⟨he, h⟩ => ⟨he, h ▸ Below.refl _ _⟩
          clear hK K
          iterate 5 (refine wpMix_pure (fun K hK => ?_); go_simp; refine hK _ ?_; clear hK K)
          refine wpMix_nil (fun w33 hb => ?_)
          replace P := P.next hb
          replace hB := below_step hB hb
          have HB3 := Lib.hid hb
          clear hb iP iA iT lP
          go_wp2_with (go_at_call 30; refine (HAD.out _).mono ?_; rintro _ wy ⟨rfl, rfl⟩)
          refine bodyPost_ret (v := .tuple #[.int .i64 0, .int .i64 8]) (by simp [results, Try.results19, go_sem]) (by with_reducible rfl) ⟨by rw [(hV.out.2 (by have := LE.out; omega)).1, (hV.out.2 (by have := LE.out; omega)).2], hB⟩
      · rw [if_neg hpm] at HML
        dsimp only at HML
        go_upto_region 11 with fail
        refine wp_region_mix [0, 0, 0, 0, 0, 0, 0, 0, 0, 0, 0, 1, 1, 1, 1, 1] (by kernel_rfl) (by kernel_rfl) ?_
        iterate 10 (refine wpMix_calm (fun K hK => ?_); go_simp; refine hK _ ?_; clear hK K)
        refine wpMix_calm (fun K hK => ?_)
        go_simp
        apply Exists.intro
        refine ⟨fun _ => ?_, hK _ ?_⟩
        go_at_call 29
        exact (HML.out _).mono fun _ _ ⟨he, h⟩ => ⟨he, h ▸ Below.refl _ _⟩
        clear hK K
        iterate 5 (refine wpMix_pure (fun K hK => ?_); go_simp; refine hK _ ?_; clear hK K)
        refine wpMix_nil (fun w33 hb => ?_)
        replace P := P.next hb
        replace hB := below_step hB hb
        have HB3 := Lib.hid hb
        clear hb iP iA iT lP
        go_wp2
        refine bodyPost_ret (v := .tuple #[.int .i64 0, .int .i64 8]) (by simp [results, Try.results19, go_sem]) (by with_reducible rfl) ⟨by rw [(hV.out.2 (by have := LE.out; omega)).1, (hV.out.2 (by have := LE.out; omega)).2], hB⟩
    · obtain rfl : k = n := by omega
      clear hp
      have cP_0 := P.cell 0 _ rfl
      have cP_1 := P.cell 1 _ rfl
      have cP_2 := P.cell 2 _ rfl
      have cP_3 := P.cell 3 _ rfl
      have lP := P.lt
      obtain ⟨rfl, rfl⟩ := hV.out.1 hle
      go_wp2
      refine bodyPost_ret (v := .tuple #[.int .i64 (base + sumP ts b k), .int .i64 0]) (by simp [results, Try.results19, go_sem]) (by with_reducible rfl) ⟨(by with_reducible rfl), hB⟩
theorem amt_any (fi fu iv : Int) (A : Option Addr) (n cap : Nat) (ts : List T2) (u1 u2 u3 u4 : Int) (w : World) (hn : ts.length = n) (hs : Seg w A (n * 2) (tCell ts)) : Calls Try.prog 18 #[.agg #[.int .i64 fi, .int .i64 fu, .int .i64 iv, .slice A n cap], .agg #[.int .i64 u1, .int .i64 u2, .int .i64 u3, .int .i64 u4]] w fun e w' => e = .returned (.tuple #[.int .i64 (amtV fi fu iv ts u1 u2 u3 u4).v, .int .i64 (amtV fi fu iv ts u1 u2 u3 u4).e]) ∧ Below w.heap.size w w' := by
  have HC : Hid (∀ W, Seg W A (n * 2) (tCell ts) → _) := fun W k => bill_any fi fu iv A n cap ts u1 u2 u3 u4 W hn k
  have HW := bill_ok fi fu iv ts u1 u2 u3 u4
  unfold amtV
  generalize billV fi fu iv ts u1 u2 u3 u4 = bv at *
  obtain ⟨a, b, x⟩ := bv
  dsimp only at HC HW ⊢
  by_cases h : x = 0
  · subst h
    obtain ⟨hc, ha0, ha1, hb0, hb1⟩ := HW rfl
    obtain ⟨_, _, ⟨i0, i1⟩, ⟨l1, l2⟩, hg⟩ := chkV_good fi fu iv ts hc
    rw [if_pos rfl]
    have k0 := Int.mul_nonneg ha0 i0
    have nn := sumP_nn ts hg b hb0 n (by omega)
    have hV : Hid _ := amt_split iv ts n a b hn
    exact amt_1 fi fu iv A n cap ts u1 u2 u3 u4 a b (a * iv) _ _ w hn hs HC (fun W k => split_any fi fu iv A n cap ts b W hn k hg (by omega) (by omega) hb0 hb1) ha0 ha1 i0 i1 hb0 hb1 (by omega) (by omega) hg rfl hV
  · rw [if_neg h]
    exact amt_0 fi fu iv A n cap ts u1 u2 u3 u4 a b x w hs HC (bne_iff_ne.2 h)
theorem ramt_any (fi fu iv : Int) (A : Option Addr) (n cap : Nat) (ts : List T2) (u1 u2 u3 u4 : Int) (w : World) (hn : ts.length = n) (hs : Seg w A (n * 2) (tCell ts)) : Calls Try.prog 19 #[.agg #[.int .i64 fi, .int .i64 fu, .int .i64 iv, .slice A n cap], .agg #[.int .i64 u1, .int .i64 u2, .int .i64 u3, .int .i64 u4]] w fun e w' => e = .returned (.tuple #[.int .i64 (amtV fi fu iv ts u1 u2 u3 u4).v, .int .i64 (amtV fi fu iv ts u1 u2 u3 u4).e]) ∧ Below w.heap.size w w' := by
  have HC : Hid (∀ W, Seg W A (n * 2) (tCell ts) → _) := fun W k => rbill_any fi fu iv A n cap ts u1 u2 u3 u4 W hn k
  have HW := bill_ok fi fu iv ts u1 u2 u3 u4
  unfold amtV
  generalize billV fi fu iv ts u1 u2 u3 u4 = bv at *
  obtain ⟨a, b, x⟩ := bv
  dsimp only at HC HW ⊢
  by_cases h : x = 0
  · subst h
    obtain ⟨hc, ha0, ha1, hb0, hb1⟩ := HW rfl
    obtain ⟨_, _, ⟨i0, i1⟩, ⟨l1, l2⟩, hg⟩ := chkV_good fi fu iv ts hc
    rw [if_pos rfl]
    have k0 := Int.mul_nonneg ha0 i0
    have nn := sumP_nn ts hg b hb0 n (by omega)
    have hV : Hid _ := amt_split iv ts n a b hn
    have HM : Hid (∀ W, _) := Lib.hid (fun W => rmul_any a iv W ha0 ha1 i0 (by omega))
    unfold mulV at HM
    by_cases hm : a * iv ≤ 1000000000000
    · rw [if_pos hm] at HM
      dsimp only at HM
      have HS : Hid (∀ W, Seg W A (n * 2) (tCell ts) → _) := fun W k => rspl_any fi fu iv A n cap ts b W hn k
      unfold splV at HS
      rw [if_pos hc, if_pos ⟨hb0, hb1⟩, hn] at HS
      exact ramt_2 fi fu iv A n cap ts u1 u2 u3 u4 a b (a * iv) _ _ w hn hs HC HM HS k0 hm hb0 hb1 (by omega) (by omega) hg hV
    · rw [if_neg hm] at HM
      dsimp only at HM
      have h9 := hV.out.2 (by omega)
      rw [h9.1, h9.2]
      exact ramt_1 fi fu iv A n cap ts u1 u2 u3 u4 a b w hs HC HM
  · rw [if_neg h]
    exact ramt_0 fi fu iv A n cap ts u1 u2 u3 u4 a b x w hs HC (bne_iff_ne.2 h)

end Go.Proofs.Ytdmffbbobagloaa
