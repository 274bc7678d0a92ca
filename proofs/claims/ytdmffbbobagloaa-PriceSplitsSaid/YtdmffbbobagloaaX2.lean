/- PriceSplits: the walk. -/
import Derived.Test.YtdmffbbobagloaaU
namespace Go.Proofs.Ytdmffbbobagloaa
open Go.ChangeShapes Go.WideShapes Go.ChangeAt Go.RowKit
attribute [local go_sem] ownAt ownUpon mixAt mixUpon

theorem cost_step (ts : List T2) (units : Int) (k : Nat) (cost : Int) (s s2 p m : Int) (hs : sumP ts units k = s) (h2 : sumP ts units (k + 1) = s2) (he : s2 = s + p * m) (pm : 0 ≤ p * m) (s0 : 0 ≤ s) (H : CostIn ts units k cost false) (hp : p * m ≤ 1000000000000) : CostIn ts units (k + 1) (min (cost + p * m) 2000000000000) false := by
  have h1 := H.no rfl
  rw [hs] at h1
  refine ⟨fun _ => ?_, fun h => (by cases h), ?_, ?_⟩
  · rw [h2, he]; omega
  · omega
  · omega
theorem cost_over (ts : List T2) (units : Int) (k : Nat) (cost : Int) (s s2 p m : Int) (lg : Bool) (hs : sumP ts units k = s) (h2 : sumP ts units (k + 1) = s2) (he : s2 = s + p * m) (pm : 0 ≤ p * m) (s0 : 0 ≤ s) (H : CostIn ts units k cost lg) (hp : lg = true ∨ 1000000000000 < p * m) : CostIn ts units (k + 1) cost true := by
  refine ⟨fun h => by (cases h), fun _ => ?_, H.c0, H.c1⟩
  rw [h2, he]
  rcases hp with h | h
  · have := H.yes h
    rw [hs] at this
    omega
  · omega
def SpRel (fi fu iv : Int) (A : Option Addr) (n cap : Nat) (ts : List T2) (units : Int) (AL : Option Addr) (w : World) (i s c lg : Value) (wr : World) : Prop :=
  ∃ (k : Nat) (cost : Int) (large : Bool), i = .int .i64 k ∧ s = .int .i64 (cutI ts units k) ∧ c = .int .i64 cost ∧ lg = .bool large ∧ k ≤ n ∧ CostIn ts units k cost large ∧ Box wr w.heap.size 24 #[.int .i64 fi, .int .i64 fu, .int .i64 iv, .slice A n cap] ∧ Seg wr AL n (ints (partL ts units n)) ∧ Below w.heap.size w wr
set_option maxHeartbeats 2000000 in
set_option maxRecDepth 100000 in
theorem ps_out (fi fu iv : Int) (A : Option Addr) (n cap : Nat) (ts : List T2) (units : Int) (w : World) (_hs : Hid (Seg w A (n * 2) (tCell ts))) (h : 100 < (n : Int)) : Calls Try.prog 6 #[.agg #[.int .i64 fi, .int .i64 fu, .int .i64 iv, .slice A n cap], .int .i64 units] w fun e w' => e = .returned (.bool true) ∧ Below w.heap.size w w' := by
  go_enter Try.func6, Try.ntmps6
  go_wp2_with fail
  refine (awake_any _).mono ?_
  rintro _ wx1 ⟨rfl, hb⟩
  have P := (Box.new w 24 #[.int .i64 fi, .int .i64 fu, .int .i64 iv, .slice A n cap]).next hb
  have hB := below_step (below_box (Below.refl _ w) _) hb
  clear hb
  go_wp2
  go_ret
  exact ⟨rfl, hB⟩
set_option maxHeartbeats 2000000 in
set_option maxRecDepth 100000 in
theorem ps_err (fi fu iv : Int) (A : Option Addr) (n cap : Nat) (ts : List T2) (units x : Int) (w : World) (hs : Hid (Seg w A (n * 2) (tCell ts))) (HS : Hid (∀ W, Seg W A (n * 2) (tCell ts) → Calls Try.prog 11 #[.agg #[.int .i64 fi, .int .i64 fu, .int .i64 iv, .slice A n cap], .int .i64 units] W (LOut W [] x))) (hx : (x != 0) = true) (h : (n : Int) ≤ 100) : Calls Try.prog 6 #[.agg #[.int .i64 fi, .int .i64 fu, .int .i64 iv, .slice A n cap], .int .i64 units] w fun e w' => e = .returned (.bool true) ∧ Below w.heap.size w w' := by
  go_enter Try.func6, Try.ntmps6
  go_wp2_with fail
  refine (HS.out _ (hs.out.next (below_box (Below.refl _ _) _))).mono ?_
  intro e0 wx1 hl
  obtain ⟨AL, capL, rfl, hpL, hAL, hb⟩ := lout_seg hl
  clear hl
  have P := (Box.new w 24 #[.int .i64 fi, .int .i64 fu, .int .i64 iv, .slice A n cap]).next hb
  have hB := below_step (below_box (Below.refl _ w) _) hb
  clear hb
  have cP_0 := P.cell 0 _ rfl
  have cP_1 := P.cell 1 _ rfl
  have cP_2 := P.cell 2 _ rfl
  have cP_3 := P.cell 3 _ rfl
  have lP := P.lt
  go_wp2_with fail
  refine (awake_any _).mono ?_
  rintro _ wx2 ⟨rfl, hb⟩
  clear cP_0 cP_1 cP_2 cP_3 lP
  replace P := P.next hb
  replace hB := below_step hB hb
  clear hb
  go_wp2
  go_ret
  exact ⟨rfl, hB⟩
set_option maxHeartbeats 20000000 in
set_option maxRecDepth 100000 in
theorem ps_main (fi fu iv : Int) (A : Option Addr) (n cap : Nat) (ts : List T2) (units rv re : Int) (w : World) (hs : Hid (Seg w A (n * 2) (tCell ts))) (HS : Hid (∀ W, Seg W A (n * 2) (tCell ts) → Calls Try.prog 11 #[.agg #[.int .i64 fi, .int .i64 fu, .int .i64 iv, .slice A n cap], .int .i64 units] W (LOut W (partL ts units n) 0))) (hn : ts.length = n) (hg : chkL ts 0 = 0) (h1 : 1 ≤ n) (h2 : n ≤ 8) (h3 : 0 ≤ units) (h4 : units ≤ 1000000000000) (h : (n : Int) ≤ 100) (f0 : 0 ≤ fu) (f1 : fu ≤ 1000000000) (HA : Hid (units + fu ≤ 1000000000000 → Hid (∀ W, Seg W A (n * 2) (tCell ts) → Calls Try.prog 18 #[.agg #[.int .i64 fi, .int .i64 fu, .int .i64 iv, .slice A n cap], .agg #[.int .i64 0, .int .i64 0, .int .i64 0, .int .i64 (units + fu)]] W fun e w' => e = .returned (.tuple #[.int .i64 rv, .int .i64 re]) ∧ Below W.heap.size W w'))) (hV : Hid ((sumP ts units n ≤ 1000000000000 → rv = sumP ts units n ∧ re = 0) ∧ (1000000000000 < sumP ts units n → re = 8))) : Calls Try.prog 6 #[.agg #[.int .i64 fi, .int .i64 fu, .int .i64 iv, .slice A n cap], .int .i64 units] w fun e w' => e = .returned (.bool true) ∧ Below w.heap.size w w' := by
  go_enter Try.func6, Try.ntmps6
  go_wp2_with fail
  refine (HS.out _ (hs.out.next (below_box (Below.refl _ _) _))).mono ?_
  intro e0 wx1 hl
  obtain ⟨AL, capL, rfl, hpL, hAL, hb⟩ := lout_seg hl
  clear hl
  have P := (Box.new w 24 #[.int .i64 fi, .int .i64 fu, .int .i64 iv, .slice A n cap]).next hb
  have hB := below_step (below_box (Below.refl _ w) _) hb
  clear hb
  have cP_0 := P.cell 0 _ rfl
  have cP_1 := P.cell 1 _ rfl
  have cP_2 := P.cell 2 _ rfl
  have cP_3 := P.cell 3 _ rfl
  have lP := P.lt
  rw [partL_len] at hpL
  rw [partL_len]
  clear hAL
  go_wp2
  have HN := Lib.hid hn
  have HG := Lib.hid hg
  have HP := Lib.hid hpL
  clear hn hg HS hpL
  go_loopw [40, 7, 8, 9] (SpRel fi fu iv A n cap ts units AL w) (fun i _ _ _ _ => n - (intOf i).toNat)
  case atStart => exact ⟨0, 0, false, rfl, by rw [cut_zero], rfl, rfl, by omega, ⟨fun _ => by show (0 : Int) = min 0 2000000000000; omega, fun h => (by cases h), by omega, by omega⟩, P, HP.out, hB⟩
  case round =>
    clear cP_0 cP_1 cP_2 cP_3 lP P hB HP
    obtain ⟨k, cost, large, rfl, rfl, rfl, rfl, hk, HK, P, hp, hB⟩ := hrel
    by_cases hlt : k < n
    · obtain ⟨b1, o1, rfl, hb1, q0, q1⟩ := tseg hs.out k hlt
      have Q0 := Lib.hid q0
      have Q1 := Lib.hid q1
      clear q0 q1
      obtain ⟨b2, o2, rfl, hb2, hc2⟩ := hp k hlt
      have CC : Hid (wr.cell? ⟨b2, o2 + k, none⟩ = some (.int .i64 (partV ts units k))) := Lib.hid (by rw [hc2, ints, partL_get ts units n k hlt])
      clear hc2
      have pp := part_bd ts HG.out units h3 k (by rw [HN.out]; exact hlt)
      have cc := cut_bd ts HG.out units h3 k (by rw [HN.out]; exact hlt)
      have TK := Lib.hid (tier_ok ts HG.out k (by rw [HN.out]; exact hlt))
      have nn := sumP_nn ts HG.out units h3 k (by rw [HN.out]; omega)
      have SS := Lib.hid (sumP_succ ts units k)
      have PE0 := Lib.hid (show partV ts units k = cutI ts units (k + 1) - cutI ts units k from rfl)
      have m0 := TK.out.m0
      have m1 := TK.out.m1
      have K1 := Lib.hid TK.out.last
      have K2 := Lib.hid TK.out.u0
      have C1 := Lib.hid (cut_last ts units k)
      have C2 := Lib.hid (cut_mid ts units k)
      rw [HN.out] at K1 K2 C1 C2
      clear TK
      have HPP := Lib.hid hp
      clear hp
      generalize ts.getD k T2.z = t at *
      obtain ⟨u, m⟩ := t
      simp only at Q0 Q1 SS m0 m1 K1 K2 C2
      have KS : Hid (partV ts units k * m ≤ 1000000000000 → 0 ≤ partV ts units k * m → 0 ≤ sumP ts units k → sumP ts units (k + 1) = sumP ts units k + partV ts units k * m → CostIn ts units k cost false → CostIn ts units (k + 1) (min (cost + partV ts units k * m) 2000000000000) false) := Lib.hid (fun a b c d e => cost_step ts units k cost _ _ _ m rfl rfl d b c e a)
      have KO : Hid (∀ lg, 0 ≤ partV ts units k * m → 0 ≤ sumP ts units k → sumP ts units (k + 1) = sumP ts units k + partV ts units k * m → CostIn ts units k cost lg → (lg = true ∨ 1000000000000 < partV ts units k * m) → CostIn ts units (k + 1) cost true) := Lib.hid (fun lg b c d e f => cost_over ts units k cost _ _ _ m lg rfl rfl d b c e f)
      generalize partV ts units k = p at *
      generalize cutI ts units k = c at *
      generalize hc' : cutI ts units (k + 1) = c' at *
      have HC' := Lib.hid hc'
      generalize hx2 : sumP ts units (k + 1) = x2 at *
      generalize hx1 : sumP ts units k = x1 at *
      clear hc' hx1 hx2
      obtain ⟨pp0, pp1⟩ := pp
      obtain ⟨c0, c1, c2⟩ := cc
      have k0 := HK.c0
      have k1 := HK.c1
      have hpm := Int.mul_nonneg pp0 m0
      have hwc : IntKind.i64.wrap (c + p) = c' := by have := PE0.out; rw [show c + p = c' by omega]; exact IntWalk.i64_in _ (by omega)
      have hcp : c + p ≤ units := by have := PE0.out; omega
      have iP : ∀ i : Idx wr, i.at.cell? ⟨w.heap.size, 3, none⟩ = some (.slice (some ⟨b1, o1, none⟩) n cap) := fun i => (P.idx i).cell 3 _ rfl
      have iA : ∀ i : Idx wr, i.at.cell? ⟨b2, o2 + k, none⟩ = some (.int .i64 p) := fun i => (i.below.cell (p := ⟨b2, o2 + k, none⟩) hb2).trans CC.out
      have iT : ∀ i : Idx wr, i.at.cell? ⟨b1, o1 + k * 2 + 1, none⟩ = some (.int .i64 m) := fun i => (i.below.cell (p := ⟨b1, o1 + k * 2 + 1, none⟩) (Nat.lt_of_lt_of_le hb1 hB.size)).trans ((hB.cell (p := ⟨b1, o1 + k * 2 + 1, none⟩) hb1).trans Q1.out)
      have cA := CC.out
      have lP := P.lt
      have cP_0 := P.cell 0 _ rfl
      have cP_1 := P.cell 1 _ rfl
      have cP_2 := P.cell 2 _ rfl
      have cP_3 := P.cell 3 _ rfl
      have lP := P.lt
      have q0 := (hB.cell (p := ⟨b1, o1 + k * 2, none⟩) hb1).trans Q0.out
      have q1 := (hB.cell (p := ⟨b1, o1 + k * 2 + 1, none⟩) hb1).trans Q1.out
      by_cases hl : k + 1 = n
      · obtain rfl := K1.out hl
        obtain rfl : units = c' := (C1.out hl).symm
        clear K1 K2 C1 C2
        go_upto_region 17 with fail
        cases large
        · have hm1 : p * m ≤ 1000000000000 ∨ 1000000000000 < p * m := by omega
          by_cases hm : 0 < m
          · have hm0 : m ≠ 0 := by omega
            have hdv : IntKind.i64.wrap (Int.tdiv 1000000000000 m) = 1000000000000 / m := by
              have d0 : 0 ≤ 1000000000000 / m := Int.ediv_nonneg (by omega) m0
              have d1 : 1000000000000 / m ≤ 1000000000000 := Int.ediv_le_self _ (by omega)
              rw [Int.tdiv_eq_ediv_of_nonneg (by omega)]
              exact IntWalk.i64_in _ (by omega)
            by_cases ho : 1000000000000 < p * m
            · have hq := (over_iff p m hm).2 ho
              have hqd : decide (1000000000000 / m < p) = true := decide_eq_true hq
              go_quiet (fail)
              all_goals
                go_wp2
                go_roundw
                case rel => exact ⟨k + 1, cost, true, by go_num, by rw [HC'.out], rfl, congrArg Value.bool (by first | rfl | exact hqd), by omega, KO.out false hpm nn SS.out HK (.inr ho), P.next (drewN_below _ _), HPP.out.next (drewN_below _ _), below_step hB (drewN_below _ _)⟩
                case measure => simp [intOf]; omega
            · have ho : p * m ≤ 1000000000000 := by omega
              have hq : p ≤ 1000000000000 / m := by have := (over_iff p m hm).1; omega
              have hqd : decide (1000000000000 / m < p) = false := decide_eq_false (Int.not_lt.2 hq)
              have hw1 : IntKind.i64.wrap (p * m) = p * m := IntWalk.i64_in _ (by omega)
              have hw2 : IntKind.i64.wrap (cost + p * m) = cost + p * m := IntWalk.i64_in _ (by omega)
              go_quiet (fail)
              all_goals
                go_upto_region 19 with fail
                go_quiet (fail)
                all_goals
                  go_wp2
                  go_roundw
                  case rel => exact ⟨k + 1, (min (cost + p * m) 2000000000000), false, by go_num, by rw [HC'.out], congrArg (Value.int .i64) (by first | (split <;> omega; done) | omega), congrArg Value.bool (by first | rfl | exact hqd), by omega, KS.out ho hpm nn SS.out HK, P.next (drewN_below _ _), HPP.out.next (drewN_below _ _), below_step hB (drewN_below _ _)⟩
                  case measure => simp [intOf]; omega
          · have hm' : m ≤ 0 := by omega
            have ho : p * m ≤ 1000000000000 := by rw [show m = 0 by omega, Int.mul_zero]; omega
            have hw1 : IntKind.i64.wrap (p * m) = p * m := IntWalk.i64_in _ (by omega)
            have hw2 : IntKind.i64.wrap (cost + p * m) = cost + p * m := IntWalk.i64_in _ (by omega)
            go_quiet (fail)
            all_goals
              go_upto_region 19 with fail
              go_quiet (fail)
              all_goals
                go_wp2
                go_roundw
                case rel => exact ⟨k + 1, (min (cost + p * m) 2000000000000), false, by go_num, by rw [HC'.out], congrArg (Value.int .i64) (by first | (split <;> omega; done) | omega), rfl, by omega, KS.out ho hpm nn SS.out HK, P.next (drewN_below _ _), HPP.out.next (drewN_below _ _), below_step hB (drewN_below _ _)⟩
                case measure => simp [intOf]; omega
        · skip
          go_quiet (fail)
          all_goals
            go_wp2
            go_roundw
            case rel => exact ⟨k + 1, cost, true, by go_num, by rw [HC'.out], rfl, rfl, by omega, KO.out true hpm nn SS.out HK (.inl rfl), P.next (drewN_below _ _), HPP.out.next (drewN_below _ _), below_step hB (drewN_below _ _)⟩
            case measure => simp [intOf]; omega
      · have u0 := K2.out hl
        have e := C2.out hl
        clear K1 K2 C1 C2
        by_cases hu : u < units
        · obtain rfl : u = c' := by omega
          clear e
          go_upto_region 17 with fail
          cases large
          · have hm1 : p * m ≤ 1000000000000 ∨ 1000000000000 < p * m := by omega
            by_cases hm : 0 < m
            · have hm0 : m ≠ 0 := by omega
              have hdv : IntKind.i64.wrap (Int.tdiv 1000000000000 m) = 1000000000000 / m := by
                have d0 : 0 ≤ 1000000000000 / m := Int.ediv_nonneg (by omega) m0
                have d1 : 1000000000000 / m ≤ 1000000000000 := Int.ediv_le_self _ (by omega)
                rw [Int.tdiv_eq_ediv_of_nonneg (by omega)]
                exact IntWalk.i64_in _ (by omega)
              by_cases ho : 1000000000000 < p * m
              · have hq := (over_iff p m hm).2 ho
                have hqd : decide (1000000000000 / m < p) = true := decide_eq_true hq
                go_quiet (fail)
                all_goals
                  go_wp2
                  go_roundw
                  case rel => exact ⟨k + 1, cost, true, by go_num, by rw [HC'.out], rfl, congrArg Value.bool (by first | rfl | exact hqd), by omega, KO.out false hpm nn SS.out HK (.inr ho), P.next (drewN_below _ _), HPP.out.next (drewN_below _ _), below_step hB (drewN_below _ _)⟩
                  case measure => simp [intOf]; omega
              · have ho : p * m ≤ 1000000000000 := by omega
                have hq : p ≤ 1000000000000 / m := by have := (over_iff p m hm).1; omega
                have hqd : decide (1000000000000 / m < p) = false := decide_eq_false (Int.not_lt.2 hq)
                have hw1 : IntKind.i64.wrap (p * m) = p * m := IntWalk.i64_in _ (by omega)
                have hw2 : IntKind.i64.wrap (cost + p * m) = cost + p * m := IntWalk.i64_in _ (by omega)
                go_quiet (fail)
                all_goals
                  go_upto_region 19 with fail
                  go_quiet (fail)
                  all_goals
                    go_wp2
                    go_roundw
                    case rel => exact ⟨k + 1, (min (cost + p * m) 2000000000000), false, by go_num, by rw [HC'.out], congrArg (Value.int .i64) (by first | (split <;> omega; done) | omega), congrArg Value.bool (by first | rfl | exact hqd), by omega, KS.out ho hpm nn SS.out HK, P.next (drewN_below _ _), HPP.out.next (drewN_below _ _), below_step hB (drewN_below _ _)⟩
                    case measure => simp [intOf]; omega
            · have hm' : m ≤ 0 := by omega
              have ho : p * m ≤ 1000000000000 := by rw [show m = 0 by omega, Int.mul_zero]; omega
              have hw1 : IntKind.i64.wrap (p * m) = p * m := IntWalk.i64_in _ (by omega)
              have hw2 : IntKind.i64.wrap (cost + p * m) = cost + p * m := IntWalk.i64_in _ (by omega)
              go_quiet (fail)
              all_goals
                go_upto_region 19 with fail
                go_quiet (fail)
                all_goals
                  go_wp2
                  go_roundw
                  case rel => exact ⟨k + 1, (min (cost + p * m) 2000000000000), false, by go_num, by rw [HC'.out], congrArg (Value.int .i64) (by first | (split <;> omega; done) | omega), rfl, by omega, KS.out ho hpm nn SS.out HK, P.next (drewN_below _ _), HPP.out.next (drewN_below _ _), below_step hB (drewN_below _ _)⟩
                  case measure => simp [intOf]; omega
          · skip
            go_quiet (fail)
            all_goals
              go_wp2
              go_roundw
              case rel => exact ⟨k + 1, cost, true, by go_num, by rw [HC'.out], rfl, rfl, by omega, KO.out true hpm nn SS.out HK (.inl rfl), P.next (drewN_below _ _), HPP.out.next (drewN_below _ _), below_step hB (drewN_below _ _)⟩
              case measure => simp [intOf]; omega
        · obtain rfl : units = c' := by omega
          clear e
          go_upto_region 17 with fail
          cases large
          · have hm1 : p * m ≤ 1000000000000 ∨ 1000000000000 < p * m := by omega
            by_cases hm : 0 < m
            · have hm0 : m ≠ 0 := by omega
              have hdv : IntKind.i64.wrap (Int.tdiv 1000000000000 m) = 1000000000000 / m := by
                have d0 : 0 ≤ 1000000000000 / m := Int.ediv_nonneg (by omega) m0
                have d1 : 1000000000000 / m ≤ 1000000000000 := Int.ediv_le_self _ (by omega)
                rw [Int.tdiv_eq_ediv_of_nonneg (by omega)]
                exact IntWalk.i64_in _ (by omega)
              by_cases ho : 1000000000000 < p * m
              · have hq := (over_iff p m hm).2 ho
                have hqd : decide (1000000000000 / m < p) = true := decide_eq_true hq
                go_quiet (fail)
                all_goals
                  go_wp2
                  go_roundw
                  case rel => exact ⟨k + 1, cost, true, by go_num, by rw [HC'.out], rfl, congrArg Value.bool (by first | rfl | exact hqd), by omega, KO.out false hpm nn SS.out HK (.inr ho), P.next (drewN_below _ _), HPP.out.next (drewN_below _ _), below_step hB (drewN_below _ _)⟩
                  case measure => simp [intOf]; omega
              · have ho : p * m ≤ 1000000000000 := by omega
                have hq : p ≤ 1000000000000 / m := by have := (over_iff p m hm).1; omega
                have hqd : decide (1000000000000 / m < p) = false := decide_eq_false (Int.not_lt.2 hq)
                have hw1 : IntKind.i64.wrap (p * m) = p * m := IntWalk.i64_in _ (by omega)
                have hw2 : IntKind.i64.wrap (cost + p * m) = cost + p * m := IntWalk.i64_in _ (by omega)
                go_quiet (fail)
                all_goals
                  go_upto_region 19 with fail
                  go_quiet (fail)
                  all_goals
                    go_wp2
                    go_roundw
                    case rel => exact ⟨k + 1, (min (cost + p * m) 2000000000000), false, by go_num, by rw [HC'.out], congrArg (Value.int .i64) (by first | (split <;> omega; done) | omega), congrArg Value.bool (by first | rfl | exact hqd), by omega, KS.out ho hpm nn SS.out HK, P.next (drewN_below _ _), HPP.out.next (drewN_below _ _), below_step hB (drewN_below _ _)⟩
                    case measure => simp [intOf]; omega
            · have hm' : m ≤ 0 := by omega
              have ho : p * m ≤ 1000000000000 := by rw [show m = 0 by omega, Int.mul_zero]; omega
              have hw1 : IntKind.i64.wrap (p * m) = p * m := IntWalk.i64_in _ (by omega)
              have hw2 : IntKind.i64.wrap (cost + p * m) = cost + p * m := IntWalk.i64_in _ (by omega)
              go_quiet (fail)
              all_goals
                go_upto_region 19 with fail
                go_quiet (fail)
                all_goals
                  go_wp2
                  go_roundw
                  case rel => exact ⟨k + 1, (min (cost + p * m) 2000000000000), false, by go_num, by rw [HC'.out], congrArg (Value.int .i64) (by first | (split <;> omega; done) | omega), rfl, by omega, KS.out ho hpm nn SS.out HK, P.next (drewN_below _ _), HPP.out.next (drewN_below _ _), below_step hB (drewN_below _ _)⟩
                  case measure => simp [intOf]; omega
          · skip
            go_quiet (fail)
            all_goals
              go_wp2
              go_roundw
              case rel => exact ⟨k + 1, cost, true, by go_num, by rw [HC'.out], rfl, rfl, by omega, KO.out true hpm nn SS.out HK (.inl rfl), P.next (drewN_below _ _), HPP.out.next (drewN_below _ _), below_step hB (drewN_below _ _)⟩
              case measure => simp [intOf]; omega
    · obtain rfl : k = n := by omega
      have hcu : cutI ts units k = units := by have := cut_last ts units (k - 1) (by rw [HN.out]; omega); rwa [show k - 1 + 1 = k by omega] at this
      rw [hcu]
      clear hp
      have cP_0 := P.cell 0 _ rfl
      have cP_1 := P.cell 1 _ rfl
      have cP_2 := P.cell 2 _ rfl
      have cP_3 := P.cell 3 _ rfl
      have lP := P.lt
      have hwu : IntKind.i64.wrap (units + fu) = units + fu := IntWalk.i64_in _ (by omega)
      by_cases hov : 1000000000000 < units + fu
      · skip
        go_wp2_with fail
        refine (awake_any _).mono ?_
        rintro _ wx21 ⟨rfl, hb⟩
        clear cP_0 cP_1 cP_2 cP_3 lP
        replace P := P.next hb
        replace hB := below_step hB hb
        clear hb
        go_wp2
        go_ret
        exact ⟨rfl, hB⟩
      · have HAM := HA.out (by omega)
        have hno := HK.no
        have hyes := HK.yes
        have k0 := HK.c0
        clear HA HK
        generalize sumP ts units k = x1 at *
        cases large
        · have h5 := hno rfl
          by_cases hco : 1000000000000 < cost
          · obtain rfl := hV.out.2 (by omega)
            clear h5 hno hyes
            go_wp2_with fail
            refine (HAM.out _ (hs.out.next hB)).mono ?_
            rintro _ wx21 ⟨rfl, hb⟩
            clear cP_0 cP_1 cP_2 cP_3 lP
            replace P := P.next hb
            replace hB := below_step hB hb
            clear hb
            have cP_0 := P.cell 0 _ rfl
            have cP_1 := P.cell 1 _ rfl
            have cP_2 := P.cell 2 _ rfl
            have cP_3 := P.cell 3 _ rfl
            have lP := P.lt
            go_wp2_with fail
            refine (awake_any _).mono ?_
            rintro _ wx22 ⟨rfl, hb⟩
            clear cP_0 cP_1 cP_2 cP_3 lP
            replace P := P.next hb
            replace hB := below_step hB hb
            clear hb
            go_wp2
            go_ret
            exact ⟨rfl, hB⟩
          · obtain rfl : x1 = cost := by omega
            obtain ⟨rfl, rfl⟩ := hV.out.1 (by omega)
            clear h5 hno hyes
            go_wp2_with fail
            refine (HAM.out _ (hs.out.next hB)).mono ?_
            rintro _ wx21 ⟨rfl, hb⟩
            clear cP_0 cP_1 cP_2 cP_3 lP
            replace P := P.next hb
            replace hB := below_step hB hb
            clear hb
            have cP_0 := P.cell 0 _ rfl
            have cP_1 := P.cell 1 _ rfl
            have cP_2 := P.cell 2 _ rfl
            have cP_3 := P.cell 3 _ rfl
            have lP := P.lt
            go_wp2_with fail
            refine (awake_any _).mono ?_
            rintro _ wx22 ⟨rfl, hb⟩
            clear cP_0 cP_1 cP_2 cP_3 lP
            replace P := P.next hb
            replace hB := below_step hB hb
            clear hb
            go_wp2
            go_ret
            exact ⟨rfl, hB⟩
        · obtain rfl := hV.out.2 (hyes rfl)
          clear hno hyes
          go_wp2_with fail
          refine (HAM.out _ (hs.out.next hB)).mono ?_
          rintro _ wx21 ⟨rfl, hb⟩
          clear cP_0 cP_1 cP_2 cP_3 lP
          replace P := P.next hb
          replace hB := below_step hB hb
          clear hb
          have cP_0 := P.cell 0 _ rfl
          have cP_1 := P.cell 1 _ rfl
          have cP_2 := P.cell 2 _ rfl
          have cP_3 := P.cell 3 _ rfl
          have lP := P.lt
          go_wp2_with fail
          refine (awake_any _).mono ?_
          rintro _ wx22 ⟨rfl, hb⟩
          clear cP_0 cP_1 cP_2 cP_3 lP
          replace P := P.next hb
          replace hB := below_step hB hb
          clear hb
          go_wp2
          go_ret
          exact ⟨rfl, hB⟩
theorem amt_units (fi fu iv : Int) (ts : List T2) (units : Int) (hc : chkV fi fu iv ts = 0) (h3 : 0 ≤ units) (hl : units + fu ≤ 1000000000000) : amtV fi fu iv ts 0 0 0 (units + fu) = if sumP ts units ts.length ≤ 1000000000000 then ⟨sumP ts units ts.length, 0⟩ else ⟨0, 8⟩ := by
  obtain ⟨⟨f0, _⟩, ⟨f2, _⟩, _⟩ := chkV_good fi fu iv ts hc
  have hu : usB 0 0 0 (units + fu) = true := (usB_iff _ _ _ _).2 ⟨(amtB_iff _).2 (by omega), (amtB_iff _).2 (by omega), (amtB_iff _).2 (by omega), (amtB_iff _).2 (by omega)⟩
  have he : billV fi fu iv ts 0 0 0 (units + fu) = ⟨0, units, 0⟩ := by
    unfold billV
    rw [if_pos hc, if_pos hu, show max (0 - fi) 0 = 0 by omega, show max (units + fu - fu) 0 = units by omega]
  have ht : amtT iv ts 0 units = sumP ts units ts.length := by unfold amtT; rw [Int.zero_mul, Int.zero_add]
  unfold amtV
  rw [he]
  dsimp only
  rw [if_pos rfl, ht]
theorem priceSplits_walk (fi fu iv : Int) (A : Option Addr) (n cap : Nat) (ts : List T2) (units : Int) (w : World) (_ : (Lit.int .i64 fi).wf = true) (_ : (Lit.int .i64 fu).wf = true) (_ : (Lit.int .i64 iv).wf = true) (_ : (Lit.int .i64 units).wf = true) (HZ : ts.length = n ∧ Seg w A (n * 2) (tCell ts) ∧ n ≤ maxLen) : Calls Try.prog 6 #[.agg #[.int .i64 fi, .int .i64 fu, .int .i64 iv, .slice A n cap], .int .i64 units] w fun e w' => e = .returned (.bool true) ∧ Below w.heap.size w w' := by
  obtain ⟨hn, hs0, _⟩ := HZ
  have hs := Lib.hid hs0
  by_cases h : 100 < n
  · exact ps_out fi fu iv A n cap ts units w hs (by omega)
  · have HS : Hid (∀ W, Seg W A (n * 2) (tCell ts) → _) := fun W k => spl_any fi fu iv A n cap ts units W hn k
    unfold splV at HS
    by_cases hc : chkV fi fu iv ts = 0
    · rw [if_pos hc] at HS
      by_cases hu : 0 ≤ units ∧ units ≤ 1000000000000
      · rw [if_pos hu] at HS
        dsimp only at HS
        rw [hn] at HS
        obtain ⟨_, ⟨f0, f1⟩, _, ⟨l1, l2⟩, hg⟩ := chkV_good fi fu iv ts hc
        have HA : Hid (units + fu ≤ 1000000000000 → Hid (∀ W, Seg W A (n * 2) (tCell ts) → _)) := Lib.hid (fun _ => Lib.hid (fun W k => amt_any fi fu iv A n cap ts 0 0 0 (units + fu) W hn k))
        refine ps_main fi fu iv A n cap ts units (if sumP ts units n ≤ 1000000000000 then sumP ts units n else 0) (if sumP ts units n ≤ 1000000000000 then 0 else 8) w hs HS hn hg (by omega) (by omega) hu.1 hu.2 (by omega) f0 f1 (Lib.hid (fun hl => Lib.hid (fun W k => ?_))) (Lib.hid ⟨fun g => ⟨if_pos g, if_pos g⟩, fun g => if_neg (by omega)⟩)
        have k2 := (HA.out hl).out W k
        rw [amt_units fi fu iv ts units hc hu.1 hl, hn] at k2
        by_cases g : sumP ts units n ≤ 1000000000000
        · rw [if_pos g] at k2 ⊢
          rw [if_pos g]
          exact k2
        · rw [if_neg g] at k2 ⊢
          rw [if_neg g]
          exact k2
      · rw [if_neg hu] at HS
        exact ps_err fi fu iv A n cap ts units 2 w hs HS rfl (by omega)
    · rw [if_neg hc] at HS
      exact ps_err fi fu iv A n cap ts units _ w hs HS (bne_iff_ne.2 hc) (by omega)

end Go.Proofs.Ytdmffbbobagloaa
