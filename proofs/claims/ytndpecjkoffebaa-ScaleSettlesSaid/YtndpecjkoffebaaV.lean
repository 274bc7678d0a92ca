/- The walk of ScaleSettles of layer 42. -/
import Derived.Test.YtndpecjkoffebaaR
namespace Go.Proofs.Ytndpecjkoffebaa
open Go.ChangeShapes Go.WideShapes Go.ChangeAt Go.RowKit
attribute [local go_sem high] eql25

def rem (up dn c d : Int) : Int := if c ≤ d then ceilI (d - c) up else ceilI (c - d) dn
theorem ceilI_nonneg (a s : Int) (h : 0 ≤ a) (hs : 1 ≤ s) : 0 ≤ ceilI a s := by
  unfold ceilI
  exact Int.ediv_nonneg (by omega) (by omega)
theorem ceilI_sub (a s : Int) (h : 1 ≤ a) (hs : 1 ≤ s) : ceilI (a - min s a) s = ceilI a s - 1 := by
  unfold ceilI
  by_cases g : a ≤ s
  · rw [show a - min s a + s - 1 = s - 1 by omega, Int.ediv_eq_zero_of_lt (by omega) (by omega)]
    have : (a + s - 1) / s = 1 := by
      rw [show a + s - 1 = (a - 1) + s * 1 by omega, Int.add_mul_ediv_left _ _ (by omega), Int.ediv_eq_zero_of_lt (by omega) (by omega)]
      rfl
    omega
  · rw [show a - min s a + s - 1 = (a + s - 1) + s * (-1) by omega, Int.add_mul_ediv_left _ _ (by omega)]
    omega
theorem ceilI_le (a s : Int) (h : 0 ≤ a) (hs : 1 ≤ s) : ceilI a s ≤ a := by
  by_cases g : a = 0
  · subst g; rw [ceil_zero s hs]; omega
  · unfold ceilI
    have e1 := Int.mul_ediv_add_emod (a + s - 1) s
    have e2 := Int.emod_nonneg (a + s - 1) (b := s) (by omega)
    rcases (show a < (a + s - 1) / s ∨ (a + s - 1) / s ≤ a by omega) with h1 | h1
    · have h2 : s * (a + 1) ≤ s * ((a + s - 1) / s) := Int.mul_le_mul_of_nonneg_left (by omega) (by omega)
      have h3 : 1 * a ≤ s * a := Int.mul_le_mul_of_nonneg_right hs (by omega)
      rw [Int.mul_add, Int.mul_one] at h2
      have h4 : (s - 1) * 1 ≤ (s - 1) * a := Int.mul_le_mul_of_nonneg_left (by omega) (by omega)
      rw [Int.sub_mul] at h4
      omega
    · exact h1
theorem ceilI_pos (a s : Int) (h : 1 ≤ a) (hs : 1 ≤ s) : 1 ≤ ceilI a s := by
  have := ceilI_sub a s h hs
  have := ceilI_nonneg (a - min s a) s (by omega) hs
  omega
theorem rem_bd (up dn c d : Int) (h1 : 1 ≤ up) (h2 : 1 ≤ dn) : 0 ≤ rem up dn c d ∧ (rem up dn c d ≤ d - c ∨ rem up dn c d ≤ c - d) ∧ (c ≠ d → 1 ≤ rem up dn c d) ∧ (c = d → rem up dn c d = 0) := by
  unfold rem
  split
  · refine ⟨ceilI_nonneg _ _ (by omega) h1, .inl (ceilI_le _ _ (by omega) h1), fun _ => ceilI_pos _ _ (by omega) h1, fun h => ?_⟩
    subst h
    rw [Int.sub_self]
    exact ceil_zero up h1
  · refine ⟨ceilI_nonneg _ _ (by omega) h2, .inr (ceilI_le _ _ (by omega) h2), fun _ => ceilI_pos _ _ (by omega) h2, fun h => by omega⟩
theorem rem_step (t mi ma up dn c ch load now : Int) (hp : polB t mi ma up dn 0 0 = true) (hs : stB mi ma c ch = true) (h1 : 0 ≤ now) (h2 : now ≤ 1073741824) (h3 : ch ≤ now) (hl : 0 ≤ load) (hl2 : load ≤ 1000000000000) (hd : c ≠ desI t mi ma load) :
    (nextV t mi ma up dn 0 0 c ch load now).e = 0 ∧ (nextV t mi ma up dn 0 0 c ch load now).h = now ∧ mi ≤ (nextV t mi ma up dn 0 0 c ch load now).c ∧ (nextV t mi ma up dn 0 0 c ch load now).c ≤ ma ∧
      rem up dn (nextV t mi ma up dn 0 0 c ch load now).c (desI t mi ma load) = rem up dn c (desI t mi ma load) - 1 := by
  obtain ⟨p1, p2, p3, p4, p5, p6, p7, p8, p9, pa, pb, pc, pd⟩ := (polB_iff t mi ma up dn 0 0).1 hp
  obtain ⟨s1, s2, s3, s4⟩ := (stB_iff _ _ _ _).1 hs
  have db := desI_bd t mi ma load p4
  have e0 : nextV t mi ma up dn 0 0 c ch load now = moveV up dn 0 0 c ch now (desI t mi ma load) := by
    unfold nextV
    rw [if_pos ⟨(stOk_iff ..).2 ⟨hp, hs⟩, hl, hl2, h1, h2⟩, if_neg (by omega)]
  rw [e0]
  clear e0
  generalize desI t mi ma load = d at *
  unfold moveV
  by_cases g : c < d
  · rw [if_pos ⟨g, by omega⟩]
    have := ceilI_sub (d - c) up (by omega) p6
    refine ⟨rfl, rfl, by simp only; omega, by simp only; omega, ?_⟩
    unfold rem
    simp only
    rw [if_pos (by omega), if_pos (by omega), ← this]
    congr 1
    omega
  · rw [if_neg (by omega), if_pos ⟨by omega, by omega⟩]
    have h5 := ceilI_sub (c - d) dn (by omega) p8
    refine ⟨rfl, rfl, by simp only; omega, by simp only; omega, ?_⟩
    unfold rem
    simp only
    by_cases g2 : c - min dn (c - d) ≤ d
    · rw [if_pos g2, if_neg (by omega), ← h5, show d - (c - min dn (c - d)) = 0 by omega, ceil_zero up p6, show c - d - min dn (c - d) = 0 by omega, ceil_zero dn p8]
    · rw [if_neg g2, if_neg (by omega), ← h5]
      congr 1
      omega
theorem set_open (t mi ma up dn cu cd c ch load : Int) (h : (setV t mi ma up dn cu cd c ch load).e = 0) : polB t mi ma up dn cu cd = true ∧ stB mi ma c ch = true ∧ 0 ≤ load ∧ load ≤ 1000000000000 ∧ setV t mi ma up dn cu cd c ch load = ⟨rem up dn c (desI t mi ma load), 0⟩ := by
  revert h
  unfold setV
  split
  · rename_i g
    obtain ⟨g1, g2, g3⟩ := g
    obtain ⟨hp, hs⟩ := (stOk_iff t mi ma up dn cu cd c ch).1 g1
    intro _
    refine ⟨hp, hs, g2, g3, ?_⟩
    unfold rem
    split <;> rfl
  · intro h; simp at h
set_option maxHeartbeats 1000000 in
theorem settles_out (t mi ma up dn cu cd c ch load m e0 : Int) (w : World) (h1 : Hid (∀ W, Calls Try.prog 15 #[.agg #[.int .i64 t, .int .i64 mi, .int .i64 ma, .int .i64 up, .int .i64 dn, .int .i64 0, .int .i64 0], .agg #[.int .i64 c, .int .i64 ch], .int .i64 load] W fun e w' => e = .returned (.tuple #[.int .i64 m, .int .i64 e0]) ∧ Below W.heap.size W w'))
    (h : (e0 != 0) = true ∨ ((e0 != 0) = false ∧ decide (200 < ma) = true) ∨ ((e0 != 0) = false ∧ decide (200 < ma) = false ∧ decide (1000 < ch) = true)) : Calls Try.prog 8 #[.agg #[.int .i64 t, .int .i64 mi, .int .i64 ma, .int .i64 up, .int .i64 dn, .int .i64 cu, .int .i64 cd], .agg #[.int .i64 c, .int .i64 ch], .int .i64 load] w fun e w' => e = .returned (.bool true) ∧ Below w.heap.size w w' := by
  rcases h with g | ⟨g, g2⟩ | ⟨g, g2, g3⟩
  · go_enter Try.func8, Try.ntmps8
    go_wp2_with fail
    refine (h1.out _).mono ?_
    rintro _ wx1 ⟨rfl, hb⟩
    have P := ((Box.new w 23 #[.int .i64 t, .int .i64 mi, .int .i64 ma, .int .i64 up, .int .i64 dn, .int .i64 0, .int .i64 0]).alloc _).next hb
    have S := ((Box.new ((w).alloc (.cells #[.int .i64 t, .int .i64 mi, .int .i64 ma, .int .i64 up, .int .i64 dn, .int .i64 0, .int .i64 0] 23)) 25 #[.int .i64 c, .int .i64 ch])).next hb
    simp only [World.size_alloc] at S
    have hB := below_step (below_box (below_box (Below.refl _ w) _) _) hb
    clear hb
    have cP_0 := P.cell 0 _ rfl
    have cP_1 := P.cell 1 _ rfl
    have cP_2 := P.cell 2 _ rfl
    have cP_3 := P.cell 3 _ rfl
    have cP_4 := P.cell 4 _ rfl
    have cP_5 := P.cell 5 _ rfl
    have cP_6 := P.cell 6 _ rfl
    have lP := P.lt
    have cS_0 := S.cell 0 _ rfl
    have cS_1 := S.cell 1 _ rfl
    have lS := S.lt
    go_wp2_with fail
    refine (awake_any _).mono ?_
    rintro _ wx2 ⟨rfl, hb⟩
    clear cP_0 cP_1 cP_2 cP_3 cP_4 cP_5 cP_6 lP cS_0 cS_1 lS
    replace P := (P).next hb
    replace S := (S).next hb
    replace hB := below_step hB hb
    clear hb
    go_wp2
    go_ret
    exact ⟨rfl, hB⟩
  · go_enter Try.func8, Try.ntmps8
    go_wp2_with fail
    refine (h1.out _).mono ?_
    rintro _ wx1 ⟨rfl, hb⟩
    have P := ((Box.new w 23 #[.int .i64 t, .int .i64 mi, .int .i64 ma, .int .i64 up, .int .i64 dn, .int .i64 0, .int .i64 0]).alloc _).next hb
    have S := ((Box.new ((w).alloc (.cells #[.int .i64 t, .int .i64 mi, .int .i64 ma, .int .i64 up, .int .i64 dn, .int .i64 0, .int .i64 0] 23)) 25 #[.int .i64 c, .int .i64 ch])).next hb
    simp only [World.size_alloc] at S
    have hB := below_step (below_box (below_box (Below.refl _ w) _) _) hb
    clear hb
    have cP_0 := P.cell 0 _ rfl
    have cP_1 := P.cell 1 _ rfl
    have cP_2 := P.cell 2 _ rfl
    have cP_3 := P.cell 3 _ rfl
    have cP_4 := P.cell 4 _ rfl
    have cP_5 := P.cell 5 _ rfl
    have cP_6 := P.cell 6 _ rfl
    have lP := P.lt
    have cS_0 := S.cell 0 _ rfl
    have cS_1 := S.cell 1 _ rfl
    have lS := S.lt
    go_wp2_with fail
    refine (awake_any _).mono ?_
    rintro _ wx2 ⟨rfl, hb⟩
    clear cP_0 cP_1 cP_2 cP_3 cP_4 cP_5 cP_6 lP cS_0 cS_1 lS
    replace P := (P).next hb
    replace S := (S).next hb
    replace hB := below_step hB hb
    clear hb
    go_wp2
    go_ret
    exact ⟨rfl, hB⟩
  · go_enter Try.func8, Try.ntmps8
    go_wp2_with fail
    refine (h1.out _).mono ?_
    rintro _ wx1 ⟨rfl, hb⟩
    have P := ((Box.new w 23 #[.int .i64 t, .int .i64 mi, .int .i64 ma, .int .i64 up, .int .i64 dn, .int .i64 0, .int .i64 0]).alloc _).next hb
    have S := ((Box.new ((w).alloc (.cells #[.int .i64 t, .int .i64 mi, .int .i64 ma, .int .i64 up, .int .i64 dn, .int .i64 0, .int .i64 0] 23)) 25 #[.int .i64 c, .int .i64 ch])).next hb
    simp only [World.size_alloc] at S
    have hB := below_step (below_box (below_box (Below.refl _ w) _) _) hb
    clear hb
    have cP_0 := P.cell 0 _ rfl
    have cP_1 := P.cell 1 _ rfl
    have cP_2 := P.cell 2 _ rfl
    have cP_3 := P.cell 3 _ rfl
    have cP_4 := P.cell 4 _ rfl
    have cP_5 := P.cell 5 _ rfl
    have cP_6 := P.cell 6 _ rfl
    have lP := P.lt
    have cS_0 := S.cell 0 _ rfl
    have cS_1 := S.cell 1 _ rfl
    have lS := S.lt
    go_wp2_with fail
    refine (awake_any _).mono ?_
    rintro _ wx2 ⟨rfl, hb⟩
    clear cP_0 cP_1 cP_2 cP_3 cP_4 cP_5 cP_6 lP cS_0 cS_1 lS
    replace P := (P).next hb
    replace S := (S).next hb
    replace hB := below_step hB hb
    clear hb
    go_wp2
    go_ret
    exact ⟨rfl, hB⟩
def SetRel (t mi ma up dn d : Int) (n : Nat) (w : World) (i : Value) (wr : World) : Prop :=
  ∃ (k : Nat) (c ch : Int), i = .int .i64 k ∧ k ≤ n ∧ mi ≤ c ∧ c ≤ ma ∧ -1 ≤ ch ∧ ch ≤ 1000 + k ∧ rem up dn c d = n - k ∧ Box wr w.heap.size 23 #[.int .i64 t, .int .i64 mi, .int .i64 ma, .int .i64 up, .int .i64 dn, .int .i64 0, .int .i64 0] ∧ Box wr (w.heap.size + 1) 25 #[.int .i64 c, .int .i64 ch] ∧ Below w.heap.size w wr
set_option maxRecDepth 100000 in
set_option maxHeartbeats 4000000 in
theorem settles_main (t mi ma up dn cu cd c ch load d : Int) (n : Nat) (w : World) (h1 : Hid (∀ W, Calls Try.prog 15 #[.agg #[.int .i64 t, .int .i64 mi, .int .i64 ma, .int .i64 up, .int .i64 dn, .int .i64 0, .int .i64 0], .agg #[.int .i64 c, .int .i64 ch], .int .i64 load] W fun e w' => e = .returned (.tuple #[.int .i64 n, .int .i64 0]) ∧ Below W.heap.size W w')) (h2 : Hid (∀ W, Calls Try.prog 11 #[.agg #[.int .i64 t, .int .i64 mi, .int .i64 ma, .int .i64 up, .int .i64 dn, .int .i64 0, .int .i64 0], .int .i64 load] W fun e w' => e = .returned (.tuple #[.int .i64 d, .int .i64 0]) ∧ Below W.heap.size W w'))
    (hp : Hid (polB t mi ma up dn 0 0 = true)) (hd : Hid (desI t mi ma load = d)) (hr : Hid (rem up dn c d = n)) (q1 : mi ≤ c) (q2 : c ≤ ma) (q3 : -1 ≤ ch) (q4 : ch ≤ 1000) (q5 : ma ≤ 200) (_q6 : 0 ≤ mi) (q7 : n ≤ 200) (q8 : 0 ≤ load) (q9 : load ≤ 1000000000000) (u1 : 1 ≤ up) (u2 : 1 ≤ dn) :
    Calls Try.prog 8 #[.agg #[.int .i64 t, .int .i64 mi, .int .i64 ma, .int .i64 up, .int .i64 dn, .int .i64 cu, .int .i64 cd], .agg #[.int .i64 c, .int .i64 ch], .int .i64 load] w fun e w' => e = .returned (.bool true) ∧ Below w.heap.size w w' := by
  go_enter Try.func8, Try.ntmps8
  go_wp2_with fail
  refine (h1.out _).mono ?_
  rintro _ wx1 ⟨rfl, hb⟩
  have P := ((Box.new w 23 #[.int .i64 t, .int .i64 mi, .int .i64 ma, .int .i64 up, .int .i64 dn, .int .i64 0, .int .i64 0]).alloc _).next hb
  have S := ((Box.new ((w).alloc (.cells #[.int .i64 t, .int .i64 mi, .int .i64 ma, .int .i64 up, .int .i64 dn, .int .i64 0, .int .i64 0] 23)) 25 #[.int .i64 c, .int .i64 ch])).next hb
  simp only [World.size_alloc] at S
  have hB := below_step (below_box (below_box (Below.refl _ w) _) _) hb
  clear hb
  have cP_0 := P.cell 0 _ rfl
  have cP_1 := P.cell 1 _ rfl
  have cP_2 := P.cell 2 _ rfl
  have cP_3 := P.cell 3 _ rfl
  have cP_4 := P.cell 4 _ rfl
  have cP_5 := P.cell 5 _ rfl
  have cP_6 := P.cell 6 _ rfl
  have lP := P.lt
  have cS_0 := S.cell 0 _ rfl
  have cS_1 := S.cell 1 _ rfl
  have lS := S.lt
  go_wp2_with fail
  refine (h2.out _).mono ?_
  rintro _ wx2 ⟨rfl, hb⟩
  clear cP_0 cP_1 cP_2 cP_3 cP_4 cP_5 cP_6 lP cS_0 cS_1 lS
  replace P := (P).next hb
  replace S := (S).next hb
  replace hB := below_step hB hb
  clear hb
  have cP_0 := P.cell 0 _ rfl
  have cP_1 := P.cell 1 _ rfl
  have cP_2 := P.cell 2 _ rfl
  have cP_3 := P.cell 3 _ rfl
  have cP_4 := P.cell 4 _ rfl
  have cP_5 := P.cell 5 _ rfl
  have cP_6 := P.cell 6 _ rfl
  have lP := P.lt
  have cS_0 := S.cell 0 _ rfl
  have cS_1 := S.cell 1 _ rfl
  have lS := S.lt
  clear cP_0 cP_1 cP_2 cP_3 cP_4 cP_5 cP_6 lP cS_0 cS_1 lS
  go_wp2_with fail
  go_loopw [53] (SetRel t mi ma up dn d n w) (fun i _ => n - (intOf i).toNat)
  case atStart => exact ⟨0, c, ch, rfl, by omega, q1, q2, q3, by omega, by have := hr.out; omega, P, S, hB⟩
  case round =>
    clear P S hB q1 q2 q3 q4 hr h1 h2
    obtain ⟨k, c, ch, rfl, hk, i1, i2, i3, i4, hr, P, S, hB⟩ := hrel
    have HR := Lib.hid hr
    clear hr
    by_cases hlt : k < n
    · have hb := rem_bd up dn c d u1 u2
      have hcd : c ≠ d := fun h => by have h1 := hb.2.2.2 h; have h2 := HR.out; omega
      have hq : (c == d) = false := by simpa using hcd
      have hst : Hid (stB mi ma c ch = true) := (stB_iff mi ma c ch).2 ⟨i1, i2, i3, by omega⟩
      have HT : Hid (∀ W, _) := fun W => next_any t mi ma up dn 0 0 c ch load (1000 + k) W
      obtain ⟨t1, t2, t3, t4, t5⟩ := rem_step t mi ma up dn c ch load (1000 + k) hp.out hst.out (by omega) (by omega) (by omega) q8 q9 (by rw [hd.out]; exact hcd)
      rw [hd.out] at t5
      generalize nextV t mi ma up dn 0 0 c ch load (1000 + k) = T at *
      obtain ⟨c', h', e'⟩ := T
      simp only at HT t1 t2 t3 t4 t5
      subst t1
      subst t2
      have HR2 : Hid (rem up dn c' d = n - (k + 1)) := by have h2 := HR.out; unfold Hid; omega
      clear t5 hb hcd HR hst
      have h0 : ((0 : Int) != 0) = false := rfl
      have hwr : IntKind.i64.wrap (1000 + (k : Int)) = 1000 + (k : Int) := IntWalk.i64_in _ (by omega)
      have cP_0 := P.cell 0 _ rfl
      have cP_1 := P.cell 1 _ rfl
      have cP_2 := P.cell 2 _ rfl
      have cP_3 := P.cell 3 _ rfl
      have cP_4 := P.cell 4 _ rfl
      have cP_5 := P.cell 5 _ rfl
      have cP_6 := P.cell 6 _ rfl
      have lP := P.lt
      have cS_0 := S.cell 0 _ rfl
      have cS_1 := S.cell 1 _ rfl
      have lS := S.lt
      go_wp2_with fail
      refine (HT.out _).mono ?_
      rintro _ wx6 ⟨rfl, hb⟩
      clear cP_0 cP_1 cP_2 cP_3 cP_4 cP_5 cP_6 lP cS_0 cS_1 lS
      replace P := (P).next hb
      replace S := (S).next hb
      replace hB := below_step hB hb
      clear hb
      have cP_0 := P.cell 0 _ rfl
      have cP_1 := P.cell 1 _ rfl
      have cP_2 := P.cell 2 _ rfl
      have cP_3 := P.cell 3 _ rfl
      have cP_4 := P.cell 4 _ rfl
      have cP_5 := P.cell 5 _ rfl
      have cP_6 := P.cell 6 _ rfl
      have lP := P.lt
      have cS_0 := S.cell 0 _ rfl
      have cS_1 := S.cell 1 _ rfl
      have lS := S.lt
      have zP_T := P.lt
      have zS_T := S.lt
      have zB_T := hB.size
      go_upto_region 14 with fail
      clear cP_0 cP_1 cP_2 cP_3 cP_4 cP_5 cP_6 lP cS_0 cS_1 lS
      have zP := P.lt
      have zS := S.lt
      refine wp_forget (fun W => Box W w.heap.size 23 #[.int .i64 t, .int .i64 mi, .int .i64 ma, .int .i64 up, .int .i64 dn, .int .i64 0, .int .i64 0] ∧ Box W (w.heap.size + 1) 25 #[.int .i64 c, .int .i64 ch] ∧ Box W (wx6.heap.size) 25 #[.int .i64 c', .int .i64 (1000 + (k : Int))] ∧ Below w.heap.size w W)
        ⟨P.alloc _, S.alloc _, (Box.new wx6 25 #[.int .i64 c', .int .i64 (1000 + (k : Int))]), (below_box hB _)⟩ ?_
      clear P S hB
      rintro wx7 ⟨P, S, T, hB⟩
      have cP_0 := P.cell 0 _ rfl
      have cP_1 := P.cell 1 _ rfl
      have cP_2 := P.cell 2 _ rfl
      have cP_3 := P.cell 3 _ rfl
      have cP_4 := P.cell 4 _ rfl
      have cP_5 := P.cell 5 _ rfl
      have cP_6 := P.cell 6 _ rfl
      have lP := P.lt
      have cS_0 := S.cell 0 _ rfl
      have cS_1 := S.cell 1 _ rfl
      have fS_0 := S.frozen 0
      have fS_1 := S.frozen 1
      have lS := S.lt
      have cT_0 := T.cell 0 _ rfl
      have cT_1 := T.cell 1 _ rfl
      have lT := T.lt
      go_upto_region 17 with fail
      clear cP_0 cP_1 cP_2 cP_3 cP_4 cP_5 cP_6 lP cS_0 cS_1 fS_0 fS_1 lS cT_0 cT_1 lT
      replace P := ((P.far (p := ⟨w.heap.size + 1, 0, none⟩) (by first | omega | (simp only []; omega)) (.int .i64 c')).far (p := ⟨w.heap.size + 1, 1, none⟩) (by first | omega | (simp only []; omega)) (.int .i64 (1000 + (k : Int))))
      replace S : Box _ _ _ #[.int .i64 c', .int .i64 (1000 + (k : Int))] := ((S.set 0 (.int .i64 c')).set 1 (.int .i64 (1000 + (k : Int)))).eq_ (by simp)
      replace T := ((T.far (p := ⟨w.heap.size + 1, 0, none⟩) (by first | omega | (simp only []; omega)) (.int .i64 c')).far (p := ⟨w.heap.size + 1, 1, none⟩) (by first | omega | (simp only []; omega)) (.int .i64 (1000 + (k : Int))))
      replace hB := ((hB.setCell (p := ⟨w.heap.size + 1, 0, none⟩) (by first | omega | (simp only []; omega)) (.int .i64 c')).setCell (p := ⟨w.heap.size + 1, 1, none⟩) (by first | omega | (simp only []; omega)) (.int .i64 (1000 + (k : Int))))
      clear hwr
      go_wp2
      go_roundw
      case rel => exact ⟨k + 1, c', 1000 + k, by go_num, by omega, t3, t4, by omega, by omega, by have h := HR2.out; omega, P, S, hB⟩
      case measure => simp [intOf]; omega
    · have hkn : (n : Int) ≤ k := by omega
      have hb := rem_bd up dn c d u1 u2
      have hcd : c = d := by
        rcases Int.lt_trichotomy c d with h | h | h
        · have := hb.2.2.1 (by omega); have := HR.out; omega
        · exact h
        · have := hb.2.2.1 (by omega); have := HR.out; omega
      have hq : (c == d) = true := by simpa using hcd
      clear hcd hb HR
      have cP_0 := P.cell 0 _ rfl
      have cP_1 := P.cell 1 _ rfl
      have cP_2 := P.cell 2 _ rfl
      have cP_3 := P.cell 3 _ rfl
      have cP_4 := P.cell 4 _ rfl
      have cP_5 := P.cell 5 _ rfl
      have cP_6 := P.cell 6 _ rfl
      have lP := P.lt
      have cS_0 := S.cell 0 _ rfl
      have cS_1 := S.cell 1 _ rfl
      have lS := S.lt
      go_wp2_with fail
      refine (awake_any _).mono ?_
      rintro _ wx10 ⟨rfl, hb⟩
      clear cP_0 cP_1 cP_2 cP_3 cP_4 cP_5 cP_6 lP cS_0 cS_1 lS
      replace P := (P).next hb
      replace S := (S).next hb
      replace hB := below_step hB hb
      clear hb
      go_wp2
      go_ret
      exact ⟨rfl, hB⟩
theorem scaleSettles_walk (t mi ma up dn cu cd : Int) (c ch : Int) (load : Int) (w : World) (_ : (Lit.int .i64 t).wf = true) (_ : (Lit.int .i64 mi).wf = true) (_ : (Lit.int .i64 ma).wf = true) (_ : (Lit.int .i64 up).wf = true) (_ : (Lit.int .i64 dn).wf = true) (_ : (Lit.int .i64 cu).wf = true) (_ : (Lit.int .i64 cd).wf = true) (_ : (Lit.int .i64 c).wf = true) (_ : (Lit.int .i64 ch).wf = true) (_ : (Lit.int .i64 load).wf = true) : Calls Try.prog 8 #[.agg #[.int .i64 t, .int .i64 mi, .int .i64 ma, .int .i64 up, .int .i64 dn, .int .i64 cu, .int .i64 cd], .agg #[.int .i64 c, .int .i64 ch], .int .i64 load] w fun e w' => e = .returned (.bool true) ∧ Below w.heap.size w w' := by
  have h1 : Hid (∀ W, _) := fun W => set_any t mi ma up dn 0 0 c ch load W
  by_cases he : (setV t mi ma up dn 0 0 c ch load).e = 0
  · obtain ⟨hp, hs, l1, l2, hv⟩ := set_open t mi ma up dn 0 0 c ch load he
    obtain ⟨p1, p2, p3, p4, p5, p6, p7, p8, p9, pa, pb, pc, pd⟩ := (polB_iff t mi ma up dn 0 0).1 hp
    obtain ⟨s1, s2, s3, s4⟩ := (stB_iff _ _ _ _).1 hs
    rw [hv] at h1
    by_cases g1 : 200 < ma
    · exact settles_out t mi ma up dn cu cd c ch load _ _ w h1 (.inr (.inl ⟨rfl, by simpa using g1⟩))
    by_cases g2 : 1000 < ch
    · exact settles_out t mi ma up dn cu cd c ch load _ _ w h1 (.inr (.inr ⟨rfl, by simpa using g1, by simpa using g2⟩))
    have h2 : Hid (∀ W, Calls Try.prog 11 #[.agg #[.int .i64 t, .int .i64 mi, .int .i64 ma, .int .i64 up, .int .i64 dn, .int .i64 0, .int .i64 0], .int .i64 load] W fun e w' => e = .returned (.tuple #[.int .i64 (desI t mi ma load), .int .i64 0]) ∧ Below W.heap.size W w') := fun W => by
      have h := des_any t mi ma up dn 0 0 load W
      unfold desV desOk at h
      rw [hp, decide_eq_true ⟨l1, l2⟩] at h
      exact h
    have db := desI_bd t mi ma load p4
    generalize hd : desI t mi ma load = d at *
    have hb := rem_bd up dn c d p6 p8
    obtain ⟨n, hn⟩ : ∃ n : Nat, rem up dn c d = n := ⟨(rem up dn c d).toNat, by omega⟩
    simp only [hn] at h1
    exact settles_main t mi ma up dn cu cd c ch load d n w h1 h2 hp hd hn s1 s2 s3 (by omega) (by omega) p3 (by omega) l1 l2 p6 p8
  · exact settles_out t mi ma up dn cu cd c ch load _ _ w h1 (.inl (bne_true he))

end Go.Proofs.Ytndpecjkoffebaa
