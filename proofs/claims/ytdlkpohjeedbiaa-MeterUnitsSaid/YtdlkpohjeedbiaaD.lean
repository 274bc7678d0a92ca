/- Contracts of Check and Ticks of layer 34 (meter) and of its reference. -/
import Derived.Test.YtdlkpohjeedbiaaC
namespace Go.Proofs.Ytdlkpohjeedbiaa
open Go.ChangeShapes Go.WideShapes Go.ChangeAt Go.RowKit

def mOk (sp gr : Int) : Bool := decide (1 ≤ sp ∧ sp ≤ 1000000000 ∧ 1 ≤ gr ∧ gr ≤ 1000000000)
theorem mOk_iff (sp gr : Int) : mOk sp gr = true ↔ (1 ≤ sp ∧ sp ≤ 1000000000 ∧ 1 ≤ gr ∧ gr ≤ 1000000000) := by simp [mOk]
theorem mOk_cases (sp gr : Int) (h : mOk sp gr = false) : (sp < 1 ∨ (1 ≤ sp ∧ 1000000000 < sp)) ∨ ((1 ≤ sp ∧ sp ≤ 1000000000) ∧ (gr < 1 ∨ (1 ≤ gr ∧ 1000000000 < gr))) := by
  have h2 : ¬ _ := fun hh => Bool.false_ne_true (h.symm.trans ((mOk_iff sp gr).2 hh))
  omega
def mE (sp gr : Int) : Int := if mOk sp gr then 0 else 2
set_option maxHeartbeats 1000000 in
theorem chk_yes (sp gr : Int) (w : World) (h1 : 1 ≤ sp) (h2 : sp ≤ 1000000000) (h3 : 1 ≤ gr) (h4 : gr ≤ 1000000000) : Calls Try.prog 8 #[.agg #[.int .i64 sp, .int .i64 gr]] w fun e w' => e = .returned (.int .i64 0) ∧ Below w.heap.size w w' := by
  go_enter Try.func8, Try.ntmps8
  go_wp2_with fail
  refine (btw_yes _ _ _ _ (by omega) (by omega)).mono ?_
  rintro _ wy1 ⟨rfl, rfl⟩
  go_wp2_with fail
  refine (btw_yes _ _ _ _ (by omega) (by omega)).mono ?_
  rintro _ wy2 ⟨rfl, rfl⟩
  go_wp2
  go_ret
  exact ⟨rfl, (below_box (Below.refl _ _) _)⟩
set_option maxHeartbeats 1000000 in
theorem chk_no1 (sp gr : Int) (w : World) (h1 : sp < 1 ∨ (1 ≤ sp ∧ 1000000000 < sp)) : Calls Try.prog 8 #[.agg #[.int .i64 sp, .int .i64 gr]] w fun e w' => e = .returned (.int .i64 2) ∧ Below w.heap.size w w' := by
  go_enter Try.func8, Try.ntmps8
  go_wp2_with fail
  refine (btw_no _ _ _ _ h1).mono ?_
  rintro _ wy1 ⟨rfl, rfl⟩
  go_wp2
  go_ret
  exact ⟨rfl, (below_box (Below.refl _ _) _)⟩
set_option maxHeartbeats 1000000 in
theorem chk_no2 (sp gr : Int) (w : World) (h1 : 1 ≤ sp) (h2 : sp ≤ 1000000000) (h3 : gr < 1 ∨ (1 ≤ gr ∧ 1000000000 < gr)) : Calls Try.prog 8 #[.agg #[.int .i64 sp, .int .i64 gr]] w fun e w' => e = .returned (.int .i64 2) ∧ Below w.heap.size w w' := by
  go_enter Try.func8, Try.ntmps8
  go_wp2_with fail
  refine (btw_yes _ _ _ _ (by omega) (by omega)).mono ?_
  rintro _ wy1 ⟨rfl, rfl⟩
  go_wp2_with fail
  refine (btw_no _ _ _ _ h3).mono ?_
  rintro _ wy2 ⟨rfl, rfl⟩
  go_wp2
  go_ret
  exact ⟨rfl, (below_box (Below.refl _ _) _)⟩
set_option maxHeartbeats 1000000 in
theorem rchk_yes (sp gr : Int) (w : World) (h1 : 1 ≤ sp) (h2 : sp ≤ 1000000000) (h3 : 1 ≤ gr) (h4 : gr ≤ 1000000000) : Calls Try.prog 16 #[.agg #[.int .i64 sp, .int .i64 gr]] w fun e w' => e = .returned (.int .i64 0) ∧ Below w.heap.size w w' := by
  go_enter Try.func16, Try.ntmps16
  go_wp2
  go_ret
  exact ⟨rfl, (below_box (Below.refl _ _) _)⟩
set_option maxHeartbeats 1000000 in
theorem rchk_no0 (sp gr : Int) (w : World) (h1 : sp < 1) : Calls Try.prog 16 #[.agg #[.int .i64 sp, .int .i64 gr]] w fun e w' => e = .returned (.int .i64 2) ∧ Below w.heap.size w w' := by
  go_enter Try.func16, Try.ntmps16
  go_wp2
  go_ret
  exact ⟨rfl, (below_box (Below.refl _ _) _)⟩
set_option maxHeartbeats 1000000 in
theorem rchk_no1 (sp gr : Int) (w : World) (h1 : 1 ≤ sp) (h2 : 1000000000 < sp) : Calls Try.prog 16 #[.agg #[.int .i64 sp, .int .i64 gr]] w fun e w' => e = .returned (.int .i64 2) ∧ Below w.heap.size w w' := by
  go_enter Try.func16, Try.ntmps16
  go_wp2
  go_ret
  exact ⟨rfl, (below_box (Below.refl _ _) _)⟩
set_option maxHeartbeats 1000000 in
theorem rchk_no2 (sp gr : Int) (w : World) (h1 : 1 ≤ sp) (h2 : sp ≤ 1000000000) (h3 : gr < 1) : Calls Try.prog 16 #[.agg #[.int .i64 sp, .int .i64 gr]] w fun e w' => e = .returned (.int .i64 2) ∧ Below w.heap.size w w' := by
  go_enter Try.func16, Try.ntmps16
  go_wp2
  go_ret
  exact ⟨rfl, (below_box (Below.refl _ _) _)⟩
set_option maxHeartbeats 1000000 in
theorem rchk_no3 (sp gr : Int) (w : World) (h1 : 1 ≤ sp) (h2 : sp ≤ 1000000000) (h3 : 1 ≤ gr) (h4 : 1000000000 < gr) : Calls Try.prog 16 #[.agg #[.int .i64 sp, .int .i64 gr]] w fun e w' => e = .returned (.int .i64 2) ∧ Below w.heap.size w w' := by
  go_enter Try.func16, Try.ntmps16
  go_wp2
  go_ret
  exact ⟨rfl, (below_box (Below.refl _ _) _)⟩
theorem chk_any (sp gr : Int) (w : World) : Calls Try.prog 8 #[.agg #[.int .i64 sp, .int .i64 gr]] w fun e w' => e = .returned (.int .i64 (mE sp gr)) ∧ Below w.heap.size w w' := by
  unfold mE
  cases h : mOk sp gr
  · rcases mOk_cases sp gr h with h1 | ⟨⟨h1, h2⟩, h3⟩
    · exact chk_no1 sp gr w h1
    · exact chk_no2 sp gr w h1 h2 h3
  · obtain ⟨h1, h2, h3, h4⟩ := (mOk_iff sp gr).1 h
    exact chk_yes sp gr w h1 h2 h3 h4
theorem rchk_any (sp gr : Int) (w : World) : Calls Try.prog 16 #[.agg #[.int .i64 sp, .int .i64 gr]] w fun e w' => e = .returned (.int .i64 (mE sp gr)) ∧ Below w.heap.size w w' := by
  unfold mE
  cases h : mOk sp gr
  · rcases mOk_cases sp gr h with (h1 | ⟨h1, h2⟩) | ⟨⟨h1, h2⟩, h3 | ⟨h3, h4⟩⟩
    · exact rchk_no0 sp gr w h1
    · exact rchk_no1 sp gr w h1 h2
    · exact rchk_no2 sp gr w h1 h2 h3
    · exact rchk_no3 sp gr w h1 h2 h3 h4
  · obtain ⟨h1, h2, h3, h4⟩ := (mOk_iff sp gr).1 h
    exact rchk_yes sp gr w h1 h2 h3 h4
def tickV (sp gr n : Int) : N2 := if mOk sp gr ∧ 0 ≤ n ∧ n ≤ 1000000000000 then ⟨max (ceilI n sp) 1, 0⟩ else ⟨0, 2⟩
theorem out_of (n hi : Int) (h : ¬ (0 ≤ n ∧ n ≤ hi)) : n < 0 ∨ (0 ≤ n ∧ hi < n) := by omega
set_option maxHeartbeats 1000000 in
theorem tick_e (sp gr n : Int) (w : World) (HC : Hid (∀ W, Calls Try.prog 8 #[.agg #[.int .i64 sp, .int .i64 gr]] W fun e w' => e = .returned (.int .i64 2) ∧ Below W.heap.size W w')) : Calls Try.prog 10 #[.agg #[.int .i64 sp, .int .i64 gr], .int .i64 n] w fun e w' => e = .returned (.tuple #[.int .i64 0, .int .i64 2]) ∧ Below w.heap.size w w' := by
  go_enter Try.func10, Try.ntmps10
  go_wp2_with fail
  refine (HC.out _).mono ?_
  rintro _ wx1 ⟨rfl, hb⟩
  have P := ((Box.new w 23 #[.int .i64 sp, .int .i64 gr])).next hb
  have hB := below_step (below_box (Below.refl _ w) _) hb
  clear hb
  have cP_0 := P.cell 0 _ rfl
  have cP_1 := P.cell 1 _ rfl
  have lP := P.lt
  go_wp2
  go_ret2
  exact ⟨rfl, hB⟩
set_option maxHeartbeats 1000000 in
theorem tick_r (sp gr n : Int) (w : World) (HC : Hid (∀ W, Calls Try.prog 8 #[.agg #[.int .i64 sp, .int .i64 gr]] W fun e w' => e = .returned (.int .i64 0) ∧ Below W.heap.size W w')) (h : n < 0 ∨ (0 ≤ n ∧ 1000000000000 < n)) : Calls Try.prog 10 #[.agg #[.int .i64 sp, .int .i64 gr], .int .i64 n] w fun e w' => e = .returned (.tuple #[.int .i64 0, .int .i64 2]) ∧ Below w.heap.size w w' := by
  go_enter Try.func10, Try.ntmps10
  go_wp2_with fail
  refine (HC.out _).mono ?_
  rintro _ wx1 ⟨rfl, hb⟩
  have P := ((Box.new w 23 #[.int .i64 sp, .int .i64 gr])).next hb
  have hB := below_step (below_box (Below.refl _ w) _) hb
  clear hb
  have cP_0 := P.cell 0 _ rfl
  have cP_1 := P.cell 1 _ rfl
  have lP := P.lt
  go_wp2_with fail
  refine (btw_no _ _ _ _ h).mono ?_
  rintro _ wy2 ⟨rfl, rfl⟩
  go_wp2
  go_ret2
  exact ⟨rfl, hB⟩
set_option maxHeartbeats 1000000 in
theorem rtick_e (sp gr n : Int) (w : World) (HC : Hid (∀ W, Calls Try.prog 16 #[.agg #[.int .i64 sp, .int .i64 gr]] W fun e w' => e = .returned (.int .i64 2) ∧ Below W.heap.size W w')) : Calls Try.prog 12 #[.agg #[.int .i64 sp, .int .i64 gr], .int .i64 n] w fun e w' => e = .returned (.tuple #[.int .i64 0, .int .i64 2]) ∧ Below w.heap.size w w' := by
  go_enter Try.func12, Try.ntmps12
  go_wp2_with fail
  refine (HC.out _).mono ?_
  rintro _ wx1 ⟨rfl, hb⟩
  have P := ((Box.new w 23 #[.int .i64 sp, .int .i64 gr])).next hb
  have hB := below_step (below_box (Below.refl _ w) _) hb
  clear hb
  have cP_0 := P.cell 0 _ rfl
  have cP_1 := P.cell 1 _ rfl
  have lP := P.lt
  go_wp2
  go_ret2
  exact ⟨rfl, hB⟩
set_option maxHeartbeats 1000000 in
theorem rtick_r (sp gr n : Int) (w : World) (HC : Hid (∀ W, Calls Try.prog 16 #[.agg #[.int .i64 sp, .int .i64 gr]] W fun e w' => e = .returned (.int .i64 0) ∧ Below W.heap.size W w')) (h : n < 0 ∨ (0 ≤ n ∧ 1000000000000 < n)) : Calls Try.prog 12 #[.agg #[.int .i64 sp, .int .i64 gr], .int .i64 n] w fun e w' => e = .returned (.tuple #[.int .i64 0, .int .i64 2]) ∧ Below w.heap.size w w' := by
  go_enter Try.func12, Try.ntmps12
  go_wp2_with fail
  refine (HC.out _).mono ?_
  rintro _ wx1 ⟨rfl, hb⟩
  have P := ((Box.new w 23 #[.int .i64 sp, .int .i64 gr])).next hb
  have hB := below_step (below_box (Below.refl _ w) _) hb
  clear hb
  have cP_0 := P.cell 0 _ rfl
  have cP_1 := P.cell 1 _ rfl
  have lP := P.lt
  go_wp2_with fail
  refine (amt_no _ _ h).mono ?_
  rintro _ wy2 ⟨rfl, rfl⟩
  go_wp2
  go_ret2
  exact ⟨rfl, hB⟩
set_option maxHeartbeats 1000000 in
theorem tick_ok (sp gr n v : Int) (w : World) (HC : Hid (∀ W, Calls Try.prog 8 #[.agg #[.int .i64 sp, .int .i64 gr]] W fun e w' => e = .returned (.int .i64 0) ∧ Below W.heap.size W w')) (h1 : 0 ≤ n) (h2 : n ≤ 1000000000000) (HQ : Hid (∀ W, Calls Try.prog 24 #[.int .i64 n, .int .i64 sp] W fun e w' => e = .returned (.tuple #[.int .i64 v, .int .i64 0]) ∧ Below W.heap.size W w')) : Calls Try.prog 10 #[.agg #[.int .i64 sp, .int .i64 gr], .int .i64 n] w fun e w' => e = .returned (.tuple #[.int .i64 (max v 1), .int .i64 0]) ∧ Below w.heap.size w w' := by
  go_enter Try.func10, Try.ntmps10
  go_wp2_with fail
  refine (HC.out _).mono ?_
  rintro _ wx1 ⟨rfl, hb⟩
  have P := ((Box.new w 23 #[.int .i64 sp, .int .i64 gr])).next hb
  have hB := below_step (below_box (Below.refl _ w) _) hb
  clear hb
  have cP_0 := P.cell 0 _ rfl
  have cP_1 := P.cell 1 _ rfl
  have lP := P.lt
  go_wp2_with fail
  refine (btw_yes _ _ _ _ (by omega) (by omega)).mono ?_
  rintro _ wy2 ⟨rfl, rfl⟩
  go_wp2_with fail
  refine (HQ.out _).mono ?_
  rintro _ wx3 ⟨rfl, hb⟩
  clear cP_0 cP_1 lP
  replace P := (P).next hb
  replace hB := below_step hB hb
  clear hb
  have cP_0 := P.cell 0 _ rfl
  have cP_1 := P.cell 1 _ rfl
  have lP := P.lt
  go_wp2
  go_ret2
  exact ⟨rfl, hB⟩
set_option maxHeartbeats 1000000 in
theorem rtick_ok (sp gr n : Int) (w : World) (HC : Hid (∀ W, Calls Try.prog 16 #[.agg #[.int .i64 sp, .int .i64 gr]] W fun e w' => e = .returned (.int .i64 0) ∧ Below W.heap.size W w')) (h0 : 1 ≤ sp) (h00 : sp ≤ 1000000000) (h1 : 0 ≤ n) (h2 : n ≤ 1000000000000) : Calls Try.prog 12 #[.agg #[.int .i64 sp, .int .i64 gr], .int .i64 n] w fun e w' => e = .returned (.tuple #[.int .i64 (max 1 ((n + sp - 1) / sp)), .int .i64 0]) ∧ Below w.heap.size w w' := by
  have z : (sp == 0) = false := beq_eq_false_iff_ne.2 (by omega)
  go_enter Try.func12, Try.ntmps12
  go_wp2_with fail
  refine (HC.out _).mono ?_
  rintro _ wx1 ⟨rfl, hb⟩
  have P := ((Box.new w 23 #[.int .i64 sp, .int .i64 gr])).next hb
  have hB := below_step (below_box (Below.refl _ w) _) hb
  clear hb
  have cP_0 := P.cell 0 _ rfl
  have cP_1 := P.cell 1 _ rfl
  have lP := P.lt
  go_wp2_with fail
  refine (amt_yes _ _ (by omega) (by omega)).mono ?_
  rintro _ wy2 ⟨rfl, rfl⟩
  go_wp2
  go_ret2
  exact ⟨rfl, hB⟩
theorem chk0 (sp gr : Int) (h : mOk sp gr = true) : Hid (∀ W, Calls Try.prog 8 #[.agg #[.int .i64 sp, .int .i64 gr]] W fun e w' => e = .returned (.int .i64 0) ∧ Below W.heap.size W w') := fun W => by
  have h2 := chk_any sp gr W
  unfold mE at h2
  rw [h] at h2
  exact h2
theorem chk2 (sp gr : Int) (h : mOk sp gr = false) : Hid (∀ W, Calls Try.prog 8 #[.agg #[.int .i64 sp, .int .i64 gr]] W fun e w' => e = .returned (.int .i64 2) ∧ Below W.heap.size W w') := fun W => by
  have h2 := chk_any sp gr W
  unfold mE at h2
  rw [h] at h2
  exact h2
theorem rchk0 (sp gr : Int) (h : mOk sp gr = true) : Hid (∀ W, Calls Try.prog 16 #[.agg #[.int .i64 sp, .int .i64 gr]] W fun e w' => e = .returned (.int .i64 0) ∧ Below W.heap.size W w') := fun W => by
  have h2 := rchk_any sp gr W
  unfold mE at h2
  rw [h] at h2
  exact h2
theorem rchk2 (sp gr : Int) (h : mOk sp gr = false) : Hid (∀ W, Calls Try.prog 16 #[.agg #[.int .i64 sp, .int .i64 gr]] W fun e w' => e = .returned (.int .i64 2) ∧ Below W.heap.size W w') := fun W => by
  have h2 := rchk_any sp gr W
  unfold mE at h2
  rw [h] at h2
  exact h2
theorem tick_any (sp gr n : Int) (w : World) : Calls Try.prog 10 #[.agg #[.int .i64 sp, .int .i64 gr], .int .i64 n] w fun e w' => e = .returned (.tuple #[.int .i64 (tickV sp gr n).v, .int .i64 (tickV sp gr n).e]) ∧ Below w.heap.size w w' := by
  unfold tickV
  cases h : mOk sp gr
  · rw [if_neg (by simp)]
    exact tick_e sp gr n w (chk2 sp gr h)
  · obtain ⟨h1, h2, h3, h4⟩ := (mOk_iff sp gr).1 h
    by_cases hn : 0 ≤ n ∧ n ≤ 1000000000000
    · rw [if_pos ⟨rfl, hn⟩]
      exact tick_ok sp gr n _ w (chk0 sp gr h) hn.1 hn.2 (fun W => ceil_any n sp W hn.1 hn.2 h1 (by omega))
    · rw [if_neg (fun hh => hn hh.2)]
      exact tick_r sp gr n w (chk0 sp gr h) (out_of n _ hn)
theorem rtick_any (sp gr n : Int) (w : World) : Calls Try.prog 12 #[.agg #[.int .i64 sp, .int .i64 gr], .int .i64 n] w fun e w' => e = .returned (.tuple #[.int .i64 (tickV sp gr n).v, .int .i64 (tickV sp gr n).e]) ∧ Below w.heap.size w w' := by
  unfold tickV
  cases h : mOk sp gr
  · rw [if_neg (by simp)]
    exact rtick_e sp gr n w (rchk2 sp gr h)
  · obtain ⟨h1, h2, h3, h4⟩ := (mOk_iff sp gr).1 h
    by_cases hn : 0 ≤ n ∧ n ≤ 1000000000000
    · rw [if_pos ⟨rfl, hn⟩]
      have h := rtick_ok sp gr n w (rchk0 sp gr h) h1 h2 hn.1 hn.2
      rw [Int.max_comm] at h
      exact h
    · rw [if_neg (fun hh => hn hh.2)]
      exact rtick_r sp gr n w (rchk0 sp gr h) (out_of n _ hn)

end Go.Proofs.Ytdlkpohjeedbiaa
