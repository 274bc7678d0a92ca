/- Layer 42 (scale): what each function computes, for all arguments. -/
import Derived.Test.YtndpecjkoffebaaB
import Derived.Test.YtndpecjkoffebaaE
import Derived.Test.YtndpecjkoffebaaF
namespace Go.Proofs.Ytndpecjkoffebaa
open Go.ChangeShapes Go.WideShapes Go.ChangeAt Go.RowKit

structure N2 where
  v : Int
  e : Int
structure N3 where
  c : Int
  h : Int
  e : Int
def polE (t mi ma up dn cu cd : Int) : Int := if polB t mi ma up dn cu cd then 0 else 2
def stOk (t mi ma up dn cu cd c ch : Int) : Bool := polB t mi ma up dn cu cd && stB mi ma c ch
def stE (t mi ma up dn cu cd c ch : Int) : Int := if stOk t mi ma up dn cu cd c ch then 0 else 2
def startV (t mi ma up dn cu cd : Int) : N3 := if polB t mi ma up dn cu cd then ⟨mi, -1, 0⟩ else ⟨0, 0, 2⟩
def desOk (t mi ma up dn cu cd load : Int) : Bool := polB t mi ma up dn cu cd && decide (0 ≤ load ∧ load ≤ 1000000000000)
def desV (t mi ma up dn cu cd load : Int) : N2 := if desOk t mi ma up dn cu cd load then ⟨desI t mi ma load, 0⟩ else ⟨0, 2⟩
def moveV (up dn cu cd c ch now d : Int) : N3 :=
  if c < d ∧ (ch = -1 ∨ cu ≤ now - ch) then ⟨c + min up (d - c), now, 0⟩ else if d < c ∧ (ch = -1 ∨ cd ≤ now - ch) then ⟨c - min dn (c - d), now, 0⟩ else ⟨c, ch, 0⟩
def nextV (t mi ma up dn cu cd c ch load now : Int) : N3 :=
  if stOk t mi ma up dn cu cd c ch ∧ 0 ≤ load ∧ load ≤ 1000000000000 ∧ 0 ≤ now ∧ now ≤ 1073741824 then (if now < ch then ⟨0, 0, 11⟩ else moveV up dn cu cd c ch now (desI t mi ma load)) else ⟨0, 0, 2⟩
def setV (t mi ma up dn cu cd c ch load : Int) : N2 :=
  if stOk t mi ma up dn cu cd c ch ∧ 0 ≤ load ∧ load ≤ 1000000000000 then (if c ≤ desI t mi ma load then ⟨ceilI (desI t mi ma load - c) up, 0⟩ else ⟨ceilI (c - desI t mi ma load) dn, 0⟩) else ⟨0, 2⟩

theorem check_any (t mi ma up dn cu cd : Int) (w : World) : Calls Try.prog 17 #[.agg #[.int .i64 t, .int .i64 mi, .int .i64 ma, .int .i64 up, .int .i64 dn, .int .i64 cu, .int .i64 cd]] w fun e w' => e = .returned (.int .i64 (polE t mi ma up dn cu cd)) ∧ Below w.heap.size w w' := by
  unfold polE
  cases h : polB t mi ma up dn cu cd
  · exact check_no t mi ma up dn cu cd w h
  · exact check_yes t mi ma up dn cu cd w h
theorem rcheck_any (t mi ma up dn cu cd : Int) (w : World) : Calls Try.prog 18 #[.agg #[.int .i64 t, .int .i64 mi, .int .i64 ma, .int .i64 up, .int .i64 dn, .int .i64 cu, .int .i64 cd]] w fun e w' => e = .returned (.int .i64 (polE t mi ma up dn cu cd)) ∧ Below w.heap.size w w' := by
  unfold polE
  cases h : polB t mi ma up dn cu cd
  · exact rcheck_no t mi ma up dn cu cd w h
  · exact rcheck_yes t mi ma up dn cu cd w h
theorem start_any (t mi ma up dn cu cd : Int) (w : World) : Calls Try.prog 9 #[.agg #[.int .i64 t, .int .i64 mi, .int .i64 ma, .int .i64 up, .int .i64 dn, .int .i64 cu, .int .i64 cd]] w fun e w' => e = .returned (.tuple #[.agg #[.int .i64 (startV t mi ma up dn cu cd).c, .int .i64 (startV t mi ma up dn cu cd).h], .int .i64 (startV t mi ma up dn cu cd).e]) ∧ Below w.heap.size w w' := by
  unfold startV
  cases h : polB t mi ma up dn cu cd
  · exact start_no t mi ma up dn cu cd w (fun W => check_no t mi ma up dn cu cd W h)
  · exact start_yes t mi ma up dn cu cd w (fun W => check_yes t mi ma up dn cu cd W h)
theorem rstart_any (t mi ma up dn cu cd : Int) (w : World) : Calls Try.prog 10 #[.agg #[.int .i64 t, .int .i64 mi, .int .i64 ma, .int .i64 up, .int .i64 dn, .int .i64 cu, .int .i64 cd]] w fun e w' => e = .returned (.tuple #[.agg #[.int .i64 (startV t mi ma up dn cu cd).c, .int .i64 (startV t mi ma up dn cu cd).h], .int .i64 (startV t mi ma up dn cu cd).e]) ∧ Below w.heap.size w w' := by
  unfold startV
  cases h : polB t mi ma up dn cu cd
  · exact rstart_no t mi ma up dn cu cd w (fun W => rcheck_no t mi ma up dn cu cd W h)
  · exact rstart_yes t mi ma up dn cu cd w (fun W => rcheck_yes t mi ma up dn cu cd W h)
theorem state_any (t mi ma up dn cu cd c ch : Int) (w : World) : Calls Try.prog 25 #[.agg #[.int .i64 t, .int .i64 mi, .int .i64 ma, .int .i64 up, .int .i64 dn, .int .i64 cu, .int .i64 cd], .agg #[.int .i64 c, .int .i64 ch]] w fun e w' => e = .returned (.int .i64 (stE t mi ma up dn cu cd c ch)) ∧ Below w.heap.size w w' := by
  unfold stE stOk
  cases h : polB t mi ma up dn cu cd
  · exact state_err t mi ma up dn cu cd c ch w (fun W => check_no t mi ma up dn cu cd W h)
  · cases h2 : stB mi ma c ch
    · exact state_no t mi ma up dn cu cd c ch w (fun W => check_yes t mi ma up dn cu cd W h) h2
    · obtain ⟨h3, h4, h5, h6⟩ := (stB_iff _ _ _ _).1 h2
      exact state_yes t mi ma up dn cu cd c ch w (fun W => check_yes t mi ma up dn cu cd W h) h3 h4 h5 h6
theorem rstate_any (t mi ma up dn cu cd c ch : Int) (w : World) : Calls Try.prog 27 #[.agg #[.int .i64 t, .int .i64 mi, .int .i64 ma, .int .i64 up, .int .i64 dn, .int .i64 cu, .int .i64 cd], .agg #[.int .i64 c, .int .i64 ch]] w fun e w' => e = .returned (.int .i64 (stE t mi ma up dn cu cd c ch)) ∧ Below w.heap.size w w' := by
  unfold stE stOk
  cases h : polB t mi ma up dn cu cd
  · exact rstate_err t mi ma up dn cu cd c ch w (fun W => rcheck_no t mi ma up dn cu cd W h)
  · cases h2 : stB mi ma c ch
    · exact rstate_no t mi ma up dn cu cd c ch w (fun W => rcheck_yes t mi ma up dn cu cd W h) h2
    · obtain ⟨h3, h4, h5, h6⟩ := (stB_iff _ _ _ _).1 h2
      exact rstate_yes t mi ma up dn cu cd c ch w (fun W => rcheck_yes t mi ma up dn cu cd W h) h3 h4 h5 h6
theorem des_any (t mi ma up dn cu cd load : Int) (w : World) : Calls Try.prog 11 #[.agg #[.int .i64 t, .int .i64 mi, .int .i64 ma, .int .i64 up, .int .i64 dn, .int .i64 cu, .int .i64 cd], .int .i64 load] w fun e w' => e = .returned (.tuple #[.int .i64 (desV t mi ma up dn cu cd load).v, .int .i64 (desV t mi ma up dn cu cd load).e]) ∧ Below w.heap.size w w' := by
  unfold desV desOk
  cases h : polB t mi ma up dn cu cd
  · exact des_err t mi ma up dn cu cd load w (fun W => check_no t mi ma up dn cu cd W h)
  · have hp := (polB_iff t mi ma up dn cu cd).1 h
    by_cases h2 : 0 ≤ load ∧ load ≤ 1000000000000
    · rw [decide_eq_true h2]
      exact des_ok t mi ma up dn cu cd load w (fun W => check_yes t mi ma up dn cu cd W h) h2.1 h2.2 hp.1 hp.2.1
    · rw [decide_eq_false h2]
      exact des_rng t mi ma up dn cu cd load w (fun W => check_yes t mi ma up dn cu cd W h) (by omega)
theorem rdes_any (t mi ma up dn cu cd load : Int) (w : World) : Calls Try.prog 12 #[.agg #[.int .i64 t, .int .i64 mi, .int .i64 ma, .int .i64 up, .int .i64 dn, .int .i64 cu, .int .i64 cd], .int .i64 load] w fun e w' => e = .returned (.tuple #[.int .i64 (desV t mi ma up dn cu cd load).v, .int .i64 (desV t mi ma up dn cu cd load).e]) ∧ Below w.heap.size w w' := by
  unfold desV desOk
  cases h : polB t mi ma up dn cu cd
  · exact rdes_err t mi ma up dn cu cd load w (fun W => rcheck_no t mi ma up dn cu cd W h)
  · have hp := (polB_iff t mi ma up dn cu cd).1 h
    by_cases h2 : 0 ≤ load ∧ load ≤ 1000000000000
    · rw [decide_eq_true h2]
      exact rdes_ok t mi ma up dn cu cd load w (fun W => rcheck_yes t mi ma up dn cu cd W h) h2.1 h2.2 hp.1 hp.2.1 (by omega)
    · rw [decide_eq_false h2]
      exact rdes_rng t mi ma up dn cu cd load w (fun W => rcheck_yes t mi ma up dn cu cd W h) (by omega)

theorem desI_bd (t mi ma load : Int) (h : mi ≤ ma) : mi ≤ desI t mi ma load ∧ desI t mi ma load ≤ ma := by
  unfold desI clampI
  split
  · omega
  · split <;> omega

theorem stOk_iff (t mi ma up dn cu cd c ch : Int) : stOk t mi ma up dn cu cd c ch = true ↔ (polB t mi ma up dn cu cd = true ∧ stB mi ma c ch = true) := by simp [stOk]

theorem next_any (t mi ma up dn cu cd c ch load now : Int) (w : World) : Calls Try.prog 13 #[.agg #[.int .i64 t, .int .i64 mi, .int .i64 ma, .int .i64 up, .int .i64 dn, .int .i64 cu, .int .i64 cd], .agg #[.int .i64 c, .int .i64 ch], .int .i64 load, .int .i64 now] w fun e w' => e = .returned (.tuple #[.agg #[.int .i64 (nextV t mi ma up dn cu cd c ch load now).c, .int .i64 (nextV t mi ma up dn cu cd c ch load now).h], .int .i64 (nextV t mi ma up dn cu cd c ch load now).e]) ∧ Below w.heap.size w w' := by
  cases hs : stOk t mi ma up dn cu cd c ch
  · have e : nextV t mi ma up dn cu cd c ch load now = ⟨0, 0, 2⟩ := by simp [nextV, hs]
    rw [e]
    refine next_serr t mi ma up dn cu cd c ch load now w (fun W => ?_)
    have h := state_any t mi ma up dn cu cd c ch W
    unfold stE at h
    rw [hs] at h
    exact h
  · have HS : Hid (∀ W, Calls Try.prog 25 #[.agg #[.int .i64 t, .int .i64 mi, .int .i64 ma, .int .i64 up, .int .i64 dn, .int .i64 cu, .int .i64 cd], .agg #[.int .i64 c, .int .i64 ch]] W fun e w' => e = .returned (.int .i64 0) ∧ Below W.heap.size W w') := fun W => by
      have h := state_any t mi ma up dn cu cd c ch W
      unfold stE at h
      rw [hs] at h
      exact h
    obtain ⟨hp, hc⟩ := (stOk_iff t mi ma up dn cu cd c ch).1 hs
    obtain ⟨p1, p2, p3, p4, p5, p6, p7, p8, p9, pa, pb, pc, pd⟩ := (polB_iff t mi ma up dn cu cd).1 hp
    obtain ⟨s1, s2, s3, s4⟩ := (stB_iff _ _ _ _).1 hc
    by_cases hl : 0 ≤ load ∧ load ≤ 1000000000000
    · have HD : Hid (∀ W, Calls Try.prog 11 #[.agg #[.int .i64 t, .int .i64 mi, .int .i64 ma, .int .i64 up, .int .i64 dn, .int .i64 cu, .int .i64 cd], .int .i64 load] W fun e w' => e = .returned (.tuple #[.int .i64 (desI t mi ma load), .int .i64 0]) ∧ Below W.heap.size W w') := fun W => by
        have h := des_any t mi ma up dn cu cd load W
        unfold desV desOk at h
        rw [hp, decide_eq_true hl] at h
        exact h
      obtain ⟨hl1, hl2⟩ := hl
      have db := desI_bd t mi ma load p4
      by_cases n1 : now < 0
      · have e : nextV t mi ma up dn cu cd c ch load now = ⟨0, 0, 2⟩ := by unfold nextV; rw [if_neg (by omega)]
        rw [e]
        exact next_lo t mi ma up dn cu cd c ch load now _ w HS HD n1
      by_cases n2 : 1073741824 < now
      · have e : nextV t mi ma up dn cu cd c ch load now = ⟨0, 0, 2⟩ := by unfold nextV; rw [if_neg (by omega)]
        rw [e]
        exact next_hi t mi ma up dn cu cd c ch load now _ w HS HD (by omega) n2
      have e0 : nextV t mi ma up dn cu cd c ch load now = if now < ch then ⟨0, 0, 11⟩ else moveV up dn cu cd c ch now (desI t mi ma load) := by
        unfold nextV; rw [if_pos ⟨hs, hl1, hl2, by omega, by omega⟩]
      rw [e0]
      clear e0
      generalize desI t mi ma load = d at *
      by_cases n3 : now < ch
      · rw [if_pos n3]
        exact next_ord t mi ma up dn cu cd c ch load now d w HS HD (by omega) (by omega) n3
      rw [if_neg n3]
      unfold moveV
      by_cases m1 : c < d
      · by_cases m2 : ch = -1 ∨ cu ≤ now - ch
        · rw [if_pos ⟨m1, m2⟩]
          exact next_up t mi ma up dn cu cd c ch load now d w HS HD (by omega) (by omega) (by omega) (by omega) (by omega) (by omega) (by omega) (by omega) (by omega) (by omega) (by omega) (by omega) (by omega) m1 m2
        · rw [if_neg (by omega), if_neg (by omega)]
          exact next_upno t mi ma up dn cu cd c ch load now d w HS HD (by omega) (by omega) (by omega) (by omega) (by omega) (by omega) (by omega) (by omega) (by omega) (by omega) (by omega) (by omega) (by omega) m1 (by omega) (by omega)
      · by_cases m3 : d < c
        · by_cases m2 : ch = -1 ∨ cd ≤ now - ch
          · rw [if_neg (by omega), if_pos ⟨m3, m2⟩]
            exact next_dn t mi ma up dn cu cd c ch load now d w HS HD (by omega) (by omega) (by omega) (by omega) (by omega) (by omega) (by omega) (by omega) (by omega) (by omega) (by omega) (by omega) (by omega) m3 m2
          · rw [if_neg (by omega), if_neg (by omega)]
            exact next_dnno t mi ma up dn cu cd c ch load now d w HS HD (by omega) (by omega) (by omega) (by omega) (by omega) (by omega) (by omega) (by omega) (by omega) (by omega) (by omega) (by omega) (by omega) m3 (by omega) (by omega)
        · have hd : c = d := by omega
          rw [if_neg (by omega), if_neg (by omega)]
          subst hd
          exact next_eq t mi ma up dn cu cd c ch load now w HS HD (by omega) (by omega) (by omega) (by omega) (by omega) (by omega) (by omega) (by omega) (by omega) (by omega) (by omega)
    · have e : nextV t mi ma up dn cu cd c ch load now = ⟨0, 0, 2⟩ := by unfold nextV; rw [if_neg (by omega)]
      rw [e]
      refine next_derr t mi ma up dn cu cd c ch load now w HS (fun W => ?_)
      have h := des_any t mi ma up dn cu cd load W
      unfold desV desOk at h
      rw [hp, decide_eq_false hl] at h
      exact h

theorem rnext_any (t mi ma up dn cu cd c ch load now : Int) (w : World) : Calls Try.prog 14 #[.agg #[.int .i64 t, .int .i64 mi, .int .i64 ma, .int .i64 up, .int .i64 dn, .int .i64 cu, .int .i64 cd], .agg #[.int .i64 c, .int .i64 ch], .int .i64 load, .int .i64 now] w fun e w' => e = .returned (.tuple #[.agg #[.int .i64 (nextV t mi ma up dn cu cd c ch load now).c, .int .i64 (nextV t mi ma up dn cu cd c ch load now).h], .int .i64 (nextV t mi ma up dn cu cd c ch load now).e]) ∧ Below w.heap.size w w' := by
  cases hs : stOk t mi ma up dn cu cd c ch
  · have e : nextV t mi ma up dn cu cd c ch load now = ⟨0, 0, 2⟩ := by simp [nextV, hs]
    rw [e]
    refine rnext_serr t mi ma up dn cu cd c ch load now w (fun W => ?_)
    have h := rstate_any t mi ma up dn cu cd c ch W
    unfold stE at h
    rw [hs] at h
    exact h
  · have HS : Hid (∀ W, Calls Try.prog 27 #[.agg #[.int .i64 t, .int .i64 mi, .int .i64 ma, .int .i64 up, .int .i64 dn, .int .i64 cu, .int .i64 cd], .agg #[.int .i64 c, .int .i64 ch]] W fun e w' => e = .returned (.int .i64 0) ∧ Below W.heap.size W w') := fun W => by
      have h := rstate_any t mi ma up dn cu cd c ch W
      unfold stE at h
      rw [hs] at h
      exact h
    obtain ⟨hp, hc⟩ := (stOk_iff t mi ma up dn cu cd c ch).1 hs
    obtain ⟨p1, p2, p3, p4, p5, p6, p7, p8, p9, pa, pb, pc, pd⟩ := (polB_iff t mi ma up dn cu cd).1 hp
    obtain ⟨s1, s2, s3, s4⟩ := (stB_iff _ _ _ _).1 hc
    by_cases hl : 0 ≤ load ∧ load ≤ 1000000000000
    · have HD : Hid (∀ W, Calls Try.prog 12 #[.agg #[.int .i64 t, .int .i64 mi, .int .i64 ma, .int .i64 up, .int .i64 dn, .int .i64 cu, .int .i64 cd], .int .i64 load] W fun e w' => e = .returned (.tuple #[.int .i64 (desI t mi ma load), .int .i64 0]) ∧ Below W.heap.size W w') := fun W => by
        have h := rdes_any t mi ma up dn cu cd load W
        unfold desV desOk at h
        rw [hp, decide_eq_true hl] at h
        exact h
      obtain ⟨hl1, hl2⟩ := hl
      have db := desI_bd t mi ma load p4
      by_cases n1 : now < 0
      · have e : nextV t mi ma up dn cu cd c ch load now = ⟨0, 0, 2⟩ := by unfold nextV; rw [if_neg (by omega)]
        rw [e]
        exact rnext_lo t mi ma up dn cu cd c ch load now _ w HS HD n1
      by_cases n2 : 1073741824 < now
      · have e : nextV t mi ma up dn cu cd c ch load now = ⟨0, 0, 2⟩ := by unfold nextV; rw [if_neg (by omega)]
        rw [e]
        exact rnext_hi t mi ma up dn cu cd c ch load now _ w HS HD (by omega) n2
      have e0 : nextV t mi ma up dn cu cd c ch load now = if now < ch then ⟨0, 0, 11⟩ else moveV up dn cu cd c ch now (desI t mi ma load) := by
        unfold nextV; rw [if_pos ⟨hs, hl1, hl2, by omega, by omega⟩]
      rw [e0]
      clear e0
      generalize desI t mi ma load = d at *
      by_cases n3 : now < ch
      · rw [if_pos n3]
        exact rnext_ord t mi ma up dn cu cd c ch load now d w HS HD (by omega) (by omega) n3
      rw [if_neg n3]
      unfold moveV
      by_cases m1 : c < d
      · by_cases m2 : ch = -1 ∨ cu ≤ now - ch
        · rw [if_pos ⟨m1, m2⟩]
          exact rnext_up t mi ma up dn cu cd c ch load now d w HS HD (by omega) (by omega) (by omega) (by omega) (by omega) (by omega) (by omega) (by omega) (by omega) (by omega) (by omega) (by omega) (by omega) m1 m2
        · rw [if_neg (by omega), if_neg (by omega)]
          exact rnext_upno t mi ma up dn cu cd c ch load now d w HS HD (by omega) (by omega) (by omega) (by omega) (by omega) (by omega) (by omega) (by omega) (by omega) (by omega) (by omega) (by omega) (by omega) m1 (by omega) (by omega)
      · by_cases m3 : d < c
        · by_cases m2 : ch = -1 ∨ cd ≤ now - ch
          · rw [if_neg (by omega), if_pos ⟨m3, m2⟩]
            exact rnext_dn t mi ma up dn cu cd c ch load now d w HS HD (by omega) (by omega) (by omega) (by omega) (by omega) (by omega) (by omega) (by omega) (by omega) (by omega) (by omega) (by omega) (by omega) m3 m2
          · rw [if_neg (by omega), if_neg (by omega)]
            exact rnext_dnno t mi ma up dn cu cd c ch load now d w HS HD (by omega) (by omega) (by omega) (by omega) (by omega) (by omega) (by omega) (by omega) (by omega) (by omega) (by omega) (by omega) (by omega) m3 (by omega) (by omega)
        · have hd : c = d := by omega
          rw [if_neg (by omega), if_neg (by omega)]
          subst hd
          exact rnext_eq t mi ma up dn cu cd c ch load now c w HS HD (by omega) (by omega) (by omega) (by omega) (by omega) (by omega) (by omega) (by omega) (by omega) (by omega) (by omega) (by omega) (by omega) rfl
    · have e : nextV t mi ma up dn cu cd c ch load now = ⟨0, 0, 2⟩ := by unfold nextV; rw [if_neg (by omega)]
      rw [e]
      refine rnext_derr t mi ma up dn cu cd c ch load now w HS (fun W => ?_)
      have h := rdes_any t mi ma up dn cu cd load W
      unfold desV desOk at h
      rw [hp, decide_eq_false hl] at h
      exact h

end Go.Proofs.Ytndpecjkoffebaa
