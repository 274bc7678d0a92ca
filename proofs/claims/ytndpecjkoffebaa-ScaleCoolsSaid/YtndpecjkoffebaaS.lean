/- The walk of ScaleCools of layer 42. -/
import Derived.Test.YtndpecjkoffebaaR
namespace Go.Proofs.Ytndpecjkoffebaa
open Go.ChangeShapes Go.WideShapes Go.ChangeAt Go.RowKit
attribute [local go_sem high] eql25
attribute [local go_sem] ownAt ownUpon mixAt mixUpon

theorem cool_step (t mi ma up dn cu cd c ch load now : Int) (h : (nextV t mi ma up dn cu cd c ch load now).e = 0) :
    (c < (nextV t mi ma up dn cu cd c ch load now).c → (ch = -1 ∨ cu ≤ now - ch) ∧ (nextV t mi ma up dn cu cd c ch load now).h = now) ∧ ((nextV t mi ma up dn cu cd c ch load now).c < c → (ch = -1 ∨ cd ≤ now - ch) ∧ (nextV t mi ma up dn cu cd c ch load now).h = now) ∧
      ((nextV t mi ma up dn cu cd c ch load now).c = c → (nextV t mi ma up dn cu cd c ch load now).h = ch) := by
  obtain ⟨hp, hs, h2, h3, h4, h5, h6, hd, hn⟩ := next_ok t mi ma up dn cu cd c ch load now h
  obtain ⟨p1, p2, p3, p4, p5, p6, p7, p8, p9, pa, pb, pc, pd⟩ := (polB_iff t mi ma up dn cu cd).1 hp
  rw [hn]
  generalize desI t mi ma load = d at *
  clear hd hn h
  unfold moveV
  split
  · rename_i g
    refine ⟨fun _ => ⟨g.2, rfl⟩, fun g2 => ?_, fun g2 => ?_⟩ <;> simp only at g2 <;> omega
  · split
    · rename_i g
      refine ⟨fun g2 => ?_, fun _ => ⟨g.2, rfl⟩, fun g2 => ?_⟩ <;> simp only at g2 <;> omega
    · refine ⟨fun g2 => ?_, fun g2 => ?_, fun _ => rfl⟩ <;> simp only at g2 <;> omega
theorem next_fit (t mi ma up dn cu cd c ch load now : Int) (hp : polB t mi ma up dn cu cd = true) (hs : stB mi ma c ch = true) (h1 : 0 ≤ now) (h2 : now ≤ 1073741824) (h3 : ch ≤ now) (h : (nextV t mi ma up dn cu cd c ch load now).e ≠ 0) : load < 0 ∨ (0 ≤ load ∧ 1000000000000 < load) := by
  by_cases g : 0 ≤ load ∧ load ≤ 1000000000000
  · refine absurd ?_ h
    unfold nextV
    rw [if_pos ⟨(stOk_iff ..).2 ⟨hp, hs⟩, g.1, g.2, h1, h2⟩, if_neg (by omega)]
    exact moveV_e ..
  · omega
set_option maxHeartbeats 400000 in
theorem cools_out (t mi ma up dn cu cd s1 s2 s3 : Int) (A : Option Addr) (n cap : Nat) (w : World) (h1 : Hid (∀ W, Calls Try.prog 9 #[.agg #[.int .i64 t, .int .i64 mi, .int .i64 ma, .int .i64 up, .int .i64 dn, .int .i64 cu, .int .i64 cd]] W fun e w' => e = .returned (.tuple #[.agg #[.int .i64 s1, .int .i64 s2], .int .i64 s3]) ∧ Below W.heap.size W w'))
    (h : (s3 != 0) = true ∨ ((s3 != 0) = false ∧ decide ((200 : Int) < (n : Int)) = true)) : Calls Try.prog 6 #[.agg #[.int .i64 t, .int .i64 mi, .int .i64 ma, .int .i64 up, .int .i64 dn, .int .i64 cu, .int .i64 cd], .slice A n cap] w fun e w' => e = .returned (.bool true) ∧ Below w.heap.size w w' := by
  rcases h with g | ⟨g, g2⟩
  · go_enter Try.func6, Try.ntmps6
    go_wp2_with fail
    refine (h1.out _).mono ?_
    rintro _ wx1 ⟨rfl, hb⟩
    have P := ((Box.new w 23 #[.int .i64 t, .int .i64 mi, .int .i64 ma, .int .i64 up, .int .i64 dn, .int .i64 cu, .int .i64 cd])).next hb
    have hB := below_step (below_box (Below.refl _ w) _) hb
    clear hb
    have zP_S := P.lt
    have zB_S := hB.size
    go_wp2_with fail
    refine (awake_any _).mono ?_
    rintro _ wx2 ⟨rfl, hb⟩
    replace P := (P.alloc _).next hb
    have S := ((Box.new wx1 25 #[.int .i64 s1, .int .i64 s2])).next hb
    replace hB := below_step (below_box hB _) hb
    clear hb
    go_wp2
    go_ret
    exact ⟨rfl, hB⟩
  · go_enter Try.func6, Try.ntmps6
    go_wp2_with fail
    refine (h1.out _).mono ?_
    rintro _ wx1 ⟨rfl, hb⟩
    have P := ((Box.new w 23 #[.int .i64 t, .int .i64 mi, .int .i64 ma, .int .i64 up, .int .i64 dn, .int .i64 cu, .int .i64 cd])).next hb
    have hB := below_step (below_box (Below.refl _ w) _) hb
    clear hb
    have zP_S := P.lt
    have zB_S := hB.size
    go_wp2_with fail
    refine (awake_any _).mono ?_
    rintro _ wx2 ⟨rfl, hb⟩
    replace P := (P.alloc _).next hb
    have S := ((Box.new wx1 25 #[.int .i64 s1, .int .i64 s2])).next hb
    replace hB := below_step (below_box hB _) hb
    clear hb
    go_wp2
    go_ret
    exact ⟨rfl, hB⟩
def CoolRel (t mi ma up dn cu cd : Int) (n : Nat) (w : World) (g : Nat) (i u d : Value) (wr : World) : Prop :=
  ∃ (k : Nat) (c ch a b : Int), i = .int .i64 k ∧ u = .int .i64 a ∧ d = .int .i64 b ∧ k ≤ n ∧ mi ≤ c ∧ c ≤ ma ∧ -1 ≤ ch ∧ ch < k ∧ (a = -1 ∨ (0 ≤ a ∧ a ≤ ch)) ∧ (b = -1 ∨ (0 ≤ b ∧ b ≤ ch)) ∧
    Box wr w.heap.size 23 #[.int .i64 t, .int .i64 mi, .int .i64 ma, .int .i64 up, .int .i64 dn, .int .i64 cu, .int .i64 cd] ∧ Box wr g 25 #[.int .i64 c, .int .i64 ch] ∧ Below w.heap.size w wr
set_option maxRecDepth 100000 in
set_option maxHeartbeats 4000000 in
theorem cools_main (t mi ma up dn cu cd : Int) (A : Option Addr) (n cap : Nat) (ls : List Int) (w : World) (h1 : Hid (∀ W, Calls Try.prog 9 #[.agg #[.int .i64 t, .int .i64 mi, .int .i64 ma, .int .i64 up, .int .i64 dn, .int .i64 cu, .int .i64 cd]] W fun e w' => e = .returned (.tuple #[.agg #[.int .i64 mi, .int .i64 (-1)], .int .i64 0]) ∧ Below W.heap.size W w'))
    (hls : Hid (Seg w A n (ints ls))) (hl : decide ((200 : Int) < (n : Int)) = false) (hp : Hid (polB t mi ma up dn cu cd = true)) (hn : n ≤ 200) (q1 : 0 ≤ cu) (q2 : 0 ≤ cd) (q3 : mi ≤ ma) (_q4 : 0 ≤ mi) (_q5 : ma ≤ 1000) : Calls Try.prog 6 #[.agg #[.int .i64 t, .int .i64 mi, .int .i64 ma, .int .i64 up, .int .i64 dn, .int .i64 cu, .int .i64 cd], .slice A n cap] w fun e w' => e = .returned (.bool true) ∧ Below w.heap.size w w' := by
  go_enter Try.func6, Try.ntmps6
  go_wp2_with fail
  refine (h1.out _).mono ?_
  rintro _ wx1 ⟨rfl, hb⟩
  have P := ((Box.new w 23 #[.int .i64 t, .int .i64 mi, .int .i64 ma, .int .i64 up, .int .i64 dn, .int .i64 cu, .int .i64 cd])).next hb
  have hB := below_step (below_box (Below.refl _ w) _) hb
  clear hb
  have cP_0 := P.cell 0 _ rfl
  have cP_1 := P.cell 1 _ rfl
  have cP_2 := P.cell 2 _ rfl
  have cP_3 := P.cell 3 _ rfl
  have cP_4 := P.cell 4 _ rfl
  have cP_5 := P.cell 5 _ rfl
  have cP_6 := P.cell 6 _ rfl
  have lP := P.lt
  have zP_S := P.lt
  have zB_S := hB.size
  go_upto_region 5 with fail
  clear cP_0 cP_1 cP_2 cP_3 cP_4 cP_5 cP_6 lP
  have zP := P.lt
  refine wp_forget (fun W => Box W w.heap.size 23 #[.int .i64 t, .int .i64 mi, .int .i64 ma, .int .i64 up, .int .i64 dn, .int .i64 cu, .int .i64 cd] ∧ Box W (wx1.heap.size) 25 #[.int .i64 mi, .int .i64 (-1)] ∧ Below w.heap.size w W)
    ⟨P.alloc _, (Box.new wx1 25 #[.int .i64 mi, .int .i64 (-1)]), (below_box hB _)⟩ ?_
  clear P hB
  rintro wx2 ⟨P, S, hB⟩
  generalize hg : wx1.heap.size = g at *
  clear hg wx1
  go_wp2_with fail
  go_loopw [27, 7, 8] (CoolRel t mi ma up dn cu cd n w g) (fun i _ _ _ => n - (intOf i).toNat)
  case atStart => exact ⟨0, mi, -1, -1, -1, rfl, rfl, rfl, by omega, by omega, by omega, by omega, by omega, .inl rfl, .inl rfl, P, S, hB⟩
  case round =>
    clear P S hB
    obtain ⟨k, c, ch, a, b, rfl, rfl, rfl, hk, i1, i2, i3, i4, i5, i6, P, S, hB⟩ := hrel
    by_cases hlt : k < n
    · obtain ⟨b1, o1, rfl, hb1, hc0⟩ := hls.out k hlt
      have hc1 : wr.cell? ⟨b1, o1 + k, none⟩ = some (.int .i64 (ls.getD k 0)) := (hB.cell (p := ⟨b1, o1 + k, none⟩) hb1).trans hc0
      have HC1 : Hid (w.cell? ⟨b1, o1 + k, none⟩ = some (.int .i64 (ls.getD k 0))) := hc0
      clear hc0
      have hs := hB.size
      have hst : Hid (stB mi ma c ch = true) := (stB_iff mi ma c ch).2 ⟨i1, i2, i3, by omega⟩
      have HT : Hid (∀ W, _) := fun W => next_any t mi ma up dn cu cd c ch (ls.getD k 0) k W
      have HE := Lib.hid (next_fit t mi ma up dn cu cd c ch (ls.getD k 0) k hp.out hst.out (by omega) (by omega) (by omega))
      have HX := Lib.hid (next_step t mi ma up dn cu cd c ch (ls.getD k 0) k)
      have HY := Lib.hid (cool_step t mi ma up dn cu cd c ch (ls.getD k 0) k)
      generalize ls.getD k 0 = lk at *
      generalize desV t mi ma up dn cu cd lk = dv at *
      generalize desI t mi ma lk = d at *
      generalize nextV t mi ma up dn cu cd c ch lk k = T at *
      obtain ⟨c', h', e'⟩ := T
      simp only at HT HX HE HY
      have iP_0 : ∀ i : Idx wr, _ := fun i => (P.idx i).cell 0 _ rfl
      have iP_1 : ∀ i : Idx wr, _ := fun i => (P.idx i).cell 1 _ rfl
      have iP_2 : ∀ i : Idx wr, _ := fun i => (P.idx i).cell 2 _ rfl
      have iP_3 : ∀ i : Idx wr, _ := fun i => (P.idx i).cell 3 _ rfl
      have iP_4 : ∀ i : Idx wr, _ := fun i => (P.idx i).cell 4 _ rfl
      have iP_5 : ∀ i : Idx wr, _ := fun i => (P.idx i).cell 5 _ rfl
      have iP_6 : ∀ i : Idx wr, _ := fun i => (P.idx i).cell 6 _ rfl
      have iS_0 : ∀ i : Idx wr, _ := fun i => (S.idx i).cell 0 _ rfl
      have iS_1 : ∀ i : Idx wr, _ := fun i => (S.idx i).cell 1 _ rfl
      have j2 : ∀ i : Idx wr, i.at.cell? ⟨b1, o1 + k, none⟩ = some (.int .i64 lk) := fun i => (i.below.cell (p := ⟨b1, o1 + k, none⟩) (Nat.lt_of_lt_of_le hb1 hs)).trans hc1
      go_upto_region 8 with fail
      refine wp_region_mix [0, 0, 0, 0, 0, 0, 0, 0, 1, 1, 1, 3, 2, 2] (by kernel_rfl) (by kernel_rfl) ?_
      iterate 7 (refine wpMix_calm (fun K hK => ?_); go_simp; refine hK _ ?_; clear hK K)
      refine wpMix_calm (fun K hK => ?_)
      go_simp
      apply Exists.intro
      refine ⟨fun _ => ?_, hK _ ?_⟩
      go_at_call 13
      exact (HT.out _)
      clear hK K
      iterate 3 (refine wpMix_pure (fun K hK => ?_); go_simp; refine hK _ ?_; clear hK K)
      clear j2 HT hc1
      clear iP_0 iP_1 iP_2 iP_3 iP_4 iP_5 iP_6 iS_0 iS_1
      refine wpMix_grow (fun wx2 hb K hK => ?_)
      have hbk := hb
      replace P := (P).next hb
      replace S := (S).next hb
      replace hB := below_step hB hb
      clear hb
      have cP_0 := P.cell 0 _ rfl
      have cP_1 := P.cell 1 _ rfl
      have cP_2 := P.cell 2 _ rfl
      have cP_3 := P.cell 3 _ rfl
      have cP_4 := P.cell 4 _ rfl
      have cP_5 := P.cell 5 _ rfl
      have cP_6 := P.cell 6 _ rfl
      have lP := P.lt
      have cS_0 := S.cell 0 _ rfl
      have cS_1 := S.cell 1 _ rfl
      have lS := S.lt
      go_simp
      refine ⟨below_box hbk _, hK _ _ ?_⟩
      clear hK K hbk
      clear cP_0 cP_1 cP_2 cP_3 cP_4 cP_5 cP_6 lP cS_0 cS_1 lS
      have zP_T := P.lt
      have zS_T := S.lt
      have zB_T := hB.size
      refine wpMix_own (fun wx3 hb K hK => ?_)
      replace P := (P.alloc _).next hb
      replace S := (S.alloc _).next hb
      have T := ((Box.new wx2 25 #[.int .i64 0, .int .i64 0])).next hb
      replace hB := below_step (below_box hB _) hb
      clear hb
      have cP_0 := P.cell 0 _ rfl
      have cP_1 := P.cell 1 _ rfl
      have cP_2 := P.cell 2 _ rfl
      have cP_3 := P.cell 3 _ rfl
      have cP_4 := P.cell 4 _ rfl
      have cP_5 := P.cell 5 _ rfl
      have cP_6 := P.cell 6 _ rfl
      have lP := P.lt
      have cS_0 := S.cell 0 _ rfl
      have cS_1 := S.cell 1 _ rfl
      have lS := S.lt
      have cT_0 := T.cell 0 _ rfl
      have cT_1 := T.cell 1 _ rfl
      have fT_0 := T.frozen 0
      have fT_1 := T.frozen 1
      have lT := T.lt
      go_simp
      refine hK _ _ ?_
      clear hK K
      clear cP_0 cP_1 cP_2 cP_3 cP_4 cP_5 cP_6 lP cS_0 cS_1 lS cT_0 cT_1 fT_0 fT_1 lT
      replace P := ((P.far (p := ⟨wx2.heap.size, 0, none⟩) (by first | omega | (simp only []; omega)) (.int .i64 c')).far (p := ⟨wx2.heap.size, 1, none⟩) (by first | omega | (simp only []; omega)) (.int .i64 h'))
      replace S := ((S.far (p := ⟨wx2.heap.size, 0, none⟩) (by first | omega | (simp only []; omega)) (.int .i64 c')).far (p := ⟨wx2.heap.size, 1, none⟩) (by first | omega | (simp only []; omega)) (.int .i64 h'))
      replace T : Box _ _ _ #[.int .i64 c', .int .i64 h'] := ((T.set 0 (.int .i64 c')).set 1 (.int .i64 h')).eq_ (by simp)
      replace hB := ((hB.setCell (p := ⟨wx2.heap.size, 0, none⟩) (by first | omega | (simp only []; omega)) (.int .i64 c')).setCell (p := ⟨wx2.heap.size, 1, none⟩) (by first | omega | (simp only []; omega)) (.int .i64 h'))
      refine wpMix_own (fun wx4 hb K hK => ?_)
      replace P := (P).next hb
      replace S := (S).next hb
      replace T := (T).next hb
      replace hB := below_step hB hb
      clear hb
      go_simp
      refine hK _ _ ?_
      clear hK K
      refine wpMix_nil (fun wx5 hb => ?_)
      replace P := (P).next hb
      replace S := (S).next hb
      replace T := (T).next hb
      replace hB := below_step hB hb
      clear hb
      by_cases he : e' = 0
      · subst he
        have h0 : ((0 : Int) != 0) = false := rfl
        obtain ⟨_, m1, m2, m3, m4, m5, m6, m7, m8, m9, ma1, mb1, mc1, _⟩ := HX.out rfl
        obtain ⟨y1, y2, y3⟩ := HY.out rfl
        have Y1 := Lib.hid y1
        have Y2 := Lib.hid y2
        have Y3 := Lib.hid y3
        clear HX HY HE y1 y2 y3 h1
        rcases Int.lt_trichotomy c c' with gc | gc | gc
        · obtain ⟨z1, z2⟩ := Y1.out gc
          subst z2
          clear Y1 Y2 Y3
          rcases i5 with z3 | ⟨z3, z4⟩
          · subst z3
            clear z1
            skip
            have cP_0 := P.cell 0 _ rfl
            have cP_1 := P.cell 1 _ rfl
            have cP_2 := P.cell 2 _ rfl
            have cP_3 := P.cell 3 _ rfl
            have cP_4 := P.cell 4 _ rfl
            have cP_5 := P.cell 5 _ rfl
            have cP_6 := P.cell 6 _ rfl
            have lP := P.lt
            have cS_0 := S.cell 0 _ rfl
            have cS_1 := S.cell 1 _ rfl
            have fS_0 := S.frozen 0
            have fS_1 := S.frozen 1
            have lS := S.lt
            have cT_0 := T.cell 0 _ rfl
            have cT_1 := T.cell 1 _ rfl
            have lT := T.lt
            have hc1 := (hB.cell (p := ⟨b1, o1 + k, none⟩) hb1).trans HC1.out
            go_upto_region 20 with fail
            clear cP_0 cP_1 cP_2 cP_3 cP_4 cP_5 cP_6 lP cS_0 cS_1 fS_0 fS_1 lS cT_0 cT_1 lT hc1
            replace P := ((P.far (p := ⟨g, 0, none⟩) (by first | omega | (simp only []; omega)) (.int .i64 c')).far (p := ⟨g, 1, none⟩) (by first | omega | (simp only []; omega)) (.int .i64 k))
            replace S : Box _ _ _ #[.int .i64 c', .int .i64 k] := ((S.set 0 (.int .i64 c')).set 1 (.int .i64 k)).eq_ (by simp)
            replace T := ((T.far (p := ⟨g, 0, none⟩) (by first | omega | (simp only []; omega)) (.int .i64 c')).far (p := ⟨g, 1, none⟩) (by first | omega | (simp only []; omega)) (.int .i64 k))
            replace hB := ((hB.setCell (p := ⟨g, 0, none⟩) (by first | omega | (simp only []; omega)) (.int .i64 c')).setCell (p := ⟨g, 1, none⟩) (by first | omega | (simp only []; omega)) (.int .i64 k))
            go_wp2
            go_roundw
            case rel => exact ⟨k + 1, c', k, k, b, by go_num, by go_num, by go_num, by omega, by omega, by omega, by omega, by omega, .inr (by omega), by omega, P, S, hB⟩
            case measure => simp [intOf]; omega
          · have z5 : cu ≤ k - a := by omega
            clear z1
            skip
            have cP_0 := P.cell 0 _ rfl
            have cP_1 := P.cell 1 _ rfl
            have cP_2 := P.cell 2 _ rfl
            have cP_3 := P.cell 3 _ rfl
            have cP_4 := P.cell 4 _ rfl
            have cP_5 := P.cell 5 _ rfl
            have cP_6 := P.cell 6 _ rfl
            have lP := P.lt
            have cS_0 := S.cell 0 _ rfl
            have cS_1 := S.cell 1 _ rfl
            have fS_0 := S.frozen 0
            have fS_1 := S.frozen 1
            have lS := S.lt
            have cT_0 := T.cell 0 _ rfl
            have cT_1 := T.cell 1 _ rfl
            have lT := T.lt
            have hc1 := (hB.cell (p := ⟨b1, o1 + k, none⟩) hb1).trans HC1.out
            go_upto_region 20 with fail
            clear cP_0 cP_1 cP_2 cP_3 cP_4 cP_5 cP_6 lP cS_0 cS_1 fS_0 fS_1 lS cT_0 cT_1 lT hc1
            replace P := ((P.far (p := ⟨g, 0, none⟩) (by first | omega | (simp only []; omega)) (.int .i64 c')).far (p := ⟨g, 1, none⟩) (by first | omega | (simp only []; omega)) (.int .i64 k))
            replace S : Box _ _ _ #[.int .i64 c', .int .i64 k] := ((S.set 0 (.int .i64 c')).set 1 (.int .i64 k)).eq_ (by simp)
            replace T := ((T.far (p := ⟨g, 0, none⟩) (by first | omega | (simp only []; omega)) (.int .i64 c')).far (p := ⟨g, 1, none⟩) (by first | omega | (simp only []; omega)) (.int .i64 k))
            replace hB := ((hB.setCell (p := ⟨g, 0, none⟩) (by first | omega | (simp only []; omega)) (.int .i64 c')).setCell (p := ⟨g, 1, none⟩) (by first | omega | (simp only []; omega)) (.int .i64 k))
            go_wp2
            go_roundw
            case rel => exact ⟨k + 1, c', k, k, b, by go_num, by go_num, by go_num, by omega, by omega, by omega, by omega, by omega, .inr (by omega), by omega, P, S, hB⟩
            case measure => simp [intOf]; omega
        · subst gc
          have z2 := Y3.out rfl
          subst z2
          clear Y1 Y2 Y3
          skip
          have cP_0 := P.cell 0 _ rfl
          have cP_1 := P.cell 1 _ rfl
          have cP_2 := P.cell 2 _ rfl
          have cP_3 := P.cell 3 _ rfl
          have cP_4 := P.cell 4 _ rfl
          have cP_5 := P.cell 5 _ rfl
          have cP_6 := P.cell 6 _ rfl
          have lP := P.lt
          have cS_0 := S.cell 0 _ rfl
          have cS_1 := S.cell 1 _ rfl
          have fS_0 := S.frozen 0
          have fS_1 := S.frozen 1
          have lS := S.lt
          have cT_0 := T.cell 0 _ rfl
          have cT_1 := T.cell 1 _ rfl
          have lT := T.lt
          have hc1 := (hB.cell (p := ⟨b1, o1 + k, none⟩) hb1).trans HC1.out
          go_upto_region 20 with fail
          clear cP_0 cP_1 cP_2 cP_3 cP_4 cP_5 cP_6 lP cS_0 cS_1 fS_0 fS_1 lS cT_0 cT_1 lT hc1
          replace P := ((P.far (p := ⟨g, 0, none⟩) (by first | omega | (simp only []; omega)) (.int .i64 c)).far (p := ⟨g, 1, none⟩) (by first | omega | (simp only []; omega)) (.int .i64 h'))
          replace S : Box _ _ _ #[.int .i64 c, .int .i64 h'] := ((S.set 0 (.int .i64 c)).set 1 (.int .i64 h')).eq_ (by simp)
          replace T := ((T.far (p := ⟨g, 0, none⟩) (by first | omega | (simp only []; omega)) (.int .i64 c)).far (p := ⟨g, 1, none⟩) (by first | omega | (simp only []; omega)) (.int .i64 h'))
          replace hB := ((hB.setCell (p := ⟨g, 0, none⟩) (by first | omega | (simp only []; omega)) (.int .i64 c)).setCell (p := ⟨g, 1, none⟩) (by first | omega | (simp only []; omega)) (.int .i64 h'))
          go_wp2
          go_roundw
          case rel => exact ⟨k + 1, c, h', a, b, by go_num, by go_num, by go_num, by omega, by omega, by omega, by omega, by omega, by omega, by omega, P, S, hB⟩
          case measure => simp [intOf]; omega
        · obtain ⟨z1, z2⟩ := Y2.out gc
          subst z2
          clear Y1 Y2 Y3
          rcases i6 with z3 | ⟨z3, z4⟩
          · subst z3
            clear z1
            skip
            have cP_0 := P.cell 0 _ rfl
            have cP_1 := P.cell 1 _ rfl
            have cP_2 := P.cell 2 _ rfl
            have cP_3 := P.cell 3 _ rfl
            have cP_4 := P.cell 4 _ rfl
            have cP_5 := P.cell 5 _ rfl
            have cP_6 := P.cell 6 _ rfl
            have lP := P.lt
            have cS_0 := S.cell 0 _ rfl
            have cS_1 := S.cell 1 _ rfl
            have fS_0 := S.frozen 0
            have fS_1 := S.frozen 1
            have lS := S.lt
            have cT_0 := T.cell 0 _ rfl
            have cT_1 := T.cell 1 _ rfl
            have lT := T.lt
            have hc1 := (hB.cell (p := ⟨b1, o1 + k, none⟩) hb1).trans HC1.out
            go_upto_region 20 with fail
            clear cP_0 cP_1 cP_2 cP_3 cP_4 cP_5 cP_6 lP cS_0 cS_1 fS_0 fS_1 lS cT_0 cT_1 lT hc1
            replace P := ((P.far (p := ⟨g, 0, none⟩) (by first | omega | (simp only []; omega)) (.int .i64 c')).far (p := ⟨g, 1, none⟩) (by first | omega | (simp only []; omega)) (.int .i64 k))
            replace S : Box _ _ _ #[.int .i64 c', .int .i64 k] := ((S.set 0 (.int .i64 c')).set 1 (.int .i64 k)).eq_ (by simp)
            replace T := ((T.far (p := ⟨g, 0, none⟩) (by first | omega | (simp only []; omega)) (.int .i64 c')).far (p := ⟨g, 1, none⟩) (by first | omega | (simp only []; omega)) (.int .i64 k))
            replace hB := ((hB.setCell (p := ⟨g, 0, none⟩) (by first | omega | (simp only []; omega)) (.int .i64 c')).setCell (p := ⟨g, 1, none⟩) (by first | omega | (simp only []; omega)) (.int .i64 k))
            go_wp2
            go_roundw
            case rel => exact ⟨k + 1, c', k, a, k, by go_num, by go_num, by go_num, by omega, by omega, by omega, by omega, by omega, by omega, .inr (by omega), P, S, hB⟩
            case measure => simp [intOf]; omega
          · have z5 : cd ≤ k - b := by omega
            clear z1
            skip
            have cP_0 := P.cell 0 _ rfl
            have cP_1 := P.cell 1 _ rfl
            have cP_2 := P.cell 2 _ rfl
            have cP_3 := P.cell 3 _ rfl
            have cP_4 := P.cell 4 _ rfl
            have cP_5 := P.cell 5 _ rfl
            have cP_6 := P.cell 6 _ rfl
            have lP := P.lt
            have cS_0 := S.cell 0 _ rfl
            have cS_1 := S.cell 1 _ rfl
            have fS_0 := S.frozen 0
            have fS_1 := S.frozen 1
            have lS := S.lt
            have cT_0 := T.cell 0 _ rfl
            have cT_1 := T.cell 1 _ rfl
            have lT := T.lt
            have hc1 := (hB.cell (p := ⟨b1, o1 + k, none⟩) hb1).trans HC1.out
            go_upto_region 20 with fail
            clear cP_0 cP_1 cP_2 cP_3 cP_4 cP_5 cP_6 lP cS_0 cS_1 fS_0 fS_1 lS cT_0 cT_1 lT hc1
            replace P := ((P.far (p := ⟨g, 0, none⟩) (by first | omega | (simp only []; omega)) (.int .i64 c')).far (p := ⟨g, 1, none⟩) (by first | omega | (simp only []; omega)) (.int .i64 k))
            replace S : Box _ _ _ #[.int .i64 c', .int .i64 k] := ((S.set 0 (.int .i64 c')).set 1 (.int .i64 k)).eq_ (by simp)
            replace T := ((T.far (p := ⟨g, 0, none⟩) (by first | omega | (simp only []; omega)) (.int .i64 c')).far (p := ⟨g, 1, none⟩) (by first | omega | (simp only []; omega)) (.int .i64 k))
            replace hB := ((hB.setCell (p := ⟨g, 0, none⟩) (by first | omega | (simp only []; omega)) (.int .i64 c')).setCell (p := ⟨g, 1, none⟩) (by first | omega | (simp only []; omega)) (.int .i64 k))
            go_wp2
            go_roundw
            case rel => exact ⟨k + 1, c', k, a, k, by go_num, by go_num, by go_num, by omega, by omega, by omega, by omega, by omega, by omega, .inr (by omega), P, S, hB⟩
            case measure => simp [intOf]; omega
      · have h0 : (e' != 0) = true := bne_iff_ne.2 he
        rcases HE.out he with g1 | ⟨g1, g2⟩
        · clear HX HY HE h1
          skip
          have cP_0 := P.cell 0 _ rfl
          have cP_1 := P.cell 1 _ rfl
          have cP_2 := P.cell 2 _ rfl
          have cP_3 := P.cell 3 _ rfl
          have cP_4 := P.cell 4 _ rfl
          have cP_5 := P.cell 5 _ rfl
          have cP_6 := P.cell 6 _ rfl
          have lP := P.lt
          have cS_0 := S.cell 0 _ rfl
          have cS_1 := S.cell 1 _ rfl
          have lS := S.lt
          have cT_0 := T.cell 0 _ rfl
          have cT_1 := T.cell 1 _ rfl
          have lT := T.lt
          have hc1 := (hB.cell (p := ⟨b1, o1 + k, none⟩) hb1).trans HC1.out
          go_wp2_with fail
          refine (awake_any _).mono ?_
          rintro _ wx6 ⟨rfl, hb⟩
          clear cP_0 cP_1 cP_2 cP_3 cP_4 cP_5 cP_6 lP cS_0 cS_1 lS cT_0 cT_1 lT hc1
          replace P := (P).next hb
          replace S := (S).next hb
          replace T := (T).next hb
          replace hB := below_step hB hb
          clear hb
          go_wp2
          go_ret
          exact ⟨rfl, hB⟩
        · clear HX HY HE h1
          skip
          have cP_0 := P.cell 0 _ rfl
          have cP_1 := P.cell 1 _ rfl
          have cP_2 := P.cell 2 _ rfl
          have cP_3 := P.cell 3 _ rfl
          have cP_4 := P.cell 4 _ rfl
          have cP_5 := P.cell 5 _ rfl
          have cP_6 := P.cell 6 _ rfl
          have lP := P.lt
          have cS_0 := S.cell 0 _ rfl
          have cS_1 := S.cell 1 _ rfl
          have lS := S.lt
          have cT_0 := T.cell 0 _ rfl
          have cT_1 := T.cell 1 _ rfl
          have lT := T.lt
          have hc1 := (hB.cell (p := ⟨b1, o1 + k, none⟩) hb1).trans HC1.out
          go_wp2_with fail
          refine (awake_any _).mono ?_
          rintro _ wx6 ⟨rfl, hb⟩
          clear cP_0 cP_1 cP_2 cP_3 cP_4 cP_5 cP_6 lP cS_0 cS_1 lS cT_0 cT_1 lT hc1
          replace P := (P).next hb
          replace S := (S).next hb
          replace T := (T).next hb
          replace hB := below_step hB hb
          clear hb
          go_wp2
          go_ret
          exact ⟨rfl, hB⟩

    · have hkn : (n : Int) ≤ k := by omega
      go_wp2_with fail
      refine (awake_any _).mono ?_
      rintro _ wz ⟨rfl, hb⟩
      go_wp2
      go_ret
      exact ⟨rfl, below_step hB hb⟩
theorem start_open (t mi ma up dn cu cd : Int) : (polB t mi ma up dn cu cd = true ∧ startV t mi ma up dn cu cd = ⟨mi, -1, 0⟩) ∨ startV t mi ma up dn cu cd = ⟨0, 0, 2⟩ := by
  unfold startV
  split
  · exact .inl ⟨by assumption, rfl⟩
  · exact .inr rfl
theorem scaleCools_walk (t mi ma up dn cu cd : Int) (A : Option Addr) (n cap : Nat) (ls : List Int) (w : World) (_ : (Lit.int .i64 t).wf = true) (_ : (Lit.int .i64 mi).wf = true) (_ : (Lit.int .i64 ma).wf = true) (_ : (Lit.int .i64 up).wf = true) (_ : (Lit.int .i64 dn).wf = true) (_ : (Lit.int .i64 cu).wf = true) (_ : (Lit.int .i64 cd).wf = true)
    (hl : ls.length = n ∧ Seg w A n (ints ls) ∧ (∀ n ∈ ls, (Lit.int .i64 n).wf = true) ∧ n ≤ maxLen) : Calls Try.prog 6 #[.agg #[.int .i64 t, .int .i64 mi, .int .i64 ma, .int .i64 up, .int .i64 dn, .int .i64 cu, .int .i64 cd], .slice A n cap] w fun e w' => e = .returned (.bool true) ∧ Below w.heap.size w w' := by
  have h1 : Hid (∀ W, _) := fun W => start_any t mi ma up dn cu cd W
  rcases start_open t mi ma up dn cu cd with ⟨hp, hs⟩ | hs
  · rw [hs] at h1
    obtain ⟨p1, p2, p3, p4, p5, p6, p7, p8, p9, pa, pb, pc, pd⟩ := (polB_iff t mi ma up dn cu cd).1 hp
    by_cases h : 200 < n
    · exact cools_out t mi ma up dn cu cd mi (-1) 0 A n cap w h1 (.inr ⟨rfl, by simp; omega⟩)
    · exact cools_main t mi ma up dn cu cd A n cap ls w h1 hl.2.1 (by simp; omega) hp (by omega) pa pc p4 p3 p5
  · rw [hs] at h1
    exact cools_out t mi ma up dn cu cd 0 0 2 A n cap w h1 (.inl rfl)

end Go.Proofs.Ytndpecjkoffebaa
