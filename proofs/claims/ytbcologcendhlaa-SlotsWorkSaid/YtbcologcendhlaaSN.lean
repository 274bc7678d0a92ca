/- SlotsBalance: the walk. -/
import Derived.Test.YtbcologcendhlaaSL
namespace Go.Proofs.Ytbcologcendhlaa
open Go.ChangeShapes Go.WideShapes Go.ChangeAt Go.RowKit

theorem below_step' {a b c : World} {B : Nat} (h : Below B a b) (k : Below b.heap.size b c) (hz : B ≤ b.heap.size) : Below B a c := h.trans ⟨k.os, k.tape, k.output, k.size, fun i hi => k.block i (by omega)⟩
theorem small_names {R : KL} {l : OL} (h : SmallOk R l) : ∀ p ∈ R, p.1.length ≤ 300 := by
  intro p hp
  obtain ⟨j, hj, he⟩ := List.mem_iff_getElem.1 hp
  have := h.2.2.1 j hj
  rwa [List.getD_eq_getElem?_getD, List.getElem?_eq_getElem hj, he] at this
set_option maxRecDepth 100000 in
set_option maxHeartbeats 1000000 in
theorem slotsBalance_walk (total least : Int) (A : Option Addr) (n ca : Nat) (R : KL) (B : Option Addr) (m cb : Nat) (l : OL) (t : ByteArray) (W : World) {p0 p1 p4 : Prop} (_ : p0) (_ : p1) (hr : RArg W A n ca R) (hk : KArg W B m cb l) (_ : p4) : Calls Try.prog 5 #[.int .i64 total, .int .i64 least, .slice A n ca, .slice B m cb, .string t] W fun e w' => e = .returned (.bool true) ∧ Below W.heap.size W w' := by
  obtain ⟨rfl, hR, hRn, hR24⟩ := hr
  obtain ⟨rfl, hl, hln, hl24⟩ := hk
  rw [bs_list t]
  generalize t.data.toList = f
  have HR := Lib.hid hR
  have HL := Lib.hid hl
  have hown0 := k_row0 W
  have hb0 := below_box (Below.refl _ W) (.cells #[] 36)
  have hsrc0 := hl.next hb0
  have hz0 := hb0.size
  have H0 := Lib.hid (And.intro hown0 (And.intro hb0 (And.intro hsrc0 hz0)))
  have HN0 := Lib.hid hln
  clear hR hl hown0 hb0 hsrc0 hz0 hln hRn hR24
  have tok1 : True := trivial
  go_enter Try.func5, Try.ntmps5
  go_wp2_with (first
    | (at_builtin
       have _t := tok1
       go_loud (refine wpList_appk rfl (.tmp 23) (.tmp 24) rfl W.heap.size _ [] l B cb rfl rfl H0.out.1 H0.out.2.2.1 HN0.out H0.out.2.1 H0.out.2.2.2 (by simp only [List.length_nil]; omega) ?_)
       intro v1 w1 ho1 hb1
       clear tok1
       have hz1 := hb1.size
       have hbb := below_box (Below.refl _ w1) (.cells #[.int .i64 0, .string (bs f)] 36)
       have hk1 := k_new1 w1 0 f 36
       go_loud (have H1 := Lib.hid (And.intro (own_up ho1 hbb) (And.intro hk1 (And.intro (below_step' hb1 hbb hz1) (Nat.le_trans hz1 hbb.size)))))
       clear ho1 hb1 hz1 hbb hk1)
    | (at_builtin
       go_loud (refine wpList_appks rfl (.tmp 25) (.tmp 28) rfl W.heap.size v1 ([] ++ l) [(0, f)] _ 1 rfl rfl H1.out.1 H1.out.2.1 (fun h => by cases h) H1.out.2.2.1 H1.out.2.2.2 (by simp only [List.nil_append, List.length_cons, List.length_nil]; omega) ?_)
       intro A2 cap2 n2 w2 hn2 hs2 hb2
       rw [List.nil_append] at hn2 hs2
       have H2 := Lib.hid (And.intro (smalls_n R _ n2 A A2 ca cap2 w2 hn2 (HR.out.next hb2) hs2) hb2)
       clear hn2 hb2 hs2 H1))
  refine H2.out.1.mono ?_
  rintro _ w3 ⟨r, rfl, hr3, hb3⟩
  have hB3 := below_step H2.out.2 hb3
  clear H2 hb3 H0
  cases r
  · have HB3 := Lib.hid hB3
    clear hB3 hr3
    go_wp2_with fail
    refine (awake_any _).mono ?_
    rintro _ w4 ⟨rfl, hb⟩
    go_wp2
    go_ret
    exact ⟨rfl, below_step HB3.out hb⟩
  obtain ⟨hso, hf300⟩ := small_less (hr3 rfl)
  clear hr3
  have HSO := Lib.hid hso
  clear hso
  have hlB := HL.out.next hB3
  have HLB := Lib.hid hlB
  have hRB := HR.out.next hB3
  have HB3 := Lib.hid hB3
  clear hB3
  by_cases hc : checkV total least R = 0
  case neg =>
    have hne : (checkV total least R != 0) = true := bne_iff_ne.2 hc
    have HC := Lib.hid (check_any total least A ca R w3 hRB (small_names HSO.out))
    generalize checkV total least R = code at *
    have HP := Lib.hid (played_no total least code A B R.length ca l.length cb w3 (Lib.hid (new_no total least code A R.length ca w3 HC hne)) hne)
    clear hc HC hne hRB hlB
    go_wp2_with fail
    refine HP.out.mono ?_
    rintro _ w4 ⟨rfl, hb4⟩
    have HB4 := Lib.hid (below_step HB3.out hb4)
    clear hb4
    go_wp2_with fail
    refine (awake_any _).mono ?_
    rintro _ w5 ⟨rfl, hb⟩
    go_wp2
    go_ret
    exact ⟨rfl, below_step HB4.out hb⟩
  have HP := Lib.hid (played_yes total least R l A B ca cb w3 hRB hlB HSO.out hc)
  have hgd := good_play (Good.made (check_ok hc)) l
  have hsame := play_same ⟨total, R, []⟩ l
  have hend := bal_end l hgd
  clear hRB hlB hc
  go_wp2_with fail
  refine HP.out.mono ?_
  rintro _ w4 ⟨p, br, bu, rfl, h4⟩
  clear HP
  generalize playV ⟨total, R, []⟩ l = st at *
  have HG := Lib.hid hgd
  have HE := Lib.hid hend
  have HT := Lib.hid hsame.1
  clear hgd hend hsame
  have h300 : (l.length : Int) ≤ 300 := by have := HSO.out.2.1; omega
  go_wp2
  go_loopw [12, 43] (BalRel l st w3 p br bu l.length) (fun _ i _ => l.length - (intOf i).toNat)
  case atStart => exact ⟨0, by rw [List.take_zero, wsum_none (q := fun s => decide (s ∈ fns [])) (fun _ _ _ => rfl)], rfl, by omega, h4⟩
  case round =>
  clear h4
  obtain ⟨k, rfl, rfl, hk, h⟩ := hrel
  by_cases hlt : k < l.length
  · obtain ⟨b1, o1, rfl, hb1, _, q1⟩ := kseg HLB.out k hlt
    have HF1 := Lib.hid (fun h => bal_first HG.out l k hlt h)
    have HF2 := Lib.hid (fun h => bal_again (st := st) l k hlt h)
    have hy := HSO.out.2.2.2 k hlt
    have hck := HG.out.cnt_le (l.getD k (0, [])).2
    have hc0 := HG.out.cnt_nonneg (l.getD k (0, [])).2
    have hsl := wsum_le (q := fun s => decide (s ∈ fns (l.take k))) (r := all) HG.out.nonneg (fun _ _ => rfl)
    have hs0 := wsum_nonneg (q := fun s => decide (s ∈ fns (l.take k))) HG.out.nonneg
    have htl := HG.out.total_le
    have ht1 := HG.out.conf.t1
    have hu := used_cnt HG.out (l.getD k (0, [])).2
    generalize (l.getD k (0, [])).2 = y at *
    generalize wsum (fun s => decide (s ∈ fns (l.take k))) st.U = sk at *
    have hsum : IntKind.i64.wrap (sk + cnt st.U y) = sk + cnt st.U y := by rw [IntKind.wrap_i64]; omega
    have HU := Lib.hid hu
    have HQ := Lib.hid (And.intro hb1 q1)
    clear hck hc0 hsl hs0 htl ht1 hu q1 hb1
    go_wp2
    go_loopw [14, 47] (FirstRel l y k st w3 p br bu l.length) (fun _ j _ => k - (intOf j).toNat)
    case atStart => exact ⟨0, rfl, rfl, by omega, h⟩
    case round =>
    clear h
    obtain ⟨j, rfl, rfl, hj, h⟩ := hrel
    by_cases hjk : j < k
    · by_cases hin : y ∈ fns (l.take j)
      · have hd : decide (y ∉ fns (l.take j)) = false := decide_eq_false (fun h => h hin)
        have hd2 : decide (y ∉ fns (l.take (j + 1))) = false := decide_eq_false (fun h => h (by rw [fns_take l j (by omega)]; exact List.mem_append_left _ hin))
        rw [hd]
        have HD2 := Lib.hid hd2
        clear hd hd2 hin
        have hdn := fun n => h.up (drewN_below wr n)
        go_upto_region 14 with fail
        go_quiet (fail)
        go_wp2
        go_roundw
        case rel => exact ⟨j + 1, by rw [HD2.out], by go_num, by omega, hdn _⟩
        case measure => simp [intOf]; omega
      · have hd : decide (y ∉ fns (l.take j)) = true := decide_eq_true hin
        rw [hd]
        obtain ⟨b2, o2, he, hb2, _, q2⟩ := kseg HLB.out j (by omega)
        injection he with he
        injection he with e1 e2
        subst e1 e2
        have hft := fns_take l j (by omega)
        generalize (l.getD j (0, [])).2 = x at *
        have c1 := (h.below.cell (p := ⟨b1, o1 + k * 2 + 1, none⟩) hb2).trans HQ.out.2
        have c2 := (h.below.cell (p := ⟨b1, o1 + j * 2 + 1, none⟩) hb2).trans q2
        have hb3 : b1 < wr.heap.size := Nat.lt_of_lt_of_le hb2 h.below.size
        have hdn := fun n => h.up (drewN_below wr n)
        by_cases hxy : x = y
        · subst hxy
          have hd2 : decide (x ∉ fns (l.take (j + 1))) = false := decide_eq_false (fun h => h (by rw [hft]; simp))
          have HD2 := Lib.hid hd2
          clear hd hd2 hin hft
          go_upto_region 14 with fail
          go_quiet (fail)
          go_wp2
          go_roundw
          case rel => exact ⟨j + 1, by rw [HD2.out], by go_num, by omega, hdn _⟩
          case measure => simp [intOf]; omega
        · have hd2 : decide (y ∉ fns (l.take (j + 1))) = true := decide_eq_true (fun h => by
            rw [hft] at h
            rcases List.mem_append.1 h with h | h
            · exact hin h
            · exact hxy (List.mem_singleton.1 h).symm)
          have hne : ((bs x).toList == (bs y).toList) = false := by rw [bs_same]; exact decide_eq_false hxy
          have HD2 := Lib.hid hd2
          clear hd hd2 hin hft hxy
          go_upto_region 14 with fail
          go_quiet (fail)
          go_wp2
          go_roundw
          case rel => exact ⟨j + 1, by rw [HD2.out], by go_num, by omega, hdn _⟩
          case measure => simp [intOf]; omega
    · obtain rfl : j = k := by omega
      by_cases hin : y ∈ fns (l.take j)
      · have hd : decide (y ∉ fns (l.take j)) = false := decide_eq_false (fun h => h hin)
        rw [hd]
        have HX := Lib.hid (HF2.out hin)
        clear hd hin
        go_wp2
        go_roundw
        case rel => exact ⟨j + 1, by rw [HX.out], by go_num, by omega, h⟩
        case measure => simp [intOf]; omega
      · have hd : decide (y ∉ fns (l.take j)) = true := decide_eq_true hin
        rw [hd]
        have HX := Lib.hid (HF1.out hin)
        have c1 := (h.below.cell (p := ⟨b1, o1 + j * 2 + 1, none⟩) HQ.out.1).trans HQ.out.2
        have hb3 : b1 < wr.heap.size := Nat.lt_of_lt_of_le HQ.out.1 h.below.size
        have HUS := Lib.hid (s1_used y h (by omega))
        clear hd hin h
        go_wp2_with fail
        refine HUS.out.mono ?_
        rintro _ w5 ⟨rfl, h⟩
        rw [HU.out]
        clear c1
        go_wp2
        go_roundw
        case rel => exact ⟨j + 1, by rw [HX.out], by go_num, by omega, h⟩
        case measure => simp [intOf]; omega
  · obtain rfl : k = l.length := by omega
    rw [List.take_length, HE.out]
    have htl := HG.out.total_le
    have ht1 := HG.out.conf.t1
    rw [HT.out] at htl ht1
    have hus := s1_total h HG.out
    rw [HT.out] at hus
    have HTO := Lib.hid hus
    clear hus h hlt hk
    have hc0 := HG.out.cnt_nonneg f
    have hc1 := HG.out.cnt_le f
    have hf0 : 0 ≤ freeV st f := by
      have := HG.out.free_nonneg f
      unfold freeV
      split <;> omega
    have hU := used_cnt HG.out f
    rw [← hU] at hc0 hc1
    clear hU
    have hfl : f.length ≤ 1000000 := by omega
    have HUV := Lib.hid (fun w (k : S1 w3 w p br bu l.length st) => s1_used f k hfl)
    have HFV := Lib.hid (fun w (k : S1 w3 w p br bu l.length st) => s1_free f k HG.out hfl)
    rcases acq_cases HG.out f with ⟨er, hne, hacq, hfz⟩ | ⟨hacq, hnm, hfr⟩
    · have HA := Lib.hid (fun w (k : S1 w3 w p br bu l.length st) => s1_acquire f k HG.out hfl (by omega) hacq)
      rw [hfz] at HFV
      clear hacq hfz hf0
      generalize usedV st f = uv at *
      generalize wsum all st.U = av at *
      go_wp2_with fail
      refine HTO.out.mono ?_
      rintro _ w5 ⟨rfl, h5⟩
      go_wp2_with fail
      refine (HUV.out _ h5).mono ?_
      clear h5
      rintro _ w6 ⟨rfl, h6⟩
      go_wp2_with fail
      refine (HFV.out _ h6).mono ?_
      clear h6
      rintro _ w7 ⟨rfl, h7⟩
      go_wp2_with fail
      refine (HA.out _ h7).mono ?_
      clear h7
      rintro _ w8 ⟨rfl, h8⟩
      have HB8 := Lib.hid (below_step' HB3.out h8.below HB3.out.size)
      clear h8
      go_wp2_with fail
      refine (awake_any _).mono ?_
      rintro _ w9 ⟨rfl, hb⟩
      go_wp2
      go_ret
      exact ⟨rfl, below_step HB8.out hb⟩
    · have hg1 := good_acq HG.out f
      rw [hacq] at hg1
      obtain ⟨st3, hrel, hg3, u3, f3, s3, t3⟩ := undo HG.out hnm hg1
      have HA := Lib.hid (fun w (k : S1 w3 w p br bu l.length st) => s1_acquire f k HG.out hfl (by omega) hacq)
      have u1 : usedV ⟨st.total, st.R, bump st.U f 1⟩ f = usedV st f + 1 := by
        rw [used_cnt hg1, used_cnt HG.out]
        show cnt (bump st.U f 1) f = _
        rw [cnt_bump, if_pos rfl]
      have f1 : freeV ⟨st.total, st.R, bump st.U f 1⟩ f = freeV st f - 1 := by
        unfold freeV
        rw [hnm, if_pos rfl, if_pos rfl, free_bump]
      have hfu : freeV st f ≤ 1000000000 := by
        have h1 := HG.out.cnt_nonneg f
        unfold freeV
        rw [hnm, if_pos rfl]
        cases hl : look st.R f with
        | some n =>
          have h2 := (HG.out.conf.ok _ (look_mem hl)).2.2
          rw [HT.out] at h2
          rw [free_some hl]
          simp only at h2
          omega
        | none =>
          have h2 := wsum_nonneg (q := all) (fun p hp => (HG.out.conf.ok p hp).2.1)
          have h3 := wsum_nonneg (q := shr st) HG.out.nonneg
          rw [free_none hl, HT.out]
          omega
      have HU1 := Lib.hid (fun w (k : S1 w3 w p br bu (l.length + 1) ⟨st.total, st.R, bump st.U f 1⟩) => s1_used f k hfl)
      have HF1 := Lib.hid (fun w (k : S1 w3 w p br bu (l.length + 1) ⟨st.total, st.R, bump st.U f 1⟩) => s1_free f k hg1 hfl)
      have HR1 := Lib.hid (fun w (k : S1 w3 w p br bu (l.length + 1) ⟨st.total, st.R, bump st.U f 1⟩) => s1_release f k hg1 hfl (by omega) hrel)
      have HU3 := Lib.hid (fun w (k : S1 w3 w p br bu (l.length + 1 + 1) st3) => s1_used f k hfl)
      have HF3 := Lib.hid (fun w (k : S1 w3 w p br bu (l.length + 1 + 1) st3) => s1_free f k hg3 hfl)
      have HT3 := Lib.hid (fun w (k : S1 w3 w p br bu (l.length + 1 + 1) st3) => s1_total k hg3)
      rw [u1] at HU1
      rw [f1] at HF1
      rw [u3] at HU3
      rw [f3] at HF3
      rw [s3, t3, HT.out] at HT3
      have hadd : IntKind.i64.wrap (usedV st f + 1) = usedV st f + 1 := by rw [IntKind.wrap_i64]; omega
      have hsub : IntKind.i64.wrap (freeV st f - 1) = freeV st f - 1 := by rw [IntKind.wrap_i64]; omega
      clear hacq u1 f1 u3 f3 s3 t3 hg1 hg3 hrel hnm hfr hfu
      generalize (⟨st.total, st.R, bump st.U f 1⟩ : SS) = st2 at *
      generalize usedV st f = uv at *
      generalize freeV st f = fv at *
      generalize wsum all st.U = av at *
      go_wp2_with fail
      refine HTO.out.mono ?_
      rintro _ w5 ⟨rfl, h5⟩
      go_wp2_with fail
      refine (HUV.out _ h5).mono ?_
      clear h5
      rintro _ w6 ⟨rfl, h6⟩
      go_wp2_with fail
      refine (HFV.out _ h6).mono ?_
      clear h6
      rintro _ w7 ⟨rfl, h7⟩
      go_wp2_with fail
      refine (HA.out _ h7).mono ?_
      clear h7
      rintro _ w8 ⟨rfl, h8⟩
      go_wp2_with fail
      refine (HU1.out _ h8).mono ?_
      clear h8
      rintro _ w9 ⟨rfl, h9⟩
      go_wp2_with fail
      refine (HF1.out _ h9).mono ?_
      clear h9
      rintro _ w10 ⟨rfl, h10⟩
      go_wp2_with fail
      refine (HR1.out _ h10).mono ?_
      clear h10
      rintro _ w11 ⟨rfl, h11⟩
      go_wp2_with fail
      refine (HT3.out _ h11).mono ?_
      clear h11
      rintro _ w12 ⟨rfl, h12⟩
      go_wp2_with fail
      refine (HU3.out _ h12).mono ?_
      clear h12
      rintro _ w13 ⟨rfl, h13⟩
      go_wp2_with fail
      refine (HF3.out _ h13).mono ?_
      clear h13
      rintro _ w14 ⟨rfl, h14⟩
      have HB14 := Lib.hid (below_step' HB3.out h14.below HB3.out.size)
      clear h14
      go_wp2_with fail
      refine (awake_any _).mono ?_
      rintro _ w15 ⟨rfl, hb⟩
      go_wp2
      go_ret
      exact ⟨rfl, below_step HB14.out hb⟩
end Go.Proofs.Ytbcologcendhlaa
