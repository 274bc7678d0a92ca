/- The reference's Acquire and Release: the walks. -/
import Derived.Test.YtbcologcendhlaaSY
namespace Go.Proofs.Ytbcologcendhlaa
open Go.ChangeShapes Go.WideShapes Go.ChangeAt Go.RowKit

theorem IU : (Try.prog.info? 59).map (fun i => (i.zero, i.size, i.bytes)) = some (some (.agg #[.string ByteArray.empty, .int .i64 0]), 2, 24) := by kernel_rfl
theorem own_form {w : World} {e : TypeId} {v : Value} {U : KL} (h : w.ownsRow 0 e 2 v U.length (rV U)) {i : Nat} (hi : i < U.length) : ∃ g cap, v = .slice (some ⟨g, 0, none⟩) U.length cap ∧ g < w.heap.size ∧ w.cell? ⟨g, i * 2 + 1, none⟩ = some (.int .i64 (U.getD i ([], 0)).2) ∧ w.frozen? ⟨g, i * 2 + 1, none⟩ = false := by
  obtain ⟨A3, c3, he, hs3, _, _⟩ := own_seg h (fun j hj => rV_get _ j hj)
  obtain ⟨b1, o1, hA, hb1, _, q1⟩ := rseg hs3 i hi
  rcases h.2 with ⟨h0, hn0⟩ | ⟨g, cap, cur, h0, _, hh, _⟩
  · omega
  · rw [h0] at he
    injection he with e1 _ e3
    rw [← e1] at hA
    injection hA with hA
    injection hA with a1 a2
    subst a1 a2
    rw [Nat.zero_add] at q1
    have hb : Box w g e cur := hh
    exact ⟨g, cap, h0, hb1, q1, hb.frozen _⟩
set_option maxHeartbeats 2000000 in
theorem racquire_any (w : World) (r : Nat) (A2 : Option Addr) (c2 : Nat) (v3 : Value) (st : SS) (least : Int) (s : Key) (h : RefQ w r A2 c2 v3 st) (hg : Good least st) (hm : st.U.length ≤ 1000000) : Calls Try.prog 14 #[.pointer (some ⟨r, 0, none⟩), .string (bs s)] w (RChanged r A2 c2 v3 (acqV st s).1 (acqV st s).2 w) := by
  have hm' : (st.U.length : Int) ≤ 1000000 := by omega
  have HN := Lib.hid (fun W => rname_any s W)
  have HF := Lib.hid (rfree_any w r A2 c2 v3 st least s h.ref hg hm')
  have HU := Lib.hid (fun W (hb : Below w.heap.size w W) => ruser_any W r A2 c2 v3 st s (h.ref.up hb) hm')
  have HH := Lib.hid h
  have d0 := h.ref.box.cell 0 _ rfl
  have hf0 := hg.free_nonneg s
  unfold freeV at HF
  unfold acqV
  cases hn : nameV s
  · rw [hn] at HN
    rw [if_pos rfl]
    clear h hg hf0 HF
    go_enter Try.func14, Try.ntmps14
    go_wp2_with fail
    refine (HN.out _).mono ?_
    rintro _ _ ⟨rfl, rfl⟩
    go_wp2
    go_ret
    exact rchanged_calm HH.out (Below.refl _ _)
  rw [hn] at HN
  rw [hn, if_pos rfl] at HF
  rw [if_neg (by decide)]
  clear hn
  by_cases hfz : free st s < 1
  · rw [if_pos hfz]
    have hz : free st s = 0 := by omega
    rw [hz] at HF
    clear h hg hf0 hfz hz
    go_enter Try.func14, Try.ntmps14
    go_wp2_with fail
    refine (HN.out _).mono ?_
    rintro _ _ ⟨rfl, rfl⟩
    go_wp2_with fail
    refine HF.out.mono ?_
    rintro _ w1 ⟨rfl, hb⟩
    go_wp2
    go_ret
    exact rchanged_calm HH.out hb
  · rw [if_neg hfz]
    have hne : (free st s == 0) = false := beq_eq_false_iff_ne.2 (by omega)
    have hc0 := hg.cnt_nonneg s
    have hc1 := hg.cnt_le s
    have htl := hg.total_le
    have ht1 := hg.conf.t1
    have hadd : IntKind.i64.wrap (cnt st.U s + 1) = cnt st.U s + 1 := by rw [IntKind.wrap_i64]; omega
    generalize free st s = fv at *
    cases hi : idx st.U s with
    | none =>
      rw [idxI_none hi] at HU
      obtain ⟨i0, hi0, hz0, hz1, hz2⟩ := info_parts IU
      have HI := Lib.hid hi
      clear h hg hf0 hfz hi hc0 hc1 htl ht1 hadd
      go_enter Try.func14, Try.ntmps14
      go_wp2_with fail
      refine (HN.out _).mono ?_
      rintro _ _ ⟨rfl, rfl⟩
      go_wp2_with fail
      refine HF.out.mono ?_
      rintro _ w1 ⟨rfl, hb⟩
      have HB := Lib.hid hb
      clear hb d0
      go_wp2_with fail
      refine (HU.out _ HB.out).mono ?_
      rintro _ _ ⟨rfl, rfl⟩
      have hu := HH.out.ref.up HB.out
      have d3 := hu.box.cell 3 _ rfl
      have hbb := below_box (Below.refl _ w1) (.cells #[.string (bs s), .int .i64 1] 59)
      have hk1 := res_new1 w1 s 1 59
      have H1 := Lib.hid (And.intro (own_up hu.own hbb) (And.intro hk1 (hu.up hbb).box))
      clear hu hbb hk1
      go_wp2_with (at_builtin
                   go_loud (refine wpList_append_own_at _ rfl (.tmp 31) (.tmp 34) 54 rfl 0 59 i0 (.agg #[.string ByteArray.empty, .int .i64 0]) 2 24 Try.underlying54 hi0 hz0 hz1 hz2 rfl (by decide) v3 st.U.length (rV st.U) rfl H1.out.1 ⟨w1.heap.size, 0, none⟩ 1 1 (rV [(s, 1)]) rfl rfl (fun j u hu => by
                      have hj : j < [(s, (1 : Int))].length * 2 := by rw [← rV_len]; exact (List.getElem?_eq_some_iff.1 hu).1
                      rw [rV_get _ j hj] at hu
                      rw [← Option.some.inj hu]
                      exact seg_addr H1.out.2.1 j hj) (rV_one _) (by unfold maxLen; omega) (by omega) (Nat.zero_le _) ?_)
                   intro v' w3 ho3 hg3 _ hl3
                   have hsv : ∃ A3 c3, v' = .slice A3 (st.U.length + 1) c3 := by
                     obtain ⟨A, cap, he, _⟩ := own_seg (f := rCell (st.U ++ [(s, 1)])) ho3 (fun j hj => by rw [← rV_app]; exact rV_get _ j (by rw [List.length_append]; exact hj))
                     exact ⟨A, cap, he⟩
                   obtain ⟨A3, c3, rfl⟩ := hsv
                   have hO3 : Only v3.ownBlock.toList _ w3 := only_grown hg3 (fun b hb => by rw [hb]; simp)
                   have hx3 := H1.out.2.2.only hO3 (fun hm => (HH.out.s3 (b := r) (by simpa using hm)).1 rfl)
                   have f3 := hx3.frozen 3
                   have d33 := hx3.cell 3 _ rfl
                   have H3 := Lib.hid (And.intro ho3 (And.intro hg3 hl3))
                   clear ho3 hg3 hl3 hO3 hx3)
      go_ret
      exact rchanged_app HH.out HB.out HI.out rfl H3.out.1 H3.out.2.1 H3.out.2.2
    | some i =>
      rw [idxI_some hi] at HU
      obtain ⟨h1, h2, _, _⟩ := idx_some hi
      obtain ⟨g, cap, rfl, hgl, _, _⟩ := own_form h.ref.own h1
      have HFM := Lib.hid (fun W (hb : Below w.heap.size w W) => own_form (h.ref.up hb).own h1)
      have HI := Lib.hid hi
      have hi0 : ¬ (i : Int) < 0 := by omega
      have hi1 : (0 : Int) ≤ i := by omega
      have hil : (i : Int) < st.U.length := by omega
      have H2 := Lib.hid h2
      have HX := Lib.hid (fun W (hb : Below w.heap.size w W) => rchanged_set (er := 0) (d := 1) HH.out hb rfl hi)
      clear h hg hf0 hfz hi hc0 hc1 htl ht1 h2
      generalize cnt st.U s = c at *
      go_enter Try.func14, Try.ntmps14
      go_wp2_with fail
      refine (HN.out _).mono ?_
      rintro _ _ ⟨rfl, rfl⟩
      go_wp2_with fail
      refine HF.out.mono ?_
      rintro _ w1 ⟨rfl, hb⟩
      have HB := Lib.hid hb
      clear hb d0
      go_wp2_with fail
      refine (HU.out _ HB.out).mono ?_
      rintro _ _ ⟨rfl, rfl⟩
      obtain ⟨g', cap', he, hgl', q1, f1⟩ := HFM.out w1 HB.out
      injection he with he _ _
      injection he with he
      injection he with he
      subst he
      rw [H2.out] at q1
      simp only at q1
      have d3 := (HH.out.ref.up HB.out).box.cell 3 _ rfl
      go_wp2
      go_ret
      exact HX.out _ HB.out
set_option maxHeartbeats 2000000 in
theorem rrelease_any (w : World) (r : Nat) (A2 : Option Addr) (c2 : Nat) (v3 : Value) (st : SS) (least : Int) (s : Key) (h : RefQ w r A2 c2 v3 st) (hg : Good least st) (hm : st.U.length ≤ 1000000) : Calls Try.prog 15 #[.pointer (some ⟨r, 0, none⟩), .string (bs s)] w (RChanged r A2 c2 v3 (relV st s).1 (relV st s).2 w) := by
  have hm' : (st.U.length : Int) ≤ 1000000 := by omega
  have HN := Lib.hid (fun W => rname_any s W)
  have HUS := Lib.hid (rused_any w r A2 c2 v3 st s h.ref hm')
  have HU := Lib.hid (fun W (hb : Below w.heap.size w W) => ruser_any W r A2 c2 v3 st s (h.ref.up hb) hm')
  have HH := Lib.hid h
  have d0 := h.ref.box.cell 0 _ rfl
  have d3 := h.ref.box.cell 3 _ rfl
  have hc0 := hg.cnt_nonneg s
  have hc1 := hg.cnt_le s
  have htl := hg.total_le
  have ht1 := hg.conf.t1
  unfold relV
  cases hn : nameV s
  · rw [hn] at HN
    rw [if_pos rfl]
    clear h hg HU HUS
    go_enter Try.func15, Try.ntmps15
    go_wp2_with fail
    refine (HN.out _).mono ?_
    rintro _ _ ⟨rfl, rfl⟩
    go_wp2
    go_ret
    exact rchanged_calm HH.out (Below.refl _ _)
  rw [hn] at HN
  rw [if_neg (by decide)]
  clear hn
  by_cases hz : cnt st.U s = 0
  · rw [if_pos hz]
    rw [hz] at HUS
    clear h hg hz
    go_enter Try.func15, Try.ntmps15
    go_wp2_with fail
    refine (HN.out _).mono ?_
    rintro _ _ ⟨rfl, rfl⟩
    go_wp2_with fail
    refine HUS.out.mono ?_
    rintro _ _ ⟨rfl, rfl⟩
    go_wp2
    go_ret
    exact rchanged_calm HH.out (Below.refl _ _)
  · rw [if_neg hz]
    have hne : (cnt st.U s == 0) = false := beq_eq_false_iff_ne.2 hz
    have hsub : IntKind.i64.wrap (cnt st.U s - 1) = cnt st.U s - 1 := by rw [IntKind.wrap_i64]; omega
    cases hi : idx st.U s with
    | none =>
      exact absurd (by unfold cnt; rw [(idx_none hi).1]; rfl) hz
    | some i =>
      rw [idxI_some hi] at HU
      obtain ⟨h1, h2, _, _⟩ := idx_some hi
      obtain ⟨g, cap, rfl, hgl, q1, f1⟩ := own_form h.ref.own h1
      rw [h2] at q1
      simp only at q1
      have hi1 : (0 : Int) ≤ i := by omega
      have hil : (i : Int) < st.U.length := by omega
      have HX := Lib.hid (fun W (hb : Below w.heap.size w W) => rchanged_set (er := 0) (d := -1) HH.out hb rfl hi)
      have HFM : Hid (∀ W, Below w.heap.size w W → W.frozen? ⟨g, i * 2 + 1, none⟩ = false) := Lib.hid (fun W hb => by
        obtain ⟨g', cap', he, _, _, f⟩ := own_form (h.ref.up hb).own h1
        injection he with he _ _
        injection he with he
        injection he with he
        subst he
        exact f)
      have hrl := h.ref.box.lt
      have HBX := Lib.hid (And.intro h.ref.box (And.intro q1 f1))
      clear h hg hz hi hc0 hc1 htl ht1 h2 q1 f1
      rw [show cnt st.U s + -1 = cnt st.U s - 1 from rfl] at HX
      generalize cnt st.U s = c at *
      go_enter Try.func15, Try.ntmps15
      go_wp2_with fail
      refine (HN.out _).mono ?_
      rintro _ _ ⟨rfl, rfl⟩
      go_wp2_with fail
      refine HUS.out.mono ?_
      rintro _ _ ⟨rfl, rfl⟩
      go_upto_region 7 with fail
      have j3 : ∀ m : Idx w, m.at.cell? ⟨r, 3, none⟩ = some (.slice (some ⟨g, 0, none⟩) st.U.length cap) := fun m => (m.property.cell (p := ⟨r, 3, none⟩) hrl).trans (HBX.out.1.cell 3 _ rfl)
      have j1 : ∀ m : Idx w, m.at.cell? ⟨g, i * 2 + 1, none⟩ = some (.int .i64 c) := fun m => (m.property.cell (p := ⟨g, i * 2 + 1, none⟩) hgl).trans HBX.out.2.1
      clear d0 d3
      refine wp_region_calm_tail 13 (by kernel_rfl) (by kernel_rfl) ?_
      iterate 6 (refine wpCalm_step (fun K hK => ?_); go_simp; refine hK _ ?_; clear hK K)
      refine wpCalm_step (fun K hK => ?_)
      go_simp
      apply Exists.intro
      refine ⟨fun m => ?_, hK _ ?_⟩
      · go_at_call 30
        refine (HU.out _ m.property).mono ?_
        rintro _ _ ⟨rfl, rfl⟩
        exact ⟨rfl, Below.refl _ _⟩
      clear hK K
      iterate 6 (refine wpCalm_step (fun K hK => ?_); go_simp; refine hK _ ?_; clear hK K)
      refine wpCalm_nil (fun W hb => ?_)
      have q1 : W.cell? ⟨g, i * 2 + 1, none⟩ = some (.int .i64 c) := (hb.cell (p := ⟨g, i * 2 + 1, none⟩) hgl).trans HBX.out.2.1
      have f1 := HFM.out W hb
      have HX := Lib.hid (HX.out W hb)
      clear hb j1 j3
      go_wp2
      go_ret
      exact HX.out
end Go.Proofs.Ytbcologcendhlaa
