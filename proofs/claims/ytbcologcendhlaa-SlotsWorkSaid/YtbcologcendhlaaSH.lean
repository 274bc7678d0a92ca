/- Acquire and Release of the program: the walks; a good state stays good. -/
import Derived.Test.YtbcologcendhlaaSG
namespace Go.Proofs.Ytbcologcendhlaa
open Go.ChangeShapes Go.WideShapes Go.ChangeAt Go.RowKit
open Go.Maps (Keyed)

def acqV (st : SS) (s : Key) : Int × SS := if nameV s = false then (4, st) else if free st s < 1 then (17, st) else (0, ⟨st.total, st.R, bump st.U s 1⟩)
def relV (st : SS) (s : Key) : Int × SS := if nameV s = false then (4, st) else if cnt st.U s = 0 then (5, st) else (0, ⟨st.total, st.R, bump st.U s (-1)⟩)
theorem cnt_bump (l : KL) (s : Key) (d : Int) (t : Key) : cnt (bump l s d) t = if t = s then cnt l s + d else cnt l t := by
  unfold cnt
  rw [look_bump]
  by_cases h : t = s
  · rw [if_pos h, if_pos h]; rfl
  · rw [if_neg h, if_neg h]
theorem bump_mem {l : KL} {s : Key} {d : Int} {p : Key × Int} (h : p ∈ bump l s d) : p ∈ l ∨ p = (s, cnt l s + d) := by
  induction l with
  | nil =>
    rw [bump] at h
    right
    rw [List.mem_singleton.1 h]
    simp [cnt, look]
  | cons q l ih =>
    obtain ⟨x, c⟩ := q
    rw [bump] at h
    by_cases hx : x = s
    · rw [if_pos hx] at h
      have hc : cnt ((x, c) :: l) s = c := by unfold cnt; rw [look, if_pos hx]; rfl
      rcases List.mem_cons.1 h with h | h
      · right
        rw [h, hc, hx]
      · exact .inl (List.mem_cons_of_mem _ h)
    · rw [if_neg hx] at h
      have hc : cnt ((x, c) :: l) s = cnt l s := by unfold cnt; rw [look, if_neg hx]
      rcases List.mem_cons.1 h with h | h
      · exact .inl (h ▸ List.mem_cons_self)
      · rcases ih h with h | h
        · exact .inl (List.mem_cons_of_mem _ h)
        · right
          rw [hc]
          exact h
theorem good_bump {least : Int} {st : SS} (h : Good least st) {s : Key} (hs : nameV s = true) {d : Int} (h0 : 0 ≤ cnt st.U s + d) (h1 : ∀ n, look st.R s = some n → cnt st.U s + d ≤ n) (h2 : look st.R s = none → wsum (shr st) st.U + d ≤ st.total - wsum all st.R) : Good least ⟨st.total, st.R, bump st.U s d⟩ := by
  refine ⟨h.conf, nodup_bump h.un s d, fun p hp => ?_, fun t n ht => ?_, ?_⟩
  · rcases bump_mem hp with hp | hp
    · exact h.uc p hp
    · rw [hp]
      exact ⟨hs, h0⟩
  · simp only at ht ⊢
    rw [cnt_bump]
    by_cases he : t = s
    · rw [if_pos he]
      exact h1 n (he ▸ ht)
    · rw [if_neg he]
      exact h.ur t n ht
  · show wsum (shr st) (bump st.U s d) ≤ st.total - wsum all st.R
    rw [wsum_bump]
    cases hl : look st.R s with
    | none =>
      have hsh : shr st s = true := by unfold shr; rw [hl]; rfl
      rw [hsh, if_pos rfl]
      exact h2 hl
    | some n =>
      have hsh : shr st s = false := by unfold shr; rw [hl]; rfl
      rw [hsh, if_neg (by decide)]
      have := h.us
      change wsum (shr st) st.U ≤ _ at this
      omega
theorem free_some {st : SS} {s : Key} {n : Int} (h : look st.R s = some n) : free st s = n - cnt st.U s := by unfold free; rw [h]
theorem free_none {st : SS} {s : Key} (h : look st.R s = none) : free st s = st.total - wsum all st.R - wsum (shr st) st.U := by unfold free; rw [h]
theorem Good.free_nonneg {least : Int} {st : SS} (h : Good least st) (s : Key) : 0 ≤ free st s := by
  cases hl : look st.R s with
  | none =>
    rw [free_none hl]
    have := h.us
    change wsum (shr st) st.U ≤ _ at this
    omega
  | some n =>
    rw [free_some hl]
    have := h.ur s n hl
    omega
theorem good_acq {least : Int} {st : SS} (h : Good least st) (s : Key) : Good least (acqV st s).2 := by
  unfold acqV
  split
  · exact h
  · next h1 =>
    split
    · exact h
    · next h2 =>
      have hc := h.cnt_nonneg s
      refine good_bump h (by simpa using h1) (by omega) (fun n hn => ?_) (fun hn => ?_)
      · rw [free_some hn] at h2
        omega
      · rw [free_none hn] at h2
        omega
theorem good_rel {least : Int} {st : SS} (h : Good least st) (s : Key) : Good least (relV st s).2 := by
  unfold relV
  split
  · exact h
  · next h1 =>
    split
    · exact h
    · next h2 =>
      have hc := h.cnt_nonneg s
      refine good_bump h (by simpa using h1) (by omega) (fun n hn => ?_) (fun hn => ?_)
      · have := h.ur s n hn
        omega
      · have := h.us
        change wsum (shr st) st.U ≤ _ at this
        omega
theorem useM_bump (U : KL) (s : Key) (d : Int) (t : Key) : useM (bump U s d) t = if t = s then (if cnt U s + d = 0 then none else some (cnt U s + d)) else useM U t := by
  unfold useM
  rw [look_bump]
  by_cases h : t = s
  · rw [if_pos h, if_pos h]
  · rw [if_neg h, if_neg h]
def Changed (p br bu N : Nat) (er : Int) (st : SS) (w : World) (e : Ending) (w' : World) : Prop := e = .returned (.int .i64 er) ∧ SlotsAt w' p br bu N st ∧ Only [bu] w w'
theorem changed_calm {p br bu N M : Nat} {er : Int} {st : SS} {w w' : World} (h : SlotsAt w p br bu N st) (hM : N ≤ M) (hb : Below w.heap.size w w') : Changed p br bu M er st w (.returned (.int .i64 er)) w' := by
  obtain ⟨h1, h2, h3, h4⟩ := h.up hb
  exact ⟨rfl, ⟨h1, h2, h3.mono hM, h4⟩, Only.of_up hb⟩
theorem changed_map {p br bu N : Nat} {er : Int} {st : SS} {U : KL} {f : Key → Option Int} {w w1 w' : World} (h : SlotsAt w1 p br bu N st) (hb : Below w.heap.size w w1) (hm : MapA w' bu (N + 1) f) (hg : w1.grownBy w' (some bu)) (hf : ∀ t, f t = useM U t) : Changed p br bu (N + 1) er ⟨st.total, st.R, U⟩ w (.returned (.int .i64 er)) w' := by
  have hO : Only [bu] w1 w' := only_grown hg (fun b hb => by
    injection hb with hb
    rw [hb]
    exact List.mem_singleton.2 rfl)
  have hne := h.ne
  obtain ⟨h1, h2, h3, h4⟩ := h
  exact ⟨rfl, ⟨h1.only hO (fun h => hne.2 (List.mem_singleton.1 h)), h2.only hO (fun h => h4 (List.mem_singleton.1 h)), hm.congr hf, h4⟩, (Only.of_up hb).trans hO (fun x hx => .inl hx)⟩
set_option maxHeartbeats 2000000 in
theorem acquire_any (w : World) (p br bu N : Nat) (st : SS) (least : Int) (s : Key) (h : SlotsAt w p br bu N st) (hg : Good least st) (hl : s.length ≤ 1000000) (hN : N ≤ 1000000) : Calls Try.prog 24 #[.pointer (some ⟨p, 0, none⟩), .string (bs s)] w (Changed p br bu (N + 1) (acqV st s).1 (acqV st s).2 w) := by
  have HK := Lib.hid (checkm_any w p br bu N st s h hl)
  have hlm : s.length ≤ maxLen := by unfold maxLen; omega
  have HS := Lib.hid h
  have HG := Lib.hid hg
  unfold chkV at HK
  unfold acqV
  cases hn : nameV s
  · rw [hn, if_neg (by decide)] at HK
    rw [if_pos rfl]
    clear h hg
    go_enter Try.func24, Try.ntmps24
    go_wp2_with fail
    refine HK.out.mono ?_
    rintro _ w1 ⟨rfl, hb⟩
    go_wp2
    go_ret
    exact changed_calm HS.out (Nat.le_succ _) hb
  rw [hn, if_pos rfl] at HK
  rw [if_neg (by decide)]
  have HF := Lib.hid (fun W (k : SlotsAt W p br bu N st) => (show Calls Try.prog 20 #[.pointer (some ⟨p, 0, none⟩), .string (bs s)] W fun e w' => e = .returned (.int .i64 (free st s)) ∧ Below W.heap.size W w' by
    have := free_any W p br bu N st least s k hg hl
    unfold freeV at this
    rwa [hn, if_pos rfl] at this))
  clear h hg hn
  by_cases hfr : free st s < 1
  · rw [if_pos hfr]
    generalize free st s = fr at *
    go_enter Try.func24, Try.ntmps24
    go_wp2_with fail
    refine HK.out.mono ?_
    rintro _ w1 ⟨rfl, hb⟩
    have HB := Lib.hid hb
    clear hb
    go_wp2_with fail
    refine (HF.out _ (HS.out.up HB.out)).mono ?_
    rintro _ w2 ⟨rfl, hb⟩
    go_wp2
    go_ret
    exact changed_calm HS.out (Nat.le_succ _) (below_step HB.out hb)
  · rw [if_neg hfr]
    generalize free st s = fr at *
    have hu : (useM st.U s).getD 0 = cnt st.U s := useM_getD _ _
    have hc0 := HG.out.cnt_nonneg s
    have hc1 := HG.out.cnt_le s
    have htl := HG.out.total_le
    have ht1 := HG.out.conf.t1
    have hadd : IntKind.i64.wrap (cnt st.U s + 1) = cnt st.U s + 1 := by rw [IntKind.wrap_i64]; omega
    have hwf : (Lit.int .i64 (cnt st.U s + 1)).wf = true := WalkArith.wf_i64 (by omega)
    have HQ := Lib.hid (fun t => (show (if t = s then some (cnt st.U s + 1) else useM st.U t) = useM (bump st.U s 1) t by
      rw [useM_bump, if_neg (show ¬ cnt st.U s + 1 = 0 by omega)]))
    generalize cnt st.U s = c at *
    have HU := Lib.hid hu
    clear hu
    go_enter Try.func24, Try.ntmps24
    go_wp2_with fail
    refine HK.out.mono ?_
    rintro _ w1 ⟨rfl, hb⟩
    have HB := Lib.hid hb
    clear hb
    go_wp2_with fail
    refine (HF.out _ (HS.out.up HB.out)).mono ?_
    rintro _ w2 ⟨rfl, hb⟩
    have h2 := (HS.out.up HB.out).up hb
    have HB2 := Lib.hid (below_step HB.out hb)
    have H2 := Lib.hid h2
    have c3 := h2.1.cell 3 _ rfl
    have hm3 := h2.2.2.1
    clear h2 hb
    go_wp2_with (first
      | (at_lookup; refine wpList_mlook _ rfl _ _ rfl _ _ _ rfl hm3 s rfl hlm ?_; rw [HU.out])
      | (at_mapUpdate; refine wpList_mput _ rfl _ _ _ rfl _ _ _ rfl hm3 (by unfold maxLen; omega) s (c + 1) rfl rfl hlm hwf ?_; intro w5 hm5 hg5; have HM := Lib.hid (And.intro hm5 hg5); clear hm5 hg5))
    go_ret
    exact changed_map H2.out HB2.out HM.out.1 HM.out.2 HQ.out
set_option maxHeartbeats 2000000 in
theorem release_any (w : World) (p br bu N : Nat) (st : SS) (least : Int) (s : Key) (h : SlotsAt w p br bu N st) (hg : Good least st) (hl : s.length ≤ 1000000) (hN : N ≤ 1000000) : Calls Try.prog 25 #[.pointer (some ⟨p, 0, none⟩), .string (bs s)] w (Changed p br bu (N + 1) (relV st s).1 (relV st s).2 w) := by
  have HK := Lib.hid (checkm_any w p br bu N st s h hl)
  have hlm : s.length ≤ maxLen := by unfold maxLen; omega
  have HS := Lib.hid h
  have HG := Lib.hid hg
  unfold chkV at HK
  unfold relV
  cases hn : nameV s
  · rw [hn, if_neg (by decide)] at HK
    rw [if_pos rfl]
    clear h hg
    go_enter Try.func25, Try.ntmps25
    go_wp2_with fail
    refine HK.out.mono ?_
    rintro _ w1 ⟨rfl, hb⟩
    go_wp2
    go_ret
    exact changed_calm HS.out (Nat.le_succ _) hb
  rw [hn, if_pos rfl] at HK
  rw [if_neg (by decide)]
  clear h hg hn
  have hu : (useM st.U s).getD 0 = cnt st.U s := useM_getD _ _
  have hc0 := HG.out.cnt_nonneg s
  have hc1 := HG.out.cnt_le s
  have htl := HG.out.total_le
  have ht1 := HG.out.conf.t1
  by_cases h0 : cnt st.U s = 0
  · rw [if_pos h0]
    rw [h0] at hu
    have HU := Lib.hid hu
    clear hu h0 hc0 hc1 htl ht1
    go_enter Try.func25, Try.ntmps25
    go_wp2_with fail
    refine HK.out.mono ?_
    rintro _ w1 ⟨rfl, hb⟩
    have h2 := HS.out.up hb
    have c3 := h2.1.cell 3 _ rfl
    have hm3 := h2.2.2.1
    clear h2
    go_wp2_with (at_lookup; refine wpList_mlook _ rfl _ _ rfl _ _ _ rfl hm3 s rfl hlm ?_; rw [HU.out])
    go_ret
    exact changed_calm HS.out (Nat.le_succ _) hb
  · rw [if_neg h0]
    by_cases h1 : cnt st.U s = 1
    · have HQ := Lib.hid (fun t => (show (if t = s then none else useM st.U t) = useM (bump st.U s (-1)) t by
        rw [useM_bump, if_pos (show cnt st.U s + -1 = 0 by omega)]))
      rw [h1] at hu
      have HU := Lib.hid hu
      clear hu h0 hc0 hc1 htl ht1 h1
      go_enter Try.func25, Try.ntmps25
      go_wp2_with fail
      refine HK.out.mono ?_
      rintro _ w1 ⟨rfl, hb⟩
      have h2 := HS.out.up hb
      have HB2 := Lib.hid hb
      have H2 := Lib.hid h2
      have c3 := h2.1.cell 3 _ rfl
      have hm3 := h2.2.2.1
      clear h2 hb
      go_wp2_with (first
        | (at_lookup; refine wpList_mlook _ rfl _ _ rfl _ _ _ rfl hm3 s rfl hlm ?_; rw [HU.out])
        | (at_delete; refine wpList_mdel _ rfl _ _ rfl _ _ _ rfl hm3 s rfl hlm ?_; intro w5 hm5 hg5; have HM := Lib.hid (And.intro (hm5.mono (Nat.le_succ N)) hg5); clear hm5 hg5))
      go_ret
      exact changed_map H2.out HB2.out HM.out.1 HM.out.2 HQ.out
    · have hsub : IntKind.i64.wrap (cnt st.U s - 1) = cnt st.U s - 1 := by rw [IntKind.wrap_i64]; omega
      have hwf : (Lit.int .i64 (cnt st.U s - 1)).wf = true := WalkArith.wf_i64 (by omega)
      have HQ := Lib.hid (fun t => (show (if t = s then some (cnt st.U s - 1) else useM st.U t) = useM (bump st.U s (-1)) t by
        rw [useM_bump, if_neg (show ¬ cnt st.U s + -1 = 0 by omega)]
        rfl))
      have n0 : (cnt st.U s == 0) = false := by simpa using h0
      have n1 : (cnt st.U s == 1) = false := by simpa using h1
      generalize cnt st.U s = c at *
      have HU := Lib.hid hu
      clear hu
      go_enter Try.func25, Try.ntmps25
      go_wp2_with fail
      refine HK.out.mono ?_
      rintro _ w1 ⟨rfl, hb⟩
      have h2 := HS.out.up hb
      have HB2 := Lib.hid hb
      have H2 := Lib.hid h2
      have c3 := h2.1.cell 3 _ rfl
      have hm3 := h2.2.2.1
      clear h2 hb
      go_wp2_with (first
        | (at_lookup; refine wpList_mlook _ rfl _ _ rfl _ _ _ rfl hm3 s rfl hlm ?_; rw [HU.out])
        | (at_mapUpdate; refine wpList_mput _ rfl _ _ _ rfl _ _ _ rfl hm3 (by unfold maxLen; omega) s (c - 1) rfl rfl hlm hwf ?_; intro w5 hm5 hg5; have HM := Lib.hid (And.intro hm5 hg5); clear hm5 hg5))
      go_ret
      exact changed_map H2.out HB2.out HM.out.1 HM.out.2 HQ.out
end Go.Proofs.Ytbcologcendhlaa
