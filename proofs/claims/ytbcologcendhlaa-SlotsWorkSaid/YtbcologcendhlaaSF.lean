/- check, Used, Total, Free of the program: the walks. -/
import Derived.Test.YtbcologcendhlaaSE
namespace Go.Proofs.Ytbcologcendhlaa
open Go.ChangeShapes Go.WideShapes Go.ChangeAt Go.RowKit
open Go.Maps (Keyed)

theorem eqnil (b : Nat) (w : World) : (binOp .eql 51 (.map (some b)) (.map none)).run Try.prog w = .ok (.bool false) w := by rfl
theorem eqnil0 (w : World) : (binOp .eql 51 (.map none) (.map none)).run Try.prog w = .ok (.bool true) w := by rfl
attribute [local go_sem] eqnil eqnil0
theorem drewN_below (w : World) (n : Nat) : Below w.heap.size w (w.drewN n) := ⟨rfl, rfl, rfl, Nat.le_refl _, fun _ _ => rfl⟩
def chkV (s : Key) : Int := if nameV s then 0 else 4
theorem checkm_any (w : World) (p br bu N : Nat) (st : SS) (s : Key) (h : SlotsAt w p br bu N st) (hl : s.length ≤ 1000000) : Calls Try.prog 31 #[.pointer (some ⟨p, 0, none⟩), .string (bs s)] w fun e w' => e = .returned (.int .i64 (chkV s)) ∧ Below w.heap.size w w' := by
  have HN := Lib.hid (fun W => name_any s W (by omega))
  have c3 := h.1.cell 3 _ rfl
  unfold chkV
  clear h
  cases hn : nameV s
  · rw [hn] at HN
    rw [if_neg (by decide)]
    go_enter Try.func31, Try.ntmps31
    go_wp2_with fail
    refine (HN.out _).mono ?_
    rintro _ w1 ⟨rfl, hb⟩
    go_wp2
    go_ret
    exact ⟨rfl, hb⟩
  · rw [hn] at HN
    rw [if_pos rfl]
    go_enter Try.func31, Try.ntmps31
    go_wp2_with fail
    refine (HN.out _).mono ?_
    rintro _ w1 ⟨rfl, hb⟩
    go_wp2
    go_ret
    exact ⟨rfl, hb⟩
theorem checkm_nil (t : ByteArray) (w : World) : Calls Try.prog 31 #[.pointer none, .string t] w fun e w' => e = .returned (.int .i64 10) ∧ w = w' := by
  go_enter Try.func31, Try.ntmps31
  go_wp2
  go_ret
  exact ⟨rfl, rfl⟩
theorem checkm_zero (t : ByteArray) (w : World) (p : Nat) (h : Box w p 53 #[.int .i64 0, .int .i64 0, .map none, .map none]) : Calls Try.prog 31 #[.pointer (some ⟨p, 0, none⟩), .string t] w fun e w' => e = .returned (.int .i64 10) ∧ w = w' := by
  have c3 := h.cell 3 _ rfl
  go_enter Try.func31, Try.ntmps31
  go_wp2
  go_ret
  exact ⟨rfl, rfl⟩
def usedV (st : SS) (s : Key) : Int := if nameV s then cnt st.U s else 0
theorem used_any (w : World) (p br bu N : Nat) (st : SS) (s : Key) (h : SlotsAt w p br bu N st) (hl : s.length ≤ 1000000) : Calls Try.prog 18 #[.pointer (some ⟨p, 0, none⟩), .string (bs s)] w fun e w' => e = .returned (.int .i64 (usedV st s)) ∧ Below w.heap.size w w' := by
  have HK := Lib.hid (checkm_any w p br bu N st s h hl)
  have hlm : s.length ≤ maxLen := by unfold maxLen; omega
  unfold chkV at HK
  unfold usedV
  cases hn : nameV s
  · rw [hn, if_neg (by decide)] at HK
    rw [if_neg (by decide)]
    clear h
    go_enter Try.func18, Try.ntmps18
    go_wp2_with fail
    refine HK.out.mono ?_
    rintro _ w1 ⟨rfl, hb⟩
    go_wp2
    go_ret
    exact ⟨rfl, hb⟩
  · rw [hn, if_pos rfl] at HK
    rw [if_pos rfl, ← useM_getD]
    have HS := Lib.hid h
    clear h
    go_enter Try.func18, Try.ntmps18
    go_wp2_with fail
    refine HK.out.mono ?_
    rintro _ w1 ⟨rfl, hb⟩
    have h1 := HS.out.up hb
    have c3 := h1.1.cell 3 _ rfl
    go_wp2_with (at_lookup; refine wpList_mlook _ rfl _ _ rfl _ _ _ rfl h1.2.2.1 s rfl hlm ?_)
    go_ret
    exact ⟨rfl, hb⟩
def TotRel (st : SS) (bu r N : Nat) (w : World) (u : Value) (wr : World) : Prop := ∃ (v : Int) (lf : Key → Bool) (cnt : Nat), u = .int .i64 v ∧ RangeA wr bu r N (useM st.U) lf cnt ∧ Below w.heap.size w wr ∧ v = wsum (fun s => !lf s) st.U ∧ w.heap.size ≤ r
theorem useM_some {U : KL} {s : Key} {c : Int} (h : useM U s = some c) : cnt U s = c ∧ c ≠ 0 := by
  have h1 := useM_getD U s
  rw [h] at h1
  refine ⟨h1.symm, ?_⟩
  rintro rfl
  unfold useM at h
  cases hl : look U s with
  | none => rw [hl] at h; cases h
  | some d =>
    rw [hl] at h
    simp only at h
    split at h
    · cases h
    · next hd => exact hd (Option.some.inj h)
theorem useM_isSome {U : KL} (hn : (keys U).Nodup) {q : Key × Int} (hq : q ∈ U) (h0 : q.2 ≠ 0) : (useM U q.1).isSome = true := by
  obtain ⟨s, c⟩ := q
  unfold useM
  rw [look_of_mem hn hq]
  simp only
  rw [if_neg h0]
  rfl
set_option maxHeartbeats 2000000 in
theorem total_any (w : World) (p br bu N : Nat) (st : SS) (least : Int) (h : SlotsAt w p br bu N st) (hg : Good least st) : Calls Try.prog 16 #[.pointer (some ⟨p, 0, none⟩)] w fun e w' => e = .returned (.tuple #[.int .i64 (wsum all st.U), .int .i64 st.total]) ∧ Below w.heap.size w w' := by
  have HS := Lib.hid h
  have HG := Lib.hid hg
  have c3 := h.1.cell 3 _ rfl
  have hm := h.2.2.1
  have hbu := hm.lt
  clear h hg
  go_enter Try.func16, Try.ntmps16
  go_wp2_with (at_range; refine wpList_mrange _ rfl _ rfl _ _ _ rfl hm ?_; intro w1 cn1 hr1 hb1; go_frame)
  clear hm
  go_loopw [4] (TotRel st bu w.heap.size N w) (fun _ wr => wr.rangeLeft bu w.heap.size)
  case atStart => exact ⟨0, _, _, rfl, hr1, hb1, (wsum_none (fun q hq h0 => by
    show (!(useM st.U q.1).isSome) = false
    rw [useM_isSome HG.out.un hq h0]
    rfl)).symm, Nat.le_refl _⟩
  case round =>
  clear hr1 hb1
  obtain ⟨v, lf, cn, rfl, hr, hB, hv, hwr⟩ := hrel
  have HV := Lib.hid hv
  clear hv
  go_wp2_with (at_next; refine wpList_mnext _ rfl _ rfl _ _ _ _ _ _ rfl hr ?_ ?_)
  · intro hl0
    have hall : v = wsum all st.U := by
      rw [HV.out]
      exact wsum_congr (fun q _ _ => by
        show (!lf q.1) = true
        rw [hl0]
        rfl)
    subst hall
    have h1 := HS.out.up hB
    have c0 := h1.1.cell 0 _ rfl
    clear hr h1
    go_upto_region 8 with fail
    go_quiet (fail)
    go_wp2
    go_ret2
    exact ⟨rfl, below_step hB (drewN_below _ _)⟩
  · intro s c w2 cn2 hsl hlf hus hr2 hlt hg2 hsz hen
    obtain ⟨hc, _⟩ := useM_some hus
    have hadd := wsum_add (q := fun t => !lf t) (r := fun t => !(lf t && !decide (t = s))) HG.out.un (s := s) (by simp [hlf]) (fun x hx => by simp [hx])
    simp only [decide_true, Bool.not_true, Bool.and_false, Bool.not_false, if_true] at hadd
    rw [← HV.out, hc] at hadd
    have hle := wsum_le (q := fun t => !(lf t && !decide (t = s))) (r := all) HG.out.nonneg (fun _ _ => rfl)
    have hnn := wsum_nonneg (q := fun t => !(lf t && !decide (t = s))) HG.out.nonneg
    have htl := HG.out.total_le
    have ht1 := HG.out.conf.t1
    have hsum : IntKind.i64.wrap (v + c) = v + c := by rw [IntKind.wrap_i64]; omega
    have HD := Lib.hid hadd
    have hB2 : Below w.heap.size w w2 := hB.trans ⟨hg2.os, hg2.tape, hg2.output, hg2.size, fun k hk => hg2.block k (by have := hB.size; omega) (by simp; omega)⟩
    have HL := Lib.hid (And.intro hr.left_eq hlt)
    clear hadd hle hnn hr hg2 hsl hlf hus hc hlt
    go_wp2
    go_roundw
    case rel => exact ⟨v + c, _, cn2, rfl, hr2, hB2, HD.out.symm, hwr⟩
    case measure =>
      rw [hr2.left_eq, HL.out.1]
      exact HL.out.2
end Go.Proofs.Ytbcologcendhlaa
