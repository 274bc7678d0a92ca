/- Free of the program: the walk. -/
import Derived.Test.YtbcologcendhlaaSF
namespace Go.Proofs.Ytbcologcendhlaa
open Go.ChangeShapes Go.WideShapes Go.ChangeAt Go.RowKit
open Go.Maps (Keyed)

def shr (st : SS) (t : Key) : Bool := (look st.R t).isNone
/-- What a function could use now. -/
def free (st : SS) (s : Key) : Int := match look st.R s with
  | some n => n - cnt st.U s
  | none => st.total - wsum all st.R - wsum (shr st) st.U
def freeV (st : SS) (s : Key) : Int := if nameV s then free st s else 0
def FreeRel (st : SS) (bu r N : Nat) (w : World) (u : Value) (wr : World) : Prop := ∃ (v : Int) (lf : Key → Bool) (cnt : Nat), u = .int .i64 v ∧ RangeA wr bu r N (useM st.U) lf cnt ∧ Below w.heap.size w wr ∧ v = st.total - wsum all st.R - wsum (fun s => !lf s && shr st s) st.U ∧ w.heap.size ≤ r
set_option maxHeartbeats 4000000 in
theorem free_any (w : World) (p br bu N : Nat) (st : SS) (least : Int) (s : Key) (h : SlotsAt w p br bu N st) (hg : Good least st) (hl : s.length ≤ 1000000) : Calls Try.prog 20 #[.pointer (some ⟨p, 0, none⟩), .string (bs s)] w fun e w' => e = .returned (.int .i64 (freeV st s)) ∧ Below w.heap.size w w' := by
  have HK := Lib.hid (checkm_any w p br bu N st s h hl)
  have hlm : s.length ≤ maxLen := by unfold maxLen; omega
  have HS := Lib.hid h
  have HG := Lib.hid hg
  have hbu := h.2.2.1.lt
  unfold chkV at HK
  unfold freeV
  cases hn : nameV s
  · rw [hn, if_neg (by decide)] at HK
    rw [if_neg (by decide)]
    clear h hg
    go_enter Try.func20, Try.ntmps20
    go_wp2_with fail
    refine HK.out.mono ?_
    rintro _ w1 ⟨rfl, hb⟩
    go_wp2
    go_ret
    exact ⟨rfl, hb⟩
  rw [hn, if_pos rfl] at HK
  rw [if_pos rfl]
  clear hn
  unfold free
  cases hlk : look st.R s with
  | some n =>
    simp only
    have hcn := hg.ur s n hlk
    have hc0 := hg.cnt_nonneg s
    have hn1 := (hg.conf.ok _ (look_mem hlk)).2
    have ht1 := hg.conf.t1
    simp only at hn1
    have hu : (useM st.U s).getD 0 = cnt st.U s := useM_getD _ _
    generalize cnt st.U s = c at *
    have hsub : IntKind.i64.wrap (n - c) = n - c := by rw [IntKind.wrap_i64]; omega
    have HU := Lib.hid hu
    have HLK := Lib.hid hlk
    clear h hg hu hlk
    go_enter Try.func20, Try.ntmps20
    go_wp2_with fail
    refine HK.out.mono ?_
    rintro _ w1 ⟨rfl, hb⟩
    have h1 := HS.out.up hb
    have c2 := h1.1.cell 2 _ rfl
    have c3 := h1.1.cell 3 _ rfl
    have hm2 := h1.2.1
    have hm3 := h1.2.2.1
    clear h1
    go_wp2_with (first
      | (at_lookup; refine wpList_mlookok _ rfl _ _ rfl _ _ _ rfl hm2 s rfl hlm ?_; rw [HLK.out]; simp only [Option.getD_some, Option.isSome_some])
      | (at_lookup; refine wpList_mlook _ rfl _ _ rfl _ _ _ rfl hm3 s rfl hlm ?_; rw [HU.out]))
    go_ret
    exact ⟨rfl, hb⟩
  | none =>
    simp only
    have HLK := Lib.hid hlk
    clear h hg hlk
    go_enter Try.func20, Try.ntmps20
    go_wp2_with fail
    refine HK.out.mono ?_
    rintro _ w1 ⟨rfl, hb⟩
    have h1 := HS.out.up hb
    have HS1 := Lib.hid h1
    have c1 := h1.1.cell 1 _ rfl
    have c2 := h1.1.cell 2 _ rfl
    have c3 := h1.1.cell 3 _ rfl
    have hm2 := h1.2.1
    have hm3 := h1.2.2.1
    have hbu1 := hm3.lt
    have hwb := hb.size
    clear h1 HS
    go_wp2_with (first
      | (at_lookup; refine wpList_mlookok _ rfl _ _ rfl _ _ _ rfl hm2 s rfl hlm ?_; rw [HLK.out]; simp only [Option.getD_none, Option.isSome_none])
      | (at_range; refine wpList_mrange _ rfl _ rfl _ _ _ rfl hm3 ?_; intro w2 cn1 hr1 hb1; go_frame))
    clear hm2 hm3 c1 c2 c3
    go_loopw [7] (FreeRel st bu w1.heap.size N w1) (fun _ wr => wr.rangeLeft bu w1.heap.size)
    case atStart => exact ⟨_, _, _, rfl, hr1, hb1, by
      have h0 : wsum (fun s => !(useM st.U s).isSome && shr st s) st.U = 0 := wsum_none (fun q hq h0 => by
        show (!(useM st.U q.1).isSome && shr st q.1) = false
        rw [useM_isSome HG.out.un hq h0]
        rfl)
      rw [h0]
      omega, Nat.le_refl _⟩
    case round =>
    clear hr1 hb1
    obtain ⟨v, lf, cn, rfl, hr, hB, hv, hwr⟩ := hrel
    have HV := Lib.hid hv
    clear hv
    go_wp2_with (at_next; refine wpList_mnext _ rfl _ rfl _ _ _ _ _ _ rfl hr ?_ ?_)
    · intro hl0
      have hall : v = st.total - wsum all st.R - wsum (shr st) st.U := by
        rw [HV.out]
        congr 1
        exact wsum_congr (fun q _ _ => by
          show (!lf q.1 && shr st q.1) = shr st q.1
          rw [hl0]
          rfl)
      subst hall
      clear hr
      go_wp2
      go_ret
      exact ⟨rfl, below_step hb hB⟩
    · intro x c w2 cn2 hsl hlf hus hr2 hlt hg2 hsz hen
      obtain ⟨hc, _⟩ := useM_some hus
      have hle := wsum_le (q := fun t => !(lf t && !decide (t = x)) && shr st t) (r := shr st) HG.out.nonneg (fun y hy => by
        simp only [Bool.and_eq_true] at hy
        exact hy.2)
      have hnn := wsum_nonneg (q := fun t => !(lf t && !decide (t = x)) && shr st t) HG.out.nonneg
      have hus2 := HG.out.us
      change wsum (shr st) st.U ≤ _ at hus2
      have ht1 := HG.out.conf.t1
      have hws := wsum_take st.R (fun p hp => (HG.out.conf.ok p hp).2.1) 0
      have hR0 : 0 ≤ wsum all st.R := by omega
      have hB2 : Below w1.heap.size w1 w2 := hB.trans ⟨hg2.os, hg2.tape, hg2.output, hg2.size, fun k hk => hg2.block k (by have := hB.size; omega) (by simp; omega)⟩
      have HL := Lib.hid (And.intro hr.left_eq hlt)
      have h2 := HS1.out.up hB2
      have c2 := h2.1.cell 2 _ rfl
      have hm2 := h2.2.1
      cases hlx : look st.R x with
      | some n =>
        have hshr : shr st x = false := by unfold shr; rw [hlx]; rfl
        have hsame : wsum (fun t => !(lf t && !decide (t = x)) && shr st t) st.U = wsum (fun t => !lf t && shr st t) st.U := wsum_congr (fun q _ _ => by
          show (!(lf q.1 && !decide (q.1 = x)) && shr st q.1) = (!lf q.1 && shr st q.1)
          by_cases hq : q.1 = x
          · rw [hq, hshr]; simp
          · simp [hq])
        have HD : Hid (v = st.total - wsum all st.R - wsum (fun t => !(lf t && !decide (t = x)) && shr st t) st.U) := Lib.hid (by rw [hsame]; exact HV.out)
        have HX := Lib.hid hlx
        clear hle hnn hr hg2 hlf hus hc hlt hus2 ht1 hws hR0 h2 hlx hshr hsame
        go_wp2_with (at_lookup; refine wpList_mlookok _ rfl _ _ rfl _ _ _ rfl hm2 x rfl hsl ?_; rw [HX.out]; simp only [Option.getD_some, Option.isSome_some])
        go_roundw
        case rel => exact ⟨v, _, cn2, rfl, hr2, hB2, HD.out, hwr⟩
        case measure =>
          rw [hr2.left_eq, HL.out.1]
          exact HL.out.2
      | none =>
        have hshr : shr st x = true := by unfold shr; rw [hlx]; rfl
        have hadd := wsum_add (q := fun t => !lf t && shr st t) (r := fun t => !(lf t && !decide (t = x)) && shr st t) HG.out.un (s := x) (by simp [hlf]) (fun y hy => by simp [hy])
        simp only [decide_true, Bool.not_true, Bool.and_false, Bool.not_false, Bool.true_and, hshr, if_true] at hadd
        rw [hc] at hadd
        have hv := HV.out
        have hsub : IntKind.i64.wrap (v - c) = v - c := by rw [IntKind.wrap_i64]; omega
        have HD : Hid (v - c = st.total - wsum all st.R - wsum (fun t => !(lf t && !decide (t = x)) && shr st t) st.U) := Lib.hid (by omega)
        have HX := Lib.hid hlx
        clear hle hnn hr hg2 hlf hus hc hlt hus2 ht1 hws hR0 h2 hlx hshr hadd hv
        go_wp2_with (at_lookup; refine wpList_mlookok _ rfl _ _ rfl _ _ _ rfl hm2 x rfl hsl ?_; rw [HX.out]; simp only [Option.getD_none, Option.isSome_none])
        go_roundw
        case rel => exact ⟨v - c, _, cn2, rfl, hr2, hB2, HD.out, hwr⟩
        case measure =>
          rw [hr2.left_eq, HL.out.1]
          exact HL.out.2
end Go.Proofs.Ytbcologcendhlaa
