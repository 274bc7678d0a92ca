/- SlotsReserve: the walk. -/
import Derived.Test.YtbcologcendhlaaSO
namespace Go.Proofs.Ytbcologcendhlaa
open Go.ChangeShapes Go.WideShapes Go.ChangeAt Go.RowKit

def ResRel (w : World) (i : Value) (wr : World) (n : Nat) : Prop := ∃ k : Nat, i = .int .i64 k ∧ k ≤ n ∧ Below w.heap.size w wr
def ResV (R : KL) (f : Key) : Value := match look R f with
  | some c => .tuple #[.int .i64 c, .bool true]
  | none => .tuple #[.int .i64 0, .bool false]
def RsRel (R : KL) (f : Key) (w : World) (i : Value) (wr : World) : Prop := ∃ k : Nat, i = .int .i64 k ∧ k ≤ R.length ∧ Below w.heap.size w wr ∧ ResV R f = ResV (R.drop k) f
theorem reserved_any (R : KL) (f : Key) (A : Option Addr) (ca : Nat) (w : World) (hR : Seg w A (R.length * 2) (rCell R)) (hm : (R.length : Int) ≤ 1000000) : Calls Try.prog 26 #[.slice A R.length ca, .string (bs f)] w fun e w' => e = .returned (ResV R f) ∧ Below w.heap.size w w' := by
  have HR := Lib.hid hR
  clear hR
  go_enter Try.func26, Try.ntmps26
  go_wp2
  go_loopw [9] (RsRel R f w) (fun i _ => R.length - (intOf i).toNat)
  case atStart => exact ⟨0, rfl, by omega, Below.refl _ _, by rw [List.drop_zero]⟩
  case round =>
  obtain ⟨k, rfl, hk, hB, hv⟩ := hrel
  by_cases hlt : k < R.length
  · obtain ⟨b1, o1, rfl, hb1, q0, q1⟩ := rseg HR.out k hlt
    replace q0 := (hB.cell (p := ⟨b1, o1 + k * 2, none⟩) hb1).trans q0
    replace q1 := (hB.cell (p := ⟨b1, o1 + k * 2 + 1, none⟩) hb1).trans q1
    have hb2 : b1 < wr.heap.size := Nat.lt_of_lt_of_le hb1 hB.size
    have h3 : R[k] = R.getD k ([], 0) := by rw [List.getD_eq_getElem?_getD, List.getElem?_eq_getElem hlt]; rfl
    rw [List.drop_eq_getElem_cons hlt, h3] at hv
    generalize R.getD k ([], 0) = e at *
    obtain ⟨x, c⟩ := e
    simp only at q0 q1
    clear h3
    by_cases hx : x = f
    · subst hx
      have hv2 : ResV R x = .tuple #[.int .i64 c, .bool true] := by rw [hv]; unfold ResV; rw [look, if_pos rfl]
      have HV2 := Lib.hid hv2
      clear hv hv2
      go_wp2
      go_ret2
      exact ⟨congrArg Ending.returned HV2.out.symm, hB⟩
    · have hne : ((bs x).toList == (bs f).toList) = false := by rw [bs_same]; exact decide_eq_false hx
      have hv2 : ResV R f = ResV (R.drop (k + 1)) f := by rw [hv]; unfold ResV; rw [look, if_neg hx]
      have HV := Lib.hid hv2
      clear hv hv2 hx
      go_wp2
      go_roundw
      case rel => exact ⟨k + 1, by go_num, by omega, hB, HV.out⟩
      case measure => simp [intOf]; omega
  · obtain rfl : k = R.length := by omega
    rw [List.drop_length] at hv
    have HV2 := Lib.hid hv
    clear hv
    go_wp2
    go_ret2
    exact ⟨congrArg Ending.returned HV2.out.symm, hB⟩
/-- What the reserves use, one after the other. -/
def usedR (U : KL) : KL → Int
  | [] => 0
  | (x, _) :: R => cnt U x + usedR U R
theorem usedR_eq {R U : KL} (hn : (keys R).Nodup) (hu : (keys U).Nodup) : usedR U R = wsum (fun s => (look R s).isSome) U := by
  induction R with
  | nil =>
    rw [wsum_none (fun _ _ _ => rfl)]
    rfl
  | cons p R ih =>
    obtain ⟨x, n⟩ := p
    simp only [keys, List.map_cons, List.nodup_cons] at hn
    have hx : look R x = none := look_none hn.1
    have h1 := ih hn.2
    have h2 := wsum_add (q := fun s => (look R s).isSome) (r := fun s => (look ((x, n) :: R) s).isSome) hu (s := x) (by rw [hx]; rfl) (fun y hy => by
      rw [look, if_neg (fun e => hy e.symm)])
    rw [h2, show (look ((x, n) :: R) x).isSome = true by rw [look, if_pos rfl]; rfl, if_pos rfl, usedR, h1]
    omega
theorem usedR_snoc (U R : KL) (p : Key × Int) : usedR U (R ++ [p]) = usedR U R + cnt U p.1 := by
  induction R with
  | nil => simp [usedR]
  | cons q R ih =>
    obtain ⟨x, n⟩ := q
    rw [List.cons_append, usedR, usedR, ih]
    omega
theorem others {least : Int} {st : SS} (h : Good least st) : wsum all st.U - usedR st.U st.R = wsum (shr st) st.U := by
  have h1 := wsum_split (shr st) (fun s => (look st.R s).isSome) st.U (fun p _ => by
    unfold shr
    cases look st.R p.1 <;> rfl)
  have h2 := usedR_eq h.conf.nd h.un
  unfold all
  omega
theorem usedR_le {U : KL} (hu : (keys U).Nodup) (h0 : ∀ p ∈ U, 0 ≤ p.2) {R : KL} (hn : (keys R).Nodup) (k : Nat) : 0 ≤ usedR U (R.take k) ∧ usedR U (R.take k) ≤ wsum all U := by
  have hnk : (keys (R.take k)).Nodup := by
    unfold keys at *
    rw [List.map_take]
    exact hn.sublist (List.take_sublist _ _)
  rw [usedR_eq hnk hu]
  exact ⟨wsum_nonneg h0, wsum_le h0 (fun _ _ => rfl)⟩
/-- Acquiring so often. -/
def again (st : SS) (f : Key) : Nat → SS
  | 0 => st
  | k + 1 => (acqV (again st f k) f).2
theorem again_step {least : Int} {st : SS} (h : Good least st) {f : Key} (hn : nameV f = true) (k : Nat) (hk : (k : Int) ≤ free st f) : Good least (again st f k) ∧ free (again st f k) f = free st f - k := by
  induction k with
  | zero => exact ⟨h, by show free st f = free st f - 0; omega⟩
  | succ k ih =>
    obtain ⟨h1, h2⟩ := ih (by omega)
    refine ⟨good_acq h1 f, ?_⟩
    rcases acq_cases h1 f with ⟨er, _, ha, hz⟩ | ⟨ha, _, _⟩
    · unfold freeV at hz
      rw [hn, if_pos rfl] at hz
      omega
    · show free (acqV (again st f k) f).2 f = _
      rw [ha]
      show free ⟨(again st f k).total, (again st f k).R, bump (again st f k).U f 1⟩ f = _
      rw [free_bump, h2]
      omega
theorem again_acq {least : Int} {st : SS} (h : Good least st) {f : Key} (hn : nameV f = true) (k : Nat) (hk : (k : Int) < free st f) : acqV (again st f k) f = (0, again st f (k + 1)) := by
  obtain ⟨h1, h2⟩ := again_step h hn k (by omega)
  rcases acq_cases h1 f with ⟨er, _, ha, hz⟩ | ⟨ha, _, _⟩
  · unfold freeV at hz
    rw [hn, if_pos rfl] at hz
    omega
  · refine Prod.ext ?_ rfl
    rw [ha]
theorem acq_full {st : SS} {f : Key} (hn : nameV f = true) (hk : free st f = 0) : acqV st f = (17, st) := by
  unfold acqV
  rw [hn, if_neg (by decide), if_pos (by omega)]
def OthRel (st : SS) (w : World) (p br bu N : Nat) (u i : Value) (wr : World) : Prop := ∃ k : Nat, u = .int .i64 (wsum all st.U - usedR st.U (st.R.take k)) ∧ i = .int .i64 k ∧ k ≤ st.R.length ∧ S1 w wr p br bu N st
def AgRel (st : SS) (f : Key) (fr : Int) (w : World) (p br bu N : Nat) (i : Value) (wr : World) : Prop := ∃ k : Nat, i = .int .i64 k ∧ (k : Int) ≤ fr ∧ k ≤ 300 ∧ S1 w wr p br bu (N + k) (again st f k)
set_option maxRecDepth 100000 in
set_option maxHeartbeats 1000000 in
theorem slotsReserve_walk (total least : Int) (A : Option Addr) (n ca : Nat) (R : KL) (B : Option Addr) (m cb : Nat) (l : OL) (t : ByteArray) (W : World) {p0 p1 p4 : Prop} (_ : p0) (_ : p1) (hr : RArg W A n ca R) (hk : KArg W B m cb l) (_ : p4) : Calls Try.prog 4 #[.int .i64 total, .int .i64 least, .slice A n ca, .slice B m cb, .string t] W fun e w' => e = .returned (.bool true) ∧ Below W.heap.size W w' := by
  obtain ⟨rfl, hR, hRn, hR24⟩ := hr
  obtain ⟨rfl, hl, hln, hl24⟩ := hk
  rw [bs_list t]
  generalize t.data.toList = f
  have HR := Lib.hid hR
  have HL := Lib.hid hl
  have hown0 := k_row0 W
  have hb0 := below_box (Below.refl _ W) (.cells #[] 36)
  have hsrc0 := hl.next hb0
  have hz0 := hb0.size
  have H0 := Lib.hid (And.intro hown0 (And.intro hb0 (And.intro hsrc0 hz0)))
  have HN0 := Lib.hid hln
  clear hR hl hown0 hb0 hsrc0 hz0 hln hRn hR24
  have tok1 : True := trivial
  go_enter Try.func4, Try.ntmps4
  go_wp2_with (first
    | (at_builtin
       have _t := tok1
       go_loud (refine wpList_appk rfl (.tmp 22) (.tmp 23) rfl W.heap.size _ [] l B cb rfl rfl H0.out.1 H0.out.2.2.1 HN0.out H0.out.2.1 H0.out.2.2.2 (by simp only [List.length_nil]; omega) ?_)
       intro v1 w1 ho1 hb1
       clear tok1
       have hz1 := hb1.size
       have hbb := below_box (Below.refl _ w1) (.cells #[.int .i64 0, .string (bs f)] 36)
       have hk1 := k_new1 w1 0 f 36
       go_loud (have H1 := Lib.hid (And.intro (own_up ho1 hbb) (And.intro hk1 (And.intro (below_step' hb1 hbb hz1) (Nat.le_trans hz1 hbb.size)))))
       clear ho1 hb1 hz1 hbb hk1)
    | (at_builtin
       go_loud (refine wpList_appks rfl (.tmp 24) (.tmp 27) rfl W.heap.size v1 ([] ++ l) [(0, f)] _ 1 rfl rfl H1.out.1 H1.out.2.1 (fun h => by cases h) H1.out.2.2.1 H1.out.2.2.2 (by simp only [List.nil_append, List.length_cons, List.length_nil]; omega) ?_)
       intro A2 cap2 n2 w2 hn2 hs2 hb2
       rw [List.nil_append] at hn2 hs2
       have H2 := Lib.hid (And.intro (smalls_n R _ n2 A A2 ca cap2 w2 hn2 (HR.out.next hb2) hs2) hb2)
       clear hn2 hb2 hs2 H1))
  refine H2.out.1.mono ?_
  rintro _ w3 ⟨r, rfl, hr3, hb3⟩
  have hB3 := below_step H2.out.2 hb3
  clear H2 hb3 H0
  cases r
  · have HB3 := Lib.hid hB3
    clear hB3 hr3
    go_wp2_with fail
    refine (awake_any _).mono ?_
    rintro _ w4 ⟨rfl, hb⟩
    go_wp2
    go_ret
    exact ⟨rfl, below_step HB3.out hb⟩
  obtain ⟨hso, hf300⟩ := small_less (hr3 rfl)
  clear hr3
  have HSO := Lib.hid hso
  clear hso
  by_cases h300 : (300 : Int) < least
  · have HB3 := Lib.hid hB3
    clear hB3
    go_wp2_with fail
    refine (awake_any _).mono ?_
    rintro _ w4 ⟨rfl, hb⟩
    go_wp2
    go_ret
    exact ⟨rfl, below_step HB3.out hb⟩
  have hlB := HL.out.next hB3
  have HLB := Lib.hid hlB
  have hRB := HR.out.next hB3
  have HB3 := Lib.hid hB3
  clear hB3
  by_cases hc : checkV total least R = 0
  case neg =>
    have hne : (checkV total least R != 0) = true := bne_iff_ne.2 hc
    have HC := Lib.hid (check_any total least A ca R w3 hRB (small_names HSO.out))
    generalize checkV total least R = code at *
    have HP := Lib.hid (played_no total least code A B R.length ca l.length cb w3 (Lib.hid (new_no total least code A R.length ca w3 HC hne)) hne)
    clear hc HC hne hRB hlB
    go_wp2_with fail
    refine HP.out.mono ?_
    rintro _ w4 ⟨rfl, hb4⟩
    have HB4 := Lib.hid (below_step HB3.out hb4)
    clear hb4
    go_wp2_with fail
    refine (awake_any _).mono ?_
    rintro _ w5 ⟨rfl, hb⟩
    go_wp2
    go_ret
    exact ⟨rfl, below_step HB4.out hb⟩
  have HP := Lib.hid (played_yes total least R l A B ca cb w3 hRB hlB HSO.out hc)
  have hgd := good_play (Good.made (check_ok hc)) l
  have hsame := play_same ⟨total, R, []⟩ l
  clear hRB hlB hc
  go_wp2_with fail
  refine HP.out.mono ?_
  rintro _ w4 ⟨p, br, bu, rfl, h4⟩
  clear HP
  generalize playV ⟨total, R, []⟩ l = st at *
  have HG := Lib.hid hgd
  have HT := Lib.hid hsame
  have HRB := Lib.hid (HR.out.next HB3.out)
  clear hgd hsame
  have hfl : f.length ≤ 1000000 := by omega
  have hl300 := HSO.out.2.1
  have HNM := Lib.hid (fun W => rname_any f W)
  cases hn : nameV f
  · rw [hn] at HNM
    have ha : acqV st f = (4, st) := if_pos hn
    have hrl : relV st f = (4, st) := if_pos hn
    have HA := Lib.hid (fun w N (k : S1 w3 w p br bu N st) (hN : N ≤ 1000000) => s1_acquire f k HG.out hfl hN ha)
    have HRL := Lib.hid (fun w N (k : S1 w3 w p br bu N st) (hN : N ≤ 1000000) => s1_release f k HG.out hfl hN hrl)
    have HU := Lib.hid (fun w N (k : S1 w3 w p br bu N st) => s1_used f k hfl)
    have HFR := Lib.hid (fun w N (k : S1 w3 w p br bu N st) => s1_free f k HG.out hfl)
    rw [show usedV st f = 0 from if_neg (by rw [hn]; decide)] at HU
    rw [show freeV st f = 0 from if_neg (by rw [hn]; decide)] at HFR
    clear ha hrl hn
    go_wp2_with fail
    refine (HNM.out _).mono ?_
    rintro _ _ ⟨rfl, rfl⟩
    go_wp2_with fail
    refine (HA.out _ _ h4 (by omega)).mono ?_
    clear h4
    rintro _ w5 ⟨rfl, h5⟩
    go_wp2_with fail
    refine (HRL.out _ _ h5 (by omega)).mono ?_
    clear h5
    rintro _ w6 ⟨rfl, h6⟩
    go_wp2_with fail
    refine (HU.out _ _ h6).mono ?_
    clear h6
    rintro _ w7 ⟨rfl, h7⟩
    go_wp2_with fail
    refine (HFR.out _ _ h7).mono ?_
    clear h7
    rintro _ w8 ⟨rfl, h8⟩
    have HB8 := Lib.hid (below_step' HB3.out h8.below HB3.out.size)
    clear h8
    go_wp2_with fail
    refine (awake_any _).mono ?_
    rintro _ w9 ⟨rfl, hb⟩
    go_wp2
    go_ret
    exact ⟨rfl, below_step HB8.out hb⟩
  rw [hn] at HNM
  have hR1 : (R.length : Int) ≤ 1000000 := by have := HSO.out.1; omega
  have HRS := Lib.hid (fun w (k : S1 w3 w p br bu l.length st) => reserved_any R f A ca w (HRB.out.next k.below) hR1)
  have hU := used_cnt HG.out f
  have HU := Lib.hid (fun w N (k : S1 w3 w p br bu N st) => s1_used f k hfl)
  have HFR := Lib.hid (fun w N (k : S1 w3 w p br bu N st) => s1_free f k HG.out hfl)
  have hfv : freeV st f = free st f := if_pos hn
  rw [hU] at HU
  rw [hfv] at HFR
  clear hU hfv
  have hc0 := HG.out.cnt_nonneg f
  have hf0 := HG.out.free_nonneg f
  have ht1 := HG.out.conf.t1
  unfold ResV at HRS
  cases hlk : look R f with
  | some c =>
    have hst : look st.R f = some c := by rw [HT.out.2]; exact hlk
    have hfs := free_some hst
    have hc1 := (HG.out.conf.ok _ (look_mem hst)).2
    simp only at hc1
    rw [hlk] at HRS
    simp only at HRS
    have hcu := HG.out.ur f c hst
    have hsum : IntKind.i64.wrap (cnt st.U f + free st f) = c := by rw [hfs, IntKind.wrap_i64]; omega
    rcases acq_cases HG.out f with ⟨er, hne, hacq, hfz⟩ | ⟨hacq, _, hfr⟩
    · have HA := Lib.hid (fun w N (k : S1 w3 w p br bu N st) (hN : N ≤ 1000000) => s1_acquire f k HG.out hfl hN hacq)
      rw [show freeV st f = free st f from if_pos hn] at hfz
      have hne0 : (er == 0) = false := by simpa using hne
      rw [hfz] at HFR
      have hcc : cnt st.U f = c := by omega
      rw [hcc] at HU hc0
      have hsum2 : IntKind.i64.wrap c = c := by rw [IntKind.wrap_i64]; omega
      clear hacq hfs hlk hst hn hcu hf0 hsum hcc hfz
      go_wp2_with fail
      refine (HNM.out _).mono ?_
      rintro _ _ ⟨rfl, rfl⟩
      go_wp2_with fail
      refine (HRS.out _ h4).mono ?_
      rintro _ w5 ⟨rfl, hb5⟩
      replace h4 := h4.up hb5
      clear hb5
      go_wp2_with fail
      refine (HU.out _ _ h4).mono ?_
      clear h4
      rintro _ w7 ⟨rfl, h7⟩
      go_wp2_with fail
      refine (HFR.out _ _ h7).mono ?_
      clear h7
      rintro _ w8 ⟨rfl, h8⟩
      go_wp2_with fail
      refine (HA.out _ _ h8 (by omega)).mono ?_
      clear h8
      rintro _ w9 ⟨rfl, h9⟩
      have HB9 := Lib.hid (below_step' HB3.out h9.below HB3.out.size)
      clear h9
      go_wp2_with fail
      refine (awake_any _).mono ?_
      rintro _ w10 ⟨rfl, hb⟩
      go_wp2
      go_ret
      exact ⟨rfl, below_step HB9.out hb⟩
    · have HA := Lib.hid (fun w N (k : S1 w3 w p br bu N st) (hN : N ≤ 1000000) => s1_acquire f k HG.out hfl hN hacq)
      have hfr0 : 0 < free st f := by omega
      clear hacq hfs hlk hst hn hcu hf0
      generalize cnt st.U f = cu at *
      generalize free st f = fv at *
      generalize (⟨st.total, st.R, bump st.U f 1⟩ : SS) = st2 at *
      go_wp2_with fail
      refine (HNM.out _).mono ?_
      rintro _ _ ⟨rfl, rfl⟩
      go_wp2_with fail
      refine (HRS.out _ h4).mono ?_
      rintro _ w5 ⟨rfl, hb5⟩
      replace h4 := h4.up hb5
      clear hb5
      go_wp2_with fail
      refine (HU.out _ _ h4).mono ?_
      clear h4
      rintro _ w7 ⟨rfl, h7⟩
      go_wp2_with fail
      refine (HFR.out _ _ h7).mono ?_
      clear h7
      rintro _ w8 ⟨rfl, h8⟩
      go_wp2_with fail
      refine (HA.out _ _ h8 (by omega)).mono ?_
      clear h8
      rintro _ w9 ⟨rfl, h9⟩
      have HB9 := Lib.hid (below_step' HB3.out h9.below HB3.out.size)
      clear h9
      go_wp2_with fail
      refine (awake_any _).mono ?_
      rintro _ w10 ⟨rfl, hb⟩
      go_wp2
      go_ret
      exact ⟨rfl, below_step HB9.out hb⟩
  | none =>
    rw [hlk] at HRS
    simp only at HRS
    have hst : look st.R f = none := by rw [HT.out.2]; exact hlk
    have hfn := free_none hst
    have hot := others HG.out
    have hcs := HG.out.conf.sum
    have HTO := Lib.hid (fun w (k : S1 w3 w p br bu l.length st) => s1_total k HG.out)
    have htl := HG.out.total_le
    have hul := fun k => usedR_le HG.out.un HG.out.nonneg HG.out.conf.nd k
    have hsh0 := wsum_nonneg (q := shr st) HG.out.nonneg
    have hR0 := wsum_nonneg (q := all) (fun p hp => (HG.out.conf.ok p hp).2.1)
    have hRl : st.R.length = R.length := by rw [HT.out.2]
    have hRU : st.R = R := HT.out.2
    clear hlk hst
    go_wp2_with fail
    refine (HNM.out _).mono ?_
    rintro _ _ ⟨rfl, rfl⟩
    go_wp2_with fail
    refine (HRS.out _ h4).mono ?_
    rintro _ w5 ⟨rfl, hb5⟩
    replace h4 := h4.up hb5
    clear hb5
    go_wp2_with fail
    refine (HTO.out _ h4).mono ?_
    clear h4
    rintro _ w6 ⟨rfl, h6⟩
    go_wp2
    go_loopw [16, 109] (OthRel st w3 p br bu l.length) (fun _ i _ => R.length - (intOf i).toNat)
    case atStart => exact ⟨0, by rw [List.take_zero]; show _ = Value.int .i64 (wsum all st.U - 0); rw [Int.sub_zero], rfl, by omega, h6⟩
    case round =>
    clear h6
    obtain ⟨k, rfl, rfl, hk, h⟩ := hrel
    by_cases hlt : k < R.length
    · obtain ⟨b1, o1, rfl, hb1, q0, _⟩ := rseg HRB.out k hlt
      have hx := HSO.out.2.2.1 k hlt
      have htk : usedR st.U (st.R.take (k + 1)) = usedR st.U (st.R.take k) + cnt st.U (R.getD k ([], 0)).1 := by
        rw [hRU, List.take_succ_eq_append_getElem hlt, usedR_snoc, List.getD_eq_getElem?_getD, List.getElem?_eq_getElem hlt]
        rfl
      have hux := used_cnt HG.out (R.getD k ([], 0)).1
      have u0 := hul k
      have u1 := hul (k + 1)
      generalize (R.getD k ([], 0)).1 = x at *
      have HUX := Lib.hid (s1_used x h (by omega))
      rw [hux] at HUX
      rw [htk] at u1
      have HTK := Lib.hid htk
      have c1 := (h.below.cell (p := ⟨b1, o1 + k * 2, none⟩) hb1).trans q0
      have hb2 : b1 < wr.heap.size := Nat.lt_of_lt_of_le hb1 h.below.size
      have hsub : IntKind.i64.wrap (wsum all st.U - usedR st.U (st.R.take k) - cnt st.U x) = wsum all st.U - usedR st.U (st.R.take k) - cnt st.U x := by rw [IntKind.wrap_i64]; omega
      clear hux u0 u1 q0 hb1 htk h
      have HKL := Lib.hid (show k < st.R.length by omega)
      generalize usedR st.U (st.R.take k) = uk at *
      generalize cnt st.U x = cx at *
      go_wp2_with fail
      refine HUX.out.mono ?_
      rintro _ w7 ⟨rfl, h7⟩
      clear c1
      go_wp2
      go_roundw
      case rel => exact ⟨k + 1, by rw [HTK.out]; congr 1; omega, by go_num, HKL.out, h7⟩
      case measure => simp [intOf]; omega
    · obtain rfl : k = R.length := by omega
      rw [List.take_of_length_le (by omega), hot]
      have hge : ¬ (wsum (shr st) st.U + free st f < least) := by omega
      have hwr : IntKind.i64.wrap (wsum (shr st) st.U + free st f) = wsum (shr st) st.U + free st f := by rw [IntKind.wrap_i64]; omega
      have HAG := Lib.hid (fun k h => again_step HG.out hn k h)
      have HAA := Lib.hid (fun k h => again_acq HG.out hn k h)
      have HFU := Lib.hid (fun s2 h => acq_full (st := s2) hn h)
      clear hot hcs hul hfn hRU htl hsh0 hR0 ht1
      generalize free st f = fr at *
      generalize wsum (shr st) st.U = sh at *
      go_wp2_with fail
      refine (HFR.out _ _ h).mono ?_
      clear h
      rintro _ w7 ⟨rfl, h7⟩
      go_wp2_with fail
      refine (HFR.out _ _ h7).mono ?_
      clear h7
      rintro _ w8 ⟨rfl, h8⟩
      go_wp2
      go_loopw [20] (AgRel st f fr w3 p br bu l.length) (fun i _ => 300 - (intOf i).toNat)
      case atStart => exact ⟨0, rfl, by omega, by omega, h8⟩
      case round =>
      clear h8
      obtain ⟨k, rfl, hkf, hk3, h⟩ := hrel
      by_cases h3 : (k : Int) < fr
      · by_cases h4 : (k : Int) < 300
        · have HA := Lib.hid (s1_acquire f h (HAG.out k hkf).1 hfl (by omega) (HAA.out k h3))
          clear h
          go_wp2_with fail
          refine HA.out.mono ?_
          rintro _ w9 ⟨rfl, h9⟩
          go_wp2
          go_roundw
          case rel => exact ⟨k + 1, by go_num, by omega, by omega, h9⟩
          case measure => simp [intOf]; omega
        · have HB9 := Lib.hid (below_step' HB3.out h.below HB3.out.size)
          have hgt : 300 ≤ fr := by omega
          by_cases hgt3 : 300 < fr
          · clear h
            go_wp2_with fail
            refine (awake_any _).mono ?_
            rintro _ w10 ⟨rfl, hb⟩
            go_wp2
            go_ret
            exact ⟨rfl, below_step HB9.out hb⟩
          · omega
      · have hfz : free (again st f k) f = 0 := by
          have := (HAG.out k hkf).2
          omega
        have HA := Lib.hid (s1_acquire f h (HAG.out k hkf).1 hfl (by omega) (HFU.out _ hfz))
        have hle : ¬ 300 < fr := by omega
        clear h hfz
        go_wp2_with fail
        refine HA.out.mono ?_
        rintro _ w9 ⟨rfl, h9⟩
        have HB9 := Lib.hid (below_step' HB3.out h9.below HB3.out.size)
        clear h9
        go_wp2_with fail
        refine (awake_any _).mono ?_
        rintro _ w10 ⟨rfl, hb⟩
        go_wp2
        go_ret
        exact ⟨rfl, below_step HB9.out hb⟩
end Go.Proofs.Ytbcologcendhlaa
