/- done and played: the walks; what playing does, in plain words. -/
import Derived.Test.YtbcologcendhlaaSJ
namespace Go.Proofs.Ytbcologcendhlaa
open Go.ChangeShapes Go.WideShapes Go.ChangeAt Go.RowKit

def opV (st : SS) (o : Int × Key) : Int × SS := if o.1 = 0 then acqV st o.2 else if o.1 = 1 then relV st o.2 else (0, st)
theorem good_op {least : Int} {st : SS} (h : Good least st) (o : Int × Key) : Good least (opV st o).2 := by
  unfold opV
  split
  · exact good_acq h _
  · split
    · exact good_rel h _
    · exact h
theorem acq_same (st : SS) (s : Key) : (acqV st s).2.total = st.total ∧ (acqV st s).2.R = st.R := by
  unfold acqV
  split
  · exact ⟨rfl, rfl⟩
  · split <;> exact ⟨rfl, rfl⟩
theorem rel_same (st : SS) (s : Key) : (relV st s).2.total = st.total ∧ (relV st s).2.R = st.R := by
  unfold relV
  split
  · exact ⟨rfl, rfl⟩
  · split <;> exact ⟨rfl, rfl⟩
theorem op_same (st : SS) (o : Int × Key) : (opV st o).2.total = st.total ∧ (opV st o).2.R = st.R := by
  unfold opV
  split
  · exact acq_same _ _
  · split
    · exact rel_same _ _
    · exact ⟨rfl, rfl⟩
theorem op_keys (st : SS) (o : Int × Key) (x : Key) (h : x ∈ keys (opV st o).2.U) : x ∈ keys st.U ∨ x = o.2 := by
  unfold opV acqV relV at h
  split at h
  · split at h
    · exact .inl h
    · split at h
      · exact .inl h
      · exact (keys_bump _ _ _ _).1 h
  · split at h
    · split at h
      · exact .inl h
      · split at h
        · exact .inl h
        · exact (keys_bump _ _ _ _).1 h
    · exact .inl h
def playV (st : SS) : OL → SS
  | [] => st
  | o :: l => playV (opV st o).2 l
theorem play_snoc (st : SS) (l : OL) (o : Int × Key) : playV st (l ++ [o]) = (opV (playV st l) o).2 := by
  induction l generalizing st with
  | nil => rfl
  | cons p l ih => exact ih _
theorem good_play {least : Int} {st : SS} (h : Good least st) (l : OL) : Good least (playV st l) := by
  induction l generalizing st with
  | nil => exact h
  | cons p l ih => exact ih (good_op h p)
theorem play_same (st : SS) (l : OL) : (playV st l).total = st.total ∧ (playV st l).R = st.R := by
  induction l generalizing st with
  | nil => exact ⟨rfl, rfl⟩
  | cons p l ih =>
    obtain ⟨h1, h2⟩ := ih (opV st p).2
    obtain ⟨h3, h4⟩ := op_same st p
    exact ⟨h1.trans h3, h2.trans h4⟩
def fns (l : OL) : List Key := l.map (·.2)
theorem play_keys (st : SS) (l : OL) (x : Key) (h : x ∈ keys (playV st l).U) : x ∈ keys st.U ∨ x ∈ fns l := by
  induction l generalizing st with
  | nil => exact .inl h
  | cons p l ih =>
    rcases ih _ h with h | h
    · rcases op_keys st p x h with h | h
      · exact .inl h
      · exact .inr (h ▸ List.mem_cons_self)
    · exact .inr (List.mem_cons_of_mem _ h)
section
variable {w0 w : World} {p br bu N : Nat} {st : SS} {least : Int}
theorem done_any (k : Int) (f : Key) (h : S1 w0 w p br bu N st) (hg : Good least st) (hl : f.length ≤ 1000000) (hN : N ≤ 1000000) : Calls Try.prog 13 #[.pointer (some ⟨p, 0, none⟩), .agg #[.int .i64 k, .string (bs f)]] w fun e w' => e = .returned (.int .i64 (opV st (k, f)).1) ∧ S1 w0 w' p br bu (N + 1) (opV st (k, f)).2 := by
  have hx := Box.new w 36 #[.int .i64 k, .string (bs f)]
  have h1 := h.up (below_box (Below.refl _ w) (.cells #[.int .i64 k, .string (bs f)] 36))
  unfold opV
  by_cases k0 : k = 0
  · subst k0
    rw [if_pos rfl]
    dsimp only
    have HA := Lib.hid (s1_acquire (least := least) (er := (acqV st f).1) (st' := (acqV st f).2) f h1 hg hl hN rfl)
    have c0 := hx.cell 0 _ rfl
    have c1 := hx.cell 1 _ rfl
    clear h hg h1
    generalize acqV st f = r at *
    go_enter Try.func13, Try.ntmps13
    go_wp2_with fail
    refine HA.out.mono ?_
    rintro _ w2 ⟨rfl, h2⟩
    clear c0 c1
    go_wp2
    go_ret
    exact ⟨rfl, h2⟩
  · rw [if_neg k0]
    have n0 : (k == 0) = false := by simpa using k0
    by_cases k1 : k = 1
    · subst k1
      rw [if_pos rfl]
      dsimp only
      have HA := Lib.hid (s1_release (least := least) (er := (relV st f).1) (st' := (relV st f).2) f h1 hg hl hN rfl)
      have c0 := hx.cell 0 _ rfl
      have c1 := hx.cell 1 _ rfl
      clear h hg h1
      generalize relV st f = r at *
      go_enter Try.func13, Try.ntmps13
      go_wp2_with fail
      refine HA.out.mono ?_
      rintro _ w2 ⟨rfl, h2⟩
      clear c0 c1
      go_wp2
      go_ret
      exact ⟨rfl, h2⟩
    · rw [if_neg k1]
      have n1 : (k == 1) = false := by simpa using k1
      have c0 := hx.cell 0 _ rfl
      have H1 := Lib.hid h1
      clear h hg h1
      go_enter Try.func13, Try.ntmps13
      go_wp2
      go_ret
      obtain ⟨⟨a1, a2, a3, a4⟩, a5, a6, a7, a8⟩ := H1.out
      exact ⟨rfl, ⟨a1, a2, a3.mono (Nat.le_succ N), a4⟩, a5, a6, a7, a8⟩
end
theorem played_no (total least code : Int) (A B : Option Addr) (n ca m cb : Nat) (w : World) (HC : Hid (Calls Try.prog 10 #[.int .i64 total, .int .i64 least, .slice A n ca] w fun e w' => e = .returned (.tuple #[.pointer none, .int .i64 code]) ∧ Below w.heap.size w w')) (hc : (code != 0) = true) : Calls Try.prog 22 #[.int .i64 total, .int .i64 least, .slice A n ca, .slice B m cb] w fun e w' => e = .returned (.pointer none) ∧ Below w.heap.size w w' := by
  go_enter Try.func22, Try.ntmps22
  go_wp2_with fail
  refine HC.out.mono ?_
  rintro _ w1 ⟨rfl, hb⟩
  go_wp2
  go_ret
  exact ⟨rfl, hb⟩
def PlayRel (total : Int) (R : KL) (l : OL) (w : World) (p br bu : Nat) (i : Value) (wr : World) : Prop := ∃ k : Nat, i = .int .i64 k ∧ k ≤ l.length ∧ S1 w wr p br bu k (playV ⟨total, R, []⟩ (l.take k))
def PlayedEnds (total : Int) (R : KL) (l : OL) (w : World) (e : Ending) (w' : World) : Prop := ∃ p br bu, e = .returned (.pointer (some ⟨p, 0, none⟩)) ∧ S1 w w' p br bu l.length (playV ⟨total, R, []⟩ l)
set_option maxHeartbeats 2000000 in
theorem played_yes (total least : Int) (R : KL) (l : OL) (A B : Option Addr) (ca cb : Nat) (w : World) (hR : Seg w A (R.length * 2) (rCell R)) (hl : Seg w B (l.length * 2) (kCell l)) (hs : SmallOk R l) (hc : checkV total least R = 0) : Calls Try.prog 22 #[.int .i64 total, .int .i64 least, .slice A R.length ca, .slice B l.length cb] w (PlayedEnds total R l w) := by
  have hlen : ∀ p ∈ R, p.1.length ≤ 300 := by
    intro p hp
    obtain ⟨j, hj, he⟩ := List.mem_iff_getElem.1 hp
    have := hs.2.2.1 j hj
    rwa [List.getD_eq_getElem?_getD, List.getElem?_eq_getElem hj, he] at this
  have HNW := Lib.hid (s1_new (w0 := w) total least A ca R (Below.refl _ _) hR hlen hc)
  have HG := Lib.hid (Good.made (check_ok hc))
  have HL := Lib.hid hl
  have HS := Lib.hid hs
  have h300 : (l.length : Int) ≤ 300 := by have := hs.2.1; omega
  clear hR hl hs hlen hc
  go_enter Try.func22, Try.ntmps22
  go_wp2_with fail
  refine HNW.out.mono ?_
  rintro _ w1 ⟨p, br, bu, rfl, h1⟩
  go_wp2
  go_loopw [11] (PlayRel total R l w p br bu) (fun i _ => l.length - (intOf i).toNat)
  case atStart => exact ⟨0, rfl, by omega, h1⟩
  case round =>
  clear h1
  obtain ⟨k, rfl, hk, h⟩ := hrel
  by_cases hlt : (k : Int) < l.length
  · obtain ⟨b1, o1, rfl, hb1, q0, q1⟩ := kseg HL.out k (by omega)
    replace q0 := (h.below.cell (p := ⟨b1, o1 + k * 2, none⟩) hb1).trans q0
    replace q1 := (h.below.cell (p := ⟨b1, o1 + k * 2 + 1, none⟩) hb1).trans q1
    have hb2 : b1 < wr.heap.size := Nat.lt_of_lt_of_le hb1 h.below.size
    have hx := HS.out.2.2.2 k (by omega)
    have htk : l.take (k + 1) = l.take k ++ [l.getD k (0, [])] := by
      rw [List.take_succ_eq_append_getElem (by omega), List.getD_eq_getElem?_getD, List.getElem?_eq_getElem (by omega)]
      rfl
    generalize l.getD k (0, []) = e at *
    obtain ⟨kk, f⟩ := e
    simp only at q0 q1 hx
    have HT := Lib.hid htk
    have hgd := good_play HG.out (l.take k)
    have HD := Lib.hid (done_any kk f h hgd (by omega) (by omega))
    have HP := Lib.hid (show (opV (playV ⟨total, R, []⟩ (l.take k)) (kk, f)).2 = playV ⟨total, R, []⟩ (l.take (k + 1)) by rw [htk, play_snoc])
    clear htk hgd h
    generalize opV (playV ⟨total, R, []⟩ (l.take k)) (kk, f) = rr at *
    go_wp2_with fail
    refine HD.out.mono ?_
    rintro _ w2 ⟨rfl, h2⟩
    rw [HP.out] at h2
    clear q0 q1
    go_wp2
    go_roundw
    case rel => exact ⟨k + 1, by go_num, by omega, h2⟩
    case measure => simp [intOf]; omega
  · obtain rfl : k = l.length := by omega
    rw [List.take_length] at h
    go_wp2
    go_ret
    exact ⟨p, br, bu, rfl, h⟩
end Go.Proofs.Ytbcologcendhlaa
