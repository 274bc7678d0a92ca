/- A log of the reference over its disk: the walks. -/
import Derived.Test.YtjcojgblnbhejaaWD
namespace Go.Proofs.Ytjcojgblnbhejaa
open Go.ChangeShapes Go.WideShapes Go.ChangeAt Go.RowKit
attribute [local go_sem] ownAtC ownUponC

def RLogAt (w : World) (rl r : Nat) : Prop := Box w rl 68 #[.pointer (some ⟨r, 0, none⟩)]
theorem RLogAt.up {w w' : World} {rl r : Nat} (h : RLogAt w rl r) (hb : Below w.heap.size w w') : RLogAt w' rl r := Box.next h hb
theorem RLeft.of_up {w w1 w' : World} {r : Nat} {er : Int} {s : DS} {e : Ending} (hb : Below w.heap.size w w1) (_hr : r < w.heap.size) (h : RLeft w1 r er s e w') : RLeft w r er s e w' := by
  obtain ⟨he, k1, k2⟩ := h
  exact ⟨he, k1, (Only.of_up hb).trans k2 (fun x hx => .inl hx)⟩
theorem seal_len (t : List UInt8) (h : (sealV t).2 = 0) : (sealV t).1.length ≤ 1000000 := by
  unfold sealV at *
  split at h
  · next h1 =>
    rw [if_pos h1]
    simp only
    rw [sealL_len]
    omega
  · cases h
theorem rwrite_bs (w : World) (r : Nat) (s : DS) (x : List UInt8) (h : RefAt w r s) (hf : Fit s) (hx : x.length ≤ 1000000) : Calls Try.prog 49 #[.pointer (some ⟨r, 0, none⟩), .string (bs x)] w (RLeft w r (writeV s x).1 (writeV s x).2) := by
  have := rwrite_any w r (bs x) s h hf (by rw [bs_size]; exact hx)
  rwa [bs_back] at this
theorem rreplace_bs (w : World) (r : Nat) (s : DS) (x : List UInt8) (h : RefAt w r s) (hf : Fit s) : Calls Try.prog 46 #[.pointer (some ⟨r, 0, none⟩), .string (bs x)] w (RLeft w r (replaceV s x).1 (replaceV s x).2) := by
  have := rreplace_any w r (bs x) s h hf
  rwa [bs_back] at this
theorem rsyncl_any (w : World) (rl r : Nat) (s : DS) (hl : RLogAt w rl r) (h : RefAt w r s) (hf : Fit s) : Calls Try.prog 29 #[.pointer (some ⟨rl, 0, none⟩)] w (RLeft w r (syncV s).1 (syncV s).2) := by
  have HW := Lib.hid (rsync_any w r s h hf)
  have c0 := Box.cell hl 0 _ rfl
  clear h hl
  generalize syncV s = p at *
  go_enter Try.func29, Try.ntmps29
  go_wp2_with fail
  refine HW.out.mono ?_
  rintro _ w2 ⟨rfl, HX⟩
  clear c0
  go_wp2
  go_ret
  exact ⟨rfl, HX⟩
theorem rappend_any (w : World) (rl r : Nat) (s : DS) (t : ByteArray) (hl : RLogAt w rl r) (h : RefAt w r s) (hf : Fit s) : Calls Try.prog 28 #[.pointer (some ⟨rl, 0, none⟩), .string t] w (RLeft w r (appendV s t.data.toList).1 (appendV s t.data.toList).2) := by
  have HS := Lib.hid (rseal_any t w)
  have HLT := Lib.hid (Box.lt h)
  by_cases h0 : (sealV t.data.toList).2 = 0
  · have ha : appendV s t.data.toList = writeV s (sealV t.data.toList).1 := if_pos h0
    rw [ha]
    have hlen := seal_len _ h0
    rw [h0] at HS
    clear ha h0
    have HW := Lib.hid (fun W (hb : Below w.heap.size w W) => rwrite_bs W r s _ (h.up hb) hf hlen)
    generalize (sealV t.data.toList).1 = x at *
    generalize writeV s x = p at *
    clear h hlen
    go_enter Try.func28, Try.ntmps28
    go_wp2_with fail
    refine HS.out.mono ?_
    rintro _ w1 ⟨rfl, hb⟩
    have c0 := Box.cell (hl.up hb) 0 _ rfl
    have HB := Lib.hid hb
    clear hb
    go_wp2_with fail
    refine (HW.out _ HB.out).mono ?_
    rintro _ w2 ⟨rfl, HX⟩
    clear c0
    go_wp2
    go_ret
    exact RLeft.of_up HB.out HLT.out ⟨rfl, HX⟩
  · have ha : appendV s t.data.toList = ((sealV t.data.toList).2, s) := if_neg h0
    rw [ha]
    have hne : ((sealV t.data.toList).2 != 0) = true := bne_iff_ne.2 h0
    clear ha h0
    generalize (sealV t.data.toList).2 = er at *
    have HD := Lib.hid h
    clear h
    go_enter Try.func28, Try.ntmps28
    go_wp2_with fail
    refine HS.out.mono ?_
    rintro _ w1 ⟨rfl, hb⟩
    go_wp2
    go_ret
    exact RLeft.of_up hb HLT.out ((HD.out.up hb).same er)
set_option maxHeartbeats 400000 in
theorem rcompact_any (w : World) (rl r : Nat) (s : DS) (t : ByteArray) (hl : RLogAt w rl r) (hne' : rl ≠ r) (h : RefAt w r s) (hf : Fit s) : Calls Try.prog 30 #[.pointer (some ⟨rl, 0, none⟩), .string t] w (RLeft w r (compactV s t.data.toList).1 (compactV s t.data.toList).2) := by
  have HS := Lib.hid (rseal_any t w)
  have HLT := Lib.hid (Box.lt h)
  by_cases h0 : (sealV t.data.toList).2 = 0
  · have ha : compactV s t.data.toList = replV s (sealV t.data.toList).1 := if_pos h0
    rw [ha]
    rw [h0] at HS
    clear ha h0
    have HW := Lib.hid (fun W (hb : Below w.heap.size w W) => rreplace_bs W r s (sealV t.data.toList).1 (h.up hb) hf)
    have hf2 := replaceV_fit s (sealV t.data.toList).1 hf
    generalize (sealV t.data.toList).1 = x at *
    have HN : Hid (rl ∉ [r]) := Lib.hid (fun hm => hne' (List.mem_singleton.1 hm))
    clear h hne'
    by_cases h1 : (replaceV s x).1 = 0
    · have ha : replV s x = syncV (replaceV s x).2 := if_pos h1
      rw [ha]
      rw [h1] at HW
      clear ha h1
      generalize (replaceV s x).2 = s2 at *
      have HY := Lib.hid (fun W (k : RefAt W r s2) => rsync_any W r s2 k hf2)
      generalize syncV s2 = p at *
      clear hf2
      go_enter Try.func30, Try.ntmps30
      go_wp2_with fail
      refine HS.out.mono ?_
      rintro _ w1 ⟨rfl, hb⟩
      have hl1 := hl.up hb
      have c0 := Box.cell hl1 0 _ rfl
      have HL := Lib.hid hl1
      have HB := Lib.hid hb
      clear hb hl1 hl
      go_wp2_with fail
      refine (HW.out _ HB.out).mono ?_
      rintro _ w2 ⟨rfl, HX, HO⟩
      have hl2 := Box.only HL.out HO HN.out
      have c2 := Box.cell hl2 0 _ rfl
      have HHO := Lib.hid HO
      clear c0 hl2 HO
      go_wp2_with fail
      refine (HY.out _ HX).mono ?_
      rintro _ w3 ⟨rfl, HX3, HO3⟩
      clear c2
      go_wp2
      go_ret
      exact RLeft.of_up HB.out HLT.out ⟨rfl, HX3, HHO.out.trans HO3 (fun x hx => .inl hx)⟩
    · have ha : replV s x = replaceV s x := if_neg h1
      rw [ha]
      have hne : ((replaceV s x).1 != 0) = true := bne_iff_ne.2 h1
      clear ha h1 hf2
      generalize (replaceV s x).2 = s2 at *
      generalize (replaceV s x).1 = er at *
      go_enter Try.func30, Try.ntmps30
      go_wp2_with fail
      refine HS.out.mono ?_
      rintro _ w1 ⟨rfl, hb⟩
      have c0 := Box.cell (hl.up hb) 0 _ rfl
      have HB := Lib.hid hb
      clear hb hl
      go_wp2_with fail
      refine (HW.out _ HB.out).mono ?_
      rintro _ w2 ⟨rfl, HX⟩
      clear c0
      go_wp2
      go_ret
      exact RLeft.of_up HB.out HLT.out ⟨rfl, HX⟩
  · have ha : compactV s t.data.toList = ((sealV t.data.toList).2, s) := if_neg h0
    rw [ha]
    have hne : ((sealV t.data.toList).2 != 0) = true := bne_iff_ne.2 h0
    clear ha h0
    generalize (sealV t.data.toList).2 = er at *
    have HD := Lib.hid h
    clear h
    go_enter Try.func30, Try.ntmps30
    go_wp2_with fail
    refine HS.out.mono ?_
    rintro _ w1 ⟨rfl, hb⟩
    go_wp2
    go_ret
    exact RLeft.of_up hb HLT.out ((HD.out.up hb).same er)
theorem rdown_any (w : World) (r : Nat) (s : DS) (h : RefAt w r s) (hz : 1 ≤ s.sz) : Calls Try.prog 45 #[.pointer (some ⟨r, 0, none⟩)] w fun e w' => e = .returned (.bool s.down) ∧ w = w' := rdown_box w r s.sz _ _ _ s.rep s.down h (by omega)
theorem rsynced_any (w : World) (r : Nat) (s : DS) (h : RefAt w r s) (hz : 1 ≤ s.sz) : Calls Try.prog 53 #[.pointer (some ⟨r, 0, none⟩)] w fun e w' => e = .returned (.int .i64 s.dur.length) ∧ w = w' := by
  have := rsynced_box w r s.sz _ _ _ s.rep s.down h (by omega)
  rwa [if_neg (show ¬ s.sz = 0 by omega), bs_size] at this
theorem rrecords_any (w : World) (rl r : Nat) (s : DS) (hl : RLogAt w rl r) (h : RefAt w r s) (hf : Fit s) (hz : 1 ≤ s.sz) : Calls Try.prog 32 #[.pointer (some ⟨rl, 0, none⟩)] w fun e w' => (∃ v, e = .returned v ∧ StrsN w' w.heap.size v (recs s)) ∧ Below w.heap.size w w' := by
  have HD := Lib.hid (rdown_any w r s h hz)
  have HC := Lib.hid (rcontents_any w r s h hf)
  have hx := contV_len s hf
  have HR := Lib.hid (fun W => rrecover_bs (contV s) W (by omega))
  have c0 := Box.cell hl 0 _ rfl
  clear hl h hf hx
  unfold recs
  rcases rdy_cases s hz with ⟨h0, h1⟩ | ⟨h0, h1⟩
  · rw [h1] at HD
    clear h0 h1 hz
    generalize contV s = x at *
    go_enter Try.func32, Try.ntmps32
    go_wp2_with fail
    refine HD.out.mono ?_
    rintro _ _ ⟨rfl, rfl⟩
    go_wp2_with fail
    refine HC.out.mono ?_
    rintro _ w1 ⟨rfl, hb⟩
    go_wp2_with fail
    refine (HR.out w1).mono ?_
    rintro _ w2 ⟨v, rfl, hv, hb2⟩
    go_wp2
    go_ret
    exact ⟨⟨v, rfl, hv.1, fun a n c e => Nat.le_trans hb.size (hv.2 a n c e)⟩, below_step hb hb2⟩
  · rw [h1] at HD
    have e1 : contV s = [] := if_neg (by rw [h0]; decide)
    rw [e1]
    clear h0 h1 hz e1 HC HR
    go_enter Try.func32, Try.ntmps32
    go_wp2_with fail
    refine HD.out.mono ?_
    rintro _ _ ⟨rfl, rfl⟩
    go_wp2
    go_ret
    exact ⟨⟨_, rfl, Strs.nil _, fun a n c e => by cases e⟩, Below.refl _ _⟩
theorem rdurable_any (w : World) (rl r : Nat) (s : DS) (hl : RLogAt w rl r) (h : RefAt w r s) (hf : Fit s) (hz : 1 ≤ s.sz) : Calls Try.prog 34 #[.pointer (some ⟨rl, 0, none⟩)] w fun e w' => e = .returned (.int .i64 (durs s).length) ∧ Below w.heap.size w w' := by
  have HD := Lib.hid (rdown_any w r s h hz)
  have HC := Lib.hid (rcontents_any w r s h hf)
  have HY := Lib.hid (fun W (hb : Below w.heap.size w W) => rsynced_any W r s (h.up hb) hz)
  have hx := contV_len s hf
  have HR := Lib.hid (fun W => rrecover_bs ((contV s).take s.dur.length) W (by rw [List.length_take]; omega))
  have c0 := Box.cell hl 0 _ rfl
  have HL := Lib.hid hl
  have hdl : s.dur.length ≤ 262144 := by have := hf.two; have := hf.hi; omega
  clear h hf
  unfold durs
  rcases rdy_cases s hz with ⟨h0, h1⟩ | ⟨h0, h1⟩
  · rw [h1] at HD
    clear h0 h1 hz
    generalize contV s = x at *
    generalize s.dur.length = n at *
    have hsz := bs_size x
    clear hl
    by_cases hnx : (n : Int) < x.length
    · go_enter Try.func34, Try.ntmps34
      go_wp2_with fail
      refine HD.out.mono ?_
      rintro _ _ ⟨rfl, rfl⟩
      go_wp2_with fail
      refine HC.out.mono ?_
      rintro _ w1 ⟨rfl, hb⟩
      have c1 := Box.cell (HL.out.up hb) 0 _ rfl
      have HB := Lib.hid hb
      clear c0 hb
      go_wp2_with fail
      refine (HY.out w1 HB.out).mono ?_
      rintro _ _ ⟨rfl, rfl⟩
      go_wp2_with fail
      rw [bs_take]
      refine (HR.out w1).mono ?_
      rintro _ w2 ⟨v, rfl, ⟨⟨A, cap, rfl, hv⟩, _⟩, hb2⟩
      go_wp2
      go_ret
      exact ⟨rfl, below_step HB.out hb2⟩
    · rw [show x.take n = x from List.take_of_length_le (by omega)] at HR ⊢
      go_enter Try.func34, Try.ntmps34
      go_wp2_with fail
      refine HD.out.mono ?_
      rintro _ _ ⟨rfl, rfl⟩
      go_wp2_with fail
      refine HC.out.mono ?_
      rintro _ w1 ⟨rfl, hb⟩
      have c1 := Box.cell (HL.out.up hb) 0 _ rfl
      have HB := Lib.hid hb
      clear c0 hb
      go_wp2_with fail
      refine (HY.out w1 HB.out).mono ?_
      rintro _ _ ⟨rfl, rfl⟩
      go_wp2_with fail
      refine (HR.out w1).mono ?_
      rintro _ w2 ⟨v, rfl, ⟨⟨A, cap, rfl, hv⟩, _⟩, hb2⟩
      go_wp2
      go_ret
      exact ⟨rfl, below_step HB.out hb2⟩
  · rw [h1] at HD
    have e1 : contV s = [] := if_neg (by rw [h0]; decide)
    rw [e1, List.take_nil]
    clear h0 h1 hz e1 HC HR HY hx hdl hl
    go_enter Try.func34, Try.ntmps34
    go_wp2_with fail
    refine HD.out.mono ?_
    rintro _ _ ⟨rfl, rfl⟩
    go_wp2
    go_ret
    exact ⟨rfl, Below.refl _ _⟩
end Go.Proofs.Ytjcojgblnbhejaa
