/- WalAppends: the walk. -/
import Derived.Test.YtjcojgblnbhejaaWK
namespace Go.Proofs.Ytjcojgblnbhejaa
open Go.ChangeShapes Go.WideShapes Go.ChangeAt Go.RowKit
attribute [local go_sem] ownAtC ownUponC

def ArgS (W : World) (A : Option Addr) (n cap : Nat) (l : List (List UInt8)) : Prop := l.length = n ∧ Strs W (.slice A n cap) l ∧ (∀ y ∈ l, y.length ≤ 140737488355328) ∧ n ≤ 140737488355328
theorem joinL_bound (l : List (List UInt8)) (h : ∀ x ∈ l, x.length ≤ 1000) : (joinL l).length ≤ 1008 * l.length := by
  induction l with
  | nil => exact Nat.le_refl _
  | cons b l ih =>
    have hj : joinL (b :: l) = sealL b ++ joinL l := by simp [joinL]
    have h1 := ih (fun x hx => h x (List.mem_cons_of_mem _ hx))
    have h2 := h b List.mem_cons_self
    rw [hj, List.length_append, sealL_len, List.length_cons]
    omega
def AppRel (W : World) (g lg n : Nat) (l : List (List UInt8)) (i : Value) (wr : World) : Prop := ∃ (k : Nat) (s : DS), i = .int .i64 k ∧ k ≤ n ∧ AtX W wr g s [lgX lg g] ∧ Holds s [] (l.take k) ∧ s.sz = 50000 ∧ ∀ x ∈ l.take k, x.length ≤ 1000
set_option maxRecDepth 100000 in
set_option maxHeartbeats 4000000 in
theorem walAppends_walk (A : Option Addr) (n cap : Nat) (l : List (List UInt8)) (t : ByteArray) (W : World) (harg : ArgS W A n cap l) {p1 : Prop} (_ : p1) : Calls Try.prog 3 #[.slice A n cap, .string t] W fun e w' => e = .returned (.bool true) ∧ Below W.heap.size W w' := by
  obtain ⟨hn, hs, _, hmax⟩ := harg
  rw [bs_list t]
  generalize t.data.toList = rec
  have hrs := bs_size rec
  have HS := Lib.hid hs
  have HN := Lib.hid hn
  have H0 := Lib.hid (Holds.made 50000 (by decide) (by decide))
  have hc : n ≤ cap := by
    obtain ⟨_, _, e, _, _, h⟩ := hs
    injection e with _ e1 e2
    omega
  clear hs hn
  go_enter Try.func3, Try.ntmps3
  go_wp2_with fail
  refine (dk_new (w0 := W) 50000 (Below.refl _ _) (by decide) (by decide)).mono ?_
  rintro _ w1 ⟨g, rfl, h1⟩
  go_wp2_with fail
  refine (atx_open h1 H0.out.fit H0.out.sz H0.out.down).mono ?_
  clear h1
  rintro _ w2 ⟨lg, rfl, h2⟩
  rw [H0.out.opened] at h2
  have HI := Lib.hid (show lgX lg g ∈ [lgX lg g] from List.mem_cons_self)
  by_cases hno : (10 : Int) < n ∨ (1000 : Int) < rec.length
  · have HB := Lib.hid h2.below
    clear h2
    by_cases h10 : (10 : Int) < n
    · go_wp2_with fail
      refine (awake_any _).mono ?_
      rintro _ w4 ⟨rfl, hb⟩
      go_wp2
      go_ret
      exact ⟨rfl, below_step HB.out hb⟩
    · have h1000 : (1000 : Int) < rec.length := hno.resolve_left h10
      clear hno
      go_wp2_with fail
      refine (awake_any _).mono ?_
      rintro _ w4 ⟨rfl, hb⟩
      go_wp2
      go_ret
      exact ⟨rfl, below_step HB.out hb⟩
  have hn10 : (n : Int) ≤ 10 := by omega
  have hr1000 : (rec.length : Int) ≤ 1000 := by omega
  clear hno
  go_wp2
  go_loopw [34] (AppRel W g lg n l) (fun i _ => n - (intOf i).toNat)
  case atStart => exact ⟨0, _, rfl, by omega, h2, H0.out, rfl, fun x hx => by cases hx⟩
  case round =>
  clear h2
  obtain ⟨k, s, rfl, hk, h, hh, hsz, hall⟩ := hrel
  by_cases hlt : k < n
  · have hst := HS.out
    obtain ⟨A', cap', he, hseg, _, _⟩ := hst
    injection he with e1 e2 e3
    subst e1 e3
    obtain ⟨b1, o1, rfl, hb1, q0⟩ := hseg k (by rw [HN.out]; exact hlt)
    clear hseg e2
    unfold strs at q0
    generalize hx : l.getD k [] = x at *
    have hxs := bs_size x
    by_cases hbig : (1000 : Int) < x.length
    · have hB := h.below
      have HB := Lib.hid hB
      replace q0 := (hB.cell (p := ⟨b1, o1 + k, none⟩) hb1).trans q0
      have hb2 : b1 < wr.heap.size := Nat.lt_of_lt_of_le hb1 hB.size
      clear hB h hh hall hx
      go_wp2_with fail
      refine (awake_any _).mono ?_
      rintro _ w4 ⟨rfl, hb⟩
      go_wp2
      go_ret
      exact ⟨rfl, below_step HB.out hb⟩
    · have htk : l.take (k + 1) = l.take k ++ [x] := by rw [take_getD l k (by rw [HN.out]; exact hlt), hx]
      have hlen : (joinL ([] ++ l.take k)).length ≤ 1008 * k := by
        have h1 := joinL_bound (l.take k) hall
        rw [List.length_take, HN.out, Nat.min_eq_left hk] at h1
        exact h1
      obtain ⟨s', e', hh', z'⟩ := hh.append x (by omega) (by rw [hsz]; omega)
      rw [← htk] at hh'
      have hall' : ∀ y ∈ l.take (k + 1), y.length ≤ 1000 := by
        intro y hy
        rw [htk] at hy
        rcases List.mem_append.1 hy with hy | hy
        · exact hall y hy
        · rw [List.mem_singleton.1 hy]; omega
      have HH := Lib.hid (And.intro e' (And.intro hh' (And.intro (z'.trans hsz) hall')))
      have HF := Lib.hid hh.fit
      have hB := h.below
      have q0' := (hB.cell (p := ⟨b1, o1 + k, none⟩) hb1).trans q0
      have hb2 : b1 < wr.heap.size := Nat.lt_of_lt_of_le hb1 hB.size
      have hk1 : IntKind.i64.wrap ((k : Int) + 1) = ((k + 1 : Nat) : Int) := by rw [IntKind.wrap_i64]; omega
      clear e' hh' hh hall hall' htk hlen hB hx
      go_upto_region 14 with fail
      clear q0'
      let c : Cls := ⟨fun w => Below W.heap.size W w, wr, h.below, fun h k => below_step h k⟩
      have j0 : ∀ i : IdxC c, i.at.cell? ⟨b1, o1 + k, none⟩ = some (.string (bs x)) := fun i => (i.prop.cell (p := ⟨b1, o1 + k, none⟩) hb1).trans q0
      clear q0
      refine wp_region_mixC (c := c) [0, 0, 0, 0, 0, 2, 0, 0, 0, 2, 0, 0, 0, 0, 2, 0, 0] [0, 1, 2, 3, 4, 5, 6, 7, 8, 10, 11, 12, 13, 9, 14, 15, 16] (by kernel_rfl) (by kernel_rfl) rfl ?_
      iterate 5 (refine wpMixC_calm (fun K hK => ?_); go_simp; refine hK _ ?_; clear hK K)
      refine wpMixC_own (fun wa hb K hK => ?_)
      replace h := h.up hb
      clear hb
      go_simp
      go_at_call 12
      refine (lg_append x h HI.out HF.out HH.out.1).mono ?_
      clear h
      rintro _ wb ⟨rfl, h⟩
      refine ⟨_, rfl, h.below, hK _ _ ?_⟩
      clear hK K
      have hk2 : (k : Int) + 1 ≤ cap := by omega
      have hk3 : (0 : Int) ≤ (k : Int) + 1 := by omega
      iterate 7 (refine wpMixC_calm (fun K hK => ?_); go_simp; refine hK _ ?_; clear hK K)
      refine wpMixC_own (fun wa hb K hK => ?_)
      replace h := h.up hb
      clear hb
      go_simp
      go_at_call 14
      refine (lg_records h HI.out HH.out.2.1.fit HH.out.2.1.sz).mono ?_
      clear h
      rintro _ wb ⟨v, Y, rfl, h, hs⟩
      rw [HH.out.2.1.recs] at hs
      refine ⟨_, rfl, h.below, hK _ _ ?_⟩
      clear hK K
      refine wpMixC_own (fun wa hb K hK => ?_)
      replace h := h.up hb
      clear hb
      go_simp
      go_at_call 13
      refine (same_any _ _ _ _ _ (h.strs hs (fun x hx => List.mem_append_left _ hx)) ((HS.out.up h.below).take (k + 1) (by omega)) (by rw [List.nil_append, List.length_take]; omega)).mono ?_
      rintro _ wc ⟨rfl, hb⟩
      rw [show decide ([] ++ l.take (k + 1) = l.take (k + 1)) = true from decide_eq_true rfl]
      replace h := h.up hb
      clear hb
      refine ⟨_, rfl, h.below, hK _ _ ?_⟩
      clear hK K
      iterate 2 (refine wpMixC_calm (fun K hK => ?_); go_simp; refine hK _ ?_; clear hK K)
      refine wpMixC_nil (fun wd hb => ?_)
      replace h := (h.up hb).sub (List.sublist_append_right _ _)
      clear hb hs
      go_wp2
      go_roundw
      case rel => exact ⟨k + 1, s', by go_num, by omega, h, HH.out.2.1, HH.out.2.2.1, HH.out.2.2.2⟩
      case measure => simp [intOf]; omega
  · obtain rfl : k = n := by omega
    have htl : l.take k = l := List.take_of_length_le (by rw [HN.out]; exact Nat.le_refl _)
    rw [htl] at hh
    obtain ⟨s', e', hh', z'⟩ := hh.compact rec (by omega) (by rw [hsz]; omega)
    have HH := Lib.hid (And.intro e' hh')
    have HF := Lib.hid hh.fit
    clear e' hh' hh hall htl z'
    go_wp2_with fail
    refine (lg_compact rec h HI.out HF.out HH.out.1).mono ?_
    clear h
    rintro _ w4 ⟨rfl, h⟩
    go_wp2_with fail
    refine (lg_records h HI.out HH.out.2.fit HH.out.2.sz).mono ?_
    clear h
    rintro _ w5 ⟨v, Y, rfl, h, hs⟩
    rw [HH.out.2.recs] at hs
    have hst := h.strs hs (fun x hx => List.mem_append_left _ hx)
    replace h := h.sub (List.sublist_append_right _ _)
    clear hs
    go_wp2_with fail
    have hb12 := below_box (Below.refl w5.heap.size w5) (.cells #[.string (bs rec)] 9)
    refine (same_any _ _ _ [rec] _ (hst.up hb12) (strs_new1 w5 rec) (by simp)).mono ?_
    rintro _ w6 ⟨rfl, hb6⟩
    replace h := (h.up hb12).up hb6
    clear hst hb12 hb6
    rw [show decide ([rec] ++ [] = [rec]) = true from decide_eq_true rfl]
    go_wp2_with fail
    refine (lg_durable h HI.out HH.out.2.fit HH.out.2.sz).mono ?_
    clear h
    rintro _ w7 ⟨rfl, h, _⟩
    rw [HH.out.2.durs]
    replace h := h.below
    go_wp2_with fail
    refine (awake_any _).mono ?_
    rintro _ w8 ⟨rfl, hb⟩
    go_wp2
    go_ret
    exact ⟨rfl, below_step h hb⟩
end Go.Proofs.Ytjcojgblnbhejaa
