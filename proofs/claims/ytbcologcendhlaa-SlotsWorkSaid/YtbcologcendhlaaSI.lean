/- Slots behind a world; slots that New did not return; the examples (awake); SlotsNil: the walks. -/
import Derived.Test.YtbcologcendhlaaSH
namespace Go.Proofs.Ytbcologcendhlaa
open Go.ChangeShapes Go.WideShapes Go.ChangeAt Go.RowKit
open Go.Maps (Keyed)
attribute [local go_sem] eqnil eqnil0

structure S1 (w0 w : World) (p br bu N : Nat) (st : SS) : Prop where
  sl : SlotsAt w p br bu N st
  below : Below w0.heap.size w0 w
  lp : w0.heap.size ≤ p
  lbr : w0.heap.size ≤ br
  lbu : w0.heap.size ≤ bu
section
variable {w0 w w' : World} {p br bu N : Nat} {st st' : SS} {least : Int}
theorem S1.up (h : S1 w0 w p br bu N st) (hb : Below w.heap.size w w') : S1 w0 w' p br bu N st := ⟨h.sl.up hb, below_step h.below hb, h.lp, h.lbr, h.lbu⟩
theorem s1_changed {er : Int} {e : Ending} (h : S1 w0 w p br bu N st) (k : Changed p br bu (N + 1) er st' w e w') : e = .returned (.int .i64 er) ∧ S1 w0 w' p br bu (N + 1) st' := by
  obtain ⟨he, k1, k2⟩ := k
  exact ⟨he, k1, h.below.trans (k2.below (fun b hb => by rw [List.mem_singleton.1 hb]; exact h.lbu) h.below.size), h.lp, h.lbr, h.lbu⟩
theorem s1_acquire {er : Int} (s : Key) (h : S1 w0 w p br bu N st) (hg : Good least st) (hl : s.length ≤ 1000000) (hN : N ≤ 1000000) (hv : acqV st s = (er, st')) : Calls Try.prog 24 #[.pointer (some ⟨p, 0, none⟩), .string (bs s)] w fun e w' => e = .returned (.int .i64 er) ∧ S1 w0 w' p br bu (N + 1) st' := by
  have := acquire_any w p br bu N st least s h.sl hg hl hN
  rw [hv] at this
  exact this.mono fun e w' k => s1_changed h k
theorem s1_release {er : Int} (s : Key) (h : S1 w0 w p br bu N st) (hg : Good least st) (hl : s.length ≤ 1000000) (hN : N ≤ 1000000) (hv : relV st s = (er, st')) : Calls Try.prog 25 #[.pointer (some ⟨p, 0, none⟩), .string (bs s)] w fun e w' => e = .returned (.int .i64 er) ∧ S1 w0 w' p br bu (N + 1) st' := by
  have := release_any w p br bu N st least s h.sl hg hl hN
  rw [hv] at this
  exact this.mono fun e w' k => s1_changed h k
theorem s1_used (s : Key) (h : S1 w0 w p br bu N st) (hl : s.length ≤ 1000000) : Calls Try.prog 18 #[.pointer (some ⟨p, 0, none⟩), .string (bs s)] w fun e w' => e = .returned (.int .i64 (usedV st s)) ∧ S1 w0 w' p br bu N st :=
  (used_any w p br bu N st s h.sl hl).mono fun _ _ ⟨he, hb⟩ => ⟨he, h.up hb⟩
theorem s1_free (s : Key) (h : S1 w0 w p br bu N st) (hg : Good least st) (hl : s.length ≤ 1000000) : Calls Try.prog 20 #[.pointer (some ⟨p, 0, none⟩), .string (bs s)] w fun e w' => e = .returned (.int .i64 (freeV st s)) ∧ S1 w0 w' p br bu N st :=
  (free_any w p br bu N st least s h.sl hg hl).mono fun _ _ ⟨he, hb⟩ => ⟨he, h.up hb⟩
theorem s1_total (h : S1 w0 w p br bu N st) (hg : Good least st) : Calls Try.prog 16 #[.pointer (some ⟨p, 0, none⟩)] w fun e w' => e = .returned (.tuple #[.int .i64 (wsum all st.U), .int .i64 st.total]) ∧ S1 w0 w' p br bu N st :=
  (total_any w p br bu N st least h.sl hg).mono fun _ _ ⟨he, hb⟩ => ⟨he, h.up hb⟩
end
theorem s1_new {w0 w : World} (total least : Int) (A : Option Addr) (ca : Nat) (R : KL) (hB : Below w0.heap.size w0 w) (hR : Seg w A (R.length * 2) (rCell R)) (hlen : ∀ p ∈ R, p.1.length ≤ 300) (hc : checkV total least R = 0) : Calls Try.prog 10 #[.int .i64 total, .int .i64 least, .slice A R.length ca] w fun e w' => ∃ p br bu, e = .returned (.tuple #[.pointer (some ⟨p, 0, none⟩), .int .i64 0]) ∧ S1 w0 w' p br bu 0 ⟨total, R, []⟩ := by
  have HC := check_any total least A ca R w hR hlen
  rw [hc] at HC
  refine (new_yes total least A ca R w hR (check_ok hc) (Lib.hid HC)).mono fun e w' ⟨p, br, bu, he, h1, h2, h3, h4, h5⟩ => ⟨p, br, bu, he, h1, below_step hB h2, ?_, ?_, ?_⟩
  all_goals
    have := hB.size
    omega
/-- The two kinds of slots that New did not return. -/
def Unmade (v : Value) (w : World) : Prop := v = .pointer none ∨ ∃ p, v = .pointer (some ⟨p, 0, none⟩) ∧ Box w p 53 #[.int .i64 0, .int .i64 0, .map none, .map none]
theorem check_un (v : Value) (t : ByteArray) (w : World) (h : Unmade v w) : Calls Try.prog 31 #[v, .string t] w fun e w' => e = .returned (.int .i64 10) ∧ w = w' := by
  rcases h with rfl | ⟨p, rfl, h⟩
  · exact checkm_nil t w
  · exact checkm_zero t w p h
theorem acquire_un (v : Value) (t : ByteArray) (w : World) (h : Unmade v w) : Calls Try.prog 24 #[v, .string t] w fun e w' => e = .returned (.int .i64 10) ∧ w = w' := by
  have HK := Lib.hid (check_un v t w h)
  clear h
  go_enter Try.func24, Try.ntmps24
  go_wp2_with fail
  refine HK.out.mono ?_
  rintro _ _ ⟨rfl, rfl⟩
  go_wp2
  go_ret
  exact ⟨rfl, rfl⟩
theorem release_un (v : Value) (t : ByteArray) (w : World) (h : Unmade v w) : Calls Try.prog 25 #[v, .string t] w fun e w' => e = .returned (.int .i64 10) ∧ w = w' := by
  have HK := Lib.hid (check_un v t w h)
  clear h
  go_enter Try.func25, Try.ntmps25
  go_wp2_with fail
  refine HK.out.mono ?_
  rintro _ _ ⟨rfl, rfl⟩
  go_wp2
  go_ret
  exact ⟨rfl, rfl⟩
theorem used_un (v : Value) (t : ByteArray) (w : World) (h : Unmade v w) : Calls Try.prog 18 #[v, .string t] w fun e w' => e = .returned (.int .i64 0) ∧ w = w' := by
  have HK := Lib.hid (check_un v t w h)
  clear h
  go_enter Try.func18, Try.ntmps18
  go_wp2_with fail
  refine HK.out.mono ?_
  rintro _ _ ⟨rfl, rfl⟩
  go_wp2
  go_ret
  exact ⟨rfl, rfl⟩
theorem free_un (v : Value) (t : ByteArray) (w : World) (h : Unmade v w) : Calls Try.prog 20 #[v, .string t] w fun e w' => e = .returned (.int .i64 0) ∧ w = w' := by
  have HK := Lib.hid (check_un v t w h)
  clear h
  go_enter Try.func20, Try.ntmps20
  go_wp2_with fail
  refine HK.out.mono ?_
  rintro _ _ ⟨rfl, rfl⟩
  go_wp2
  go_ret
  exact ⟨rfl, rfl⟩
theorem total_un (v : Value) (w : World) (h : Unmade v w) : Calls Try.prog 16 #[v] w fun e w' => e = .returned (.tuple #[.int .i64 0, .int .i64 0]) ∧ w = w' := by
  rcases h with rfl | ⟨p, rfl, h⟩
  · go_enter Try.func16, Try.ntmps16
    go_wp2
    go_ret2
    exact ⟨rfl, rfl⟩
  · have c3 := h.cell 3 _ rfl
    clear h
    go_enter Try.func16, Try.ntmps16
    go_wp2
    go_ret2
    exact ⟨rfl, rfl⟩
theorem none_any (v : Value) (t : ByteArray) (w : World) (h : Unmade v w) : Calls Try.prog 28 #[v, .string t] w fun e w' => e = .returned (.bool true) ∧ w = w' := by
  have HT := Lib.hid (total_un v w h)
  have HA := Lib.hid (acquire_un v t w h)
  have HR := Lib.hid (release_un v t w h)
  have HU := Lib.hid (used_un v t w h)
  have HF := Lib.hid (free_un v t w h)
  clear h
  go_enter Try.func28, Try.ntmps28
  go_wp2_with fail
  refine HT.out.mono ?_
  rintro _ _ ⟨rfl, rfl⟩
  go_wp2_with fail
  refine HA.out.mono ?_
  rintro _ _ ⟨rfl, rfl⟩
  go_wp2_with fail
  refine HR.out.mono ?_
  rintro _ _ ⟨rfl, rfl⟩
  go_wp2_with fail
  refine HU.out.mono ?_
  rintro _ _ ⟨rfl, rfl⟩
  go_wp2_with fail
  refine HF.out.mono ?_
  rintro _ _ ⟨rfl, rfl⟩
  go_wp2
  go_ret
  exact ⟨rfl, rfl⟩
theorem res_new1 (w : World) (a : Key) (x : Int) (t : TypeId) : Seg (w.alloc (.cells #[.string (bs a), .int .i64 x] t)) (some ⟨w.heap.size, 0, none⟩) ([(a, x)].length * 2) (rCell [(a, x)]) := by
  intro k hk
  have hb := Box.new w t #[.string (bs a), .int .i64 x]
  refine ⟨w.heap.size, 0, rfl, (by simp), ?_⟩
  match k, hk with
  | 0, _ => exact hb.cell 0 _ rfl
  | 1, _ => exact hb.cell 1 _ rfl
theorem res_new2 (w : World) (a b : Key) (x y : Int) (t : TypeId) : Seg (w.alloc (.cells #[.string (bs a), .int .i64 x, .string (bs b), .int .i64 y] t)) (some ⟨w.heap.size, 0, none⟩) ([(a, x), (b, y)].length * 2) (rCell [(a, x), (b, y)]) := by
  intro k hk
  have hb := Box.new w t #[.string (bs a), .int .i64 x, .string (bs b), .int .i64 y]
  refine ⟨w.heap.size, 0, rfl, (by simp), ?_⟩
  match k, hk with
  | 0, _ => exact hb.cell 0 _ rfl
  | 1, _ => exact hb.cell 1 _ rfl
  | 2, _ => exact hb.cell 2 _ rfl
  | 3, _ => exact hb.cell 3 _ rfl
def exR : KL := [([102], 3)]
theorem ex_good (n : Int) (h : n = 0 ∨ n = 1 ∨ n = 2 ∨ n = 3) : Good 1 ⟨5, exR, if n = 0 then [] else [([102], n)]⟩ := by
  have h0 : Good 1 ⟨5, exR, []⟩ := Good.made (check_ok (by decide))
  rcases h with rfl | rfl | rfl | rfl
  · exact h0
  · have := good_acq h0 [102]
    rwa [show (acqV ⟨5, exR, []⟩ [102]).2 = ⟨5, exR, [([102], 1)]⟩ by rfl] at this
  · have := good_acq (good_acq h0 [102]) [102]
    rwa [show (acqV (acqV ⟨5, exR, []⟩ [102]).2 [102]).2 = ⟨5, exR, [([102], 2)]⟩ by rfl] at this
  · have := good_acq (good_acq (good_acq h0 [102]) [102]) [102]
    rwa [show (acqV (acqV (acqV ⟨5, exR, []⟩ [102]).2 [102]).2 [102]).2 = ⟨5, exR, [([102], 3)]⟩ by rfl] at this
set_option maxRecDepth 100000 in
set_option maxHeartbeats 4000000 in
theorem awake_any (w : World) : Calls Try.prog 9 #[] w fun e w' => e = .returned (.bool true) ∧ Below w.heap.size w w' := by
  have G0 := Lib.hid (ex_good 0 (by decide))
  have G1 := Lib.hid (ex_good 1 (by decide))
  have G2 := Lib.hid (ex_good 2 (by decide))
  have G3 := Lib.hid (ex_good 3 (by decide))
  go_enter Try.func9, Try.ntmps9
  go_wp2_with fail
  refine (s1_new (w0 := w) 5 1 _ 1 [([102], 3)] (below_box (Below.refl _ _) _) (res_new1 w [102] 3 47) (by decide) (by decide)).mono ?_
  rintro _ w1 ⟨p, br, bu, rfl, h⟩
  go_wp2_with fail
  refine wp_loop_rounds 4 ?_
  rw [rounds_succ]
  go_wp2_with fail
  refine (s1_acquire (least := 1) (er := 0) (st' := ⟨5, exR, [([102], 1)]⟩) [102] h G0.out (by decide) (by decide) (by rfl)).mono ?_
  clear h
  rintro _ w2 ⟨rfl, h⟩
  go_wp2_with fail
  rw [rounds_succ]
  go_wp2_with fail
  refine (s1_acquire (least := 1) (er := 0) (st' := ⟨5, exR, [([102], 2)]⟩) [102] h G1.out (by decide) (by decide) (by rfl)).mono ?_
  clear h
  rintro _ w3 ⟨rfl, h⟩
  go_wp2_with fail
  rw [rounds_succ]
  go_wp2_with fail
  refine (s1_acquire (least := 1) (er := 0) (st' := ⟨5, exR, [([102], 3)]⟩) [102] h G2.out (by decide) (by decide) (by rfl)).mono ?_
  clear h
  rintro _ w4 ⟨rfl, h⟩
  go_wp2_with fail
  rw [rounds_succ]
  go_wp2_with fail
  refine (s1_total h G3.out).mono ?_
  clear h
  rintro _ w5 ⟨rfl, h⟩
  rw [show wsum all (⟨5, exR, [([102], 3)]⟩ : SS).U = 3 by rfl, show (⟨5, exR, [([102], 3)]⟩ : SS).total = 5 by rfl]
  go_wp2_with fail
  refine (s1_acquire (least := 1) (er := 17) (st' := ⟨5, exR, [([102], 3)]⟩) [102] h G3.out (by decide) (by decide) (by rfl)).mono ?_
  clear h
  rintro _ w6 ⟨rfl, h⟩
  go_wp2_with fail
  refine (s1_free (least := 1) [103] h G3.out (by decide)).mono ?_
  clear h
  rintro _ w7 ⟨rfl, h⟩
  rw [show freeV ⟨5, exR, [([102], 3)]⟩ [103] = 2 by rfl]
  go_wp2_with fail
  refine (s1_used [102] h (by decide)).mono ?_
  clear h
  rintro _ w8 ⟨rfl, h⟩
  rw [show usedV ⟨5, exR, [([102], 3)]⟩ [102] = 3 by rfl]
  go_wp2_with fail
  refine (s1_release (least := 1) (er := 5) (st' := ⟨5, exR, [([102], 3)]⟩) [103] h G3.out (by decide) (by decide) (by rfl)).mono ?_
  clear h
  rintro _ w9 ⟨rfl, h⟩
  have HB := Lib.hid h.below
  clear h
  go_wp2_with fail
  refine (check_any 5 2 _ 2 [([102], 3), ([103], 1)] _ (res_new2 w9 [102] [103] 3 1 47) (by decide)).mono ?_
  rintro _ w10 ⟨rfl, hb⟩
  rw [show checkV 5 2 [([102], 3), ([103], 1)] = 3 by rfl]
  replace hb := below_step (below_box (Below.refl w9.heap.size w9) _) hb
  go_wp2
  go_ret
  exact ⟨rfl, below_step HB.out hb⟩
theorem slotsNil_walk (t : ByteArray) (W : World) {p0 : Prop} (_ : p0) : Calls Try.prog 7 #[.string t] W fun e w' => e = .returned (.bool true) ∧ Below W.heap.size W w' := by
  by_cases h : (300 : Int) < t.size
  · go_enter Try.func7, Try.ntmps7
    go_wp2_with fail
    refine (awake_any _).mono ?_
    rintro _ w1 ⟨rfl, hb⟩
    go_wp2
    go_ret
    exact ⟨rfl, hb⟩
  · have hb1 := below_box (Below.refl _ W) (.cells #[.int .i64 0, .int .i64 0, .map none, .map none] 53)
    have hx := Box.new W 53 #[.int .i64 0, .int .i64 0, .map none, .map none]
    have HK := Lib.hid (And.intro hb1 hx)
    clear hb1 hx
    go_enter Try.func7, Try.ntmps7
    go_wp2_with fail
    refine (none_any _ _ _ (.inl rfl)).mono ?_
    rintro _ _ ⟨rfl, rfl⟩
    go_wp2_with fail
    refine (none_any _ _ _ (.inr ⟨_, rfl, HK.out.2⟩)).mono ?_
    rintro _ _ ⟨rfl, rfl⟩
    go_wp2_with fail
    refine (awake_any _).mono ?_
    rintro _ w1 ⟨rfl, hb⟩
    go_wp2
    go_ret
    exact ⟨rfl, below_step HK.out.1 hb⟩
end Go.Proofs.Ytbcologcendhlaa
