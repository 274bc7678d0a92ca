/- The reference's methods on a disk with blocks beside another one. -/
import Derived.Test.YtjcojgblnbhejaaWL
namespace Go.Proofs.Ytjcojgblnbhejaa
open Go.ChangeShapes Go.WideShapes Go.ChangeAt Go.RowKit

section
variable {w0 w : World} {g r rl : Nat} {s0 s s' : DS} {X : List Aside} {er : Int}
theorem rl_append (t : List UInt8) (h : AtX w0 w g s0 (rX r s :: X)) (hm : rlX rl r ∈ X) (hf : Fit s) (hv : appendV s t = (er, s')) : Calls Try.prog 28 #[.pointer (some ⟨rl, 0, none⟩), .string (bs t)] w fun e w' => e = .returned (.int .i64 er) ∧ AtX w0 w' g s0 (rX r s' :: X) :=
  atx_rleft h fun d => by
    have := rappend_any w rl r s (bs t) (h.box (rlX rl r) (List.mem_cons_of_mem _ hm)) d hf
    rwa [bs_back, hv] at this
theorem rl_sync (h : AtX w0 w g s0 (rX r s :: X)) (hm : rlX rl r ∈ X) (hf : Fit s) (hv : syncV s = (er, s')) : Calls Try.prog 29 #[.pointer (some ⟨rl, 0, none⟩)] w fun e w' => e = .returned (.int .i64 er) ∧ AtX w0 w' g s0 (rX r s' :: X) :=
  atx_rleft h fun d => by
    have := rsyncl_any w rl r s (h.box (rlX rl r) (List.mem_cons_of_mem _ hm)) d hf
    rwa [hv] at this
theorem rl_compact (t : List UInt8) (h : AtX w0 w g s0 (rX r s :: X)) (hm : rlX rl r ∈ X) (hf : Fit s) (hv : compactV s t = (er, s')) : Calls Try.prog 30 #[.pointer (some ⟨rl, 0, none⟩), .string (bs t)] w fun e w' => e = .returned (.int .i64 er) ∧ AtX w0 w' g s0 (rX r s' :: X) := by
  have hne : rl ≠ r := by
    rintro rfl
    have hnd := h.nd
    rw [List.map_cons, List.nodup_cons] at hnd
    exact hnd.1 (List.mem_map.2 ⟨_, hm, rfl⟩)
  exact atx_rleft h fun d => by
    have := rcompact_any w rl r s (bs t) (h.box (rlX rl r) (List.mem_cons_of_mem _ hm)) hne d hf
    rwa [bs_back, hv] at this
theorem rk_crash (k : Int) (h : AtX w0 w g s0 (rX r s :: X)) (hf : Fit s) (hv : crashV s k = (er, s')) : Calls Try.prog 31 #[.pointer (some ⟨r, 0, none⟩), .int .i64 k] w fun e w' => e = .returned (.int .i64 er) ∧ AtX w0 w' g s0 (rX r s' :: X) :=
  atx_rleft h fun d => by
    have := rcrash_any w r k s d hf
    rwa [hv] at this
theorem rk_restart (h : AtX w0 w g s0 (rX r s :: X)) (hf : Fit s) (hv : restartV s = (er, s')) : Calls Try.prog 33 #[.pointer (some ⟨r, 0, none⟩)] w fun e w' => e = .returned (.int .i64 er) ∧ AtX w0 w' g s0 (rX r s' :: X) :=
  atx_rleft h fun d => by
    have := rrestart_any w r s d hf
    rwa [hv] at this
theorem rl_records (h : AtX w0 w g s0 X) (hr : rX r s ∈ X) (hm : rlX rl r ∈ X) (hf : Fit s) (hz : 1 ≤ s.sz) : Calls Try.prog 32 #[.pointer (some ⟨rl, 0, none⟩)] w fun e w' => ∃ v Y, e = .returned v ∧ AtX w0 w' g s0 (Y ++ X) ∧ Held Y v (recs s) :=
  (rrecords_any w rl r s (h.box (rlX rl r) hm) (h.box (rX r s) hr) hf hz).mono fun e w' ⟨⟨v, h1, h2⟩, hb⟩ => by
    obtain ⟨Y, k1, k2⟩ := h.held hb h2
    exact ⟨v, Y, h1, k1, k2⟩
theorem rl_durable (h : AtX w0 w g s0 X) (hr : rX r s ∈ X) (hm : rlX rl r ∈ X) (hf : Fit s) (hz : 1 ≤ s.sz) : Calls Try.prog 34 #[.pointer (some ⟨rl, 0, none⟩)] w fun e w' => e = .returned (.int .i64 (durs s).length) ∧ AtX w0 w' g s0 X :=
  (rdurable_any w rl r s (h.box (rlX rl r) hm) (h.box (rX r s) hr) hf hz).mono fun _e _w' ⟨h1, hb⟩ => ⟨h1, h.up hb⟩
theorem rk_contents (h : AtX w0 w g s0 X) (hr : rX r s ∈ X) (hf : Fit s) : Calls Try.prog 35 #[.pointer (some ⟨r, 0, none⟩)] w fun e w' => e = .returned (.string (bs (contV s))) ∧ AtX w0 w' g s0 X :=
  (rcontents_any w r s (h.box (rX r s) hr) hf).mono fun _e _w' ⟨h1, hb⟩ => ⟨h1, h.up hb⟩
end
theorem rnew_yes (sz : Int) (w : World) (h1 : 1 ≤ sz) (h2 : sz ≤ 262144) : Calls Try.prog 26 #[.int .i64 sz] w fun e w' =>
    e = .returned (.tuple #[.pointer (some ⟨w.heap.size, 0, none⟩), .int .i64 0]) ∧ w' = w.alloc (.cells #[.int .i64 sz, .string ByteArray.empty, .string ByteArray.empty, .bool false, .string ByteArray.empty, .bool false] 66) := by
  go_enter Try.func26, Try.ntmps26
  go_wp2
  go_ret2
  exact ⟨rfl, rfl⟩
theorem rnew_no (sz : Int) (w : World) (h : sz < 1 ∨ (1 ≤ sz ∧ 262144 < sz)) : Calls Try.prog 26 #[.int .i64 sz] w fun e w' => e = .returned (.tuple #[.pointer none, .int .i64 2]) ∧ w = w' := by
  rcases h with h | ⟨h1, h2⟩
  all_goals
    go_enter Try.func26, Try.ntmps26
    go_wp2
    go_ret2
    exact ⟨rfl, rfl⟩
theorem rk_new {w0 w : World} {g : Nat} {s : DS} (sz : Int) (h : AtX w0 w g s []) (h1 : 1 ≤ sz) (h2 : sz ≤ 262144) : Calls Try.prog 26 #[.int .i64 sz] w fun e w' => ∃ r, e = .returned (.tuple #[.pointer (some ⟨r, 0, none⟩), .int .i64 0]) ∧ AtX w0 w' g s [rX r ⟨sz, [], [], false, [], false⟩] :=
  (rnew_yes sz w h1 h2).mono fun e w' ⟨he, hw⟩ => by
    subst hw
    exact ⟨_, he, h.more 66 _⟩
theorem crash_up (s : DS) (k : Int) (hf : Fit s) (hz : 1 ≤ s.sz) : ∃ e1 s1 e2 s2, crashV s k = (e1, s1) ∧ restartV s1 = (e2, s2) ∧ Fit s1 ∧ 1 ≤ s1.sz ∧ Fit s2 ∧ s2.sz = s.sz ∧ (s.down = false → s2.down = false) := by
  rcases h1 : crashV s k with ⟨e1, s1⟩
  rcases h2 : restartV s1 with ⟨e2, s2⟩
  obtain ⟨f1, z1⟩ := crash_fit hf h1
  obtain ⟨f2, z2⟩ := restart_fit f1 h2
  refine ⟨e1, s1, e2, s2, rfl, h2, f1, by omega, f2, by omega, fun hd => ?_⟩
  rcases rdy_cases s1 (by omega) with ⟨h0, hd1⟩ | ⟨h0, hd1⟩
  · unfold restartV at h2
    rw [if_neg (by rw [h0]; decide)] at h2
    injection h2 with _ h2
    rw [← h2]
    exact hd1
  · unfold restartV at h2
    rw [if_pos h0] at h2
    injection h2 with _ h2
    rw [← h2]
end Go.Proofs.Ytjcojgblnbhejaa
