/- DiskDoes: the walk. -/
import Derived.Test.YtfejnkgckbcddaaDM
namespace Go.Proofs.Ytfejnkgckbcddaa
open Go.ChangeShapes Go.WideShapes Go.ChangeAt Go.RowKit
attribute [local go_sem] ownAtC ownUponC

/-- The program's disk and the reference's beside each other. -/
def Two (w0 w : World) (g r : Nat) (s s2 : DS) : Prop := ∃ F, DiskAt w g F s ∧ RefAt w r s2 ∧ Below w0.heap.size w0 w ∧ (∀ b ∈ F, w0.heap.size ≤ b) ∧ w0.heap.size ≤ r ∧ r ∉ F
theorem Two.below {w0 w : World} {g r : Nat} {s s2 : DS} (h : Two w0 w g r s s2) : Below w0.heap.size w0 w := by obtain ⟨_, _, _, h, _⟩ := h; exact h
theorem Two.up {w0 w w' : World} {g r : Nat} {s s2 : DS} (h : Two w0 w g r s s2) (hb : Below w.heap.size w w') : Two w0 w' g r s s2 := by
  obtain ⟨F, h1, h2, h3, h4⟩ := h
  exact ⟨F, h1.up hb, h2.up hb, below_step h3 hb, h4⟩
theorem two_do {w0 w : World} {g r : Nat} {s s2 s' : DS} {er : Int} (k n : Int) (t : ByteArray) (h : Two w0 w g r s s2) (hf : Fit s) (hv : doV s k t.data.toList n = (er, s')) : Calls Try.prog 10 #[.pointer (some ⟨g, 0, none⟩), .agg #[.int .i64 k, .string t, .int .i64 n]] w fun e w' => e = .returned (.int .i64 er) ∧ Two w0 w' g r s' s2 := by
  obtain ⟨F, h1, h2, h3, h4, h5, h6⟩ := h
  have hd := do_any w g F s k n t h1 hf
  rw [hv] at hd
  refine hd.mono fun e w' ⟨he, F', k1, k2, k3⟩ => ⟨he, F', k1, Box.only h2 k2 h6, h3.trans (k2.below h4 h3.size), fun b hb => ?_, h5, fun hr => ?_⟩
  · rcases k3 b hb with h | h
    · exact h4 b h
    · exact Nat.le_trans h3.size h
  · have := Box.lt h2
    rcases k3 r hr with h | h
    · exact h6 h
    · omega
theorem two_does {w0 w : World} {g r : Nat} {s s2 s' : DS} {er : Int} (k n : Int) (t : ByteArray) (h : Two w0 w g r s s2) (hf : Fit s2) (ht : t.size ≤ 1000000) (hv : doV s2 k t.data.toList n = (er, s')) : Calls Try.prog 11 #[.pointer (some ⟨r, 0, none⟩), .agg #[.int .i64 k, .string t, .int .i64 n]] w fun e w' => e = .returned (.int .i64 er) ∧ Two w0 w' g r s s' := by
  obtain ⟨F, h1, h2, h3, h4, h5, h6⟩ := h
  have hd := does_any w r s2 k n t h2 hf ht
  rw [hv] at hd
  exact hd.mono fun e w' ⟨he, k1, k2⟩ => ⟨he, F, h1.far k2 (fun b hb hm => by (simp only [List.mem_singleton] at hm; subst hm; exact h6 hb)), k1, h3.trans (k2.below (fun b hb => by (simp only [List.mem_singleton] at hb; subst hb; exact h5)) h3.size), h4, h5, h6⟩
theorem two_rnew {w0 w : World} {g : Nat} {s : DS} (sz : Int) (h : At w0 w g s) (h1 : 1 ≤ sz) (h2 : sz ≤ 262144) : Calls Try.prog 7 #[.int .i64 sz] w fun e w' => ∃ r, e = .returned (.tuple #[.pointer (some ⟨r, 0, none⟩), .int .i64 0]) ∧ Two w0 w' g r s ⟨sz, [], [], false, [], false⟩ := by
  obtain ⟨F, k1, k2, k3⟩ := h
  refine (rnew_yes sz w h1 h2).mono fun e w' ⟨he, hw⟩ => ?_
  subst hw
  have hl : ∀ b ∈ F, b < w.heap.size := by obtain ⟨_, _, _, _, _, _, _, _, _, _, _, _, _, h11⟩ := k1; exact h11
  exact ⟨_, he, F, k1.up (below_box (Below.refl _ _) _), Box.new w 46 _, below_box k2 _, k3, k2.size, fun h => by have := hl _ h; omega⟩
theorem new_fit (sz : Int) (h1 : 1 ≤ sz) (h2 : sz ≤ 262144) : Fit ⟨sz, [], [], false, [], false⟩ := ⟨by show 0 ≤ sz; omega, h2, by show ((0 + 0 : Nat) : Int) ≤ sz; omega, by show ((0 : Nat) : Int) ≤ sz; omega⟩
theorem two_calm {w0 w : World} {g r : Nat} {s s2 : DS} {f : FuncId} {args : Array Value} {v : Value} (h : Two w0 w g r s s2) (k : Calls Try.prog f args w fun e w' => e = .returned v ∧ Below w.heap.size w w') : Calls Try.prog f args w fun e w' => e = .returned v ∧ Two w0 w' g r s s2 :=
  k.mono fun _ _ ⟨he, hb⟩ => ⟨he, h.up hb⟩
theorem two_contents {w0 w : World} {g r : Nat} {s s2 : DS} (h : Two w0 w g r s s2) (hf : Fit s) : Calls Try.prog 12 #[.pointer (some ⟨g, 0, none⟩)] w fun e w' => e = .returned (.string (bs (contV s))) ∧ Two w0 w' g r s s2 :=
  two_calm h (by obtain ⟨F, h1, _⟩ := h; exact Contents_any w g F s h1 hf)
theorem two_rcontents {w0 w : World} {g r : Nat} {s s2 : DS} (h : Two w0 w g r s s2) (hf : Fit s2) : Calls Try.prog 13 #[.pointer (some ⟨r, 0, none⟩)] w fun e w' => e = .returned (.string (bs (contV s2))) ∧ Two w0 w' g r s s2 :=
  two_calm h (by obtain ⟨F, _, h2, _⟩ := h; exact rcontents_any w r s2 h2 hf)
theorem two_synced {w0 w : World} {g r : Nat} {s s2 : DS} (h : Two w0 w g r s s2) : Calls Try.prog 14 #[.pointer (some ⟨g, 0, none⟩)] w fun e w' => e = .returned (.int .i64 (if s.sz = 0 then 0 else s.dur.length)) ∧ Two w0 w' g r s s2 :=
  two_calm h (by obtain ⟨F, h1, _⟩ := h; exact (synced_any w g F s h1).mono fun _ _ ⟨he, hw⟩ => by subst hw; exact ⟨he, Below.refl _ _⟩)
theorem two_rsynced {w0 w : World} {g r : Nat} {s s2 : DS} (h : Two w0 w g r s s2) (hf : Fit s2) : Calls Try.prog 15 #[.pointer (some ⟨r, 0, none⟩)] w fun e w' => e = .returned (.int .i64 (if s2.sz = 0 then 0 else s2.dur.length)) ∧ Two w0 w' g r s s2 :=
  two_calm h (by obtain ⟨F, _, h2, _⟩ := h; exact (rsynced_box w r s2.sz _ _ _ _ _ h2 hf.lo).mono fun _ _ ⟨he, hw⟩ => by subst hw; rw [bs_size] at he; exact ⟨he, Below.refl _ _⟩)
theorem two_down {w0 w : World} {g r : Nat} {s s2 : DS} (h : Two w0 w g r s s2) (hz : 1 ≤ s.sz) : Calls Try.prog 16 #[.pointer (some ⟨g, 0, none⟩)] w fun e w' => e = .returned (.bool s.down) ∧ Two w0 w' g r s s2 :=
  two_calm h (by
    obtain ⟨F, h1, _⟩ := h
    refine (down_any w g F s h1).mono fun _ _ ⟨he, hw⟩ => ?_
    subst hw
    refine ⟨?_, Below.refl _ _⟩
    rw [he]
    unfold rdy
    rw [if_neg (by omega)]
    cases s.down <;> rfl)
theorem two_rdown {w0 w : World} {g r : Nat} {s s2 : DS} (h : Two w0 w g r s s2) (hz : 1 ≤ s2.sz) : Calls Try.prog 17 #[.pointer (some ⟨r, 0, none⟩)] w fun e w' => e = .returned (.bool s2.down) ∧ Two w0 w' g r s s2 :=
  two_calm h (by obtain ⟨F, _, h2, _⟩ := h; exact (rdown_box w r s2.sz _ _ _ _ _ h2 (by omega)).mono fun _ _ ⟨he, hw⟩ => by subst hw; exact ⟨he, Below.refl _ _⟩)
def DoesRel (w : World) (g r n : Nat) (i : Value) (wr : World) : Prop := ∃ (k : Nat) (s : DS), i = .int .i64 k ∧ k ≤ n ∧ Two w wr g r s s ∧ Fit s ∧ 1 ≤ s.sz
set_option maxHeartbeats 2000000 in
theorem does_main (sz : Int) (A : Option Addr) (n cap : Nat) (os : List OpV) (w : World) (hn : os.length = n) (hs : Hid (Seg w A (n * 3) (oCell os))) (HM : Hid (∀ W, Seg W A (n * 3) (oCell os) → Calls Try.prog 8 #[.slice A n cap] W fun e w' => e = .returned (.bool true) ∧ Below W.heap.size W w')) (hS : SmallP os) (h1 : 1 ≤ sz) (h2 : sz ≤ 262144) : Calls Try.prog 3 #[.int .i64 sz, .slice A n cap] w fun e w' => e = .returned (.bool true) ∧ Below w.heap.size w w' := by
  go_enter Try.func3, Try.ntmps3
  go_wp2_with fail
  refine (at_new (w0 := w) sz (Below.refl _ _) h1 h2).mono ?_
  rintro _ w1 ⟨g, rfl, H1⟩
  go_wp2_with fail
  refine (two_rnew sz H1 h1 h2).mono ?_
  rintro _ w2 ⟨r, rfl, H2⟩
  clear H1
  have hfit := new_fit sz h1 h2
  go_wp2_with fail
  refine (HM.out _ (hs.out.next H2.below)).mono ?_
  rintro _ w3 ⟨rfl, hb⟩
  replace H2 := H2.up hb
  clear hb HM
  go_wp2
  have HN := Lib.hid hn
  have HS := Lib.hid hS
  have h300 : n ≤ 300 := by rw [← hn]; exact hS.1
  clear hn hS
  go_loopw [9] (DoesRel w g r n) (fun i _ => n - (intOf i).toNat)
  case atStart => exact ⟨0, _, rfl, by omega, H2, hfit, h1⟩
  case round =>
  clear H2 hfit
  obtain ⟨k, s, rfl, hk, H, hf, hz⟩ := hrel
  by_cases hlt : k < n
  · obtain ⟨b1, o1, rfl, hb1, q0, q1, q2⟩ := oseg hs.out k hlt
    have hsz := HS.out.2 k (by rw [HN.out]; exact hlt)
    generalize os.getD k OpV.z = o at *
    obtain ⟨kk, tt, nn⟩ := o
    simp only at q0 q1 q2 hsz
    rcases hdv : doV s kk tt.data.toList nn with ⟨er, s'⟩
    have hf' := doV_fit s kk tt.data.toList nn hf
    rw [hdv] at hf'
    obtain ⟨hf', hz'⟩ := hf'
    simp only at hf' hz'
    have hz2 : 1 ≤ s'.sz := by omega
    have HDV := Lib.hid hdv
    clear hdv hz'
    have hk300 : (k : Int) < 300 := by omega
    go_upto_region 10 with fail
    let c : Cls := ⟨fun W => Below w.heap.size w W, wr, H.below, fun h k => below_step h k⟩
    have j0 : ∀ i : IdxC c, i.at.cell? ⟨b1, o1 + k * 3, none⟩ = some (.int .i64 kk) := fun i => (i.prop.cell (p := ⟨b1, o1 + k * 3, none⟩) hb1).trans q0
    have j1 : ∀ i : IdxC c, i.at.cell? ⟨b1, o1 + k * 3 + 1, none⟩ = some (.string tt) := fun i => (i.prop.cell (p := ⟨b1, o1 + k * 3 + 1, none⟩) hb1).trans q1
    have j2 : ∀ i : IdxC c, i.at.cell? ⟨b1, o1 + k * 3 + 2, none⟩ = some (.int .i64 nn) := fun i => (i.prop.cell (p := ⟨b1, o1 + k * 3 + 2, none⟩) hb1).trans q2
    clear q0 q1 q2
    refine wp_region_mixC (c := c) [0, 0, 0, 0, 0, 2, 0, 0, 0, 0, 0, 2, 0, 0, 0, 2, 0, 2, 0, 0, 0, 0, 2, 0, 2, 0, 0, 0, 0, 2, 0, 2, 0, 0] [0, 1, 2, 3, 4, 6, 7, 8, 9, 10, 5, 11, 12, 13, 14, 16, 15, 17, 18, 19, 20, 21, 23, 22, 24, 25, 26, 27, 28, 30, 29, 31, 32, 33] (by kernel_rfl) (by kernel_rfl) rfl ?_
    iterate 10 (refine wpMixC_calm (fun K hK => ?_); go_simp; refine hK _ ?_; clear hK K)
    refine wpMixC_own (fun wa hb K hK => ?_)
    replace H := H.up hb
    clear hb
    go_simp
    go_at_call 10
    refine (two_do kk nn tt H hf HDV.out).mono ?_
    clear H
    rintro _ wb ⟨rfl, H⟩
    refine ⟨_, rfl, H.below, hK _ _ ?_⟩
    clear hK K
    refine wpMixC_own (fun wa hb K hK => ?_)
    replace H := H.up hb
    clear hb
    go_simp
    go_at_call 11
    refine (two_does kk nn tt H hf (by omega) HDV.out).mono ?_
    clear H
    rintro _ wb ⟨rfl, H⟩
    refine ⟨_, rfl, H.below, hK _ _ ?_⟩
    clear hK K
    iterate 4 (refine wpMixC_calm (fun K hK => ?_); go_simp; refine hK _ ?_; clear hK K)
    refine wpMixC_own (fun wa hb K hK => ?_)
    replace H := H.up hb
    clear hb
    go_simp
    go_at_call 12
    refine (two_contents H hf').mono ?_
    clear H
    rintro _ wb ⟨rfl, H⟩
    refine ⟨_, rfl, H.below, hK _ _ ?_⟩
    clear hK K
    refine wpMixC_own (fun wa hb K hK => ?_)
    replace H := H.up hb
    clear hb
    go_simp
    go_at_call 13
    refine (two_rcontents H hf').mono ?_
    clear H
    rintro _ wb ⟨rfl, H⟩
    refine ⟨_, rfl, H.below, hK _ _ ?_⟩
    clear hK K
    iterate 4 (refine wpMixC_calm (fun K hK => ?_); go_simp; refine hK _ ?_; clear hK K)
    iterate 1 (refine wpMixC_calm (fun K hK => ?_); go_simp; refine hK _ ?_; clear hK K)
    refine wpMixC_own (fun wa hb K hK => ?_)
    replace H := H.up hb
    clear hb
    go_simp
    go_at_call 14
    refine (two_synced H).mono ?_
    clear H
    rintro _ wb ⟨rfl, H⟩
    refine ⟨_, rfl, H.below, hK _ _ ?_⟩
    clear hK K
    refine wpMixC_own (fun wa hb K hK => ?_)
    replace H := H.up hb
    clear hb
    go_simp
    go_at_call 15
    refine (two_rsynced H hf').mono ?_
    clear H
    rintro _ wb ⟨rfl, H⟩
    refine ⟨_, rfl, H.below, hK _ _ ?_⟩
    clear hK K
    iterate 4 (refine wpMixC_calm (fun K hK => ?_); go_simp; refine hK _ ?_; clear hK K)
    iterate 1 (refine wpMixC_calm (fun K hK => ?_); go_simp; refine hK _ ?_; clear hK K)
    refine wpMixC_own (fun wa hb K hK => ?_)
    replace H := H.up hb
    clear hb
    go_simp
    go_at_call 16
    refine (two_down H hz2).mono ?_
    clear H
    rintro _ wb ⟨rfl, H⟩
    refine ⟨_, rfl, H.below, hK _ _ ?_⟩
    clear hK K
    refine wpMixC_own (fun wa hb K hK => ?_)
    replace H := H.up hb
    clear hb
    go_simp
    go_at_call 17
    refine (two_rdown H hz2).mono ?_
    clear H
    rintro _ wb ⟨rfl, H⟩
    refine ⟨_, rfl, H.below, hK _ _ ?_⟩
    clear hK K
    iterate 2 (refine wpMixC_calm (fun K hK => ?_); go_simp; refine hK _ ?_; clear hK K)
    refine wpMixC_nil (fun w33 hb => ?_)
    replace H := H.up hb
    clear hb j0 j1 j2 c
    go_wp2
    go_roundw
    case rel => exact ⟨k + 1, s', by go_num, by omega, H, hf', hz2⟩
    case measure => simp [intOf]; omega
  · obtain rfl : k = n := by omega
    go_wp2_with fail
    refine (awake_any _).mono ?_
    rintro _ wz ⟨rfl, hb⟩
    go_wp2
    go_ret
    exact ⟨rfl, below_step H.below hb⟩
end Go.Proofs.Ytfejnkgckbcddaa
