/- Open of the program. -/
import Derived.Test.YtjcojgblnbhejaaWC
namespace Go.Proofs.Ytjcojgblnbhejaa
open Go.ChangeShapes Go.WideShapes Go.ChangeAt Go.RowKit
attribute [local go_sem] ownAtC ownUponC

def opened (s : DS) : DS := if (splitV (cont s)).2 < (cont s).length then ⟨s.sz, (cont s).take (splitV (cont s)).2, [], false, [], s.down⟩ else s
theorem rdy_up (s : DS) (hz : 1 ≤ s.sz) (hd : s.down = false) : rdy s = 0 := by
  unfold rdy
  rw [if_neg (by omega), hd]
  rfl
theorem replV_yes (s : DS) (t : List UInt8) (hz : 1 ≤ s.sz) (hd : s.down = false) (ht : (t.length : Int) ≤ s.sz) : replV s t = (0, ⟨s.sz, t, [], false, [], s.down⟩) := by
  have h1 : replaceV s t = (0, { s with rep := true, fre := t }) := by
    unfold replaceV
    rw [if_pos (rdy_up s hz hd), if_pos ht]
  unfold replV
  rw [h1, if_pos rfl]
  have h2 := rdy_up { s with rep := true, fre := t } hz hd
  simp only
  unfold syncV
  rw [if_pos h2]
  rfl
theorem contV_up (s : DS) (hz : 1 ≤ s.sz) (hd : s.down = false) : contV s = cont s := if_pos (rdy_up s hz hd)
theorem opened_le (s : DS) (hf : Fit s) : (((cont s).take (splitV (cont s)).2).length : Int) ≤ s.sz := by
  have := cont_le s hf
  rw [List.length_take]
  omega
theorem opened_fit (s : DS) (hf : Fit s) (hd : s.down = false) : Fit (opened s) ∧ (opened s).sz = s.sz ∧ (opened s).down = false := by
  have h0 := opened_le s hf
  unfold opened
  split
  · exact ⟨⟨hf.lo, hf.hi, by simpa using h0, hf.lo⟩, rfl, hd⟩
  · exact ⟨hf, rfl, hd⟩
theorem opened_cont (s : DS) : cont (opened s) = (cont s).take (splitV (cont s)).2 := by
  unfold opened
  split
  · unfold cont
    simp
  · next h =>
    rw [List.take_of_length_le (by omega)]
theorem atx_open {w0 w : World} {g : Nat} {s : DS} {X : List Aside} (h : AtX w0 w g s X) (hf : Fit s) (hz : 1 ≤ s.sz) (hd : s.down = false) : Calls Try.prog 10 #[.pointer (some ⟨g, 0, none⟩)] w fun e w' => ∃ lg, e = .returned (.tuple #[.pointer (some ⟨lg, 0, none⟩), .int .i64 0]) ∧ AtX w0 w' g (opened s) (lgX lg g :: X) := by
  have HD := Lib.hid (atx_calm h fun F d => (down_any w g F s d).mono fun e w' ⟨he, hw⟩ => (⟨he, hw ▸ Below.refl _ _⟩ : _ ∧ Below w.heap.size w w'))
  have hl := contV_len s hf
  have e0 : (rdy s == 22) = false := by rw [rdy_up s hz hd]; rfl
  rw [e0] at HD
  have HC := Lib.hid (fun W Y (k : AtX w0 W g s Y) => atx_calm k fun F d => Contents_any W g F s d hf)
  change Hid (∀ W Y, AtX w0 W g s Y → Calls Try.prog _ _ _ fun e w' => e = .returned (.string (bs (contV s))) ∧ _) at HC
  rw [contV_up s hz hd] at HC hl
  have HR := Lib.hid (fun W => recover_bs (cont s) W (by omega))
  have hsz := bs_size (cont s)
  have hle := split_le (cont s)
  have HO := Lib.hid (opened_le s hf)
  by_cases ht : (splitV (cont s)).2 < (cont s).length
  · have ho : opened s = ⟨s.sz, (cont s).take (splitV (cont s)).2, [], false, [], s.down⟩ := if_pos ht
    have HP := Lib.hid (fun W Y (k : AtX w0 W g s Y) => atx_left k fun F d => by
      have h1 := repl_any W g F s (bs ((cont s).take (splitV (cont s)).2)) d hf
      rw [bs_back, replV_yes s _ hz hd HO.out] at h1
      exact h1)
    rw [ho]
    have HH := Lib.hid h
    clear h hd hz hf HO ho e0
    generalize hn : (splitV (cont s)).2 = n at *
    generalize cont s = x at *
    go_enter Try.func10, Try.ntmps10
    go_wp2_with fail
    refine HD.out.mono ?_
    rintro _ w1 ⟨rfl, h1⟩
    go_wp2_with fail
    have h2 := h1.more 39 #[.pointer (some ⟨g, 0, none⟩)]
    generalize w1.heap.size = lg at *
    refine (HC.out _ _ h2).mono ?_
    clear h1 h2
    rintro _ w3 ⟨rfl, h3⟩
    go_wp2_with fail
    refine (HR.out w3).mono ?_
    rintro _ w4 ⟨v, rfl, hv, hb4⟩
    rw [hn]
    have h4 := h3.up hb4
    clear h3 hb4 hv
    go_upto_region 9 with fail
    let c : Cls := ⟨fun W => AtX w0 W g s (lgX lg g :: X) ∨ AtX w0 W g ⟨s.sz, x.take n, [], false, [], s.down⟩ (lgX lg g :: X), w4, .inl h4, fun h k => h.imp (fun h => h.up k) (fun h => h.up k)⟩
    have j0 : ∀ i : IdxC c, i.at.cell? ⟨lg, 0, none⟩ = some (.pointer (some ⟨g, 0, none⟩)) := fun i => by
      rcases i.prop with h | h
      · exact Box.cell (h.box _ List.mem_cons_self) 0 _ rfl
      · exact Box.cell (h.box _ List.mem_cons_self) 0 _ rfl
    refine wp_region_mixC (c := c) [0, 0, 0, 0, 0, 0, 0, 2, 0] [0, 1, 2, 3, 4, 5, 6, 7, 8] (by kernel_rfl) (by kernel_rfl) rfl ?_
    iterate 7 (refine wpMixC_calm (fun K hK => ?_); go_simp; refine hK _ ?_; clear hK K)
    rw [bs_take]
    refine wpMixC_own (fun wa hb K hK => ?_)
    replace h4 := h4.up hb
    clear hb
    go_simp
    go_at_call 37
    refine (HP.out _ _ h4).mono ?_
    clear h4
    rintro _ wb ⟨rfl, h5⟩
    refine ⟨_, rfl, .inr h5, hK _ _ ?_⟩
    clear hK K
    refine wpMixC_calm (fun K hK => ?_); go_simp; refine hK _ ?_; clear hK K
    refine wpMixC_nil (fun wc hb => ?_)
    replace h5 := h5.up hb
    clear hb
    go_wp2
    go_ret2
    exact ⟨_, rfl, h5⟩
  · have ho : opened s = s := if_neg ht
    rw [ho]
    have HH := Lib.hid h
    clear h hd hz hf HO ho e0
    have hn : (splitV (cont s)).2 = (cont s).length := by omega
    generalize cont s = x at *
    go_enter Try.func10, Try.ntmps10
    go_wp2_with fail
    refine HD.out.mono ?_
    rintro _ w1 ⟨rfl, h1⟩
    go_wp2_with fail
    have h2 := h1.more 39 #[.pointer (some ⟨g, 0, none⟩)]
    generalize w1.heap.size = lg at *
    refine (HC.out _ _ h2).mono ?_
    clear h1 h2
    rintro _ w3 ⟨rfl, h3⟩
    go_wp2_with fail
    refine (HR.out w3).mono ?_
    rintro _ w4 ⟨v, rfl, hv, hb4⟩
    rw [hn]
    have h4 := h3.up hb4
    clear h3 hb4 hv
    go_wp2
    go_ret2
    exact ⟨_, rfl, h4⟩
end Go.Proofs.Ytjcojgblnbhejaa
