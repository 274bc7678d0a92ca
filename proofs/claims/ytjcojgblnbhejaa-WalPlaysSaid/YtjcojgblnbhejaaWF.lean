/- Open of the reference; both logs beside each other. -/
import Derived.Test.YtjcojgblnbhejaaWE
namespace Go.Proofs.Ytjcojgblnbhejaa
open Go.ChangeShapes Go.WideShapes Go.ChangeAt Go.RowKit
attribute [local go_sem] ownAtC ownUponC

theorem AtX.perm {w0 w : World} {g : Nat} {s : DS} {X Y : List Aside} (h : AtX w0 w g s X) (hp : X.Perm Y) : AtX w0 w g s Y := by
  obtain ⟨⟨F, d1, d2, d3⟩, h2, h3, h4, h5⟩ := h
  exact ⟨⟨F, d1, d2, fun x hx => d3 x (hp.mem_iff.2 hx)⟩, h2, fun x hx => h3 x (hp.mem_iff.2 hx), fun x hx => h4 x (hp.mem_iff.2 hx), (hp.map _).nodup_iff.1 h5⟩
theorem atx_rleft {w0 w : World} {g r : Nat} {s s1 s2 : DS} {X : List Aside} {er : Int} {f : FuncId} {args : Array Value} (h : AtX w0 w g s (rX r s1 :: X)) (k : RefAt w r s1 → Calls Try.prog f args w (RLeft w r er s2)) : Calls Try.prog f args w fun e w' => e = .returned (.int .i64 er) ∧ AtX w0 w' g s (rX r s2 :: X) :=
  atx_ref h (k (h.box (rX r s1) List.mem_cons_self))
theorem atx_rcalm {w0 w : World} {g r : Nat} {s s1 : DS} {X : List Aside} {f : FuncId} {args : Array Value} {Q : Ending → World → Prop} (h : AtX w0 w g s (rX r s1 :: X)) (k : RefAt w r s1 → Calls Try.prog f args w fun e w' => Q e w' ∧ Below w.heap.size w w') : Calls Try.prog f args w fun e w' => Q e w' ∧ AtX w0 w' g s (rX r s1 :: X) :=
  (k (h.box (rX r s1) List.mem_cons_self)).mono fun _ _ ⟨hq, hb⟩ => ⟨hq, h.up hb⟩
theorem atx_ropen {w0 w : World} {g r : Nat} {s0 s : DS} {X : List Aside} (h : AtX w0 w g s0 (rX r s :: X)) (hf : Fit s) (hz : 1 ≤ s.sz) (hd : s.down = false) : Calls Try.prog 27 #[.pointer (some ⟨r, 0, none⟩)] w fun e w' => ∃ rl, e = .returned (.tuple #[.pointer (some ⟨rl, 0, none⟩), .int .i64 0]) ∧ AtX w0 w' g s0 (rX r (opened s) :: rlX rl r :: X) := by
  have HD := Lib.hid (fun W Y (k : AtX w0 W g s0 (rX r s :: Y)) => atx_rcalm k fun d => (rdown_any W r s d hz).mono fun e w' ⟨he, hw⟩ => (⟨he, hw ▸ Below.refl _ _⟩ : _ ∧ Below W.heap.size W w'))
  rw [hd] at HD
  have hl := contV_len s hf
  have HC := Lib.hid (fun W Y (k : AtX w0 W g s0 (rX r s :: Y)) => atx_rcalm k fun d => rcontents_any W r s d hf)
  rw [contV_up s hz hd] at HC hl
  have HR := Lib.hid (fun W => rrecover_bs (cont s) W (by omega))
  have hsz := bs_size (cont s)
  have hle := split_le (cont s)
  have HO := Lib.hid (opened_le s hf)
  by_cases ht : (splitV (cont s)).2 < (cont s).length
  · have ho : opened s = ⟨s.sz, (cont s).take (splitV (cont s)).2, [], false, [], s.down⟩ := if_pos ht
    have h2 := replV_yes s _ hz hd HO.out
    have hf2 := replaceV_fit s ((cont s).take (splitV (cont s)).2) hf
    have h3 : (replaceV s ((cont s).take (splitV (cont s)).2)).1 = 0 ∧ syncV (replaceV s ((cont s).take (splitV (cont s)).2)).2 = (0, opened s) := by
      have h4 : replaceV s ((cont s).take (splitV (cont s)).2) = (0, { s with rep := true, fre := (cont s).take (splitV (cont s)).2 }) := by
        unfold replaceV
        rw [if_pos (rdy_up s hz hd), if_pos HO.out]
      refine ⟨by rw [h4], ?_⟩
      unfold replV at h2
      rw [if_pos (by rw [h4])] at h2
      rw [h2, ho]
    have HP := Lib.hid (fun W Y (k : AtX w0 W g s0 (rX r s :: Y)) => atx_rleft k fun d => by
      have h1 := rreplace_bs W r s ((cont s).take (splitV (cont s)).2) d hf
      rw [h3.1] at h1
      exact h1)
    have HY := Lib.hid (fun W Y (k : AtX w0 W g s0 (rX r (replaceV s ((cont s).take (splitV (cont s)).2)).2 :: Y)) => atx_rleft k fun d => by
      have h1 := rsync_any W r _ d hf2
      rw [h3.2] at h1
      exact h1)
    have HH := Lib.hid h
    clear h hd hz hf HO ho h2 h3 hf2
    generalize hn : (splitV (cont s)).2 = n at *
    generalize (replaceV s ((cont s).take n)).2 = s2 at *
    generalize opened s = s3 at *
    generalize cont s = x at *
    go_enter Try.func27, Try.ntmps27
    go_wp2_with fail
    have h2 := (HH.out.more 68 #[.pointer (some ⟨r, 0, none⟩)]).perm (List.Perm.swap _ _ _)
    generalize w.heap.size = rl at *
    refine (HD.out _ _ h2).mono ?_
    clear h2
    rintro _ w3 ⟨rfl, h3⟩
    go_wp2_with fail
    refine (HC.out _ _ h3).mono ?_
    clear h3
    rintro _ w4 ⟨rfl, h4⟩
    go_wp2_with fail
    refine (HR.out w4).mono ?_
    rintro _ w5 ⟨v, rfl, hv, hb⟩
    rw [hn]
    have h5 := h4.up hb
    clear h4 hb hv
    have hne : ((n : Int) == x.length) = false := by
      rw [beq_eq_false_iff_ne]
      omega
    go_wp2_with fail
    rw [bs_take]
    refine (HP.out _ _ h5).mono ?_
    clear h5
    rintro _ w6 ⟨rfl, h6⟩
    go_wp2_with fail
    refine (HY.out _ _ h6).mono ?_
    clear h6
    rintro _ w7 ⟨rfl, h7⟩
    go_wp2
    go_ret2
    exact ⟨_, rfl, h7⟩
  · have ho : opened s = s := if_neg ht
    rw [ho]
    have HH := Lib.hid h
    clear h hd hz hf HO ho
    have hn : (splitV (cont s)).2 = (cont s).length := by omega
    generalize cont s = x at *
    go_enter Try.func27, Try.ntmps27
    go_wp2_with fail
    have h2 := (HH.out.more 68 #[.pointer (some ⟨r, 0, none⟩)]).perm (List.Perm.swap _ _ _)
    generalize w.heap.size = rl at *
    refine (HD.out _ _ h2).mono ?_
    clear h2
    rintro _ w3 ⟨rfl, h3⟩
    go_wp2_with fail
    refine (HC.out _ _ h3).mono ?_
    clear h3
    rintro _ w4 ⟨rfl, h4⟩
    go_wp2_with fail
    refine (HR.out w4).mono ?_
    rintro _ w5 ⟨v, rfl, hv, hb⟩
    rw [hn]
    have h5 := h4.up hb
    clear h4 hb hv
    go_wp2
    go_ret2
    exact ⟨_, rfl, h5⟩
end Go.Proofs.Ytjcojgblnbhejaa
