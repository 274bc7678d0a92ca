/- The reference's Used, Total, shared, Free: the walks. -/
import Derived.Test.YtbcologcendhlaaSV
import Derived.Test.YtbcologcendhlaaXN
namespace Go.Proofs.Ytbcologcendhlaa
open Go.ChangeShapes Go.WideShapes Go.ChangeAt Go.RowKit
attribute [local go_sem] ownAtC ownUponC

theorem idxI_some {l : KL} {s : Key} {i : Nat} (h : idx l s = some i) : idxI l s = i := by unfold idxI; rw [h]
theorem idxI_none {l : KL} {s : Key} (h : idx l s = none) : idxI l s = -1 := by unfold idxI; rw [h]
theorem rused_any (w : World) (r : Nat) (A2 : Option Addr) (c2 : Nat) (v3 : Value) (st : SS) (s : Key) (h : RefS w r A2 c2 v3 st) (hm : (st.U.length : Int) ≤ 1000000) : Calls Try.prog 19 #[.pointer (some ⟨r, 0, none⟩), .string (bs s)] w fun e w' => e = .returned (.int .i64 (cnt st.U s)) ∧ w = w' := by
  have HU := Lib.hid (ruser_any w r A2 c2 v3 st s h hm)
  obtain ⟨A3, c3, rfl, hs3, _, _⟩ := own_seg h.own (fun j hj => rV_get _ j hj)
  have d0 := h.box.cell 0 _ rfl
  have d3 := h.box.cell 3 _ rfl
  cases hi : idx st.U s with
  | none =>
    rw [idxI_none hi] at HU
    have hz : cnt st.U s = 0 := by unfold cnt; rw [(idx_none hi).1]; rfl
    rw [hz]
    clear h hi hz hs3
    go_enter Try.func19, Try.ntmps19
    go_wp2_with fail
    refine HU.out.mono ?_
    rintro _ _ ⟨rfl, rfl⟩
    go_wp2
    go_ret
    exact ⟨rfl, rfl⟩
  | some i =>
    rw [idxI_some hi] at HU
    obtain ⟨h1, h2, _, _⟩ := idx_some hi
    obtain ⟨b1, o1, rfl, hb1, _, q1⟩ := rseg hs3 i h1
    rw [h2] at q1
    simp only at q1
    have hi0 : (0 : Int) ≤ i := by omega
    have hil : (i : Int) < st.U.length := by omega
    clear h hi hs3 h2
    generalize cnt st.U s = c at *
    go_enter Try.func19, Try.ntmps19
    go_wp2_with fail
    refine HU.out.mono ?_
    rintro _ _ ⟨rfl, rfl⟩
    go_wp2
    go_ret
    exact ⟨rfl, rfl⟩
theorem wsum_step (q : Key → Bool) (l : KL) (k : Nat) (hk : k < l.length) : wsum q (l.take (k + 1)) = wsum q (l.take k) + (if q (l.getD k ([], 0)).1 then (l.getD k ([], 0)).2 else 0) := by
  rw [List.take_succ_eq_append_getElem hk, List.getD_eq_getElem?_getD, List.getElem?_eq_getElem hk]
  exact wsum_snoc q _ _ _
theorem wsum_le_take (q : Key → Bool) (l : KL) (h : ∀ p ∈ l, 0 ≤ p.2) (k : Nat) : 0 ≤ wsum q (l.take k) ∧ wsum q (l.take k) ≤ wsum q l := by
  have h1 : wsum q (l.take k) + wsum q (l.drop k) = wsum q l := by rw [← wsum_app, List.take_append_drop]
  have h2 : 0 ≤ wsum q (l.drop k) := wsum_nonneg (fun p hp => h p (List.mem_of_mem_drop hp))
  have h3 : 0 ≤ wsum q (l.take k) := wsum_nonneg (fun p hp => h p (List.mem_of_mem_take hp))
  omega
def RTotRel (st : SS) (w : World) (u i : Value) (wr : World) : Prop := ∃ k : Nat, u = .int .i64 (wsum all (st.U.take k)) ∧ i = .int .i64 k ∧ k ≤ st.U.length ∧ w = wr
theorem rtotal_any (w : World) (r : Nat) (A2 : Option Addr) (c2 : Nat) (v3 : Value) (st : SS) (least : Int) (h : RefS w r A2 c2 v3 st) (hg : Good least st) (hm : (st.U.length : Int) ≤ 1000000) : Calls Try.prog 17 #[.pointer (some ⟨r, 0, none⟩)] w fun e w' => e = .returned (.tuple #[.int .i64 (wsum all st.U), .int .i64 st.total]) ∧ Below w.heap.size w w' := by
  obtain ⟨A3, c3, rfl, hs3, _, _⟩ := own_seg h.own (fun j hj => rV_get _ j hj)
  have d0 := h.box.cell 0 _ rfl
  have d1 := h.box.cell 1 _ rfl
  have d3 := h.box.cell 3 _ rfl
  have HS := Lib.hid hs3
  have HW := Lib.hid (fun k => wsum_step all st.U k)
  have HB := Lib.hid (fun k => wsum_le_take all st.U hg.nonneg k)
  have htl := hg.total_le
  have ht1 := hg.conf.t1
  clear h hs3 hg
  go_enter Try.func17, Try.ntmps17
  go_wp2
  go_loopw [4, 20] (RTotRel st w) (fun _ i _ => st.U.length - (intOf i).toNat)
  case atStart => exact ⟨0, rfl, rfl, by omega, rfl⟩
  case round =>
  obtain ⟨k, rfl, rfl, hk, rfl⟩ := hrel
  by_cases hlt : k < st.U.length
  · obtain ⟨b1, o1, rfl, hb1, _, q1⟩ := rseg HS.out k hlt
    have hst := HW.out k hlt
    have hb0 := HB.out k
    have hb' := HB.out (k + 1)
    have hall : ∀ x : Key, all x = true := fun _ => rfl
    rw [hall, if_pos rfl] at hst
    rw [hst] at hb'
    generalize (st.U.getD k ([], 0)).2 = c at *
    have hsum : IntKind.i64.wrap (wsum all (st.U.take k) + c) = wsum all (st.U.take k) + c := by rw [IntKind.wrap_i64]; omega
    have HT := Lib.hid hst
    clear hst hb0 hb' hall
    generalize wsum all (st.U.take k) = sk at *
    go_wp2
    go_roundw
    case rel => exact ⟨k + 1, by rw [HT.out], by go_num, by omega, rfl⟩
    case measure => simp [intOf]; omega
  · obtain rfl : k = st.U.length := by omega
    rw [List.take_length]
    go_upto_region 9 with fail
    go_quiet (fail)
    go_wp2
    go_ret2
    exact ⟨rfl, drewN_below _ _⟩
def RS1 (st : SS) (w : World) (u i : Value) (wr : World) : Prop := ∃ k : Nat, u = .int .i64 (st.total - wsum all (st.R.take k)) ∧ i = .int .i64 k ∧ k ≤ st.R.length ∧ w = wr
def RS2 (st : SS) (w : World) (u i : Value) (wr : World) : Prop := ∃ k : Nat, u = .int .i64 (st.total - wsum all st.R - wsum (shr st) (st.U.take k)) ∧ i = .int .i64 k ∧ k ≤ st.U.length ∧ w = wr
theorem shared_any (w : World) (r : Nat) (A2 : Option Addr) (c2 : Nat) (v3 : Value) (st : SS) (least : Int) (h : RefS w r A2 c2 v3 st) (hg : Good least st) (hm : (st.U.length : Int) ≤ 1000000) : Calls Try.prog 33 #[.pointer (some ⟨r, 0, none⟩)] w fun e w' => e = .returned (.int .i64 (st.total - wsum all st.R - wsum (shr st) st.U)) ∧ w = w' := by
  have hR32 : (st.R.length : Int) ≤ 1000000 := by have := hg.conf.len; omega
  have HRS := Lib.hid (fun s => rres_any w r A2 c2 v3 st s h hR32)
  obtain ⟨A3, c3, rfl, hs3, _, _⟩ := own_seg h.own (fun j hj => rV_get _ j hj)
  have d1 := h.box.cell 1 _ rfl
  have d2 := h.box.cell 2 _ rfl
  have d3 := h.box.cell 3 _ rfl
  have HS := Lib.hid hs3
  have HR := Lib.hid h.res
  have HW1 := Lib.hid (fun k => wsum_step all st.R k)
  have HB1 := Lib.hid (fun k => wsum_le_take all st.R (fun p hp => (hg.conf.ok p hp).2.1) k)
  have HW2 := Lib.hid (fun k => wsum_step (shr st) st.U k)
  have HB2 := Lib.hid (fun k => wsum_le_take (shr st) st.U hg.nonneg k)
  have hus := hg.us
  change wsum (shr st) st.U ≤ _ at hus
  have hcs := hg.conf.sum
  have hl0 := hg.conf.l0
  have ht1 := hg.conf.t1
  have hR0 : 0 ≤ wsum all st.R := wsum_nonneg (fun p hp => (hg.conf.ok p hp).2.1)
  clear h hs3 hg
  go_enter Try.func33, Try.ntmps33
  go_wp2
  go_loopw [3, 15] (RS1 st w) (fun _ i _ => st.R.length - (intOf i).toNat)
  case atStart => exact ⟨0, by rw [List.take_zero]; show _ = Value.int .i64 (st.total - 0); rw [Int.sub_zero], rfl, by omega, rfl⟩
  case round =>
  obtain ⟨k, rfl, rfl, hk, rfl⟩ := hrel
  by_cases hlt : k < st.R.length
  · obtain ⟨b1, o1, rfl, hb1, _, q1⟩ := rseg HR.out k hlt
    have hst := HW1.out k hlt
    have hb0 := HB1.out k
    have hb' := HB1.out (k + 1)
    have hall : ∀ x : Key, all x = true := fun _ => rfl
    rw [hall, if_pos rfl] at hst
    rw [hst] at hb'
    generalize (st.R.getD k ([], 0)).2 = c at *
    have hsum : IntKind.i64.wrap (st.total - wsum all (st.R.take k) - c) = st.total - wsum all (st.R.take k) - c := by rw [IntKind.wrap_i64]; omega
    have HT := Lib.hid hst
    clear hst hb0 hb' hall
    generalize wsum all (st.R.take k) = sk at *
    go_wp2
    go_roundw
    case rel => exact ⟨k + 1, by rw [HT.out]; congr 1; omega, by go_num, by omega, rfl⟩
    case measure => simp [intOf]; omega
  · obtain rfl : k = st.R.length := by omega
    rw [List.take_length]
    clear hlt hk
    go_wp2
    go_loopw [3, 34] (RS2 st w) (fun _ i _ => st.U.length - (intOf i).toNat)
    case atStart => exact ⟨0, by rw [List.take_zero]; show _ = Value.int .i64 (st.total - wsum all st.R - 0); rw [Int.sub_zero], rfl, by omega, rfl⟩
    case round =>
    obtain ⟨k, rfl, rfl, hk, rfl⟩ := hrel
    by_cases hlt : k < st.U.length
    · obtain ⟨b1, o1, rfl, hb1, q0, q1⟩ := rseg HS.out k hlt
      have hst := HW2.out k hlt
      have hb0 := HB2.out k
      have hb' := HB2.out (k + 1)
      rw [hst] at hb'
      generalize st.U.getD k ([], 0) = e at *
      obtain ⟨x, c⟩ := e
      simp only at q0 q1 hst hb'
      have HX := Lib.hid (HRS.out x)
      cases hi : idx st.R x with
      | none =>
        have hsh : shr st x = true := by unfold shr; rw [(idx_none hi).1]; rfl
        rw [idxI_none hi] at HX
        rw [hsh, if_pos rfl] at hst hb'
        have hsum : IntKind.i64.wrap (st.total - wsum all st.R - wsum (shr st) (st.U.take k) - c) = st.total - wsum all st.R - wsum (shr st) (st.U.take k) - c := by rw [IntKind.wrap_i64]; omega
        have HT := Lib.hid hst
        clear hst hb0 hb' hi hsh
        generalize wsum (shr st) (st.U.take k) = sk at *
        go_wp2_with fail
        refine HX.out.mono ?_
        rintro _ _ ⟨rfl, rfl⟩
        go_wp2
        go_roundw
        case rel => exact ⟨k + 1, by rw [HT.out]; congr 1; omega, by go_num, by omega, rfl⟩
        case measure => simp [intOf]; omega
      | some i =>
        have hsh : shr st x = false := by unfold shr; rw [(idx_some hi).2.2.1]; rfl
        rw [idxI_some hi] at HX
        rw [hsh, if_neg (by decide)] at hst
        have hi0 : ¬ (i : Int) < 0 := by omega
        have HT := Lib.hid hst
        clear hst hb0 hb' hi hsh
        generalize wsum (shr st) (st.U.take k) = sk at *
        go_wp2_with fail
        refine HX.out.mono ?_
        rintro _ _ ⟨rfl, rfl⟩
        go_wp2
        go_roundw
        case rel => exact ⟨k + 1, by rw [HT.out]; congr 1; omega, by go_num, by omega, rfl⟩
        case measure => simp [intOf]; omega
    · obtain rfl : k = st.U.length := by omega
      rw [List.take_length]
      go_wp2
      go_ret
      exact ⟨rfl, rfl⟩
theorem rfree_any (w : World) (r : Nat) (A2 : Option Addr) (c2 : Nat) (v3 : Value) (st : SS) (least : Int) (s : Key) (h : RefS w r A2 c2 v3 st) (hg : Good least st) (hm : (st.U.length : Int) ≤ 1000000) : Calls Try.prog 21 #[.pointer (some ⟨r, 0, none⟩), .string (bs s)] w fun e w' => e = .returned (.int .i64 (freeV st s)) ∧ Below w.heap.size w w' := by
  have hR32 : (st.R.length : Int) ≤ 1000000 := by have := hg.conf.len; omega
  have HN := Lib.hid (fun W => rname_any s W)
  have HRS := Lib.hid (rres_any w r A2 c2 v3 st s h hR32)
  have HSH := Lib.hid (shared_any w r A2 c2 v3 st least h hg hm)
  have HUS := Lib.hid (fun W (hb : Below w.heap.size w W) => rused_any W r A2 c2 v3 st s (h.up hb) hm)
  have d0 := h.box.cell 0 _ rfl
  have d2 := h.box.cell 2 _ rfl
  unfold freeV
  cases hn : nameV s
  · rw [hn] at HN
    rw [if_neg (by decide)]
    clear h hg
    go_enter Try.func21, Try.ntmps21
    go_wp2_with fail
    refine (HN.out _).mono ?_
    rintro _ _ ⟨rfl, rfl⟩
    go_wp2
    go_ret
    exact ⟨rfl, Below.refl _ _⟩
  rw [hn] at HN
  rw [if_pos rfl]
  clear hn
  cases hi : idx st.R s with
  | none =>
    rw [idxI_none hi] at HRS
    rw [free_none (idx_none hi).1]
    clear h hg hi
    generalize st.total - wsum all st.R - wsum (shr st) st.U = fv at *
    go_enter Try.func21, Try.ntmps21
    go_wp2_with fail
    refine (HN.out _).mono ?_
    rintro _ _ ⟨rfl, rfl⟩
    go_wp2_with fail
    refine HRS.out.mono ?_
    rintro _ _ ⟨rfl, rfl⟩
    go_wp2_with fail
    refine HSH.out.mono ?_
    rintro _ _ ⟨rfl, rfl⟩
    go_wp2
    go_ret
    exact ⟨rfl, Below.refl _ _⟩
  | some i =>
    rw [idxI_some hi] at HRS
    obtain ⟨h1, h2, h3, _⟩ := idx_some hi
    have hfs := free_some h3
    have hc1 := (hg.conf.ok _ (look_mem h3)).2
    have hcu := hg.ur s _ h3
    have hc0 := hg.cnt_nonneg s
    have ht1 := hg.conf.t1
    simp only at hc1
    obtain ⟨b1, o1, rfl, hb1, _, q1⟩ := rseg h.res i h1
    rw [h2] at q1
    simp only at q1
    rw [hfs]
    generalize cnt st.R s = n at *
    generalize cnt st.U s = c at *
    have hsub : IntKind.i64.wrap (n - c) = n - c := by rw [IntKind.wrap_i64]; omega
    have hi0 : (0 : Int) ≤ i := by omega
    have hil : (i : Int) < st.R.length := by omega
    have hrl := h.box.lt
    have HBX := Lib.hid (And.intro h.box q1)
    clear h hg hi h2 h3 hfs q1
    go_enter Try.func21, Try.ntmps21
    go_wp2_with fail
    refine (HN.out _).mono ?_
    rintro _ _ ⟨rfl, rfl⟩
    go_wp2_with fail
    refine HRS.out.mono ?_
    rintro _ _ ⟨rfl, rfl⟩
    go_upto_region 5 with fail
    let k : Cls := ⟨fun W => Below w.heap.size w W, w, Below.refl _ _, fun h k => below_step h k⟩
    have j2 : ∀ i : IdxC k, i.at.cell? ⟨r, 2, none⟩ = some (.slice (some ⟨b1, o1, none⟩) st.R.length c2) := fun i => (i.prop.cell (p := ⟨r, 2, none⟩) hrl).trans (HBX.out.1.cell 2 _ rfl)
    have j1 : ∀ m : IdxC k, m.at.cell? ⟨b1, o1 + i * 2 + 1, none⟩ = some (.int .i64 n) := fun m => (m.prop.cell (p := ⟨b1, o1 + i * 2 + 1, none⟩) hb1).trans HBX.out.2
    clear d0 d2
    refine wp_region_mixC (c := k) [0, 0, 0, 0, 0, 0, 0, 0, 0, 0, 2, 0, 0] [0, 1, 2, 3, 4, 5, 6, 7, 8, 9, 10, 11, 12] (by kernel_rfl) (by kernel_rfl) rfl ?_
    iterate 10 (refine wpMixC_calm (fun K hK => ?_); go_simp; refine hK _ ?_; clear hK K)
    refine wpMixC_own (fun wa hb K hK => ?_)
    go_simp
    go_at_call 19
    refine (HUS.out _ hb).mono ?_
    rintro _ _ ⟨rfl, rfl⟩
    refine ⟨_, rfl, hb, hK _ _ ?_⟩
    clear hK K
    iterate 2 (refine wpMixC_calm (fun K hK => ?_); go_simp; refine hK _ ?_; clear hK K)
    refine wpMixC_nil (fun wd hb2 => ?_)
    have hB := below_step hb hb2
    go_wp2
    go_ret
    exact ⟨rfl, hB⟩
end Go.Proofs.Ytbcologcendhlaa
