/- The walk of the law BucketBounds of layer 39. -/
import Derived.Test.YtmfekechdejefaaK
import Derived.Test.YtmfekechdejefaaJ
namespace Go.Proofs.Ytmfekechdejefaa
open Go.ChangeShapes Go.WideShapes Go.ChangeAt Go.RowKit
attribute [local go_sem] ownAt ownUpon ownAtC ownUponC

theorem takeV_ok (r s l t n now : Int) (h : (takeV r s l t n now).e = 0) : okB r s l t = true ∧ 0 ≤ n ∧ t ≤ now ∧ 0 ≤ now ∧ now ≤ 1073741824 ∧ n ≤ s ∧ n ≤ min s (l + r * (now - t)) ∧ takeV r s l t n now = ⟨r, s, min s (l + r * (now - t)) - n, now, 0⟩ := by
  have hk : (fillV r s l t now).e = 0 := by
    revert h
    unfold takeV takeW
    split
    · intro _; assumption
    · simp
  have hv := fillV_val r s l t now hk
  obtain ⟨h1, h2, h3, h4⟩ := (fillV_ok r s l t now).1 hk
  unfold takeV at h ⊢
  rw [hv] at h ⊢
  simp only at h ⊢
  generalize min s (l + r * (now - t)) = c at *
  unfold takeW at h ⊢
  rw [if_pos rfl] at h ⊢
  by_cases g1 : n < 0 ∨ s < n
  · rw [if_pos g1] at h; simp at h
  rw [if_neg g1] at h ⊢
  by_cases g2 : c < n
  · rw [if_pos g2] at h; simp at h
  rw [if_neg g2]
  exact ⟨h1, by omega, h4, h2, h3, by omega, by omega, rfl⟩

/-- One step of the law's bound. -/
theorem bound_step (r s l t n now l0 t0 sum : Int) (h : (takeV r s l t n now).e = 0) (hs : sum + l ≤ l0 + r * (t - t0)) (ht : t0 ≤ t) :
    ∃ l', takeV r s l t n now = ⟨r, s, l', now, 0⟩ ∧ okB r s l' now = true ∧ sum + n + l' ≤ l0 + r * (now - t0) ∧ t0 ≤ now ∧ 0 ≤ n := by
  obtain ⟨h1, h2, h3, h4, h5, h6, h7, h8⟩ := takeV_ok r s l t n now h
  obtain ⟨a1, a2, a3, a4, a5, a6, a7, a8⟩ := (okB_iff r s l t).1 h1
  have hp : 0 ≤ r * (now - t) := Int.mul_nonneg a1 (by omega)
  have he : r * (t - t0) + r * (now - t) = r * (now - t0) := by rw [← Int.mul_add]; congr 1; omega
  refine ⟨_, h8, (okB_iff _ _ _ _).2 ⟨a1, a2, a3, a4, ?_, ?_, h4, h5⟩, ?_, by omega, h2⟩ <;> omega

theorem prod_bd6 (r t t1 : Int) (h1 : 0 ≤ r) (h2 : r ≤ 1000000) (h3 : 0 ≤ t) (h4 : t ≤ t1) (h5 : t1 ≤ 1000000) : 0 ≤ r * (t1 - t) ∧ r * (t1 - t) ≤ 1000000000000 := by
  constructor
  · exact Int.mul_nonneg h1 (by omega)
  · have a : r * (t1 - t) ≤ 1000000 * (t1 - t) := Int.mul_le_mul_of_nonneg_right h2 (by omega)
    omega

def BoundsRel (ts ms : List Int) (g3 g7 : Nat) (R : NE) (r s l0 t0 : Int) (w : World) (c47 c8 c9 c10 : Value) (wr : World) : Prop :=
  ∃ (k : Nat) (l t sum c : Int), c47 = .int .i64 k ∧ c8 = .int .i64 sum ∧ c9 = .int .i64 t ∧ c10 = .int .i64 c ∧ k ≤ ts.length ∧ 0 ≤ c ∧ c ≤ k ∧ 0 ≤ sum ∧ sum ≤ k * 1000000 ∧ 0 ≤ t ∧ t ≤ 1000000 ∧ t0 ≤ t ∧ okB r s l t = true ∧ sum + l ≤ l0 + r * (t - t0) ∧
    playF (ts.drop k) (ms.drop k) r s l t c = R ∧ Box wr g7 23 #[.int .i64 r, .int .i64 s, .int .i64 l, .int .i64 t] ∧ Box wr g3 23 #[.int .i64 r, .int .i64 s, .int .i64 l0, .int .i64 t0] ∧ Below w.heap.size w wr

set_option maxHeartbeats 400000 in
theorem bounds_e1 (r s l t : Int) (A A' : Option Addr) (n n' cap cap' : Nat) (w : World) (h1 : decide ((200 : Int) < (n : Int)) = true) :
    Calls Try.prog 8 #[.agg #[.int .i64 r, .int .i64 s, .int .i64 l, .int .i64 t], .slice A n cap, .slice A' n' cap'] w fun e w' => e = .returned (.bool true) ∧ Below w.heap.size w w' := by
  go_enter Try.func8, Try.ntmps8
  go_wp2_with (first | (go_at_call 17; refine (awake_any _).mono ?_; rintro _ wa ⟨rfl, hba⟩))
  go_ret
  exact ⟨rfl, below_step ((Below.refl _ w).alloc (Nat.le_refl _) _) hba⟩
set_option maxHeartbeats 400000 in
theorem bounds_e2 (r s l t : Int) (A A' : Option Addr) (n n' cap cap' : Nat) (w : World) (h1 : decide ((200 : Int) < (n : Int)) = false) (h2 : ((n : Int) != (n' : Int)) = true) :
    Calls Try.prog 8 #[.agg #[.int .i64 r, .int .i64 s, .int .i64 l, .int .i64 t], .slice A n cap, .slice A' n' cap'] w fun e w' => e = .returned (.bool true) ∧ Below w.heap.size w w' := by
  go_enter Try.func8, Try.ntmps8
  go_wp2_with (first | (go_at_call 17; refine (awake_any _).mono ?_; rintro _ wa ⟨rfl, hba⟩))
  go_ret
  exact ⟨rfl, below_step ((Below.refl _ w).alloc (Nat.le_refl _) _) hba⟩
set_option maxHeartbeats 400000 in
theorem bounds_e3 (r s l t : Int) (A A' : Option Addr) (n cap cap' : Nat) (w : World) (h1 : decide ((200 : Int) < (n : Int)) = false) (HC : Hid (∀ W, Calls Try.prog 15 #[.agg #[.int .i64 r, .int .i64 s, .int .i64 l, .int .i64 t]] W fun e w' => e = .returned (.int .i64 2) ∧ Below W.heap.size W w')) :
    Calls Try.prog 8 #[.agg #[.int .i64 r, .int .i64 s, .int .i64 l, .int .i64 t], .slice A n cap, .slice A' n cap'] w fun e w' => e = .returned (.bool true) ∧ Below w.heap.size w w' := by
  go_enter Try.func8, Try.ntmps8
  go_wp2_with (first | (go_at_call 15; refine (HC.out _).mono ?_; rintro _ w1 ⟨rfl, hb⟩; have B0 := (Box.new w 23 #[.int .i64 r, .int .i64 s, .int .i64 l, .int .i64 t]).next hb; have hB := below_step ((Below.refl _ w).alloc (Nat.le_refl _) _) hb; obtain ⟨p0, p1, p2, p3⟩ := B0.cells4; clear hb B0) | (go_at_call 17; refine (awake_any _).mono ?_; rintro _ wa ⟨rfl, hba⟩))
  go_ret
  exact ⟨rfl, below_step hB hba⟩
set_option maxHeartbeats 400000 in
theorem bounds_e4 (r s l t : Int) (A A' : Option Addr) (n cap cap' : Nat) (w : World) (h1 : decide ((200 : Int) < (n : Int)) = false) (HC : Hid (∀ W, Calls Try.prog 15 #[.agg #[.int .i64 r, .int .i64 s, .int .i64 l, .int .i64 t]] W fun e w' => e = .returned (.int .i64 0) ∧ Below W.heap.size W w')) (h2 : decide ((1000000 : Int) < r) = true) :
    Calls Try.prog 8 #[.agg #[.int .i64 r, .int .i64 s, .int .i64 l, .int .i64 t], .slice A n cap, .slice A' n cap'] w fun e w' => e = .returned (.bool true) ∧ Below w.heap.size w w' := by
  go_enter Try.func8, Try.ntmps8
  go_wp2_with (first | (go_at_call 15; refine (HC.out _).mono ?_; rintro _ w1 ⟨rfl, hb⟩; have B0 := (Box.new w 23 #[.int .i64 r, .int .i64 s, .int .i64 l, .int .i64 t]).next hb; have hB := below_step ((Below.refl _ w).alloc (Nat.le_refl _) _) hb; obtain ⟨p0, p1, p2, p3⟩ := B0.cells4; clear hb B0) | (go_at_call 17; refine (awake_any _).mono ?_; rintro _ wa ⟨rfl, hba⟩))
  go_ret
  exact ⟨rfl, below_step hB hba⟩
set_option maxHeartbeats 400000 in
theorem bounds_e5 (r s l t : Int) (A A' : Option Addr) (n cap cap' : Nat) (w : World) (h1 : decide ((200 : Int) < (n : Int)) = false) (HC : Hid (∀ W, Calls Try.prog 15 #[.agg #[.int .i64 r, .int .i64 s, .int .i64 l, .int .i64 t]] W fun e w' => e = .returned (.int .i64 0) ∧ Below W.heap.size W w')) (h2 : decide ((1000000 : Int) < r) = false) (h3 : decide ((1000000 : Int) < t) = true) :
    Calls Try.prog 8 #[.agg #[.int .i64 r, .int .i64 s, .int .i64 l, .int .i64 t], .slice A n cap, .slice A' n cap'] w fun e w' => e = .returned (.bool true) ∧ Below w.heap.size w w' := by
  go_enter Try.func8, Try.ntmps8
  go_wp2_with (first | (go_at_call 15; refine (HC.out _).mono ?_; rintro _ w1 ⟨rfl, hb⟩; have B0 := (Box.new w 23 #[.int .i64 r, .int .i64 s, .int .i64 l, .int .i64 t]).next hb; have hB := below_step ((Below.refl _ w).alloc (Nat.le_refl _) _) hb; obtain ⟨p0, p1, p2, p3⟩ := B0.cells4; clear hb B0) | (go_at_call 17; refine (awake_any _).mono ?_; rintro _ wa ⟨rfl, hba⟩))
  go_ret
  exact ⟨rfl, below_step hB hba⟩

set_option maxHeartbeats 2000000 in
set_option maxRecDepth 100000 in
theorem bounds_main (r s l t : Int) (A A' : Option Addr) (n cap cap' : Nat) (ts ms : List Int) (w : World) (hn : ts.length = n) (hn' : ms.length = n) (hts : Seg w A n (ints ts)) (hms : Seg w A' n (ints ms))
    (h1 : decide ((200 : Int) < (n : Int)) = false) (HC : Hid (∀ W, Calls Try.prog 15 #[.agg #[.int .i64 r, .int .i64 s, .int .i64 l, .int .i64 t]] W fun e w' => e = .returned (.int .i64 0) ∧ Below W.heap.size W w')) (h2 : decide ((1000000 : Int) < r) = false) (h3 : decide ((1000000 : Int) < t) = false) (hok : okB r s l t = true) :
    Calls Try.prog 8 #[.agg #[.int .i64 r, .int .i64 s, .int .i64 l, .int .i64 t], .slice A n cap, .slice A' n cap'] w fun e w' => e = .returned (.bool true) ∧ Below w.heap.size w w' := by
  have HN := Lib.hid hn
  have HN' := Lib.hid hn'
  clear hn hn'
  have Hts := Lib.hid hts
  have Hms := Lib.hid hms
  clear hts hms
  have hr1 : r ≤ 1000000 := by simpa using h2
  have ht1 : t ≤ 1000000 := by simpa using h3
  have hn1 : n ≤ 200 := by have : (n : Int) ≤ 200 := by simpa using h1
                           omega
  have HOK := Lib.hid hok
  clear hok
  go_enter Try.func8, Try.ntmps8
  go_wp2_with fail
  refine (HC.out _).mono ?_
  rintro _ w1 ⟨rfl, hb⟩
  have B0 := (Box.new w 23 #[.int .i64 r, .int .i64 s, .int .i64 l, .int .i64 t]).next hb
  have hB := below_step ((Below.refl _ w).alloc (Nat.le_refl _) _) hb
  clear hb
  obtain ⟨p0, p1, p2, p3⟩ := B0.cells4
  go_upto_region 3 with fail
  clear p0 p1 p2 p3
  obtain ⟨i0, i1, i2, i3⟩ := B0.icells4
  refine wp_region_own 3 (by kernel_rfl) (by kernel_rfl) ?_
  simp only [List.take_succ_cons, List.take_zero, List.drop_succ_cons, List.drop_zero]
  iterate 3 (refine wpCalm_step (fun K hK => ?_); go_simp; refine hK _ ?_; clear hK K)
  refine wpCalm_nil ?_
  clear i0 i1 i2 i3
  refine wpOwn_step (fun w2 hb2 K hK => ?_)
  go_simp
  refine ⟨below_box hb2 _, hK _ _ ?_⟩
  clear hK K
  have hg : w.heap.size < w2.heap.size := Nat.lt_of_lt_of_le B0.lt hb2.size
  have hg2 := hb2.size
  refine wpOwn_step (fun w3 hb3 K hK => ?_)
  have G := (Box.new w2 23 #[.int .i64 0, .int .i64 0, .int .i64 0, .int .i64 0]).next hb3
  replace hb2 := below_step (below_box hb2 _) hb3
  clear hb3
  obtain ⟨q0, q1, q2, q3⟩ := G.cells4
  obtain ⟨f0, f1, f2, f3⟩ := G.frozen4
  go_simp
  clear q0 q1 q2 q3 f0 f1 f2 f3
  refine ⟨below_set4 hb2 hg2 _ _ _ _, hK _ _ ?_⟩
  clear hK K
  refine wpOwn_step (fun w4 hb4 K hK => ?_)
  go_simp
  replace G := (G.set4 (v0 := .int .i64 r) (v1 := .int .i64 s) (v2 := .int .i64 l) (v3 := .int .i64 t)).next hb4
  replace hb2 := below_step (below_set4 hb2 hg2 _ _ _ _) hb4
  clear hb4
  refine ⟨hb2, hK _ _ ?_⟩
  clear hK K
  refine wpOwn_step (fun w5 hb5 K hK => ?_)
  go_simp
  replace G := G.next hb5
  replace hb2 := below_step hb2 hb5
  clear hb5
  refine ⟨hb2, hK _ _ ?_⟩
  clear hK K
  refine wpOwn_step (fun w6 hb6 K hK => ?_)
  go_simp
  replace G := G.next hb6
  replace hb2 := below_step hb2 hb6
  clear hb6
  refine ⟨hb2, hK _ _ ?_⟩
  clear hK K
  refine wpOwn_nil (fun w7 hb7 => ?_)
  replace G := G.next hb7
  replace hb2 := below_step hb2 hb7
  clear hb7
  replace B0 := B0.next hb2
  replace hB := below_step hB hb2
  clear hb2
  go_wp2_with fail
  have hst : BoundsRel ts ms w.heap.size w2.heap.size (playF ts ms r s l t 0) r s l t w (.int .i64 0) (.int .i64 0) (.int .i64 t) (.int .i64 0) w7 :=
    ⟨0, l, t, 0, 0, rfl, rfl, rfl, rfl, by omega, by omega, by omega, by omega, by omega, ((okB_iff r s l t).1 HOK.out).2.2.2.2.2.2.1, ht1, by omega, HOK.out, by simp, by simp, G, B0, hB⟩
  have HST := Lib.hid hst
  clear hst G B0 hB
  generalize w2.heap.size = g7 at *
  clear hg2
  go_loopw [47, 8, 9, 10] (BoundsRel ts ms w.heap.size g7 (playF ts ms r s l t 0) r s l t w) (fun i _ _ _ _ => n - (intOf i).toNat)
  case atStart => exact HST.out
  case round =>
    clear HST
    obtain ⟨k, l1, t1, sum, c, rfl, rfl, rfl, rfl, hk, hc0, hck, hs0, hs1, hq0, hq1, hq2, hok, hsum, hR, B7, B0, hB⟩ := hrel
    have HR := Lib.hid hR
    have HS := Lib.hid hsum
    have HK := Lib.hid hok
    clear hR hsum hok
    by_cases hlt : k < n
    · obtain ⟨b1, o1, rfl, hb1, hc1⟩ := Hts.out k hlt
      obtain ⟨b2, o2, rfl, hy2, hc2⟩ := Hms.out k hlt
      replace hc1 : wr.cell? ⟨b1, o1 + k, none⟩ = some (.int .i64 (ts.getD k 0)) := (hB.cell (p := ⟨b1, o1 + k, none⟩) hb1).trans hc1
      replace hc2 : wr.cell? ⟨b2, o2 + k, none⟩ = some (.int .i64 (ms.getD k 0)) := (hB.cell (p := ⟨b2, o2 + k, none⟩) hy2).trans hc2
      have hs := hB.size
      have HT : Hid (∀ W, _) := fun W => take_any r s l1 t1 (ms.getD k 0) (ts.getD k 0) W
      replace HR : Hid (_ = _) := (playF_step ts ms k (by rw [HN.out]; exact hlt) (by rw [HN'.out]; exact hlt) r s l1 t1 c).symm.trans HR.out
      have HX : Hid ((takeV r s l1 t1 (ms.getD k 0) (ts.getD k 0)).e = 0 → ∃ l', takeV r s l1 t1 (ms.getD k 0) (ts.getD k 0) = ⟨r, s, l', ts.getD k 0, 0⟩ ∧ okB r s l' (ts.getD k 0) = true ∧ sum + ms.getD k 0 + l' ≤ l + r * (ts.getD k 0 - t) ∧ t ≤ ts.getD k 0 ∧ 0 ≤ ms.getD k 0) :=
        fun h => bound_step r s l1 t1 _ _ l t sum h HS.out hq2
      generalize ts.getD k 0 = tk at *
      generalize ms.getD k 0 = mk at *
      by_cases gt : tk < 0 ∨ 1000000 < tk ∨ mk < 0 ∨ 1000000 < mk
      · have gt' : (tk < 0) ∨ (0 ≤ tk ∧ 1000000 < tk) ∨ (0 ≤ tk ∧ tk ≤ 1000000 ∧ mk < 0) ∨ (0 ≤ tk ∧ tk ≤ 1000000 ∧ 0 ≤ mk ∧ 1000000 < mk) := by omega
        clear gt HR HX
        rcases gt' with g1 | ⟨g1, g2⟩ | ⟨g1, g2, g3⟩ | ⟨g1, g2, g3, g4⟩
        all_goals
          go_wp2_with (go_at_call 17; refine (awake_any _).mono ?_; rintro _ wa ⟨rfl, hba⟩)
          go_ret
          exact ⟨rfl, below_step hB hba⟩
      · obtain ⟨g1, g2, g3, g4⟩ : 0 ≤ tk ∧ tk ≤ 1000000 ∧ 0 ≤ mk ∧ mk ≤ 1000000 := by omega
        clear gt
        generalize takeV r s l1 t1 mk tk = T at *
        obtain ⟨a', b', c', d', e'⟩ := T
        simp only at HT HR HX
        obtain ⟨i0, i1, i2, i3⟩ := B7.icells4
        have ic1 : ∀ i : Idx wr, i.at.cell? ⟨b1, o1 + k, none⟩ = some (.int .i64 tk) := fun i => (i.below.cell (p := ⟨b1, o1 + k, none⟩) (Nat.lt_of_lt_of_le hb1 hs)).trans hc1
        have ic2 : ∀ i : Idx wr, i.at.cell? ⟨b2, o2 + k, none⟩ = some (.int .i64 mk) := fun i => (i.below.cell (p := ⟨b2, o2 + k, none⟩) (Nat.lt_of_lt_of_le hy2 hs)).trans hc2
        go_upto_region 9 with fail
        refine wp_region_own 13 (by kernel_rfl) (by kernel_rfl) ?_
        simp only [List.take_succ_cons, List.take_zero, List.drop_succ_cons, List.drop_zero]
        iterate 13 (refine wpCalm_step (fun K hK => ?_); go_simp; first | (refine hK _ ?_; clear hK K) | (apply Exists.intro; refine ⟨fun _ => ?_, hK _ ?_⟩; (go_at_call 11; exact HT.out _); clear hK K))
        refine wpCalm_nil ?_
        clear i0 i1 i2 i3 ic1 ic2
        have z7 := B7.lt
        refine wpOwn_step (fun w2 hb2 K hK => ?_)
        go_simp
        refine ⟨below_box hb2 _, hK _ _ ?_⟩
        clear hK K
        have hgw : wr.heap.size ≤ w2.heap.size := hb2.size
        refine wpOwn_step (fun w3 hb3 K hK => ?_)
        have G := (Box.new w2 23 #[.int .i64 0, .int .i64 0, .int .i64 0, .int .i64 0]).next hb3
        replace hb2 := below_step (below_box hb2 _) hb3
        clear hb3
        obtain ⟨q0, q1, q2, q3⟩ := G.cells4
        obtain ⟨f0, f1, f2, f3⟩ := G.frozen4
        go_simp
        clear q0 q1 q2 q3 f0 f1 f2 f3
        refine ⟨below_set4 hb2 hgw _ _ _ _, hK _ _ ?_⟩
        clear hK K
        refine wpOwn_step (fun w4 hb4 K hK => ?_)
        go_simp
        replace G := (G.set4 (v0 := .int .i64 a') (v1 := .int .i64 b') (v2 := .int .i64 c') (v3 := .int .i64 d')).next hb4
        replace hb2 := below_step (below_set4 hb2 hgw _ _ _ _) hb4
        clear hb4
        refine ⟨hb2, hK _ _ ?_⟩
        clear hK K
        refine wpOwn_nil (fun w5 hb5 => ?_)
        replace G := G.next hb5
        have hb2' := below_step hb2 hb5
        clear hb5 hb2
        replace B7 := B7.next hb2'
        replace B0 := B0.next hb2'
        replace hB := below_step hB hb2'
        replace hc1 := (hb2'.cell (p := ⟨b1, o1 + k, none⟩) (Nat.lt_of_lt_of_le hb1 hs)).trans hc1
        replace hc2 := (hb2'.cell (p := ⟨b2, o2 + k, none⟩) (Nat.lt_of_lt_of_le hy2 hs)).trans hc2
        clear hb2'
        by_cases he : e' = 0
        · subst he
          rw [if_pos rfl] at HR
          obtain ⟨l', hT, hok, hsum, hle, _⟩ := HX.out rfl
          simp only [BE.mk.injEq] at hT
          obtain ⟨rfl, rfl, rfl, rfl, _⟩ := hT
          replace HS := Lib.hid hsum
          replace HK := Lib.hid hok
          clear hsum hok HX
          go_upto_region 13 with fail
          have hF : Below w.heap.size w w5 ∧ Box w5 w2.heap.size 23 #[.int .i64 a', .int .i64 b', .int .i64 c', .int .i64 d'] ∧ Box w5 w.heap.size 23 #[.int .i64 a', .int .i64 b', .int .i64 l, .int .i64 t] ∧ ∃ x0 x1 x2 x3, Box w5 g7 23 #[x0, x1, x2, x3] := ⟨hB, G, B0, _, _, _, _, B7⟩
          obtain ⟨c5, rfl, hC1, hC2⟩ : ∃ cl : Cls, w5 = cl.w ∧ (∀ w', cl.C w' → Below w.heap.size w w' ∧ Box w' w2.heap.size 23 #[.int .i64 a', .int .i64 b', .int .i64 c', .int .i64 d'] ∧ Box w' w.heap.size 23 #[.int .i64 a', .int .i64 b', .int .i64 l, .int .i64 t] ∧ ∃ x0 x1 x2 x3, Box w' g7 23 #[x0, x1, x2, x3]) ∧
              (∀ w', (Below w.heap.size w w' ∧ Box w' w2.heap.size 23 #[.int .i64 a', .int .i64 b', .int .i64 c', .int .i64 d'] ∧ Box w' w.heap.size 23 #[.int .i64 a', .int .i64 b', .int .i64 l, .int .i64 t] ∧ ∃ x0 x1 x2 x3, Box w' g7 23 #[x0, x1, x2, x3]) → cl.C w') :=
            ⟨⟨_, w5, hF, fun h hb => ⟨below_step h.1 hb, h.2.1.next hb, h.2.2.1.next hb, by obtain ⟨x0, x1, x2, x3, hx⟩ := h.2.2.2; exact ⟨x0, x1, x2, x3, hx.next hb⟩⟩⟩, rfl, fun _ h => h, fun _ h => h⟩
          have HC1 := Lib.hid hC1
          have HC2 := Lib.hid hC2
          clear hC1 hC2 hF
          have q0 : ∀ n : IdxC c5, n.at.cell? ⟨w2.heap.size, 0, none⟩ = some (.int .i64 a') := fun n => (HC1.out _ n.prop).2.1.cells4.1
          have q1 : ∀ n : IdxC c5, n.at.cell? ⟨w2.heap.size, 1, none⟩ = some (.int .i64 b') := fun n => (HC1.out _ n.prop).2.1.cells4.2.1
          have q2 : ∀ n : IdxC c5, n.at.cell? ⟨w2.heap.size, 2, none⟩ = some (.int .i64 c') := fun n => (HC1.out _ n.prop).2.1.cells4.2.2.1
          have q3 : ∀ n : IdxC c5, n.at.cell? ⟨w2.heap.size, 3, none⟩ = some (.int .i64 d') := fun n => (HC1.out _ n.prop).2.1.cells4.2.2.2
          have q4 : ∀ n : IdxC c5, n.at.cell? ⟨b1, o1 + k, none⟩ = some (.int .i64 d') := fun n => ((HC1.out _ n.prop).1.cell (p := ⟨b1, o1 + k, none⟩) hb1).trans ((hB.cell (p := ⟨b1, o1 + k, none⟩) hb1).symm.trans hc1)
          have q5 : ∀ n : IdxC c5, n.at.cell? ⟨b2, o2 + k, none⟩ = some (.int .i64 mk) := fun n => ((HC1.out _ n.prop).1.cell (p := ⟨b2, o2 + k, none⟩) hy2).trans ((hB.cell (p := ⟨b2, o2 + k, none⟩) hy2).symm.trans hc2)
          clear hc1 hc2
          have ew1 : IntKind.i64.wrap (sum + mk) = sum + mk := IntWalk.i64_in _ (by omega)
          have ew2 : IntKind.i64.wrap (c + 1) = c + 1 := IntWalk.i64_in _ (by omega)
          refine wp_region_cls 13 (by kernel_rfl) (by kernel_rfl) ?_
          simp only [List.take_succ_cons, List.take_zero, List.drop_succ_cons, List.drop_zero]
          iterate 13 (refine wpCalmC_step (fun K hK => ?_); go_simp; refine hK _ ?_; clear hK K)
          refine wpCalmC_nil ?_
          clear q0 q1 q2 q3 q4 q5 ew1 ew2
          refine wpOwnC_step (fun w6 hb6 K hK => ?_)
          replace G := G.next hb6
          replace B0 := B0.next hb6
          replace B7 := B7.next hb6
          replace hB := below_step hB hb6
          clear hb6
          obtain ⟨p0, p1, p2, p3⟩ := B7.cells4
          obtain ⟨f0, f1, f2, f3⟩ := B7.frozen4
          go_simp
          clear p0 p1 p2 p3 f0 f1 f2 f3
          replace G := G.far4 (g := g7) (by omega) (.int .i64 a') (.int .i64 b') (.int .i64 c') (.int .i64 d')
          replace B0 := B0.far4 (g := g7) (by omega) (.int .i64 a') (.int .i64 b') (.int .i64 c') (.int .i64 d')
          replace B7 := B7.set4 (v0 := .int .i64 a') (v1 := .int .i64 b') (v2 := .int .i64 c') (v3 := .int .i64 d')
          replace hB := below_set4 hB (Nat.le_of_lt hg) (.int .i64 a') (.int .i64 b') (.int .i64 c') (.int .i64 d')
          refine ⟨HC2.out _ ⟨hB, G, B0, _, _, _, _, B7⟩, hK _ _ ?_⟩
          clear hK K
          iterate 3
            refine wpOwnC_step (fun w7 hb7 K hK => ?_)
            go_simp
            replace G := G.next hb7
            replace B0 := B0.next hb7
            replace B7 := B7.next hb7
            replace hB := below_step hB hb7
            clear hb7
            refine ⟨HC2.out _ ⟨hB, G, B0, _, _, _, _, B7⟩, hK _ _ ?_⟩
            clear hK K
          refine wpOwnC_nil (fun w8 hb8 => ?_)
          replace B0 := B0.next hb8
          replace B7 := B7.next hb8
          replace hB := below_step hB hb8
          clear hb8 G
          go_wp2
          go_roundw
          case rel => exact ⟨k + 1, c', d', sum + mk, c + 1, by go_num, by go_num, by go_num, by go_num, by have := HN.out; omega, by omega, by omega, by omega, by omega, by omega, by omega, hle, HK.out, HS.out, HR.out, B7, B0, hB⟩
          case measure => simp [intOf]; omega
        · clear hc1 hc2 G
          rw [if_neg he] at HR
          have h0 : (e' != 0) = true := by simpa using he
          have h00 : (e' == 0) = false := by simpa using he
          by_cases h7 : e' = 17
          · subst h7
            rw [if_pos rfl] at HR
            go_wp2
            go_roundw
            case rel => exact ⟨k + 1, l1, t1, sum, c, by go_num, by go_num, by go_num, by go_num, by have := HN.out; omega, by omega, by omega, by omega, by omega, by omega, by omega, hq2, HK.out, HS.out, HR.out, B7, B0, hB⟩
            case measure => simp [intOf]; omega
          · have h17 : (e' != 17) = true := by simpa using h7
            go_wp2_with (go_at_call 17; refine (awake_any _).mono ?_; rintro _ wa ⟨rfl, hba⟩)
            go_ret
            exact ⟨rfl, below_step hB hba⟩
    · have hkn : (n : Int) ≤ k := by omega
      replace HR : Hid (_ = _) := (playF_end ts ms k (by rw [HN.out]; omega) r s l1 t1 c).symm.trans HR.out
      have hpv : playV r s l t ts ms = ⟨c, 0⟩ := by
        unfold playV
        rw [if_pos HOK.out, if_neg (by rw [HN.out, HN'.out]; omega), if_neg (by rw [HN.out]; omega)]
        exact HR.out.symm
      have HP : Hid (∀ W, Seg W A n (ints ts) → Seg W A' n (ints ms) → Calls Try.prog 20 #[.agg #[.int .i64 r, .int .i64 s, .int .i64 l, .int .i64 t], .slice A n cap, .slice A' n cap'] W fun e w' => e = .returned (.tuple #[.int .i64 c, .int .i64 0]) ∧ Below W.heap.size W w') := fun W k1 k2 => by
        have h := play_any r s l t A A' n n cap cap' ts ms W HN.out HN'.out k1 k2
        rw [hpv] at h
        exact h
      clear hpv
      obtain ⟨p0, p1, p2, p3⟩ := B0.cells4
      go_wp2_with fail
      refine (HP.out _ (Hts.out.next hB) (Hms.out.next hB)).mono ?_
      rintro _ w8 ⟨rfl, hb⟩
      replace B0 := B0.next hb
      replace hB := below_step hB hb
      clear hb p0 p1 p2 p3 B7
      obtain ⟨p0, p1, p2, p3⟩ := B0.cells4
      have hrp := prod_bd6 r t t1 (((okB_iff _ _ _ _).1 HOK.out).1) hr1 (((okB_iff _ _ _ _).1 HOK.out).2.2.2.2.2.2.1) hq2 hq1
      obtain ⟨m1, m2⟩ := hrp
      have ml1 : 0 ≤ l := ((okB_iff _ _ _ _).1 HOK.out).2.2.2.2.1
      have ml2 : l ≤ 1000000000 := Int.le_trans ((okB_iff _ _ _ _).1 HOK.out).2.2.2.2.2.1 ((okB_iff _ _ _ _).1 HOK.out).2.2.2.1
      have mt : 0 ≤ t := ((okB_iff _ _ _ _).1 HOK.out).2.2.2.2.2.2.1
      have ml3 : 0 ≤ l1 := ((okB_iff _ _ _ _).1 HK.out).2.2.2.2.1
      have hfin : sum ≤ l + r * (t1 - t) := by have := HS.out; omega
      go_wp2_with (go_at_call 17; refine (awake_any _).mono ?_; rintro _ wa ⟨rfl, hba⟩)
      go_ret
      exact ⟨rfl, below_step hB hba⟩

theorem bucketBounds_walk (r s l t : Int) (A : Option Addr) (n cap : Nat) (ts : List Int) (A' : Option Addr) (n' cap' : Nat) (ms : List Int) (w : World)
    (_ : (Lit.int .i64 r).wf = true) (_ : (Lit.int .i64 s).wf = true) (_ : (Lit.int .i64 l).wf = true) (_ : (Lit.int .i64 t).wf = true)
    (hts : ts.length = n ∧ Seg w A n (ints ts) ∧ (∀ n ∈ ts, (Lit.int .i64 n).wf = true) ∧ n ≤ maxLen) (hms : ms.length = n' ∧ Seg w A' n' (ints ms) ∧ (∀ n ∈ ms, (Lit.int .i64 n).wf = true) ∧ n' ≤ maxLen) :
    Calls Try.prog 8 #[.agg #[.int .i64 r, .int .i64 s, .int .i64 l, .int .i64 t], .slice A n cap, .slice A' n' cap'] w fun e w' => e = .returned (.bool true) ∧ Below w.heap.size w w' := by
  by_cases g1 : 200 < n
  · exact bounds_e1 r s l t A A' n n' cap cap' w (by simp; omega)
  by_cases g2 : n = n'
  · subst g2
    have h1 : decide ((200 : Int) < (n : Int)) = false := by simp; omega
    cases hk : okB r s l t
    · exact bounds_e3 r s l t A A' n cap cap' w h1 (fun W => by simpa [hk] using check_any r s l t W)
    · have HC : Hid (∀ W, Calls Try.prog 15 #[.agg #[.int .i64 r, .int .i64 s, .int .i64 l, .int .i64 t]] W fun e w' => e = .returned (.int .i64 0) ∧ Below W.heap.size W w') := fun W => by simpa [hk] using check_any r s l t W
      by_cases g3 : 1000000 < r
      · exact bounds_e4 r s l t A A' n cap cap' w h1 HC (by simpa using g3)
      · by_cases g4 : 1000000 < t
        · exact bounds_e5 r s l t A A' n cap cap' w h1 HC (by simpa using g3) (by simpa using g4)
        · exact bounds_main r s l t A A' n cap cap' ts ms w hts.1 hms.1 hts.2.1 hms.2.1 h1 HC (by simpa using g3) (by simpa using g4) hk
  · exact bounds_e2 r s l t A A' n n' cap cap' w (by simp; omega) (by simp; omega)
end Go.Proofs.Ytmfekechdejefaa
