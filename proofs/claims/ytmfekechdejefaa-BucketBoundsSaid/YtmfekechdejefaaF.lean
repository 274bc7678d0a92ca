/- Contracts of Play of layer 39 (bucket) and of its reference. -/
import Derived.Test.YtmfekechdejefaaE
import Derived.Test.YtmfekechdejefaaG
namespace Go.Proofs.Ytmfekechdejefaa
open Go.ChangeShapes Go.WideShapes Go.ChangeAt Go.RowKit
attribute [local go_sem] ownAt ownUpon

/-- What Play counts from some place on. -/
def playF : List Int → List Int → Int → Int → Int → Int → Int → NE
  | t' :: ts, a :: ms, r, s, l, t, c => if (takeV r s l t a t').e = 0 then playF ts ms (takeV r s l t a t').r (takeV r s l t a t').s (takeV r s l t a t').l (takeV r s l t a t').t (c + 1)
      else if (takeV r s l t a t').e = 17 then playF ts ms r s l t c else ⟨0, (takeV r s l t a t').e⟩
  | _, _, _, _, _, _, c => ⟨c, 0⟩
theorem playF_step (ts ms : List Int) (k : Nat) (h : k < ts.length) (h' : k < ms.length) (r s l t c : Int) : playF (ts.drop k) (ms.drop k) r s l t c =
    if (takeV r s l t (ms.getD k 0) (ts.getD k 0)).e = 0 then playF (ts.drop (k + 1)) (ms.drop (k + 1)) (takeV r s l t (ms.getD k 0) (ts.getD k 0)).r (takeV r s l t (ms.getD k 0) (ts.getD k 0)).s (takeV r s l t (ms.getD k 0) (ts.getD k 0)).l (takeV r s l t (ms.getD k 0) (ts.getD k 0)).t (c + 1)
      else if (takeV r s l t (ms.getD k 0) (ts.getD k 0)).e = 17 then playF (ts.drop (k + 1)) (ms.drop (k + 1)) r s l t c else ⟨0, (takeV r s l t (ms.getD k 0) (ts.getD k 0)).e⟩ := by
  rw [List.drop_eq_getElem_cons h, List.drop_eq_getElem_cons h', playF]
  simp [List.getD, h, h']
theorem playF_end (ts ms : List Int) (k : Nat) (h : ts.length ≤ k) (r s l t c : Int) : playF (ts.drop k) (ms.drop k) r s l t c = ⟨c, 0⟩ := by
  rw [List.drop_eq_nil_of_le h, playF]
  simp
def playV (r s l t : Int) (ts ms : List Int) : NE := if okB r s l t then (if ts.length ≠ ms.length then ⟨0, 2⟩ else if 256 < ts.length then ⟨0, 3⟩ else playF ts ms r s l t 0) else ⟨0, 2⟩

def PlayRel (ts ms : List Int) (g : Nat) (R : NE) (w : World) (c28 c9 : Value) (wr : World) : Prop :=
  ∃ (k : Nat) (r s l t c : Int), c28 = .int .i64 k ∧ c9 = .int .i64 c ∧ k ≤ ts.length ∧ 0 ≤ c ∧ c ≤ k ∧ playF (ts.drop k) (ms.drop k) r s l t c = R ∧ Box wr g 23 #[.int .i64 r, .int .i64 s, .int .i64 l, .int .i64 t] ∧ Below w.heap.size w wr

set_option maxHeartbeats 1000000 in
theorem play_loop (r s l t : Int) (A A' : Option Addr) (n cap cap' : Nat) (ts ms : List Int) (w : World) (hn : ts.length = n) (hn' : ms.length = n) (hts : Seg w A n (ints ts)) (hms : Seg w A' n (ints ms))
    (HC : Hid (∀ W, Calls Try.prog 15 #[.agg #[.int .i64 r, .int .i64 s, .int .i64 l, .int .i64 t]] W fun e w' => e = .returned (.int .i64 0) ∧ Below W.heap.size W w')) (hsm : n ≤ 256) :
    Calls Try.prog 20 #[.agg #[.int .i64 r, .int .i64 s, .int .i64 l, .int .i64 t], .slice A n cap, .slice A' n cap'] w fun e w' => e = .returned (.tuple #[.int .i64 (playF ts ms r s l t 0).v, .int .i64 (playF ts ms r s l t 0).e]) ∧ Below w.heap.size w w' := by
  have hd : decide ((256 : Int) < (n : Int)) = false := by simp; omega
  have HN := Lib.hid hn
  have HN' := Lib.hid hn'
  clear hn hn'
  have Hts := Lib.hid hts
  have Hms := Lib.hid hms
  clear hts hms
  go_enter Try.func20, Try.ntmps20
  go_wp2_with fail
  refine (HC.out _).mono ?_
  rintro _ w1 ⟨rfl, hb⟩
  have B0 := (Box.new w 23 #[.int .i64 r, .int .i64 s, .int .i64 l, .int .i64 t]).next hb
  have hB := below_step ((Below.refl _ w).alloc (Nat.le_refl _) _) hb
  clear hb
  go_wp2_with fail
  go_loopw [28, 9] (PlayRel ts ms w.heap.size (playF ts ms r s l t 0) w) (fun i _ _ => n - (intOf i).toNat)
  case atStart => exact ⟨0, r, s, l, t, 0, rfl, rfl, by omega, by omega, by omega, by simp, B0, hB⟩
  case round =>
    obtain ⟨k, r1, s1, l1, t1, c, rfl, rfl, hk, hc0, hck, hR, B0, hB⟩ := hrel
    have HR := Lib.hid hR
    clear hR
    by_cases hlt : k < n
    · obtain ⟨b1, o1, rfl, hb1, hc1⟩ := Hts.out k hlt
      obtain ⟨b2, o2, rfl, hb2, hc2⟩ := Hms.out k hlt
      replace hc1 : wr.cell? ⟨b1, o1 + k, none⟩ = some (.int .i64 (ts.getD k 0)) := (hB.cell (p := ⟨b1, o1 + k, none⟩) hb1).trans hc1
      replace hc2 : wr.cell? ⟨b2, o2 + k, none⟩ = some (.int .i64 (ms.getD k 0)) := (hB.cell (p := ⟨b2, o2 + k, none⟩) hb2).trans hc2
      have hs := hB.size
      have HT : Hid (∀ W, _) := fun W => take_any r1 s1 l1 t1 (ms.getD k 0) (ts.getD k 0) W
      replace HR : Hid (_ = _) := (playF_step ts ms k (by rw [HN.out]; exact hlt) (by rw [HN'.out]; exact hlt) r1 s1 l1 t1 c).symm.trans HR.out
      generalize ts.getD k 0 = tk at *
      generalize ms.getD k 0 = mk at *
      generalize takeV r1 s1 l1 t1 mk tk = T at *
      obtain ⟨a', b', c', d', e'⟩ := T
      simp only at HT HR
      obtain ⟨i0, i1, i2, i3⟩ := B0.icells4
      have ic1 : ∀ i : Idx wr, i.at.cell? ⟨b1, o1 + k, none⟩ = some (.int .i64 tk) := fun i => (i.below.cell (p := ⟨b1, o1 + k, none⟩) (Nat.lt_of_lt_of_le hb1 hs)).trans hc1
      have ic2 : ∀ i : Idx wr, i.at.cell? ⟨b2, o2 + k, none⟩ = some (.int .i64 mk) := fun i => (i.below.cell (p := ⟨b2, o2 + k, none⟩) (Nat.lt_of_lt_of_le hb2 hs)).trans hc2
      go_upto_region 12 with fail
      refine wp_region_own 13 (by kernel_rfl) (by kernel_rfl) ?_
      simp only [List.take_succ_cons, List.take_zero, List.drop_succ_cons, List.drop_zero]
      iterate 13 (refine wpCalm_step (fun K hK => ?_); go_simp; first | (refine hK _ ?_; clear hK K) | (apply Exists.intro; refine ⟨fun _ => ?_, hK _ ?_⟩; (go_at_call 11; exact HT.out _); clear hK K))
      refine wpCalm_nil ?_
      clear i0 i1 i2 i3 ic1 ic2 hc1 hc2
      refine wpOwn_step (fun w2 hb2 K hK => ?_)
      go_simp
      refine ⟨below_box hb2 _, hK _ _ ?_⟩
      clear hK K
      have hg : w.heap.size < w2.heap.size := Nat.lt_of_lt_of_le B0.lt hb2.size
      have hg2 := hb2.size
      refine wpOwn_step (fun w3 hb3 K hK => ?_)
      have G := (Box.new w2 23 #[.int .i64 0, .int .i64 0, .int .i64 0, .int .i64 0]).next hb3
      replace hb2 := below_step (below_box hb2 _) hb3
      clear hb3
      obtain ⟨q0, q1, q2, q3⟩ := G.cells4
      obtain ⟨f0, f1, f2, f3⟩ := G.frozen4
      go_simp
      clear q0 q1 q2 q3 f0 f1 f2 f3
      refine ⟨below_set4 hb2 hg2 _ _ _ _, hK _ _ ?_⟩
      clear hK K
      refine wpOwn_step (fun w4 hb4 K hK => ?_)
      go_simp
      replace G := (G.set4 (v0 := .int .i64 a') (v1 := .int .i64 b') (v2 := .int .i64 c') (v3 := .int .i64 d')).next hb4
      replace hb2 := below_step (below_set4 hb2 hg2 _ _ _ _) hb4
      clear hb4
      refine ⟨hb2, hK _ _ ?_⟩
      clear hK K
      refine wpOwn_nil (fun w5 hb5 => ?_)
      replace G := G.next hb5
      replace hb2 := below_step hb2 hb5
      clear hb5
      replace B0 := B0.next hb2
      replace hB := below_step hB hb2
      clear hb2
      by_cases he : e' = 0
      · subst he
        rw [if_pos rfl] at HR
        obtain ⟨q0, q1, q2, q3⟩ := G.cells4
        obtain ⟨p0, p1, p2, p3⟩ := B0.cells4
        obtain ⟨f0, f1, f2, f3⟩ := B0.frozen4
        go_wp2
        go_roundw
        case rel => exact ⟨k + 1, a', b', c', d', c + 1, by go_num, by go_num, by have := HN.out; omega, by omega, by omega, HR.out, B0.set4, below_set4 hB (Nat.le_refl _) _ _ _ _⟩
        case measure => simp [intOf]; omega
      · rw [if_neg he] at HR
        have h0 : (e' == 0) = false := by simpa using he
        
        by_cases h7 : e' = 17
        · subst h7
          rw [if_pos rfl] at HR
          go_wp2
          go_roundw
          case rel => exact ⟨k + 1, r1, s1, l1, t1, c, by go_num, by go_num, by have := HN.out; omega, by omega, by omega, HR.out, B0, hB⟩
          case measure => simp [intOf]; omega
        · rw [if_neg h7] at HR
          have h17 : (e' == 17) = false := by simpa using h7
          go_wp2
          go_ret2
          exact ⟨by rw [← HR.out]; rfl, hB⟩
    · have hkn : (n : Int) ≤ k := by omega
      replace HR : Hid (_ = _) := (playF_end ts ms k (by rw [HN.out]; omega) r1 s1 l1 t1 c).symm.trans HR.out
      go_wp2
      go_ret2
      exact ⟨by rw [← HR.out]; rfl, hB⟩

set_option maxHeartbeats 400000 in
theorem play_no (r s l t : Int) (A A' : Option Addr) (n n' cap cap' : Nat) (w : World) (HC : Hid (∀ W, Calls Try.prog 15 #[.agg #[.int .i64 r, .int .i64 s, .int .i64 l, .int .i64 t]] W fun e w' => e = .returned (.int .i64 2) ∧ Below W.heap.size W w')) :
    Calls Try.prog 20 #[.agg #[.int .i64 r, .int .i64 s, .int .i64 l, .int .i64 t], .slice A n cap, .slice A' n' cap'] w fun e w' => e = .returned (.tuple #[.int .i64 0, .int .i64 2]) ∧ Below w.heap.size w w' := by
  go_enter Try.func20, Try.ntmps20
  go_wp2_with fail
  refine (HC.out _).mono ?_
  rintro _ w1 ⟨rfl, hb⟩
  have hB := below_step ((Below.refl _ w).alloc (Nat.le_refl _) _) hb
  clear hb
  go_wp2
  go_ret2
  exact ⟨rfl, hB⟩

set_option maxHeartbeats 400000 in
theorem play_uneven (r s l t : Int) (A A' : Option Addr) (n n' cap cap' : Nat) (w : World) (HC : Hid (∀ W, Calls Try.prog 15 #[.agg #[.int .i64 r, .int .i64 s, .int .i64 l, .int .i64 t]] W fun e w' => e = .returned (.int .i64 0) ∧ Below W.heap.size W w')) (hne : ((n : Int) != (n' : Int)) = true) :
    Calls Try.prog 20 #[.agg #[.int .i64 r, .int .i64 s, .int .i64 l, .int .i64 t], .slice A n cap, .slice A' n' cap'] w fun e w' => e = .returned (.tuple #[.int .i64 0, .int .i64 2]) ∧ Below w.heap.size w w' := by
  go_enter Try.func20, Try.ntmps20
  go_wp2_with fail
  refine (HC.out _).mono ?_
  rintro _ w1 ⟨rfl, hb⟩
  have hB := below_step ((Below.refl _ w).alloc (Nat.le_refl _) _) hb
  clear hb
  go_wp2
  go_ret2
  exact ⟨rfl, hB⟩

set_option maxHeartbeats 400000 in
theorem play_long (r s l t : Int) (A A' : Option Addr) (n cap cap' : Nat) (w : World) (HC : Hid (∀ W, Calls Try.prog 15 #[.agg #[.int .i64 r, .int .i64 s, .int .i64 l, .int .i64 t]] W fun e w' => e = .returned (.int .i64 0) ∧ Below W.heap.size W w')) (hl : decide ((256 : Int) < (n : Int)) = true) :
    Calls Try.prog 20 #[.agg #[.int .i64 r, .int .i64 s, .int .i64 l, .int .i64 t], .slice A n cap, .slice A' n cap'] w fun e w' => e = .returned (.tuple #[.int .i64 0, .int .i64 3]) ∧ Below w.heap.size w w' := by
  go_enter Try.func20, Try.ntmps20
  go_wp2_with fail
  refine (HC.out _).mono ?_
  rintro _ w1 ⟨rfl, hb⟩
  have hB := below_step ((Below.refl _ w).alloc (Nat.le_refl _) _) hb
  clear hb
  go_wp2_with fail
  go_ret2
  exact ⟨rfl, hB⟩

theorem play_any (r s l t : Int) (A A' : Option Addr) (n n' cap cap' : Nat) (ts ms : List Int) (w : World) (hn : ts.length = n) (hn' : ms.length = n') (hts : Seg w A n (ints ts)) (hms : Seg w A' n' (ints ms)) :
    Calls Try.prog 20 #[.agg #[.int .i64 r, .int .i64 s, .int .i64 l, .int .i64 t], .slice A n cap, .slice A' n' cap'] w fun e w' => e = .returned (.tuple #[.int .i64 (playV r s l t ts ms).v, .int .i64 (playV r s l t ts ms).e]) ∧ Below w.heap.size w w' := by
  unfold playV
  cases hk : okB r s l t
  · rw [if_neg (by simp)]
    exact play_no r s l t A A' n n' cap cap' w (fun W => by simpa [hk] using check_any r s l t W)
  · rw [if_pos rfl]
    have HC : Hid (∀ W, Calls Try.prog 15 #[.agg #[.int .i64 r, .int .i64 s, .int .i64 l, .int .i64 t]] W fun e w' => e = .returned (.int .i64 0) ∧ Below W.heap.size W w') := fun W => by simpa [hk] using check_any r s l t W
    by_cases h1 : n = n'
    · subst h1
      rw [if_neg (by omega)]
      by_cases h2 : 256 < n
      · rw [if_pos (by omega)]
        exact play_long r s l t A A' n cap cap' w HC (by simp; omega)
      · rw [if_neg (by omega)]
        exact play_loop r s l t A A' n cap cap' ts ms w hn hn' hts hms HC (by omega)
    · rw [if_pos (by omega)]
      exact play_uneven r s l t A A' n n' cap cap' w HC (by simp; omega)

set_option maxHeartbeats 1000000 in
theorem rplay_loop (r s l t : Int) (A A' : Option Addr) (n cap cap' : Nat) (ts ms : List Int) (w : World) (hn : ts.length = n) (hn' : ms.length = n) (hts : Seg w A n (ints ts)) (hms : Seg w A' n (ints ms))
    (HC : Hid (∀ W, Calls Try.prog 16 #[.agg #[.int .i64 r, .int .i64 s, .int .i64 l, .int .i64 t]] W fun e w' => e = .returned (.int .i64 0) ∧ Below W.heap.size W w')) (hsm : n ≤ 256) :
    Calls Try.prog 21 #[.agg #[.int .i64 r, .int .i64 s, .int .i64 l, .int .i64 t], .slice A n cap, .slice A' n cap'] w fun e w' => e = .returned (.tuple #[.int .i64 (playF ts ms r s l t 0).v, .int .i64 (playF ts ms r s l t 0).e]) ∧ Below w.heap.size w w' := by
  have hd : decide ((256 : Int) < (n : Int)) = false := by simp; omega
  have HN := Lib.hid hn
  have HN' := Lib.hid hn'
  clear hn hn'
  have Hts := Lib.hid hts
  have Hms := Lib.hid hms
  clear hts hms
  go_enter Try.func21, Try.ntmps21
  go_wp2_with fail
  refine (HC.out _).mono ?_
  rintro _ w1 ⟨rfl, hb⟩
  have B0 := (Box.new w 23 #[.int .i64 r, .int .i64 s, .int .i64 l, .int .i64 t]).next hb
  have hB := below_step ((Below.refl _ w).alloc (Nat.le_refl _) _) hb
  clear hb
  go_wp2_with fail
  go_loopw [10, 9] (PlayRel ts ms w.heap.size (playF ts ms r s l t 0) w) (fun i _ _ => n - (intOf i).toNat)
  case atStart => exact ⟨0, r, s, l, t, 0, rfl, rfl, by omega, by omega, by omega, by simp, B0, hB⟩
  case round =>
    obtain ⟨k, r1, s1, l1, t1, c, rfl, rfl, hk, hc0, hck, hR, B0, hB⟩ := hrel
    have HR := Lib.hid hR
    clear hR
    by_cases hlt : k < n
    · obtain ⟨b1, o1, rfl, hb1, hc1⟩ := Hts.out k hlt
      obtain ⟨b2, o2, rfl, hb2, hc2⟩ := Hms.out k hlt
      replace hc1 : wr.cell? ⟨b1, o1 + k, none⟩ = some (.int .i64 (ts.getD k 0)) := (hB.cell (p := ⟨b1, o1 + k, none⟩) hb1).trans hc1
      replace hc2 : wr.cell? ⟨b2, o2 + k, none⟩ = some (.int .i64 (ms.getD k 0)) := (hB.cell (p := ⟨b2, o2 + k, none⟩) hb2).trans hc2
      have hs := hB.size
      have HT : Hid (∀ W, _) := fun W => rtake_any r1 s1 l1 t1 (ms.getD k 0) (ts.getD k 0) W
      replace HR : Hid (_ = _) := (playF_step ts ms k (by rw [HN.out]; exact hlt) (by rw [HN'.out]; exact hlt) r1 s1 l1 t1 c).symm.trans HR.out
      generalize ts.getD k 0 = tk at *
      generalize ms.getD k 0 = mk at *
      generalize takeV r1 s1 l1 t1 mk tk = T at *
      obtain ⟨a', b', c', d', e'⟩ := T
      simp only at HT HR
      obtain ⟨i0, i1, i2, i3⟩ := B0.icells4
      have ic1 : ∀ i : Idx wr, i.at.cell? ⟨b1, o1 + k, none⟩ = some (.int .i64 tk) := fun i => (i.below.cell (p := ⟨b1, o1 + k, none⟩) (Nat.lt_of_lt_of_le hb1 hs)).trans hc1
      have ic2 : ∀ i : Idx wr, i.at.cell? ⟨b2, o2 + k, none⟩ = some (.int .i64 mk) := fun i => (i.below.cell (p := ⟨b2, o2 + k, none⟩) (Nat.lt_of_lt_of_le hb2 hs)).trans hc2
      go_upto_region 12 with fail
      refine wp_region_own 13 (by kernel_rfl) (by kernel_rfl) ?_
      simp only [List.take_succ_cons, List.take_zero, List.drop_succ_cons, List.drop_zero]
      iterate 13 (refine wpCalm_step (fun K hK => ?_); go_simp; first | (refine hK _ ?_; clear hK K) | (apply Exists.intro; refine ⟨fun _ => ?_, hK _ ?_⟩; (go_at_call 12; exact HT.out _); clear hK K))
      refine wpCalm_nil ?_
      clear i0 i1 i2 i3 ic1 ic2 hc1 hc2
      refine wpOwn_step (fun w2 hb2 K hK => ?_)
      go_simp
      refine ⟨below_box hb2 _, hK _ _ ?_⟩
      clear hK K
      have hg : w.heap.size < w2.heap.size := Nat.lt_of_lt_of_le B0.lt hb2.size
      have hg2 := hb2.size
      refine wpOwn_step (fun w3 hb3 K hK => ?_)
      have G := (Box.new w2 23 #[.int .i64 0, .int .i64 0, .int .i64 0, .int .i64 0]).next hb3
      replace hb2 := below_step (below_box hb2 _) hb3
      clear hb3
      obtain ⟨q0, q1, q2, q3⟩ := G.cells4
      obtain ⟨f0, f1, f2, f3⟩ := G.frozen4
      go_simp
      clear q0 q1 q2 q3 f0 f1 f2 f3
      refine ⟨below_set4 hb2 hg2 _ _ _ _, hK _ _ ?_⟩
      clear hK K
      refine wpOwn_step (fun w4 hb4 K hK => ?_)
      go_simp
      replace G := (G.set4 (v0 := .int .i64 a') (v1 := .int .i64 b') (v2 := .int .i64 c') (v3 := .int .i64 d')).next hb4
      replace hb2 := below_step (below_set4 hb2 hg2 _ _ _ _) hb4
      clear hb4
      refine ⟨hb2, hK _ _ ?_⟩
      clear hK K
      refine wpOwn_nil (fun w5 hb5 => ?_)
      replace G := G.next hb5
      replace hb2 := below_step hb2 hb5
      clear hb5
      replace B0 := B0.next hb2
      replace hB := below_step hB hb2
      clear hb2
      by_cases he : e' = 0
      · subst he
        rw [if_pos rfl] at HR
        obtain ⟨q0, q1, q2, q3⟩ := G.cells4
        obtain ⟨p0, p1, p2, p3⟩ := B0.cells4
        obtain ⟨f0, f1, f2, f3⟩ := B0.frozen4
        go_wp2
        go_roundw
        case rel => exact ⟨k + 1, a', b', c', d', c + 1, by go_num, by go_num, by have := HN.out; omega, by omega, by omega, HR.out, B0.set4, below_set4 hB (Nat.le_refl _) _ _ _ _⟩
        case measure => simp [intOf]; omega
      · rw [if_neg he] at HR
        have h0 : (e' != 0) = true := by simpa using he
        have h00 : (e' == 0) = false := by simpa using he
        by_cases h7 : e' = 17
        · subst h7
          rw [if_pos rfl] at HR
          go_wp2
          go_roundw
          case rel => exact ⟨k + 1, r1, s1, l1, t1, c, by go_num, by go_num, by have := HN.out; omega, by omega, by omega, HR.out, B0, hB⟩
          case measure => simp [intOf]; omega
        · rw [if_neg h7] at HR
          have h17 : (e' != 17) = true := by simpa using h7
          go_wp2
          go_ret2
          exact ⟨by rw [← HR.out]; rfl, hB⟩
    · have hkn : (n : Int) ≤ k := by omega
      replace HR : Hid (_ = _) := (playF_end ts ms k (by rw [HN.out]; omega) r1 s1 l1 t1 c).symm.trans HR.out
      go_wp2
      go_ret2
      exact ⟨by rw [← HR.out]; rfl, hB⟩

set_option maxHeartbeats 400000 in
theorem rplay_no (r s l t : Int) (A A' : Option Addr) (n n' cap cap' : Nat) (w : World) (HC : Hid (∀ W, Calls Try.prog 16 #[.agg #[.int .i64 r, .int .i64 s, .int .i64 l, .int .i64 t]] W fun e w' => e = .returned (.int .i64 2) ∧ Below W.heap.size W w')) :
    Calls Try.prog 21 #[.agg #[.int .i64 r, .int .i64 s, .int .i64 l, .int .i64 t], .slice A n cap, .slice A' n' cap'] w fun e w' => e = .returned (.tuple #[.int .i64 0, .int .i64 2]) ∧ Below w.heap.size w w' := by
  go_enter Try.func21, Try.ntmps21
  go_wp2_with fail
  refine (HC.out _).mono ?_
  rintro _ w1 ⟨rfl, hb⟩
  have hB := below_step ((Below.refl _ w).alloc (Nat.le_refl _) _) hb
  clear hb
  go_wp2
  go_ret2
  exact ⟨rfl, hB⟩

set_option maxHeartbeats 400000 in
theorem rplay_uneven (r s l t : Int) (A A' : Option Addr) (n n' cap cap' : Nat) (w : World) (HC : Hid (∀ W, Calls Try.prog 16 #[.agg #[.int .i64 r, .int .i64 s, .int .i64 l, .int .i64 t]] W fun e w' => e = .returned (.int .i64 0) ∧ Below W.heap.size W w')) (hne : ((n : Int) != (n' : Int)) = true) :
    Calls Try.prog 21 #[.agg #[.int .i64 r, .int .i64 s, .int .i64 l, .int .i64 t], .slice A n cap, .slice A' n' cap'] w fun e w' => e = .returned (.tuple #[.int .i64 0, .int .i64 2]) ∧ Below w.heap.size w w' := by
  go_enter Try.func21, Try.ntmps21
  go_wp2_with fail
  refine (HC.out _).mono ?_
  rintro _ w1 ⟨rfl, hb⟩
  have hB := below_step ((Below.refl _ w).alloc (Nat.le_refl _) _) hb
  clear hb
  go_wp2
  go_ret2
  exact ⟨rfl, hB⟩

set_option maxHeartbeats 400000 in
theorem rplay_long (r s l t : Int) (A A' : Option Addr) (n cap cap' : Nat) (w : World) (HC : Hid (∀ W, Calls Try.prog 16 #[.agg #[.int .i64 r, .int .i64 s, .int .i64 l, .int .i64 t]] W fun e w' => e = .returned (.int .i64 0) ∧ Below W.heap.size W w')) (hl : decide ((256 : Int) < (n : Int)) = true) :
    Calls Try.prog 21 #[.agg #[.int .i64 r, .int .i64 s, .int .i64 l, .int .i64 t], .slice A n cap, .slice A' n cap'] w fun e w' => e = .returned (.tuple #[.int .i64 0, .int .i64 3]) ∧ Below w.heap.size w w' := by
  go_enter Try.func21, Try.ntmps21
  go_wp2_with fail
  refine (HC.out _).mono ?_
  rintro _ w1 ⟨rfl, hb⟩
  have hB := below_step ((Below.refl _ w).alloc (Nat.le_refl _) _) hb
  clear hb
  go_wp2_with fail
  go_ret2
  exact ⟨rfl, hB⟩

theorem rplay_any (r s l t : Int) (A A' : Option Addr) (n n' cap cap' : Nat) (ts ms : List Int) (w : World) (hn : ts.length = n) (hn' : ms.length = n') (hts : Seg w A n (ints ts)) (hms : Seg w A' n' (ints ms)) :
    Calls Try.prog 21 #[.agg #[.int .i64 r, .int .i64 s, .int .i64 l, .int .i64 t], .slice A n cap, .slice A' n' cap'] w fun e w' => e = .returned (.tuple #[.int .i64 (playV r s l t ts ms).v, .int .i64 (playV r s l t ts ms).e]) ∧ Below w.heap.size w w' := by
  unfold playV
  cases hk : okB r s l t
  · rw [if_neg (by simp)]
    exact rplay_no r s l t A A' n n' cap cap' w (fun W => by simpa [hk] using rcheck_any r s l t W)
  · rw [if_pos rfl]
    have HC : Hid (∀ W, Calls Try.prog 16 #[.agg #[.int .i64 r, .int .i64 s, .int .i64 l, .int .i64 t]] W fun e w' => e = .returned (.int .i64 0) ∧ Below W.heap.size W w') := fun W => by simpa [hk] using rcheck_any r s l t W
    by_cases h1 : n = n'
    · subst h1
      rw [if_neg (by omega)]
      by_cases h2 : 256 < n
      · rw [if_pos (by omega)]
        exact rplay_long r s l t A A' n cap cap' w HC (by simp; omega)
      · rw [if_neg (by omega)]
        exact rplay_loop r s l t A A' n cap cap' ts ms w hn hn' hts hms HC (by omega)
    · rw [if_pos (by omega)]
      exact rplay_uneven r s l t A A' n n' cap cap' w HC (by simp; omega)
end Go.Proofs.Ytmfekechdejefaa
