/- Check of layer 53 (price), of the program and of the reference. -/
import Derived.Test.YtdmffbbobagloaaA
namespace Go.Proofs.Ytdmffbbobagloaa
open Go.ChangeShapes Go.WideShapes Go.ChangeAt Go.RowKit
attribute [local go_sem] ownAt ownUpon mixAt mixUpon

structure T2 where
  u : Int
  m : Int
def T2.z : T2 := ⟨0, 0⟩
def T2.at (t : T2) (j : Nat) : Int := match j with
  | 0 => t.u
  | _ => t.m
def tCell (ts : List T2) (q : Nat) : Value := .int .i64 ((ts.getD (q / 2) T2.z).at (q % 2))
theorem tseg {w : World} {A : Option Addr} {n : Nat} {ts : List T2} (h : Seg w A (n * 2) (tCell ts)) (k : Nat) (hk : k < n) : ∃ b o, A = some ⟨b, o, none⟩ ∧ b < w.heap.size ∧
    w.cell? ⟨b, o + k * 2, none⟩ = some (.int .i64 (ts.getD k T2.z).u) ∧ w.cell? ⟨b, o + k * 2 + 1, none⟩ = some (.int .i64 (ts.getD k T2.z).m) := by
  obtain ⟨b, o, rfl, hb, h0⟩ := h (k * 2) (by omega)
  refine ⟨b, o, rfl, hb, ?_, ?_⟩
  · rw [h0, tCell, show k * 2 / 2 = k by omega, show k * 2 % 2 = 0 by omega]; rfl
  · obtain ⟨b', o', he, _, h1⟩ := h (k * 2 + 1) (by omega)
    obtain ⟨rfl, rfl⟩ : b = b' ∧ o = o' := by injection he with h; injection h with h1 h2; exact ⟨h1, h2⟩
    rw [Nat.add_assoc, h1, tCell, show (k * 2 + 1) / 2 = k by omega, show (k * 2 + 1) % 2 = 1 by omega]; rfl

/-- The error of a tier that comes after the bound b. -/
def tierE (b u m : Int) (last : Bool) : Int :=
  if 0 ≤ m ∧ m ≤ 1000000000 then (if last = true then (if u = 0 then 0 else 2) else if 1 ≤ u ∧ u ≤ 1000000000000 then (if u ≤ b then 11 else 0) else 2) else 2
def chkL : List T2 → Int → Int
  | t :: ts, b => if tierE b t.u t.m ts.isEmpty = 0 then chkL ts t.u else tierE b t.u t.m ts.isEmpty
  | [], _ => 0
theorem chkL_step (ts : List T2) (k : Nat) (h : k < ts.length) (b : Int) : chkL (ts.drop k) b =
    if tierE b (ts.getD k T2.z).u (ts.getD k T2.z).m (decide (k + 1 = ts.length)) = 0 then chkL (ts.drop (k + 1)) (ts.getD k T2.z).u else tierE b (ts.getD k T2.z).u (ts.getD k T2.z).m (decide (k + 1 = ts.length)) := by
  have he : (ts.drop (k + 1)).isEmpty = decide (k + 1 = ts.length) := by
    rw [Bool.eq_iff_iff, List.isEmpty_iff, List.drop_eq_nil_iff, decide_eq_true_iff]
    omega
  rw [List.drop_eq_getElem_cons h, chkL, he]
  simp [List.getD, h]
theorem chkL_end (ts : List T2) (k : Nat) (h : ts.length ≤ k) (b : Int) : chkL (ts.drop k) b = 0 := by
  rw [List.drop_eq_nil_of_le h, chkL]
def numB (n : Int) : Bool := decide (0 ≤ n ∧ n ≤ 1000000000)
theorem numB_iff (n : Int) : numB n = true ↔ (0 ≤ n ∧ n ≤ 1000000000) := by simp [numB]
theorem numB_no (n : Int) (h : numB n = false) : n < 0 ∨ (0 ≤ n ∧ 1000000000 < n) := by
  have h2 : ¬ _ := fun hh => Bool.false_ne_true (h.symm.trans ((numB_iff n).2 hh))
  omega
def chkV (fi fu iv : Int) (ts : List T2) : Int := if numB fi && (numB fu && numB iv) then (if 1 ≤ ts.length ∧ ts.length ≤ 8 then chkL ts 0 else 3) else 2
def befI (ts : List T2) (k : Nat) : Int := if k = 0 then 0 else (ts.getD (k - 1) T2.z).u
theorem drewN_below (w : World) (n : Nat) : Below w.heap.size w (w.drewN n) := ⟨rfl, rfl, rfl, Nat.le_refl _, fun _ _ => rfl⟩
set_option maxHeartbeats 2000000 in
theorem tier_any (A : Option Addr) (n cap : Nat) (ts : List T2) (k : Nat) (w : World) (hn : ts.length = n) (hs : Seg w A (n * 2) (tCell ts)) (hk : k < n) (hb : n ≤ 1000) : Calls Try.prog 26 #[.slice A n cap, .int .i64 k] w fun e w' => e = .returned (.int .i64 (tierE (befI ts k) (ts.getD k T2.z).u (ts.getD k T2.z).m (decide (k + 1 = ts.length)))) ∧ Below w.heap.size w w' := by
  have HB : Hid (∀ _ : 0 < k, ∃ b o, A = some ⟨b, o, none⟩ ∧ w.cell? ⟨b, o + (k - 1) * 2, none⟩ = some (.int .i64 (ts.getD (k - 1) T2.z).u)) := fun h0 => by
    obtain ⟨b, o, h1, _, h2, _⟩ := tseg hs (k - 1) (by omega)
    exact ⟨b, o, h1, h2⟩
  obtain ⟨b1, o1, rfl, hb1, c0, c1⟩ := tseg hs k hk
  rw [hn, show decide (k + 1 = n) = decide ((k : Int) = n - 1) by rw [decide_eq_decide]; omega]
  clear hs hn
  unfold befI tierE
  generalize ts.getD k T2.z = t at *
  generalize ts.getD (k - 1) T2.z = t1 at *
  obtain ⟨u, m⟩ := t
  obtain ⟨b, mb⟩ := t1
  simp only at c0 c1 HB ⊢
  by_cases hm : 0 ≤ m ∧ m ≤ 1000000000
  · rw [if_pos hm]
    obtain ⟨m1, m2⟩ := hm
    by_cases hl : (k : Int) = n - 1
    · rw [if_pos (by simp [hl])]
      have hl2 : ((k : Int) == n - 1) = true := beq_iff_eq.2 hl
      clear hl
      by_cases hu : u = 0
      · rw [if_pos hu]
        subst hu
        go_enter Try.func26, Try.ntmps26
        go_wp2_with (go_at_call 25; refine (num_yes _ _ (by omega) (by omega)).mono ?_; rintro e w' ⟨rfl, rfl⟩)
        go_ret
        exact ⟨rfl, Below.refl _ _⟩
      · rw [if_neg hu]
        have hu2 : (u != 0) = true := bne_iff_ne.2 hu
        clear hu
        go_enter Try.func26, Try.ntmps26
        go_wp2_with (go_at_call 25; refine (num_yes _ _ (by omega) (by omega)).mono ?_; rintro e w' ⟨rfl, rfl⟩)
        go_ret
        exact ⟨rfl, Below.refl _ _⟩
    · rw [if_neg (by simp [hl])]
      have hl2 : ((k : Int) == n - 1) = false := beq_eq_false_iff_ne.2 hl
      clear hl
      by_cases hu : 1 ≤ u ∧ u ≤ 1000000000000
      · rw [if_pos hu]
        obtain ⟨u1, u2⟩ := hu
        by_cases h0 : k = 0
        · subst h0
          rw [if_pos rfl, if_neg (by omega)]
          clear HB
          simp only [Nat.zero_mul, Nat.add_zero] at c0 c1
          replace hl2 : ((0 : Int) == n - 1) = false := hl2
          show Calls Try.prog 26 #[.slice (some ⟨b1, o1, none⟩) n cap, .int .i64 0] w fun e w' => e = .returned (.int .i64 0) ∧ Below w.heap.size w w'
          go_enter Try.func26, Try.ntmps26
          go_upto_region 9 with (first | (go_at_call 25; refine (num_yes _ _ (by omega) (by omega)).mono ?_; rintro e w' ⟨rfl, rfl⟩) | (go_at_call 24; refine (v01_yes _ _ (by omega) (by omega)).mono ?_; rintro e w' ⟨rfl, rfl⟩))
          go_quiet (fail)
          all_goals
            go_wp2
            go_ret
            exact ⟨rfl, drewN_below _ _⟩
        · rw [if_neg h0]
          obtain ⟨b2, o2, he, c2⟩ := HB.out (by omega)
          obtain ⟨rfl, rfl⟩ : b1 = b2 ∧ o1 = o2 := by injection he with h; injection h with h1 h2; exact ⟨h1, h2⟩
          clear he HB
          have hz : decide (0 < k) = true := by simp; omega
          have hk1 : ((k : Int) - 1).toNat = k - 1 := by omega
          split
          all_goals
            go_enter Try.func26, Try.ntmps26
            go_upto_region 9 with (first | (go_at_call 25; refine (num_yes _ _ (by omega) (by omega)).mono ?_; rintro e w' ⟨rfl, rfl⟩) | (go_at_call 24; refine (v01_yes _ _ (by omega) (by omega)).mono ?_; rintro e w' ⟨rfl, rfl⟩))
            go_quiet (fail)
            all_goals
              go_wp2
              go_ret
              exact ⟨rfl, drewN_below _ _⟩
      · rw [if_neg hu]
        rcases (show u < 1 ∨ (1 ≤ u ∧ 1000000000000 < u) by omega) with h | ⟨h, h2⟩
        all_goals
          clear hu
          go_enter Try.func26, Try.ntmps26
          go_wp2_with (first | (go_at_call 25; refine (num_yes _ _ (by omega) (by omega)).mono ?_; rintro e w' ⟨rfl, rfl⟩) | (go_at_call 24; refine (v01_no _ _ (by omega)).mono ?_; rintro e w' ⟨rfl, rfl⟩))
          go_ret
          exact ⟨rfl, Below.refl _ _⟩
  · rw [if_neg hm]
    have hm2 : m < 0 ∨ (0 ≤ m ∧ 1000000000 < m) := by omega
    clear hm
    go_enter Try.func26, Try.ntmps26
    go_wp2_with (go_at_call 25; refine (num_no _ _ hm2).mono ?_; rintro e w' ⟨rfl, rfl⟩)
    go_ret
    exact ⟨rfl, Below.refl _ _⟩

set_option maxHeartbeats 1000000 in
theorem chk_1 (fi fu iv : Int) (A : Option Addr) (n cap : Nat) (w : World) (h : (fi < 0 ∨ (0 ≤ fi ∧ 1000000000 < fi))) : Calls Try.prog 15 #[.agg #[.int .i64 fi, .int .i64 fu, .int .i64 iv, .slice A n cap]] w fun e w' => e = .returned (.int .i64 2) ∧ Below w.heap.size w w' := by
  go_enter Try.func15, Try.ntmps15
  go_wp2_with fail
  refine (btw_no _ _ _ _ h).mono ?_
  rintro _ wy1 ⟨rfl, rfl⟩
  go_wp2
  go_ret
  exact ⟨rfl, (below_box (Below.refl _ _) _)⟩
set_option maxHeartbeats 1000000 in
theorem chk_2 (fi fu iv : Int) (A : Option Addr) (n cap : Nat) (w : World) (a1 : 0 ≤ fi) (b1 : fi ≤ 1000000000) (h : (fu < 0 ∨ (0 ≤ fu ∧ 1000000000 < fu))) : Calls Try.prog 15 #[.agg #[.int .i64 fi, .int .i64 fu, .int .i64 iv, .slice A n cap]] w fun e w' => e = .returned (.int .i64 2) ∧ Below w.heap.size w w' := by
  go_enter Try.func15, Try.ntmps15
  go_wp2_with fail
  refine (btw_yes _ _ _ _ (by omega) (by omega)).mono ?_
  rintro _ wy1 ⟨rfl, rfl⟩
  go_wp2_with fail
  refine (btw_no _ _ _ _ h).mono ?_
  rintro _ wy2 ⟨rfl, rfl⟩
  go_wp2
  go_ret
  exact ⟨rfl, (below_box (Below.refl _ _) _)⟩
set_option maxHeartbeats 1000000 in
theorem chk_3 (fi fu iv : Int) (A : Option Addr) (n cap : Nat) (w : World) (a1 : 0 ≤ fi) (b1 : fi ≤ 1000000000)(a2 : 0 ≤ fu) (b2 : fu ≤ 1000000000) (h : (iv < 0 ∨ (0 ≤ iv ∧ 1000000000 < iv))) : Calls Try.prog 15 #[.agg #[.int .i64 fi, .int .i64 fu, .int .i64 iv, .slice A n cap]] w fun e w' => e = .returned (.int .i64 2) ∧ Below w.heap.size w w' := by
  go_enter Try.func15, Try.ntmps15
  go_wp2_with fail
  refine (btw_yes _ _ _ _ (by omega) (by omega)).mono ?_
  rintro _ wy1 ⟨rfl, rfl⟩
  go_wp2_with fail
  refine (btw_yes _ _ _ _ (by omega) (by omega)).mono ?_
  rintro _ wy2 ⟨rfl, rfl⟩
  go_wp2_with fail
  refine (btw_no _ _ _ _ h).mono ?_
  rintro _ wy3 ⟨rfl, rfl⟩
  go_wp2
  go_ret
  exact ⟨rfl, (below_box (Below.refl _ _) _)⟩
set_option maxHeartbeats 1000000 in
theorem chk_4 (fi fu iv : Int) (A : Option Addr) (n cap : Nat) (w : World) (a1 : 0 ≤ fi) (b1 : fi ≤ 1000000000)(a2 : 0 ≤ fu) (b2 : fu ≤ 1000000000)(a3 : 0 ≤ iv) (b3 : iv ≤ 1000000000) (h : (n : Int) < 1 ∨ (1 ≤ (n : Int) ∧ 8 < (n : Int))) : Calls Try.prog 15 #[.agg #[.int .i64 fi, .int .i64 fu, .int .i64 iv, .slice A n cap]] w fun e w' => e = .returned (.int .i64 3) ∧ Below w.heap.size w w' := by
  go_enter Try.func15, Try.ntmps15
  go_wp2_with fail
  refine (btw_yes _ _ _ _ (by omega) (by omega)).mono ?_
  rintro _ wy1 ⟨rfl, rfl⟩
  go_wp2_with fail
  refine (btw_yes _ _ _ _ (by omega) (by omega)).mono ?_
  rintro _ wy2 ⟨rfl, rfl⟩
  go_wp2_with fail
  refine (btw_yes _ _ _ _ (by omega) (by omega)).mono ?_
  rintro _ wy3 ⟨rfl, rfl⟩
  go_wp2_with fail
  refine (btw_no _ _ _ _ h).mono ?_
  rintro _ wy4 ⟨rfl, rfl⟩
  go_wp2
  go_ret
  exact ⟨rfl, (below_box (Below.refl _ _) _)⟩
set_option maxHeartbeats 1000000 in
theorem rchk_1 (fi fu iv : Int) (A : Option Addr) (n cap : Nat) (w : World) (h : (fi < 0 ∨ (0 ≤ fi ∧ 1000000000 < fi))) : Calls Try.prog 16 #[.agg #[.int .i64 fi, .int .i64 fu, .int .i64 iv, .slice A n cap]] w fun e w' => e = .returned (.int .i64 2) ∧ Below w.heap.size w w' := by
  go_enter Try.func16, Try.ntmps16
  go_wp2_with fail
  refine (num_no _ _ h).mono ?_
  rintro _ wy1 ⟨rfl, rfl⟩
  go_wp2
  go_ret
  exact ⟨rfl, (below_box (Below.refl _ _) _)⟩
set_option maxHeartbeats 1000000 in
theorem rchk_2 (fi fu iv : Int) (A : Option Addr) (n cap : Nat) (w : World) (a1 : 0 ≤ fi) (b1 : fi ≤ 1000000000) (h : (fu < 0 ∨ (0 ≤ fu ∧ 1000000000 < fu))) : Calls Try.prog 16 #[.agg #[.int .i64 fi, .int .i64 fu, .int .i64 iv, .slice A n cap]] w fun e w' => e = .returned (.int .i64 2) ∧ Below w.heap.size w w' := by
  go_enter Try.func16, Try.ntmps16
  go_wp2_with fail
  refine (num_yes _ _ (by omega) (by omega)).mono ?_
  rintro _ wy1 ⟨rfl, rfl⟩
  go_wp2_with fail
  refine (num_no _ _ h).mono ?_
  rintro _ wy2 ⟨rfl, rfl⟩
  go_wp2
  go_ret
  exact ⟨rfl, (below_box (Below.refl _ _) _)⟩
set_option maxHeartbeats 1000000 in
theorem rchk_3 (fi fu iv : Int) (A : Option Addr) (n cap : Nat) (w : World) (a1 : 0 ≤ fi) (b1 : fi ≤ 1000000000)(a2 : 0 ≤ fu) (b2 : fu ≤ 1000000000) (h : (iv < 0 ∨ (0 ≤ iv ∧ 1000000000 < iv))) : Calls Try.prog 16 #[.agg #[.int .i64 fi, .int .i64 fu, .int .i64 iv, .slice A n cap]] w fun e w' => e = .returned (.int .i64 2) ∧ Below w.heap.size w w' := by
  go_enter Try.func16, Try.ntmps16
  go_wp2_with fail
  refine (num_yes _ _ (by omega) (by omega)).mono ?_
  rintro _ wy1 ⟨rfl, rfl⟩
  go_wp2_with fail
  refine (num_yes _ _ (by omega) (by omega)).mono ?_
  rintro _ wy2 ⟨rfl, rfl⟩
  go_wp2_with fail
  refine (num_no _ _ h).mono ?_
  rintro _ wy3 ⟨rfl, rfl⟩
  go_wp2
  go_ret
  exact ⟨rfl, (below_box (Below.refl _ _) _)⟩
set_option maxHeartbeats 1000000 in
theorem rchk_4 (fi fu iv : Int) (A : Option Addr) (n cap : Nat) (w : World) (a1 : 0 ≤ fi) (b1 : fi ≤ 1000000000)(a2 : 0 ≤ fu) (b2 : fu ≤ 1000000000)(a3 : 0 ≤ iv) (b3 : iv ≤ 1000000000) (h : n = 0) : Calls Try.prog 16 #[.agg #[.int .i64 fi, .int .i64 fu, .int .i64 iv, .slice A n cap]] w fun e w' => e = .returned (.int .i64 3) ∧ Below w.heap.size w w' := by
  subst h
  go_enter Try.func16, Try.ntmps16
  go_wp2_with fail
  refine (num_yes _ _ (by omega) (by omega)).mono ?_
  rintro _ wy1 ⟨rfl, rfl⟩
  go_wp2_with fail
  refine (num_yes _ _ (by omega) (by omega)).mono ?_
  rintro _ wy2 ⟨rfl, rfl⟩
  go_wp2_with fail
  refine (num_yes _ _ (by omega) (by omega)).mono ?_
  rintro _ wy3 ⟨rfl, rfl⟩
  go_wp2
  go_ret
  exact ⟨rfl, (below_box (Below.refl _ _) _)⟩
set_option maxHeartbeats 1000000 in
theorem rchk_5 (fi fu iv : Int) (A : Option Addr) (n cap : Nat) (w : World) (a1 : 0 ≤ fi) (b1 : fi ≤ 1000000000)(a2 : 0 ≤ fu) (b2 : fu ≤ 1000000000)(a3 : 0 ≤ iv) (b3 : iv ≤ 1000000000) (_h : 1 ≤ n) (h2 : 8 < n) : Calls Try.prog 16 #[.agg #[.int .i64 fi, .int .i64 fu, .int .i64 iv, .slice A n cap]] w fun e w' => e = .returned (.int .i64 3) ∧ Below w.heap.size w w' := by
  go_enter Try.func16, Try.ntmps16
  go_wp2_with fail
  refine (num_yes _ _ (by omega) (by omega)).mono ?_
  rintro _ wy1 ⟨rfl, rfl⟩
  go_wp2_with fail
  refine (num_yes _ _ (by omega) (by omega)).mono ?_
  rintro _ wy2 ⟨rfl, rfl⟩
  go_wp2_with fail
  refine (num_yes _ _ (by omega) (by omega)).mono ?_
  rintro _ wy3 ⟨rfl, rfl⟩
  go_wp2
  go_ret
  exact ⟨rfl, (below_box (Below.refl _ _) _)⟩
def ChkRel (fi fu iv : Int) (A : Option Addr) (n cap : Nat) (ts : List T2) (w : World) (i b : Value) (wr : World) : Prop :=
  ∃ (k : Nat) (x : Int), i = .int .i64 k ∧ b = .int .i64 x ∧ k ≤ n ∧ chkL (ts.drop k) x = chkL ts 0 ∧ Box wr w.heap.size 24 #[.int .i64 fi, .int .i64 fu, .int .i64 iv, .slice A n cap] ∧ Below w.heap.size w wr
set_option maxHeartbeats 4000000 in
theorem chk_main (fi fu iv : Int) (A : Option Addr) (n cap : Nat) (ts : List T2) (w : World) (a1 : 0 ≤ fi) (b1 : fi ≤ 1000000000)(a2 : 0 ≤ fu) (b2 : fu ≤ 1000000000)(a3 : 0 ≤ iv) (b3 : iv ≤ 1000000000) (h1 : 1 ≤ n) (h2 : n ≤ 8) (hn : ts.length = n) (hs : Seg w A (n * 2) (tCell ts)) : Calls Try.prog 15 #[.agg #[.int .i64 fi, .int .i64 fu, .int .i64 iv, .slice A n cap]] w fun e w' => e = .returned (.int .i64 (chkL ts 0)) ∧ Below w.heap.size w w' := by
  have HN := Lib.hid hn
  have HS := Lib.hid hs
  clear hn hs
  go_enter Try.func15, Try.ntmps15
  go_wp2_with fail
  refine (btw_yes _ _ _ _ (by omega) (by omega)).mono ?_
  rintro _ wy1 ⟨rfl, rfl⟩
  go_wp2_with fail
  refine (btw_yes _ _ _ _ (by omega) (by omega)).mono ?_
  rintro _ wy2 ⟨rfl, rfl⟩
  go_wp2_with fail
  refine (btw_yes _ _ _ _ (by omega) (by omega)).mono ?_
  rintro _ wy3 ⟨rfl, rfl⟩
  go_wp2_with fail
  refine (btw_yes _ _ _ _ (by omega) (by omega)).mono ?_
  rintro _ wy4 ⟨rfl, rfl⟩
  go_upto_region 5 with fail
  refine wp_forget (fun W => Box W (w.heap.size) 24 #[.int .i64 fi, .int .i64 fu, .int .i64 iv, .slice A n cap] ∧ Below w.heap.size w W)
    ⟨(Box.new w 24 #[.int .i64 fi, .int .i64 fu, .int .i64 iv, .slice A n cap]), (below_box (Below.refl _ _) _)⟩ ?_
  rintro wx5 ⟨P, hB⟩
  have hwr : IntKind.i64.wrap ((n : Int) - 1) = n - 1 := IntWalk.i64_in _ (by omega)
  have iP_0 : ∀ i : Idx wx5, _ := fun i => (P.idx i).cell 0 _ rfl
  have iP_1 : ∀ i : Idx wx5, _ := fun i => (P.idx i).cell 1 _ rfl
  have iP_2 : ∀ i : Idx wx5, _ := fun i => (P.idx i).cell 2 _ rfl
  have iP_3 : ∀ i : Idx wx5, _ := fun i => (P.idx i).cell 3 _ rfl
  refine wp_region_mix [0, 0, 0, 0, 1, 1] (by kernel_rfl) (by kernel_rfl) ?_
  iterate 4 (refine wpMix_calm (fun K hK => ?_); go_simp; refine hK _ ?_; clear hK K)
  iterate 2 (refine wpMix_pure (fun K hK => ?_); go_simp; refine hK _ ?_; clear hK K)
  refine wpMix_nil (fun wx6 hb => ?_)
  clear iP_0 iP_1 iP_2 iP_3
  replace P := P.next hb
  replace hB := below_step hB hb
  clear hb
  clear hwr
  have cP_0 := P.cell 0 _ rfl
  have cP_1 := P.cell 1 _ rfl
  have cP_2 := P.cell 2 _ rfl
  have cP_3 := P.cell 3 _ rfl
  have lP := P.lt
  go_wp2
  go_loopw [37, 3] (ChkRel fi fu iv A n cap ts w) (fun i _ _ => n - (intOf i).toNat)
  case atStart => exact ⟨0, 0, rfl, rfl, by omega, by simp, P, hB⟩
  case round =>
    clear cP_0 cP_1 cP_2 cP_3 lP P hB
    obtain ⟨k, x, rfl, rfl, hk, hR, P, hB⟩ := hrel
    have HR := Lib.hid hR
    clear hR
    by_cases hlt : k < n
    · obtain ⟨b1, o1, rfl, hb1, q0, q1⟩ := tseg HS.out k hlt
      replace HR : Hid (_ = _) := (chkL_step ts k (by rw [HN.out]; exact hlt) x).symm.trans HR.out
      rw [HN.out] at HR
      generalize ts.getD k T2.z = t at *
      obtain ⟨u, m⟩ := t
      simp only at q0 q1 HR
      have Q0 := Lib.hid q0
      have Q1 := Lib.hid q1
      clear q0 q1
      unfold tierE at HR
      have cP_0 := P.cell 0 _ rfl
      have cP_1 := P.cell 1 _ rfl
      have cP_2 := P.cell 2 _ rfl
      have cP_3 := P.cell 3 _ rfl
      have lP := P.lt
      have q0 := (hB.cell (p := ⟨b1, o1 + k * 2, none⟩) hb1).trans Q0.out
      have q1 := (hB.cell (p := ⟨b1, o1 + k * 2 + 1, none⟩) hb1).trans Q1.out
      have zP_T := P.lt
      have zB_T := hB.size
      by_cases hm : 0 ≤ m ∧ m ≤ 1000000000
      · rw [if_pos hm] at HR
        obtain ⟨m1, m2⟩ := hm
        by_cases hl : k + 1 = n
        · rw [if_pos (show decide (k + 1 = n) = true by simp [hl])] at HR
          have hl2 : ((k : Int) == n - 1) = true := beq_iff_eq.2 (by omega)
          have hl3 : decide ((k : Int) < n - 1) = false := by simp; omega
          clear hl
          by_cases hu : u = 0
          · rw [if_pos hu, if_pos rfl] at HR
            subst hu
            replace HR : Hid (_ = _) := HR.out
            go_wp2_with fail
            refine (btw_yes _ _ _ _ m1 m2).mono ?_
            rintro _ wy21 ⟨rfl, rfl⟩
            go_upto_region 15 with fail
            clear cP_0 cP_1 cP_2 cP_3 lP q0 q1
            have zP := P.lt
            refine wp_forget (fun W => Box W w.heap.size 24 #[.int .i64 fi, .int .i64 fu, .int .i64 iv, .slice (some ⟨b1, o1, none⟩) n cap] ∧ Box W (wr.heap.size) 43 #[.int .i64 0, .int .i64 m] ∧ Below w.heap.size w W)
              ⟨(P.alloc _), (Box.new wr 43 #[.int .i64 0, .int .i64 m]), (below_box hB _)⟩ ?_
            clear P hB
            rintro wx22 ⟨P, T, hB⟩
            have cP_0 := P.cell 0 _ rfl
            have cP_1 := P.cell 1 _ rfl
            have cP_2 := P.cell 2 _ rfl
            have cP_3 := P.cell 3 _ rfl
            have lP := P.lt
            have cT_0 := T.cell 0 _ rfl
            have cT_1 := T.cell 1 _ rfl
            have lT := T.lt
            have q0 := (hB.cell (p := ⟨b1, o1 + k * 2, none⟩) hb1).trans Q0.out
            have q1 := (hB.cell (p := ⟨b1, o1 + k * 2 + 1, none⟩) hb1).trans Q1.out
            go_wp2
            go_roundw
            case rel => exact ⟨k + 1, 0, by go_num, rfl, by omega, HR.out, P, hB⟩
            case measure => simp [intOf]; omega
          · rw [if_neg hu, if_neg (by decide)] at HR
            have hu2 : (u != 0) = true := bne_iff_ne.2 hu
            clear hu
            go_wp2_with fail
            refine (btw_yes _ _ _ _ m1 m2).mono ?_
            rintro _ wy21 ⟨rfl, rfl⟩
            go_wp2
            rw [← HR.out]
            go_ret
            exact ⟨rfl, (below_box hB _)⟩
        · rw [if_neg (show ¬ decide (k + 1 = n) = true by simp [hl])] at HR
          have hl2 : ((k : Int) == n - 1) = false := beq_eq_false_iff_ne.2 (by omega)
          have hl3 : decide ((k : Int) < n - 1) = true := by simp; omega
          clear hl
          by_cases hu : 1 ≤ u ∧ u ≤ 1000000000000
          · rw [if_pos hu] at HR
            obtain ⟨u1, u2⟩ := hu
            by_cases hx : u ≤ x
            · rw [if_pos hx, if_neg (by decide)] at HR
              go_wp2_with fail
              refine (btw_yes _ _ _ _ m1 m2).mono ?_
              rintro _ wy21 ⟨rfl, rfl⟩
              go_wp2_with fail
              refine (btw_yes _ _ _ _ u1 u2).mono ?_
              rintro _ wy22 ⟨rfl, rfl⟩
              go_wp2
              rw [← HR.out]
              go_ret
              exact ⟨rfl, (below_box hB _)⟩
            · rw [if_neg hx, if_pos rfl] at HR
              go_wp2_with fail
              refine (btw_yes _ _ _ _ m1 m2).mono ?_
              rintro _ wy21 ⟨rfl, rfl⟩
              go_wp2_with fail
              refine (btw_yes _ _ _ _ u1 u2).mono ?_
              rintro _ wy22 ⟨rfl, rfl⟩
              replace HR : Hid (_ = _) := HR.out
              go_upto_region 15 with fail
              clear cP_0 cP_1 cP_2 cP_3 lP q0 q1
              have zP := P.lt
              refine wp_forget (fun W => Box W w.heap.size 24 #[.int .i64 fi, .int .i64 fu, .int .i64 iv, .slice (some ⟨b1, o1, none⟩) n cap] ∧ Box W (wr.heap.size) 43 #[.int .i64 u, .int .i64 m] ∧ Below w.heap.size w W)
                ⟨(P.alloc _), (Box.new wr 43 #[.int .i64 u, .int .i64 m]), (below_box hB _)⟩ ?_
              clear P hB
              rintro wx23 ⟨P, T, hB⟩
              have cP_0 := P.cell 0 _ rfl
              have cP_1 := P.cell 1 _ rfl
              have cP_2 := P.cell 2 _ rfl
              have cP_3 := P.cell 3 _ rfl
              have lP := P.lt
              have cT_0 := T.cell 0 _ rfl
              have cT_1 := T.cell 1 _ rfl
              have lT := T.lt
              have q0 := (hB.cell (p := ⟨b1, o1 + k * 2, none⟩) hb1).trans Q0.out
              have q1 := (hB.cell (p := ⟨b1, o1 + k * 2 + 1, none⟩) hb1).trans Q1.out
              go_wp2
              go_roundw
              case rel => exact ⟨k + 1, u, by go_num, rfl, by omega, HR.out, P, hB⟩
              case measure => simp [intOf]; omega
          · rw [if_neg hu, if_neg (by decide)] at HR
            have hu2 : u < 1 ∨ (1 ≤ u ∧ 1000000000000 < u) := by omega
            clear hu
            go_wp2_with fail
            refine (btw_yes _ _ _ _ m1 m2).mono ?_
            rintro _ wy21 ⟨rfl, rfl⟩
            go_wp2_with fail
            refine (btw_no _ _ _ _ hu2).mono ?_
            rintro _ wy22 ⟨rfl, rfl⟩
            go_wp2
            rw [← HR.out]
            go_ret
            exact ⟨rfl, (below_box hB _)⟩
      · rw [if_neg hm, if_neg (by decide)] at HR
        have hm2 : m < 0 ∨ (0 ≤ m ∧ 1000000000 < m) := by omega
        clear hm
        go_wp2_with fail
        refine (btw_no _ _ _ _ hm2).mono ?_
        rintro _ wy21 ⟨rfl, rfl⟩
        go_wp2
        rw [← HR.out]
        go_ret
        exact ⟨rfl, (below_box hB _)⟩
    · have hkn : (n : Int) ≤ k := by omega
      replace HR : Hid (_ = _) := (chkL_end ts k (by rw [HN.out]; omega) x).symm.trans HR.out
      have cP_0 := P.cell 0 _ rfl
      have cP_1 := P.cell 1 _ rfl
      have cP_2 := P.cell 2 _ rfl
      have cP_3 := P.cell 3 _ rfl
      have lP := P.lt
      go_wp2
      rw [← HR.out]
      go_ret
      exact ⟨rfl, hB⟩

end Go.Proofs.Ytdmffbbobagloaa
