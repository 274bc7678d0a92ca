/- Split for any price and Marginal of layer 53 (price), of the program and of the reference. -/
import Derived.Test.YtdmffbbobagloaaK
namespace Go.Proofs.Ytdmffbbobagloaa
open Go.ChangeShapes Go.WideShapes Go.ChangeAt Go.RowKit
attribute [local go_sem] ownAt ownUpon mixAt mixUpon

structure LX where
  l : List Int
  e : Int
def splV (fi fu iv : Int) (ts : List T2) (units : Int) : LX := if chkV fi fu iv ts = 0 then (if 0 ≤ units ∧ units ≤ 1000000000000 then ⟨partL ts units ts.length, 0⟩ else ⟨[], 2⟩) else ⟨[], chkV fi fu iv ts⟩
theorem lout_of {P : Program} {f : FuncId} {args : Array Value} {w : World} {x : Int} (h : Calls P f args w fun e w' => e = .returned (.tuple #[.slice none 0 0, .int .i64 x]) ∧ Below w.heap.size w w') : Calls P f args w (LOut w [] x) :=
  h.mono fun e w' ⟨he, hb⟩ => by rw [he]; exact lout_nil hb
theorem spl_any (fi fu iv : Int) (A : Option Addr) (n cap : Nat) (ts : List T2) (units : Int) (w : World) (hn : ts.length = n) (hs : Seg w A (n * 2) (tCell ts)) : Calls Try.prog 11 #[.agg #[.int .i64 fi, .int .i64 fu, .int .i64 iv, .slice A n cap], .int .i64 units] w (LOut w (splV fi fu iv ts units).l (splV fi fu iv ts units).e) := by
  have HC : Hid (∀ W, Seg W A (n * 2) (tCell ts) → _) := fun W k => chk_any fi fu iv A n cap ts W hn k
  unfold splV
  by_cases h : chkV fi fu iv ts = 0
  · rw [if_pos h]
    obtain ⟨_, _, _, ⟨l1, l2⟩, hg⟩ := chkV_good fi fu iv ts h
    rw [h] at HC
    by_cases hu : 0 ≤ units ∧ units ≤ 1000000000000
    · rw [if_pos hu]
      simp only [hn]
      exact spl_2 fi fu iv A n cap ts units w hs HC hu.1 hu.2 (by omega) (by omega) (fun W k => split_any fi fu iv A n cap ts units W hn k hg (by omega) (by omega) hu.1 hu.2)
    · rw [if_neg hu]
      exact lout_of (spl_1 fi fu iv A n cap ts units w hs HC (by omega))
  · rw [if_neg h]
    exact lout_of (spl_0 fi fu iv A n cap ts units _ w hs HC (bne_iff_ne.2 h))
theorem rspl_any (fi fu iv : Int) (A : Option Addr) (n cap : Nat) (ts : List T2) (units : Int) (w : World) (hn : ts.length = n) (hs : Seg w A (n * 2) (tCell ts)) : Calls Try.prog 12 #[.agg #[.int .i64 fi, .int .i64 fu, .int .i64 iv, .slice A n cap], .int .i64 units] w (LOut w (splV fi fu iv ts units).l (splV fi fu iv ts units).e) := by
  have HC : Hid (∀ W, Seg W A (n * 2) (tCell ts) → _) := fun W k => rchk_any fi fu iv A n cap ts W hn k
  unfold splV
  by_cases h : chkV fi fu iv ts = 0
  · rw [if_pos h]
    obtain ⟨_, _, _, ⟨l1, l2⟩, hg⟩ := chkV_good fi fu iv ts h
    rw [h] at HC
    by_cases hu : 0 ≤ units ∧ units ≤ 1000000000000
    · rw [if_pos hu]
      simp only [hn]
      exact rspl_3 fi fu iv A n cap ts units w hn hs hg HC hu.1 hu.2 (by omega) (by omega)
    · rw [if_neg hu]
      by_cases h0 : units < 0
      · exact lout_of (rspl_1 fi fu iv A n cap ts units w hs HC h0)
      · exact lout_of (rspl_2 fi fu iv A n cap ts units w hs HC (by omega) (by omega))
  · rw [if_neg h]
    exact lout_of (rspl_0 fi fu iv A n cap ts units _ w hs HC (bne_iff_ne.2 h))

def margL : List T2 → Int → Int
  | t :: ts, x => if x < t.u then t.m else if ts.isEmpty = true then t.m else margL ts x
  | [], _ => 0
theorem margL_step (ts : List T2) (k : Nat) (h : k < ts.length) (x : Int) : margL (ts.drop k) x =
    if x < (ts.getD k T2.z).u then (ts.getD k T2.z).m else if k + 1 = ts.length then (ts.getD k T2.z).m else margL (ts.drop (k + 1)) x := by
  have he : ((ts.drop (k + 1)).isEmpty = true) = (k + 1 = ts.length) := by
    rw [eq_iff_iff, List.isEmpty_iff, List.drop_eq_nil_iff]
    omega
  rw [List.drop_eq_getElem_cons h, margL]
  simp only [he]
  simp [List.getD, h]
def MargRel (fi fu iv : Int) (A : Option Addr) (n cap : Nat) (ts : List T2) (units : Int) (w : World) (i : Value) (wr : World) : Prop :=
  ∃ k : Nat, i = .int .i64 k ∧ k ≤ n ∧ (k < n → margL (ts.drop k) units = margL ts units) ∧ (k = n → (ts.getD (n - 1) T2.z).m = margL ts units) ∧ Box wr w.heap.size 24 #[.int .i64 fi, .int .i64 fu, .int .i64 iv, .slice A n cap] ∧ Below w.heap.size w wr
def margV (fi fu iv : Int) (ts : List T2) (units : Int) : N2 := if chkV fi fu iv ts = 0 then (if 0 ≤ units ∧ units ≤ 1000000000000 then ⟨margL ts units, 0⟩ else ⟨0, 2⟩) else ⟨0, chkV fi fu iv ts⟩
set_option maxHeartbeats 1000000 in
theorem marg_0 (fi fu iv : Int) (A : Option Addr) (n cap : Nat) (ts : List T2) (units x : Int) (w : World) (hs : Hid (Seg w A (n * 2) (tCell ts))) (HC : Hid (∀ W, Seg W A (n * 2) (tCell ts) → Calls Try.prog 15 #[.agg #[.int .i64 fi, .int .i64 fu, .int .i64 iv, .slice A n cap]] W fun e w' => e = .returned (.int .i64 x) ∧ Below W.heap.size W w')) (hx : (x != 0) = true) : Calls Try.prog 13 #[.agg #[.int .i64 fi, .int .i64 fu, .int .i64 iv, .slice A n cap], .int .i64 units] w fun e w' => e = .returned (.tuple #[.int .i64 0, .int .i64 x]) ∧ Below w.heap.size w w' := by
  go_enter Try.func13, Try.ntmps13
  go_wp2_with fail
  refine (HC.out _ (hs.out.next (below_box (Below.refl _ _) _))).mono ?_
  rintro _ wx1 ⟨rfl, hb⟩
  have P := (Box.new w 24 #[.int .i64 fi, .int .i64 fu, .int .i64 iv, .slice A n cap]).next hb
  have hB := below_step (below_box (Below.refl _ w) _) hb
  clear hb
  have cP_0 := P.cell 0 _ rfl
  have cP_1 := P.cell 1 _ rfl
  have cP_2 := P.cell 2 _ rfl
  have cP_3 := P.cell 3 _ rfl
  have lP := P.lt
  go_wp2
  go_ret2
  exact ⟨rfl, hB⟩
set_option maxHeartbeats 1000000 in
theorem marg_1 (fi fu iv : Int) (A : Option Addr) (n cap : Nat) (ts : List T2) (units : Int) (w : World) (hs : Hid (Seg w A (n * 2) (tCell ts))) (HC : Hid (∀ W, Seg W A (n * 2) (tCell ts) → Calls Try.prog 15 #[.agg #[.int .i64 fi, .int .i64 fu, .int .i64 iv, .slice A n cap]] W fun e w' => e = .returned (.int .i64 0) ∧ Below W.heap.size W w')) (h : (units < 0 ∨ (0 ≤ units ∧ 1000000000000 < units))) : Calls Try.prog 13 #[.agg #[.int .i64 fi, .int .i64 fu, .int .i64 iv, .slice A n cap], .int .i64 units] w fun e w' => e = .returned (.tuple #[.int .i64 0, .int .i64 2]) ∧ Below w.heap.size w w' := by
  go_enter Try.func13, Try.ntmps13
  go_wp2_with fail
  refine (HC.out _ (hs.out.next (below_box (Below.refl _ _) _))).mono ?_
  rintro _ wx1 ⟨rfl, hb⟩
  have P := (Box.new w 24 #[.int .i64 fi, .int .i64 fu, .int .i64 iv, .slice A n cap]).next hb
  have hB := below_step (below_box (Below.refl _ w) _) hb
  clear hb
  have cP_0 := P.cell 0 _ rfl
  have cP_1 := P.cell 1 _ rfl
  have cP_2 := P.cell 2 _ rfl
  have cP_3 := P.cell 3 _ rfl
  have lP := P.lt
  go_wp2_with fail
  refine (btw_no _ _ _ _ h).mono ?_
  rintro _ wy2 ⟨rfl, rfl⟩
  go_wp2
  go_ret2
  exact ⟨rfl, hB⟩
set_option maxHeartbeats 4000000 in
theorem marg_3 (fi fu iv : Int) (A : Option Addr) (n cap : Nat) (ts : List T2) (units : Int) (w : World) (hn : ts.length = n) (hs : Hid (Seg w A (n * 2) (tCell ts))) (HC : Hid (∀ W, Seg W A (n * 2) (tCell ts) → Calls Try.prog 15 #[.agg #[.int .i64 fi, .int .i64 fu, .int .i64 iv, .slice A n cap]] W fun e w' => e = .returned (.int .i64 0) ∧ Below W.heap.size W w')) (h3 : 0 ≤ units) (h4 : units ≤ 1000000000000) (h1 : 1 ≤ n) (h2 : n ≤ 8) : Calls Try.prog 13 #[.agg #[.int .i64 fi, .int .i64 fu, .int .i64 iv, .slice A n cap], .int .i64 units] w fun e w' => e = .returned (.tuple #[.int .i64 (margL ts units), .int .i64 0]) ∧ Below w.heap.size w w' := by
  go_enter Try.func13, Try.ntmps13
  go_wp2_with fail
  refine (HC.out _ (hs.out.next (below_box (Below.refl _ _) _))).mono ?_
  rintro _ wx1 ⟨rfl, hb⟩
  have P := (Box.new w 24 #[.int .i64 fi, .int .i64 fu, .int .i64 iv, .slice A n cap]).next hb
  have hB := below_step (below_box (Below.refl _ w) _) hb
  clear hb
  have cP_0 := P.cell 0 _ rfl
  have cP_1 := P.cell 1 _ rfl
  have cP_2 := P.cell 2 _ rfl
  have cP_3 := P.cell 3 _ rfl
  have lP := P.lt
  go_wp2_with fail
  refine (btw_yes _ _ _ _ h3 h4).mono ?_
  rintro _ wy2 ⟨rfl, rfl⟩
  go_wp2
  clear cP_0 cP_1 cP_2 cP_3 lP
  refine wp_forget (fun W => Box W w.heap.size 24 #[.int .i64 fi, .int .i64 fu, .int .i64 iv, .slice A n cap] ∧ Below w.heap.size w W)
    ⟨P, hB⟩ ?_
  clear P hB
  rintro wx3 ⟨P, hB⟩
  have cP_0 := P.cell 0 _ rfl
  have cP_1 := P.cell 1 _ rfl
  have cP_2 := P.cell 2 _ rfl
  have cP_3 := P.cell 3 _ rfl
  have lP := P.lt
  have HN := Lib.hid hn
  clear hn HC
  go_loopw [20] (MargRel fi fu iv A n cap ts units w) (fun i _ => n - (intOf i).toNat)
  case atStart => exact ⟨0, rfl, by omega, fun _ => by simp, fun h => absurd h (by omega), P, hB⟩
  case round =>
    clear cP_0 cP_1 cP_2 cP_3 lP P hB
    obtain ⟨k, rfl, hk, hR, hE, P, hB⟩ := hrel
    by_cases hlt : k < n
    · obtain ⟨b1, o1, rfl, hb1, q0, q1⟩ := tseg hs.out k hlt
      have Q0 := Lib.hid q0
      have Q1 := Lib.hid q1
      have HR := Lib.hid ((margL_step ts k (by rw [HN.out]; exact hlt) units).symm.trans (hR hlt))
      have HZ : Hid (k + 1 = n → (ts.getD (n - 1) T2.z).m = (ts.getD k T2.z).m) := Lib.hid (fun h => by subst h; rfl)
      rw [HN.out] at HR
      clear q0 q1 hR hE
      generalize ts.getD k T2.z = t at *
      obtain ⟨u, m⟩ := t
      simp only at Q0 Q1 HR HZ
      have cP_0 := P.cell 0 _ rfl
      have cP_1 := P.cell 1 _ rfl
      have cP_2 := P.cell 2 _ rfl
      have cP_3 := P.cell 3 _ rfl
      have lP := P.lt
      have q0 := (hB.cell (p := ⟨b1, o1 + k * 2, none⟩) hb1).trans Q0.out
      have q1 := (hB.cell (p := ⟨b1, o1 + k * 2 + 1, none⟩) hb1).trans Q1.out
      have zP_T := P.lt
      have zB_T := hB.size
      by_cases hu : units < u
      · rw [if_pos hu] at HR
        have hu1 : units + 1 ≤ u := by omega
        go_wp2
        rw [← HR.out]
        go_ret2
        exact ⟨rfl, (below_box hB _)⟩
      · rw [if_neg hu] at HR
        have hu1 : u < units + 1 := by omega
        go_upto_region 11 with fail
        clear cP_0 cP_1 cP_2 cP_3 lP q0 q1
        have zP := P.lt
        refine wp_forget (fun W => Box W w.heap.size 24 #[.int .i64 fi, .int .i64 fu, .int .i64 iv, .slice (some ⟨b1, o1, none⟩) n cap] ∧ Box W (wr.heap.size) 43 #[.int .i64 u, .int .i64 m] ∧ Below w.heap.size w W)
          ⟨(P.alloc _), (Box.new wr 43 #[.int .i64 u, .int .i64 m]), (below_box hB _)⟩ ?_
        clear P hB
        rintro wx21 ⟨P, T, hB⟩
        have cP_0 := P.cell 0 _ rfl
        have cP_1 := P.cell 1 _ rfl
        have cP_2 := P.cell 2 _ rfl
        have cP_3 := P.cell 3 _ rfl
        have lP := P.lt
        have cT_0 := T.cell 0 _ rfl
        have cT_1 := T.cell 1 _ rfl
        have lT := T.lt
        have q0 := (hB.cell (p := ⟨b1, o1 + k * 2, none⟩) hb1).trans Q0.out
        have q1 := (hB.cell (p := ⟨b1, o1 + k * 2 + 1, none⟩) hb1).trans Q1.out
        go_wp2
        go_roundw
        case rel => exact ⟨k + 1, by go_num, by omega, fun g => (if_neg (show ¬ k + 1 = n by omega)).symm.trans HR.out, fun g => (HZ.out g).trans ((if_pos g).symm.trans HR.out), P, hB⟩
        case measure => simp [intOf]; omega
    · obtain rfl : k = n := by omega
      obtain ⟨b1, o1, rfl, hb1, _, q1⟩ := tseg hs.out (k - 1) (by omega)
      have HE := Lib.hid (hE rfl)
      have Q1 := Lib.hid q1
      clear hR hE q1
      have hk1 : ((k : Int) - 1).toNat = k - 1 := by omega
      generalize ts.getD (k - 1) T2.z = t at *
      have cP_0 := P.cell 0 _ rfl
      have cP_1 := P.cell 1 _ rfl
      have cP_2 := P.cell 2 _ rfl
      have cP_3 := P.cell 3 _ rfl
      have lP := P.lt
      have q1 := (hB.cell (p := ⟨b1, o1 + (k - 1) * 2 + 1, none⟩) hb1).trans Q1.out
      go_wp2
      rw [← HE.out]
      go_ret2
      exact ⟨rfl, hB⟩
theorem marg_any (fi fu iv : Int) (A : Option Addr) (n cap : Nat) (ts : List T2) (units : Int) (w : World) (hn : ts.length = n) (hs : Seg w A (n * 2) (tCell ts)) : Calls Try.prog 13 #[.agg #[.int .i64 fi, .int .i64 fu, .int .i64 iv, .slice A n cap], .int .i64 units] w fun e w' => e = .returned (.tuple #[.int .i64 (margV fi fu iv ts units).v, .int .i64 (margV fi fu iv ts units).e]) ∧ Below w.heap.size w w' := by
  have HC : Hid (∀ W, Seg W A (n * 2) (tCell ts) → _) := fun W k => chk_any fi fu iv A n cap ts W hn k
  unfold margV
  by_cases h : chkV fi fu iv ts = 0
  · rw [if_pos h]
    obtain ⟨_, _, _, ⟨l1, l2⟩, hg⟩ := chkV_good fi fu iv ts h
    rw [h] at HC
    by_cases hu : 0 ≤ units ∧ units ≤ 1000000000000
    · rw [if_pos hu]
      exact marg_3 fi fu iv A n cap ts units w hn hs HC hu.1 hu.2 (by omega) (by omega)
    · rw [if_neg hu]
      exact marg_1 fi fu iv A n cap ts units w hs HC (by omega)
  · rw [if_neg h]
    exact marg_0 fi fu iv A n cap ts units _ w hs HC (bne_iff_ne.2 h)
set_option maxHeartbeats 1000000 in
theorem rmarg_0 (fi fu iv : Int) (A : Option Addr) (n cap : Nat) (ts : List T2) (units x : Int) (w : World) (hs : Hid (Seg w A (n * 2) (tCell ts))) (HC : Hid (∀ W, Seg W A (n * 2) (tCell ts) → Calls Try.prog 16 #[.agg #[.int .i64 fi, .int .i64 fu, .int .i64 iv, .slice A n cap]] W fun e w' => e = .returned (.int .i64 x) ∧ Below W.heap.size W w')) (hx : (x != 0) = true) : Calls Try.prog 14 #[.agg #[.int .i64 fi, .int .i64 fu, .int .i64 iv, .slice A n cap], .int .i64 units] w fun e w' => e = .returned (.tuple #[.int .i64 0, .int .i64 x]) ∧ Below w.heap.size w w' := by
  go_enter Try.func14, Try.ntmps14
  go_wp2_with fail
  refine (HC.out _ (hs.out.next (below_box (Below.refl _ _) _))).mono ?_
  rintro _ wx1 ⟨rfl, hb⟩
  have P := (Box.new w 24 #[.int .i64 fi, .int .i64 fu, .int .i64 iv, .slice A n cap]).next hb
  have hB := below_step (below_box (Below.refl _ w) _) hb
  clear hb
  have cP_0 := P.cell 0 _ rfl
  have cP_1 := P.cell 1 _ rfl
  have cP_2 := P.cell 2 _ rfl
  have cP_3 := P.cell 3 _ rfl
  have lP := P.lt
  go_wp2
  go_ret2
  exact ⟨rfl, hB⟩
set_option maxHeartbeats 1000000 in
theorem rmarg_1 (fi fu iv : Int) (A : Option Addr) (n cap : Nat) (ts : List T2) (units : Int) (w : World) (hs : Hid (Seg w A (n * 2) (tCell ts))) (HC : Hid (∀ W, Seg W A (n * 2) (tCell ts) → Calls Try.prog 16 #[.agg #[.int .i64 fi, .int .i64 fu, .int .i64 iv, .slice A n cap]] W fun e w' => e = .returned (.int .i64 0) ∧ Below W.heap.size W w')) (h : units < 0) : Calls Try.prog 14 #[.agg #[.int .i64 fi, .int .i64 fu, .int .i64 iv, .slice A n cap], .int .i64 units] w fun e w' => e = .returned (.tuple #[.int .i64 0, .int .i64 2]) ∧ Below w.heap.size w w' := by
  go_enter Try.func14, Try.ntmps14
  go_wp2_with fail
  refine (HC.out _ (hs.out.next (below_box (Below.refl _ _) _))).mono ?_
  rintro _ wx1 ⟨rfl, hb⟩
  have P := (Box.new w 24 #[.int .i64 fi, .int .i64 fu, .int .i64 iv, .slice A n cap]).next hb
  have hB := below_step (below_box (Below.refl _ w) _) hb
  clear hb
  have cP_0 := P.cell 0 _ rfl
  have cP_1 := P.cell 1 _ rfl
  have cP_2 := P.cell 2 _ rfl
  have cP_3 := P.cell 3 _ rfl
  have lP := P.lt
  go_wp2
  go_ret2
  exact ⟨rfl, hB⟩
set_option maxHeartbeats 1000000 in
theorem rmarg_2 (fi fu iv : Int) (A : Option Addr) (n cap : Nat) (ts : List T2) (units : Int) (w : World) (hs : Hid (Seg w A (n * 2) (tCell ts))) (HC : Hid (∀ W, Seg W A (n * 2) (tCell ts) → Calls Try.prog 16 #[.agg #[.int .i64 fi, .int .i64 fu, .int .i64 iv, .slice A n cap]] W fun e w' => e = .returned (.int .i64 0) ∧ Below W.heap.size W w')) (h : 0 ≤ units) (h2 : 1000000000000 < units) : Calls Try.prog 14 #[.agg #[.int .i64 fi, .int .i64 fu, .int .i64 iv, .slice A n cap], .int .i64 units] w fun e w' => e = .returned (.tuple #[.int .i64 0, .int .i64 2]) ∧ Below w.heap.size w w' := by
  go_enter Try.func14, Try.ntmps14
  go_wp2_with fail
  refine (HC.out _ (hs.out.next (below_box (Below.refl _ _) _))).mono ?_
  rintro _ wx1 ⟨rfl, hb⟩
  have P := (Box.new w 24 #[.int .i64 fi, .int .i64 fu, .int .i64 iv, .slice A n cap]).next hb
  have hB := below_step (below_box (Below.refl _ w) _) hb
  clear hb
  have cP_0 := P.cell 0 _ rfl
  have cP_1 := P.cell 1 _ rfl
  have cP_2 := P.cell 2 _ rfl
  have cP_3 := P.cell 3 _ rfl
  have lP := P.lt
  go_wp2_with fail
  refine (v01_no _ _ (by omega)).mono ?_
  rintro _ wy2 ⟨rfl, rfl⟩
  go_wp2
  go_ret2
  exact ⟨rfl, hB⟩
set_option maxHeartbeats 4000000 in
theorem rmarg_3 (fi fu iv : Int) (A : Option Addr) (n cap : Nat) (ts : List T2) (units : Int) (w : World) (hn : ts.length = n) (hs : Hid (Seg w A (n * 2) (tCell ts))) (HC : Hid (∀ W, Seg W A (n * 2) (tCell ts) → Calls Try.prog 16 #[.agg #[.int .i64 fi, .int .i64 fu, .int .i64 iv, .slice A n cap]] W fun e w' => e = .returned (.int .i64 0) ∧ Below W.heap.size W w')) (h3 : 0 ≤ units) (h4 : units ≤ 1000000000000) (h1 : 1 ≤ n) (h2 : n ≤ 8) : Calls Try.prog 14 #[.agg #[.int .i64 fi, .int .i64 fu, .int .i64 iv, .slice A n cap], .int .i64 units] w fun e w' => e = .returned (.tuple #[.int .i64 (margL ts units), .int .i64 0]) ∧ Below w.heap.size w w' := by
  go_enter Try.func14, Try.ntmps14
  go_wp2_with fail
  refine (HC.out _ (hs.out.next (below_box (Below.refl _ _) _))).mono ?_
  rintro _ wx1 ⟨rfl, hb⟩
  have P := (Box.new w 24 #[.int .i64 fi, .int .i64 fu, .int .i64 iv, .slice A n cap]).next hb
  have hB := below_step (below_box (Below.refl _ w) _) hb
  clear hb
  have cP_0 := P.cell 0 _ rfl
  have cP_1 := P.cell 1 _ rfl
  have cP_2 := P.cell 2 _ rfl
  have cP_3 := P.cell 3 _ rfl
  have lP := P.lt
  go_wp2_with fail
  refine (v01_yes _ _ (by omega) h4).mono ?_
  rintro _ wy2 ⟨rfl, rfl⟩
  go_wp2
  clear cP_0 cP_1 cP_2 cP_3 lP
  refine wp_forget (fun W => Box W w.heap.size 24 #[.int .i64 fi, .int .i64 fu, .int .i64 iv, .slice A n cap] ∧ Below w.heap.size w W)
    ⟨P, hB⟩ ?_
  clear P hB
  rintro wx3 ⟨P, hB⟩
  have cP_0 := P.cell 0 _ rfl
  have cP_1 := P.cell 1 _ rfl
  have cP_2 := P.cell 2 _ rfl
  have cP_3 := P.cell 3 _ rfl
  have lP := P.lt
  have HN := Lib.hid hn
  clear hn HC
  go_loopw [23] (MargRel fi fu iv A n cap ts units w) (fun i _ => n - (intOf i).toNat)
  case atStart => exact ⟨0, rfl, by omega, fun _ => by simp, fun h => absurd h (by omega), P, hB⟩
  case round =>
    clear cP_0 cP_1 cP_2 cP_3 lP P hB
    obtain ⟨k, rfl, hk, hR, hE, P, hB⟩ := hrel
    by_cases hlt : k < n
    · obtain ⟨b1, o1, rfl, hb1, q0, q1⟩ := tseg hs.out k hlt
      have Q0 := Lib.hid q0
      have Q1 := Lib.hid q1
      have HR := Lib.hid ((margL_step ts k (by rw [HN.out]; exact hlt) units).symm.trans (hR hlt))
      have HZ : Hid (k + 1 = n → (ts.getD (n - 1) T2.z).m = (ts.getD k T2.z).m) := Lib.hid (fun h => by subst h; rfl)
      rw [HN.out] at HR
      clear q0 q1 hR hE
      generalize ts.getD k T2.z = t at *
      obtain ⟨u, m⟩ := t
      simp only at Q0 Q1 HR HZ
      have cP_0 := P.cell 0 _ rfl
      have cP_1 := P.cell 1 _ rfl
      have cP_2 := P.cell 2 _ rfl
      have cP_3 := P.cell 3 _ rfl
      have lP := P.lt
      have q0 := (hB.cell (p := ⟨b1, o1 + k * 2, none⟩) hb1).trans Q0.out
      have q1 := (hB.cell (p := ⟨b1, o1 + k * 2 + 1, none⟩) hb1).trans Q1.out
      by_cases hu : units < u
      · rw [if_pos hu] at HR
        have hu1 : units + 1 ≤ u := by omega
        go_wp2
        rw [← HR.out]
        go_ret2
        exact ⟨rfl, hB⟩
      · rw [if_neg hu] at HR
        have hu1 : u < units + 1 := by omega
        go_wp2
        go_roundw
        case rel => exact ⟨k + 1, by go_num, by omega, fun g => (if_neg (show ¬ k + 1 = n by omega)).symm.trans HR.out, fun g => (HZ.out g).trans ((if_pos g).symm.trans HR.out), P, hB⟩
        case measure => simp [intOf]; omega
    · obtain rfl : k = n := by omega
      obtain ⟨b1, o1, rfl, hb1, _, q1⟩ := tseg hs.out (k - 1) (by omega)
      have HE := Lib.hid (hE rfl)
      have Q1 := Lib.hid q1
      clear hR hE q1
      have hk1 : ((k : Int) - 1).toNat = k - 1 := by omega
      generalize ts.getD (k - 1) T2.z = t at *
      have cP_0 := P.cell 0 _ rfl
      have cP_1 := P.cell 1 _ rfl
      have cP_2 := P.cell 2 _ rfl
      have cP_3 := P.cell 3 _ rfl
      have lP := P.lt
      have q1 := (hB.cell (p := ⟨b1, o1 + (k - 1) * 2 + 1, none⟩) hb1).trans Q1.out
      go_wp2
      rw [← HE.out]
      go_ret2
      exact ⟨rfl, hB⟩
theorem rmarg_any (fi fu iv : Int) (A : Option Addr) (n cap : Nat) (ts : List T2) (units : Int) (w : World) (hn : ts.length = n) (hs : Seg w A (n * 2) (tCell ts)) : Calls Try.prog 14 #[.agg #[.int .i64 fi, .int .i64 fu, .int .i64 iv, .slice A n cap], .int .i64 units] w fun e w' => e = .returned (.tuple #[.int .i64 (margV fi fu iv ts units).v, .int .i64 (margV fi fu iv ts units).e]) ∧ Below w.heap.size w w' := by
  have HC : Hid (∀ W, Seg W A (n * 2) (tCell ts) → _) := fun W k => rchk_any fi fu iv A n cap ts W hn k
  unfold margV
  by_cases h : chkV fi fu iv ts = 0
  · rw [if_pos h]
    obtain ⟨_, _, _, ⟨l1, l2⟩, hg⟩ := chkV_good fi fu iv ts h
    rw [h] at HC
    by_cases hu : 0 ≤ units ∧ units ≤ 1000000000000
    · rw [if_pos hu]
      exact rmarg_3 fi fu iv A n cap ts units w hn hs HC hu.1 hu.2 (by omega) (by omega)
    · rw [if_neg hu]
      by_cases h0 : units < 0
      · exact rmarg_1 fi fu iv A n cap ts units w hs HC h0
      · exact rmarg_2 fi fu iv A n cap ts units w hs HC (by omega) (by omega)
  · rw [if_neg h]
    exact rmarg_0 fi fu iv A n cap ts units _ w hs HC (bne_iff_ne.2 h)

end Go.Proofs.Ytdmffbbobagloaa
