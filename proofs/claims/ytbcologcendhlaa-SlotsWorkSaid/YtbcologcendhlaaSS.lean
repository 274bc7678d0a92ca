/- SlotsCheck: the walk. -/
import Derived.Test.YtbcologcendhlaaSR
namespace Go.Proofs.Ytbcologcendhlaa
open Go.ChangeShapes Go.WideShapes Go.ChangeAt Go.RowKit

theorem wsum_app (q : Key → Bool) (a b : KL) : wsum q (a ++ b) = wsum q a + wsum q b := by
  induction a with
  | nil => simp [wsum]
  | cons p a ih => obtain ⟨x, c⟩ := p; rw [List.cons_append, wsum, wsum, ih]; omega
/-- A configuration that is good is accepted. -/
theorem chk_good (total : Int) (R : KL) (sum : Int) (seen : List Key) (h1 : ∀ p ∈ R, nameV p.1 = true ∧ 0 ≤ p.2 ∧ p.2 ≤ total ∧ p.1 ∉ seen) (h2 : (keys R).Nodup) (h3 : sum + wsum all R ≤ total) : chk total sum seen R = 0 := by
  induction R generalizing sum seen with
  | nil =>
    have h4 : wsum all [] = 0 := rfl
    rw [h4] at h3
    rw [chk, if_neg (by omega)]
  | cons p R ih =>
    obtain ⟨x, c⟩ := p
    obtain ⟨a1, a2, a3, a4⟩ := h1 (x, c) List.mem_cons_self
    simp only at a1 a2 a3 a4
    simp only [keys, List.map_cons, List.nodup_cons] at h2
    have hw : wsum all ((x, c) :: R) = c + wsum all R := by
      rw [wsum]
      show (if true = true then c else 0) + wsum all R = _
      rw [if_pos rfl]
    rw [hw] at h3
    rw [chk, if_neg (by rw [a1]; decide), if_neg a4, if_neg (by omega)]
    refine ih _ _ (fun p hp => ?_) h2.2 (by omega)
    obtain ⟨b1, b2, b3, b4⟩ := h1 p (List.mem_cons_of_mem _ hp)
    refine ⟨b1, b2, b3, fun hm => ?_⟩
    rcases List.mem_append.1 hm with hm | hm
    · exact b4 hm
    · exact h2.1 (List.mem_map.2 ⟨p, hp, List.mem_singleton.1 hm⟩)
theorem check_less {total least : Int} {R : KL} (h : checkV total least R = 0) (k : Nat) : checkV total least (R.take k) = 0 := by
  have hc := check_ok h
  have hs := wsum_take R (fun p hp => (hc.ok p hp).2.1) k
  have h1 := hc.t0
  have h2 := hc.t1
  have h3 := hc.l0
  have h4 := hc.l1
  have h5 := hc.len
  have h6 := hc.sum
  unfold checkV
  rw [if_neg (by omega), if_neg (by rw [List.length_take]; omega)]
  refine chk_good _ _ _ _ (fun p hp => ?_) ?_ (by omega)
  · obtain ⟨b1, b2, b3⟩ := hc.ok p (List.mem_of_mem_take hp)
    exact ⟨b1, b2, b3, fun h => by cases h⟩
  · have hnd := hc.nd
    unfold keys at *
    rw [List.map_take]
    exact hnd.sublist (List.take_sublist _ _)
theorem chk_twice (total : Int) (R : KL) (sum : Int) (seen : List Key) (q : Key × Int) (h1 : ∀ p ∈ R, nameV p.1 = true ∧ 0 ≤ p.2 ∧ p.2 ≤ total ∧ p.1 ∉ seen) (h2 : (keys R).Nodup) (hq : nameV q.1 = true) (hm : q.1 ∈ keys R ∨ q.1 ∈ seen) : chk total sum seen (R ++ [q]) = 6 := by
  induction R generalizing sum seen with
  | nil =>
    obtain ⟨y, d⟩ := q
    have hs : y ∈ seen := by
      rcases hm with hm | hm
      · cases hm
      · exact hm
    rw [List.nil_append, chk, if_neg (by rw [hq]; decide), if_pos hs]
  | cons p R ih =>
    obtain ⟨x, c⟩ := p
    obtain ⟨a1, a2, a3, a4⟩ := h1 (x, c) List.mem_cons_self
    simp only at a1 a2 a3 a4
    simp only [keys, List.map_cons, List.nodup_cons, List.mem_cons] at h2 hm
    rw [List.cons_append, chk, if_neg (by rw [a1]; decide), if_neg a4, if_neg (by omega)]
    refine ih _ _ (fun p hp => ?_) h2.2 ?_
    · obtain ⟨b1, b2, b3, b4⟩ := h1 p (List.mem_cons_of_mem _ hp)
      refine ⟨b1, b2, b3, fun hm => ?_⟩
      rcases List.mem_append.1 hm with hm | hm
      · exact b4 hm
      · exact h2.1 (List.mem_map.2 ⟨p, hp, List.mem_singleton.1 hm⟩)
    · rcases hm with (hm | hm) | hm
      · exact .inr (List.mem_append_right _ (List.mem_singleton.2 hm))
      · exact .inl hm
      · exact .inr (List.mem_append_left _ hm)
theorem check_twice {total least : Int} {R : KL} (h : checkV total least R = 0) (q : Key × Int) (hq : q ∈ R) : (R.length < 32 ∧ checkV total least (R ++ [q]) = 6) ∨ (R.length = 32 ∧ checkV total least (R ++ [q]) = 3) := by
  have hc := check_ok h
  have h1 := hc.t0
  have h2 := hc.t1
  have h3 := hc.l0
  have h4 := hc.l1
  have h5 := hc.len
  unfold checkV
  rw [if_neg (by omega), List.length_append]
  simp only [List.length_cons, List.length_nil]
  by_cases h32 : R.length = 32
  · exact .inr ⟨h32, by rw [if_pos (by omega)]⟩
  · refine .inl ⟨by omega, ?_⟩
    rw [if_neg (by omega)]
    refine chk_twice _ _ _ _ _ (fun p hp => ?_) hc.nd (hc.ok q hq).1 (.inl (List.mem_map.2 ⟨q, hq, rfl⟩))
    obtain ⟨b1, b2, b3⟩ := hc.ok p hp
    exact ⟨b1, b2, b3, fun h => by cases h⟩
/-- Reserves more, the slice's shape written out. -/
theorem wpList_apprs {w W : World} {ops : Array Oper} {rest : List Oper} {o : Oper} {a : Act} {Q : Exit → Act → World → Prop} (hgd : o.guard = none) (s x : Operand)
    (ho : o.op = .call { callee := .builtin .append, args := #[s, x], argTypes := #[22, 22] })
    (base : Nat) (v : Value) (l m : KL) (A : Option Addr) (c : Nat) (hs : a.eval s = v) (hx : a.eval x = .slice A m.length c) (hown : W.ownsRow base 47 2 v l.length (rV l)) (hsrc : Seg W A (m.length * 2) (rCell m)) (hn : A = none → m.length = 0 ∧ c = 0) (hB : Below base w W) (hz : base ≤ W.heap.size) (hl : (l.length + m.length) * 24 ≤ 140737488355328)
    (H : ∀ A2 cap2 n2 w', n2 = (l ++ m).length → Seg w' A2 (n2 * 2) (rCell (l ++ m)) → Below base w w' → wpList Try.prog ops Q rest (a.put o.dst (.slice A2 n2 cap2)) w') : wpList Try.prog ops Q (o :: rest) a W :=
  wpList_appr hgd s x ho base v l m A c hs hx hown hsrc hn hB hz hl fun v' w' h1 h2 => by
    obtain ⟨A2, cap2, rfl, hs2, _, _⟩ := own_seg h1 (fun j hj => rV_get _ j hj)
    exact H A2 cap2 _ w' rfl hs2 h2
theorem wpList_apprn {w W : World} {ops : Array Oper} {rest : List Oper} {o : Oper} {a : Act} {Q : Exit → Act → World → Prop} (hgd : o.guard = none) (s x : Operand)
    (ho : o.op = .call { callee := .builtin .append, args := #[s, x], argTypes := #[22, 22] })
    (base : Nat) (v : Value) (l m : KL) (n : Nat) (hnm : n = m.length) (A : Option Addr) (c : Nat) (hs : a.eval s = v) (hx : a.eval x = .slice A n c) (hown : W.ownsRow base 47 2 v l.length (rV l)) (hsrc : Seg W A (n * 2) (rCell m)) (hn : A = none → n = 0 ∧ c = 0) (hB : Below base w W) (hz : base ≤ W.heap.size) (hl : (l.length + n) * 24 ≤ 140737488355328)
    (H : ∀ v' w', w'.ownsRow base 47 2 v' (l ++ m).length (rV (l ++ m)) → Below base w w' → wpList Try.prog ops Q rest (a.put o.dst v') w') : wpList Try.prog ops Q (o :: rest) a W := by
  subst hnm
  exact wpList_appr hgd s x ho base v l m A c hs hx hown hsrc hn hB hz hl H
theorem check_n (total least : Int) (A : Option Addr) (n2 ca : Nat) (R : KL) (w : World) (hn : n2 = R.length) (hR : Seg w A (n2 * 2) (rCell R)) (hlen : ∀ p ∈ R, p.1.length ≤ 300) : Calls Try.prog 12 #[.int .i64 total, .int .i64 least, .slice A n2 ca] w fun e w' => e = .returned (.int .i64 (checkV total least R)) ∧ Below w.heap.size w w' := by
  subst hn
  exact check_any total least A ca R w hR hlen
theorem rseg_take {w : World} {A : Option Addr} {R : KL} (h : Seg w A (R.length * 2) (rCell R)) (k : Nat) (hk : k ≤ R.length) : Seg w A (k * 2) (rCell (R.take k)) := by
  intro j hj
  obtain ⟨b, o, h1, h2, h3⟩ := h j (by omega)
  refine ⟨b, o, h1, h2, ?_⟩
  rw [h3]
  unfold rCell
  have : (R.take k).getD (j / 2) ([], 0) = R.getD (j / 2) ([], 0) := by
    rw [List.getD_eq_getElem?_getD, List.getD_eq_getElem?_getD, List.getElem?_take_of_lt (by omega)]
  rw [this]
theorem seg_nil (w : World) (B : Option Addr) (l : OL) (h : l = []) : Seg w B (l.length * 2) (kCell l) := fun k hk => absurd hk (by rw [h]; simp)
theorem rcheck_n (total least : Int) (A : Option Addr) (n2 ca : Nat) (R : KL) (w : World) (hn : n2 = R.length) (hR : Seg w A (n2 * 2) (rCell R)) : Calls Try.prog 27 #[.int .i64 total, .int .i64 least, .slice A n2 ca] w fun e w' => e = .returned (.int .i64 (checkV total least R)) ∧ Below w.heap.size w w' := by
  subst hn
  exact rcheck_any total least A ca R w hR
theorem smalls_rn (R : KL) (n2 : Nat) (A : Option Addr) (ca : Nat) (w : World) (hn : n2 = R.length) (hR : Seg w A (n2 * 2) (rCell R)) : Calls Try.prog 8 #[.slice A n2 ca, .slice none 0 0] w (SmallEnds R [] w) := by
  subst hn
  exact smalls_any R [] A none ca 0 w hR (seg_nil _ _ _ rfl)
theorem r_new1 (w : World) (q : Key × Int) (t : TypeId) : Seg (w.alloc (.cells #[.string (bs q.1), .int .i64 q.2] t)) (some ⟨w.heap.size, 0, none⟩) ([q].length * 2) (rCell [q]) := res_new1 w q.1 q.2 t
set_option maxRecDepth 100000 in
set_option maxHeartbeats 1000000 in
theorem slotsCheck_zero (total least : Int) (A : Option Addr) (ca : Nat) (R : KL) (W : World) (hn : 0 = R.length) (hR : Seg W A ((0) * 2) (rCell R)) (_hR24 : (0) * 24 ≤ 140737488351232) (_hcap : 0 ≤ ca) : Calls Try.prog 6 #[.int .i64 total, .int .i64 least, .slice A (0) ca] W fun e w' => e = .returned (.bool true) ∧ Below W.heap.size W w' := by
  have HR := Lib.hid hR
  have HN := Lib.hid hn
  have HSM := Lib.hid (fun w (h : Below W.heap.size W w) => smalls_rn R (0) A ca w hn (hR.next h))
  clear hR hn
  go_enter Try.func6, Try.ntmps6
  go_wp2_with fail
  refine (HSM.out _ (Below.refl _ _)).mono ?_
  rintro _ w1 ⟨r, rfl, hr1, hb1⟩
  clear HSM
  have HB1 := Lib.hid hb1
  clear hb1
  cases r
  · clear hr1
    go_wp2_with fail
    refine (awake_any _).mono ?_
    rintro _ w4 ⟨rfl, hb⟩
    go_wp2
    go_ret
    exact ⟨rfl, below_step HB1.out hb⟩
  have HSO := Lib.hid (hr1 rfl)
  clear hr1
  have HC := Lib.hid (check_n total least A (0) ca R w1 HN.out (HR.out.next HB1.out) (small_names HSO.out))
  have HRC := Lib.hid (fun w (h : Below W.heap.size W w) => rcheck_n total least A (0) ca R w HN.out (HR.out.next h))
  by_cases hc : checkV total least R = 0
  case neg =>
    have hne : (checkV total least R != 0) = true := bne_iff_ne.2 hc
    clear hc
    generalize checkV total least R = code at *
    go_wp2_with fail
    refine HC.out.mono ?_
    rintro _ w2 ⟨rfl, hb2⟩
    have HB2 := Lib.hid (below_step HB1.out hb2)
    clear hb2
    go_wp2_with fail
    refine (HRC.out _ HB2.out).mono ?_
    rintro _ w3 ⟨rfl, hb3⟩
    have HB3 := Lib.hid (below_step HB2.out hb3)
    clear hb3
    go_wp2_with fail
    refine (awake_any _).mono ?_
    rintro _ w4 ⟨rfl, hb⟩
    go_wp2
    go_ret
    exact ⟨rfl, below_step HB3.out hb⟩
  have HCV := Lib.hid hc
  rw [hc] at HC HRC
  clear hc
  go_wp2_with fail
  refine HC.out.mono ?_
  rintro _ w2 ⟨rfl, hb2⟩
  have HB2 := Lib.hid (below_step HB1.out hb2)
  clear hb2
  go_wp2_with fail
  refine (HRC.out _ HB2.out).mono ?_
  rintro _ w3 ⟨rfl, hb3⟩
  have HB3 := Lib.hid (below_step HB2.out hb3)
  clear hb3
  go_wp2_with fail
  refine (awake_any _).mono ?_
  rintro _ w4 ⟨rfl, hb⟩
  go_wp2
  go_ret
  exact ⟨rfl, below_step HB3.out hb⟩
set_option maxRecDepth 100000 in
set_option maxHeartbeats 1000000 in
theorem slotsCheck_more (total least : Int) (A : Option Addr) (m ca : Nat) (R : KL) (W : World) (hn : m + 1 = R.length) (hR : Seg W A ((m + 1) * 2) (rCell R)) (hR24 : (m + 1) * 24 ≤ 140737488351232) (hcap : m + 1 ≤ ca) : Calls Try.prog 6 #[.int .i64 total, .int .i64 least, .slice A (m + 1) ca] W fun e w' => e = .returned (.bool true) ∧ Below W.heap.size W w' := by
  have HR := Lib.hid hR
  have HN := Lib.hid hn
  have HSM := Lib.hid (fun w (h : Below W.heap.size W w) => smalls_rn R (m + 1) A ca w hn (hR.next h))
  clear hR hn
  go_enter Try.func6, Try.ntmps6
  go_wp2_with fail
  refine (HSM.out _ (Below.refl _ _)).mono ?_
  rintro _ w1 ⟨r, rfl, hr1, hb1⟩
  clear HSM
  have HB1 := Lib.hid hb1
  clear hb1
  cases r
  · clear hr1
    go_wp2_with fail
    refine (awake_any _).mono ?_
    rintro _ w4 ⟨rfl, hb⟩
    go_wp2
    go_ret
    exact ⟨rfl, below_step HB1.out hb⟩
  have HSO := Lib.hid (hr1 rfl)
  clear hr1
  have HC := Lib.hid (check_n total least A (m + 1) ca R w1 HN.out (HR.out.next HB1.out) (small_names HSO.out))
  have HRC := Lib.hid (fun w (h : Below W.heap.size W w) => rcheck_n total least A (m + 1) ca R w HN.out (HR.out.next h))
  by_cases hc : checkV total least R = 0
  case neg =>
    have hne : (checkV total least R != 0) = true := bne_iff_ne.2 hc
    clear hc
    generalize checkV total least R = code at *
    go_wp2_with fail
    refine HC.out.mono ?_
    rintro _ w2 ⟨rfl, hb2⟩
    have HB2 := Lib.hid (below_step HB1.out hb2)
    clear hb2
    go_wp2_with fail
    refine (HRC.out _ HB2.out).mono ?_
    rintro _ w3 ⟨rfl, hb3⟩
    have HB3 := Lib.hid (below_step HB2.out hb3)
    clear hb3
    go_wp2_with fail
    refine (awake_any _).mono ?_
    rintro _ w4 ⟨rfl, hb⟩
    go_wp2
    go_ret
    exact ⟨rfl, below_step HB3.out hb⟩
  have HCV := Lib.hid hc
  rw [hc] at HC HRC
  clear hc
  obtain ⟨b1, o1, rfl, hb1, q0, q1⟩ := rseg HR.out 0 (by omega)
  have hm32 : m + 1 ≤ 32 := by
    have := (check_ok HCV.out).len
    have := HN.out
    omega
  have hwm : IntKind.i64.wrap (m : Int) = m := by rw [IntKind.wrap_i64]; omega
  have hmc : (m : Int) ≤ ca := by omega
  have hq : R.getD 0 ([], 0) ∈ R := by
    have h1 := HN.out
    rw [List.getD_eq_getElem?_getD, List.getElem?_eq_getElem (by omega)]
    exact List.getElem_mem (by omega)
  have htw := check_twice HCV.out _ hq
  have HT := Lib.hid (check_less HCV.out m)
  have HSN := Lib.hid (fun p (hp : p ∈ R ++ [R.getD 0 ([], 0)]) => (show p.1.length ≤ 300 by
    rcases List.mem_append.1 hp with hp | hp
    · exact small_names HSO.out p hp
    · rw [List.mem_singleton.1 hp]
      exact small_names HSO.out _ hq))
  have HSN2 := Lib.hid (fun p (hp : p ∈ R.take m) => small_names HSO.out p (List.mem_of_mem_take hp))
  have h0m : (0 : Int) ≤ m := by omega
  have hRl := HN.out
  rw [← hRl] at htw
  clear hq
  generalize hg : R.getD 0 ([], 0) = q at *
  obtain ⟨x, c⟩ := q
  simp only [Nat.zero_mul, Nat.add_zero] at q0 q1
  have HG := Lib.hid hg
  have HQ := Lib.hid (And.intro hb1 (And.intro q0 q1))
  have HTW := Lib.hid htw
  clear htw hg q0 q1 hb1 hRl
  have HC2 := Lib.hid (fun w (h : Below W.heap.size W w) => check_n total least (some ⟨b1, o1, none⟩) m ca (R.take m) w (by rw [List.length_take]; have := HN.out; omega) (by
    have h1 := HN.out
    have h2 := HR.out.next h
    rw [h1] at h2
    exact rseg_take h2 m (by omega)) HSN2.out)
  rw [HT.out] at HC2
  go_wp2_with fail
  refine HC.out.mono ?_
  rintro _ w2 ⟨rfl, hb2⟩
  have HB2 := Lib.hid (below_step HB1.out hb2)
  clear hb2
  go_wp2_with fail
  refine (HRC.out _ HB2.out).mono ?_
  rintro _ w3 ⟨rfl, hb3⟩
  have HB3 := Lib.hid (below_step HB2.out hb3)
  clear hb3
  go_wp2_with fail
  refine (HC2.out _ HB3.out).mono ?_
  rintro _ w4 ⟨rfl, hb4⟩
  have HB4 := Lib.hid (below_step HB3.out hb4)
  clear hb4
  have H4 := Lib.hid (And.intro (HR.out.next HB4.out) HB4.out.size)
  have tok1 : True := trivial
  go_wp2_with (first
    | (at_builtin
       have _t := tok1
       go_loud (refine wpList_apprn rfl (.tmp 41) (.tmp 42) rfl W.heap.size _ [] R (m + 1) HN.out (some ⟨b1, o1, none⟩) ca rfl rfl (World.ownsRow_nil _ _ _ _) H4.out.1 (fun h => by cases h) HB4.out H4.out.2 (by simp only [List.length_nil]; omega) ?_)
       intro v1 w5 ho1 hb5
       clear tok1
       have hz5 := hb5.size
       have d0 := (hb5.cell (p := ⟨b1, o1, none⟩) HQ.out.1).trans HQ.out.2.1
       have d1 := (hb5.cell (p := ⟨b1, o1 + 1, none⟩) HQ.out.1).trans HQ.out.2.2
       have hb6 : b1 < w5.heap.size := Nat.lt_of_lt_of_le HQ.out.1 hz5
       have hbb := below_box (Below.refl _ w5) (.cells #[.string (bs x), .int .i64 c] 47)
       have hk1 := r_new1 w5 (x, c) 47
       have H1 := Lib.hid (And.intro (own_up ho1 hbb) (And.intro hk1 (And.intro (below_step' hb5 hbb hz5) (Nat.le_trans hz5 hbb.size))))
       clear ho1 hb5 hz5 hbb hk1)
    | (at_builtin
       go_loud (refine wpList_apprs rfl (.tmp 44) (.tmp 48) rfl W.heap.size v1 ([] ++ R) [(x, c)] _ 1 rfl rfl H1.out.1 H1.out.2.1 (fun h => by cases h) H1.out.2.2.1 H1.out.2.2.2 (by have := HN.out; simp only [List.nil_append, List.length_cons, List.length_nil]; omega) ?_)
       intro A2 cap2 n2 w6 hn2 hs2 hb6
       rw [List.nil_append] at hn2 hs2
       have H2 := Lib.hid (And.intro (check_n total least A2 n2 cap2 _ w6 hn2 hs2 HSN.out) hb6)
       clear hn2 hs2 H1 hb6))
  refine H2.out.1.mono ?_
  rintro _ w7 ⟨rfl, hb7⟩
  have HB7 := Lib.hid (below_step H2.out.2 hb7)
  clear hb7 H2
  rcases HTW.out with ⟨h1, h2⟩ | ⟨h1, h2⟩
  · rw [h2]
    clear h1 h2
    go_wp2_with fail
    refine (awake_any _).mono ?_
    rintro _ w8 ⟨rfl, hb⟩
    go_wp2
    go_ret
    exact ⟨rfl, below_step HB7.out hb⟩
  · rw [h2]
    have hm : m = 31 := by have := HN.out; omega
    subst hm
    clear h1 h2
    go_wp2_with fail
    refine (awake_any _).mono ?_
    rintro _ w8 ⟨rfl, hb⟩
    go_wp2
    go_ret
    exact ⟨rfl, below_step HB7.out hb⟩
def RArgC (W : World) (A : Option Addr) (n ca : Nat) (R : KL) : Prop := RArg W A n ca R ∧ n ≤ ca
section
open Go.Joins Go.Deep
theorem seg_of_rc {H : Type} {enc : TypeId × Value → H} {P : Program} {w : World} {base : Nat} {spare : Nat → Bool} {held : Bool} {t e : TypeId} {f0 f1 : Field} {fuel : Nat} {cs : List Value} {x : DataW H × List MemPlace} {A : Option Addr} {len cap : Nat}
    (ht : P.underlying t = some (.slice e)) (he : P.underlying e = some (.struct #[f0, f1])) (hone : oneCellFields P #[f0, f1] = true) (hC : P.cellsOf e = 2) (hB : P.bytesOf e = 24)
    (t0 : P.underlying f0.type = some .string) (t1 : P.underlying f1.type = some (.int .i64))
    (h : DataW.trod enc P w base spare held fuel t cs = some x) (hcs : cs = [.slice A len cap]) (hz : ∀ n ∈ x.1.weights P t, n ≤ 140737488351232) : ∃ us : KL, RArgC w A len cap us := by
  obtain ⟨us, hu⟩ := seg_of_r ht he hone hC hB t0 t1 h hcs hz
  refine ⟨us, hu, ?_⟩
  rcases open_slice ht h with ⟨h1, _⟩ | ⟨a, l, c, m, n, D, Pl, h1, _, hl, _⟩
  · rw [hcs] at h1
    simp only [List.cons.injEq, Value.slice.injEq, and_true] at h1
    omega
  · rw [hcs] at h1
    simp only [List.cons.injEq, Value.slice.injEq, and_true] at h1
    omega
end
theorem slotsCheck_walk (total least : Int) (A : Option Addr) (n ca : Nat) (R : KL) (W : World) {p0 p1 : Prop} (_ : p0) (_ : p1) (hrc : RArgC W A n ca R) : Calls Try.prog 6 #[.int .i64 total, .int .i64 least, .slice A n ca] W fun e w' => e = .returned (.bool true) ∧ Below W.heap.size W w' := by
  obtain ⟨⟨h1, hR, hRn, hR24⟩, hcap⟩ := hrc
  rcases n with _ | m
  · exact slotsCheck_zero total least A ca R W h1.symm hR hR24 hcap
  · exact slotsCheck_more total least A m ca R W h1.symm hR hR24 hcap
end Go.Proofs.Ytbcologcendhlaa
