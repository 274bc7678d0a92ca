/- Layer 37 (instance): the plain law and the walk of the law InstanceCounts. -/
import Derived.Test.YtfcihloebncmdaaDoorE
import Derived.Test.YtfcihloebncmdaaDoorY
namespace Go.Proofs.YtfcihloebncmdaaDoor
open Go.ChangeShapes Go.WideShapes Go.ChangeAt Go.RowKit
attribute [local go_sem high] eql24

/-- How many actions of a list are beginnings. -/
def cnt2 (l : List Int) : Int := (l.filter fun a => a == 2).length
theorem cnt2_cons (a : Int) (l : List Int) : cnt2 (a :: l) = (if a = 2 then 1 else 0) + cnt2 l := by
  unfold cnt2
  by_cases h : a = 2
  · simp [h]; omega
  · simp [h]
theorem cnt2_bd (l : List Int) : 0 ≤ cnt2 l ∧ cnt2 l ≤ l.length := by
  unfold cnt2
  have := List.length_filter_le (fun a : Int => a == 2) l
  omega
theorem cnt2_snoc (l : List Int) (k : Nat) (h : k < l.length) : cnt2 (l.take (k + 1)) = cnt2 (l.take k) + (if l.getD k 0 = 2 then 1 else 0) := by
  rw [List.take_succ_eq_append_getElem h]
  unfold cnt2
  rw [List.filter_append]
  have hg : l.getD k 0 = l[k] := by simp [List.getD, h]
  rw [hg]
  by_cases h2 : l[k] = 2
  · simp [h2]
  · simp [h2]
theorem stepV_uses (id : ByteArray) (st si us a now : Int) (h : (stepV id st si us a now).e = 0) : (stepV id st si us a now).us = us + (if a = 2 then 1 else 0) := by
  revert h
  unfold stepV
  repeat' split
  all_goals simp_all
/-- What Play carries out, and the uses then. -/
theorem playI_law (id : ByteArray) (now : Int) : ∀ (l : List Int) (st si us d : Int), ∃ c : Nat, c ≤ l.length ∧ (playI id now l st si us d).n = d + c ∧ (playI id now l st si us d).us = us + cnt2 (l.take c)
  | [], st, si, us, d => ⟨0, Nat.le_refl _, by simp [playI], by simp [playI, cnt2]⟩
  | a :: l, st, si, us, d => by
    rw [playI]
    by_cases h : (stepV id st si us a now).e = 0
    · rw [if_pos h]
      obtain ⟨c, h1, h2, h3⟩ := playI_law id now l (stepV id st si us a now).st (stepV id st si us a now).si (stepV id st si us a now).us (d + 1)
      refine ⟨c + 1, by simp; omega, by rw [h2]; omega, ?_⟩
      rw [h3, stepV_uses id st si us a now h, List.take_succ_cons, cnt2_cons]
      omega
    · rw [if_neg h]
      exact ⟨0, by simp, by simp, by simp [cnt2]⟩
theorem playI_shift (id : ByteArray) (now : Int) : ∀ (l : List Int) (st si us d : Int), playI id now l st si us d = ⟨(playI id now l st si us 0).st, (playI id now l st si us 0).si, (playI id now l st si us 0).us, d + (playI id now l st si us 0).n⟩
  | [], st, si, us, d => by simp [playI]
  | a :: l, st, si, us, d => by
    rw [playI, playI]
    by_cases h : (stepV id st si us a now).e = 0
    · rw [if_pos h, if_pos h, playI_shift id now l _ _ _ (d + 1), playI_shift id now l _ _ _ (0 + 1)]
      simp only [IC.mk.injEq, true_and]
      omega
    · rw [if_neg h, if_neg h]
      simp
theorem playI_app (id : ByteArray) (now : Int) (m : List Int) : ∀ (l : List Int) (st si us d : Int), playI id now (l ++ m) st si us d =
    if (playI id now l st si us d).n = d + l.length then playI id now m (playI id now l st si us d).st (playI id now l st si us d).si (playI id now l st si us d).us (playI id now l st si us d).n else playI id now l st si us d
  | [], st, si, us, d => by simp [playI]
  | a :: l, st, si, us, d => by
    rw [List.cons_append, playI, playI]
    by_cases h : (stepV id st si us a now).e = 0
    · rw [if_pos h, if_pos h, playI_app id now m l]
      have e : d + 1 + (l.length : Int) = d + ((a :: l).length : Int) := by simp; omega
      rw [e]
    · rw [if_neg h, if_neg h]
      have e : ¬ d = d + ((a :: l).length : Int) := by simp; omega
      rw [if_neg e]

theorem I25 : (Tryd.prog.info? 25).map (fun i => (i.zero, i.size, i.bytes)) = some (some (.int .i64 0), 1, 8) := by kernel_rfl

set_option maxHeartbeats 400000 in
theorem counts_e1 (id : ByteArray) (now : Int) (A B : Option Addr) (n m cap cap' : Nat) (w : World) (hT : Tab w) (h : decide ((300 : Int) < (n : Int)) = true) : Calls Tryd.prog 6 #[.string id, .slice A n cap, .slice B m cap', .int .i64 now] w fun e w' => e = .returned (.bool true) ∧ Below w.heap.size w w' := by
  have h3 : Hid (Calls _ _ _ _ _) := awake_any _ hT
  clear hT
  go_enter Tryd.func6, Tryd.ntmps6
  go_wp2_with (go_at_call 8; refine h3.out.mono ?_; rintro _ w1 ⟨rfl, hb⟩)
  go_ret
  exact ⟨rfl, hb⟩
set_option maxHeartbeats 400000 in
theorem counts_e2 (id : ByteArray) (now : Int) (A B : Option Addr) (n m cap cap' : Nat) (w : World) (hT : Tab w) (h0 : decide ((300 : Int) < (n : Int)) = false) (h : decide ((300 : Int) < (m : Int)) = true) : Calls Tryd.prog 6 #[.string id, .slice A n cap, .slice B m cap', .int .i64 now] w fun e w' => e = .returned (.bool true) ∧ Below w.heap.size w w' := by
  have h3 : Hid (Calls _ _ _ _ _) := awake_any _ hT
  clear hT
  go_enter Tryd.func6, Tryd.ntmps6
  go_wp2_with (go_at_call 8; refine h3.out.mono ?_; rintro _ w1 ⟨rfl, hb⟩)
  go_ret
  exact ⟨rfl, hb⟩
set_option maxHeartbeats 400000 in
theorem counts_e3 (id : ByteArray) (now : Int) (A B : Option Addr) (n m cap cap' : Nat) (w : World) (hT : Tab w) (h0 : decide ((300 : Int) < (n : Int)) = false) (h1 : decide ((300 : Int) < (m : Int)) = false) (h : decide ((300 : Int) < (id.size : Int)) = true) : Calls Tryd.prog 6 #[.string id, .slice A n cap, .slice B m cap', .int .i64 now] w fun e w' => e = .returned (.bool true) ∧ Below w.heap.size w w' := by
  have h3 : Hid (Calls _ _ _ _ _) := awake_any _ hT
  clear hT
  go_enter Tryd.func6, Tryd.ntmps6
  go_wp2_with (go_at_call 8; refine h3.out.mono ?_; rintro _ w1 ⟨rfl, hb⟩)
  go_ret
  exact ⟨rfl, hb⟩

set_option maxHeartbeats 1000000 in
theorem counts_new (id : ByteArray) (now : Int) (A B : Option Addr) (n m cap cap' : Nat) (xi : ByteArray) (xa xb xc er : Int) (w : World) (hT : Tab w) (g0 : decide ((300 : Int) < (n : Int)) = false) (g1 : decide ((300 : Int) < (m : Int)) = false) (g2 : decide ((300 : Int) < (id.size : Int)) = false)
    (H1 : Hid (∀ W, Calls Tryd.prog 9 #[.string id, .int .i64 now] W fun e w' => e = .returned (.tuple #[.agg #[.string xi, .int .i64 xa, .int .i64 xb, .int .i64 xc], .int .i64 er]) ∧ Below W.heap.size W w')) (he : (er != 0) = true) : Calls Tryd.prog 6 #[.string id, .slice A n cap, .slice B m cap', .int .i64 now] w fun e w' => e = .returned (.bool true) ∧ Below w.heap.size w w' := by
  go_enter Tryd.func6, Tryd.ntmps6
  go_wp2_with fail
  refine (H1.out _).mono ?_
  rintro _ w1 ⟨rfl, hb⟩
  go_wp2_with fail
  have b1 := below_box hb (.cells #[.string xi, .int .i64 xa, .int .i64 xb, .int .i64 xc] 24)
  refine (awake_any _ (hT.next b1)).mono ?_
  rintro _ w2 ⟨rfl, hb2⟩
  go_wp2
  go_ret
  exact ⟨rfl, below_step b1 hb2⟩

def AllRel (all : List Int) (x14 x15 : Value) : Prop := ∃ k : Nat, x15 = .int .i64 k ∧ x14 = .int .i64 (cnt2 (all.take k)) ∧ k ≤ all.length

set_option maxHeartbeats 2000000 in
set_option maxRecDepth 100000 in
theorem counts_main (id : ByteArray) (now : Int) (A B : Option Addr) (n m cap cap' : Nat) (l l' : List Int) (c : Nat) (a1 a2 a3 s1 s2 s3 k1 t1 t2 t3 j1 : Int) (w : World) (hT : Tab w) (hn : l.length = n) (hm' : l'.length = m) (hl : Seg w A n (ints l)) (hm : Seg w B m (ints l')) (g0 : decide ((300 : Int) < (n : Int)) = false) (g1 : decide ((300 : Int) < (m : Int)) = false) (g2 : decide ((300 : Int) < (id.size : Int)) = false)
    (n300 : n ≤ 300) (m300 : m ≤ 300) (hAn : A = none → n = 0) (hBn : B = none → m = 0)
    (H1 : Hid (∀ W, Calls Tryd.prog 9 #[.string id, .int .i64 now] W fun e w' => e = .returned (.tuple #[.agg #[.string id, .int .i64 1, .int .i64 now, .int .i64 0], .int .i64 0]) ∧ Below W.heap.size W w'))
    (H2 : Hid (∀ W (A : Option Addr) (cap : Nat), Tab W → Seg W A (n + m) (ints (l ++ l')) → Calls Tryd.prog 19 #[.agg #[.string id, .int .i64 1, .int .i64 now, .int .i64 0], .slice A (n + m) cap, .int .i64 now] W fun e w' => e = .returned (.tuple #[.agg #[.string id, .int .i64 a1, .int .i64 a2, .int .i64 a3], .int .i64 (c : Int)]) ∧ Below W.heap.size W w'))
    (H3 : Hid (∀ W (A : Option Addr) (cap : Nat), Tab W → Seg W A n (ints l) → Calls Tryd.prog 19 #[.agg #[.string id, .int .i64 1, .int .i64 now, .int .i64 0], .slice A n cap, .int .i64 now] W fun e w' => e = .returned (.tuple #[.agg #[.string id, .int .i64 s1, .int .i64 s2, .int .i64 s3], .int .i64 k1]) ∧ Below W.heap.size W w'))
    (H4 : Hid (∀ W (A : Option Addr) (cap : Nat), Tab W → Seg W A m (ints l') → Calls Tryd.prog 19 #[.agg #[.string id, .int .i64 s1, .int .i64 s2, .int .i64 s3], .slice A m cap, .int .i64 now] W fun e w' => e = .returned (.tuple #[.agg #[.string id, .int .i64 t1, .int .i64 t2, .int .i64 t3], .int .i64 j1]) ∧ Below W.heap.size W w'))
    (hc : c ≤ n + m) (hu : a3 = cnt2 ((l ++ l').take c)) (hk : k1 ≤ n) (_hk0 : 0 ≤ k1) (_hj0 : 0 ≤ j1) (_hj1 : j1 ≤ m)
    (hlt : k1 < n → (a1 = s1 ∧ a2 = s2 ∧ a3 = s3 ∧ (c : Int) = k1)) (hge : ¬ k1 < n → (a1 = t1 ∧ a2 = t2 ∧ a3 = t3 ∧ (c : Int) = n + j1)) : Calls Tryd.prog 6 #[.string id, .slice A n cap, .slice B m cap', .int .i64 now] w fun e w' => e = .returned (.bool true) ∧ Below w.heap.size w w' := by
  have HU := Lib.hid hu
  have HLT := Lib.hid hlt
  have HGE := Lib.hid hge
  have hbd := cnt2_bd ((l ++ l').take c)
  rw [← hu] at hbd
  have hall : (l ++ l').length = n + m := by rw [List.length_append, hn, hm']
  have HALL := Lib.hid hall
  clear hu hlt hge hall
  obtain ⟨u0, u1⟩ := hbd
  have u2 : a3 ≤ 600 := by have := List.length_take_le c (l ++ l'); omega
  clear u1
  have HT := Lib.hid hT
  have HL := Lib.hid hl
  have HM := Lib.hid hm
  have HN := Lib.hid hn
  have HM' := Lib.hid hm'
  clear hT hl hm hn hm'
  obtain ⟨i0, hi, hz0, hz1, hz2⟩ := info_parts I25
  go_enter Tryd.func6, Tryd.ntmps6
  go_wp2_with fail
  refine (H1.out _).mono ?_
  rintro _ w1 ⟨rfl, hb⟩
  go_upto_region 7 with fail
  have hB := below_box hb (.cells #[.string id, .int .i64 1, .int .i64 now, .int .i64 0] 24)
  have B9 := Box.new w1 24 #[.string id, .int .i64 1, .int .i64 now, .int .i64 0]
  clear hb
  generalize w1.alloc (.cells #[.string id, .int .i64 1, .int .i64 now, .int .i64 0] 24) = wA at *
  generalize w1.heap.size = b9 at *
  have sA : Seg wA A (n * 1) (ints l) := by rw [Nat.mul_one]; exact HL.out.next hB
  go_upto_region 9 with (first
    | (at_builtin; refine wpList_append_seg _ rfl (.tmp 43) (.tmp 44) _ rfl wA.heap.size 25 i0 _ 1 8 Tryd.underlying35 hi hz0 hz1 hz2 rfl (by omega) (.slice none 0 0) 0 [] rfl ⟨by simp, .inl ⟨rfl, rfl⟩⟩ A n cap (ints l) rfl sA (fun k _ => ints_one l k) (by unfold maxLen; omega) (by omega) (Nat.le_refl _) hAn ?_; intro v1 wB hown1 hg1 hat1; have hBB : Below wA.heap.size wA wB := (Below.refl _ _).grown hg1 (Nat.le_refl _) (by simp [Value.ownBlock]); have sB : Seg wB B (m * 1) (ints l') := by (rw [Nat.mul_one]; exact HM.out.next (below_step hB hBB)))
    | (at_builtin; refine wpList_append_seg _ rfl (.tmp 46) (.tmp 47) _ rfl wA.heap.size 25 i0 _ 1 8 Tryd.underlying35 hi hz0 hz1 hz2 rfl (by omega) v1 (0 + n) ([] ++ segCells (ints l) (n * 1)) rfl hown1 B m cap' (ints l') rfl sB (fun k _ => ints_one l' k) (by unfold maxLen; omega) (by omega) hBB.size hBn ?_; intro v2 wC hown2 hg2 hat2; have hBC : Below wA.heap.size wA wC := hBB.grown hg2 hBB.size (fun k hk => by (rcases hat1 with e | e <;> rw [e] at hk <;> simp [Value.ownBlock] at hk; omega)))
    | fail)
  have hown3 : wC.ownsRow wA.heap.size 25 1 v2 (n + m) ((l ++ l').map (Value.int .i64)) := by
    rw [segCells_ints l n HN.out, segCells_ints l' m HM'.out, List.nil_append, Nat.zero_add, ← List.map_append] at hown2
    exact hown2
  obtain ⟨A2, cap2, hv2, sC, _, hA2⟩ := own_ints hown3
  subst hv2
  have HSC := Lib.hid sC
  replace B9 := B9.next hBC
  replace hB := below_step hB hBC
  clear hown1 hg1 hat1 hBB sB hown2 hg2 hat2 hown3 hBC sA sC hi hz0 hz1 hz2 hA2
  obtain ⟨p0, p1, p2, p3⟩ := B9.cells4
  have z9 := B9.lt
  go_wp2_with fail
  refine (H2.out _ _ _ (HT.out.next hB) HSC.out).mono ?_
  rintro _ w2 ⟨rfl, hb⟩
  replace B9 := B9.next hb
  replace hB := below_step hB hb
  replace HSC := Lib.hid (HSC.out.next hb)
  clear hb p0 p1 p2 p3 z9
  go_wp2_with fail
  replace B9 := B9.alloc (.cells #[.string id, .int .i64 a1, .int .i64 a2, .int .i64 a3] 24)
  have B12 := Box.new w2 24 #[.string id, .int .i64 a1, .int .i64 a2, .int .i64 a3]
  replace hB := below_box hB (.cells #[.string id, .int .i64 a1, .int .i64 a2, .int .i64 a3] 24)
  replace HSC := Lib.hid (HSC.out.next ((Below.refl _ w2).alloc (Nat.le_refl _) (.cells #[.string id, .int .i64 a1, .int .i64 a2, .int .i64 a3] 24)))
  generalize w2.alloc (.cells #[.string id, .int .i64 a1, .int .i64 a2, .int .i64 a3] 24) = w3 at *
  generalize w2.heap.size = b12 at *
  go_loop [14, 15] (AllRel ((l ++ l').take c)) (fun _ i => c - (intOf i).toNat)
  case atStart => exact ⟨0, rfl, by simp [cnt2], by omega⟩
  case round =>
    obtain ⟨k, rfl, rfl, hkc⟩ := hrel
    have hk2 : k ≤ c := Nat.le_trans hkc (List.length_take_le _ _)
    have ht : ((l ++ l').take c).take k = (l ++ l').take k := by rw [List.take_take, Nat.min_eq_left hk2]
    rw [ht]
    have hbk := cnt2_bd ((l ++ l').take k)
    have hlk : ((l ++ l').take k).length ≤ k := List.length_take_le _ _
    clear hkc ht
    by_cases hkl : k < c
    · have hkn : k < n + m := by omega
      obtain ⟨bb, oo, rfl, hbb, hcell⟩ := HSC.out k hkn
      have hs1 := cnt2_snoc (l ++ l') k (by rw [HALL.out]; exact hkn)
      have hcell' : w3.cell? ⟨bb, oo + k, none⟩ = some (.int .i64 ((l ++ l').getD k 0)) := hcell
      clear hcell
      have HS1 := Lib.hid hs1
      clear hs1
      have HTK := Lib.hid (show ((l ++ l').take c).take (k + 1) = (l ++ l').take (k + 1) by rw [List.take_take, Nat.min_eq_left (by omega)])
      have HLN := Lib.hid (show k + 1 ≤ ((l ++ l').take c).length by rw [List.length_take, HALL.out]; omega)
      generalize (l ++ l').getD k 0 = ak at *
      generalize hq : cnt2 ((l ++ l').take k) = q at *
      have HQ := Lib.hid hq
      clear hq
      have d1 : decide ((k : Int) < (c : Int)) = true := by simp; omega
      have d2 : decide ((k : Int) < ((n + m : Nat) : Int)) = true := by simp; omega
      by_cases ha : ak = 2
      · have ha2 : (ak == 2) = true := by simpa using ha
        clear ha
        go_wp2
        go_round
        case rel => exact ⟨k + 1, by go_num, by rw [HTK.out, HS1.out, if_pos (by simpa using ha2)], HLN.out⟩
        case measure => simp [intOf]; omega
      · have ha2 : (ak == 2) = false := by simpa using ha
        clear ha
        go_wp2
        go_round
        case rel => exact ⟨k + 1, by go_num, by rw [HTK.out, HS1.out, if_neg (by simpa using ha2), Int.add_zero], HLN.out⟩
        case measure => simp [intOf]; omega
    · obtain rfl : k = c := by omega
      rw [← HU.out]
      clear hbk hlk hk2 HU
      have d1 : decide ((k : Int) < (k : Int)) = false := by simp
      have d3 : decide (((n + m : Nat) : Int) < (k : Int)) = false := by simp; omega
      obtain ⟨p0, p1, p2, p3⟩ := B9.cells4
      obtain ⟨q0, q1, q2, q3⟩ := B12.cells4
      go_wp2_with fail
      refine (H3.out _ _ _ (HT.out.next hB) (HL.out.next hB)).mono ?_
      rintro _ w4 ⟨rfl, hb⟩
      replace B12 := B12.next hb
      replace hB := below_step hB hb
      clear hb p0 p1 p2 p3 q0 q1 q2 q3 B9
      by_cases hkn : k1 < n
      · obtain ⟨rfl, rfl, rfl, hck⟩ := HLT.out hkn
        have hq := eqI_self id a1 a2 a3
        have e1 : ((k : Int) == k1) = true := by simpa using hck
        obtain ⟨q0, q1, q2, q3⟩ := B12.cells4
        have z12 := B12.lt
        go_wp2_with fail
        have b1 := below_box hB (.cells #[.string id, .int .i64 a1, .int .i64 a2, .int .i64 a3] 24)
        refine (awake_any _ (HT.out.next b1)).mono ?_
        rintro _ w5 ⟨rfl, hb⟩
        go_wp2
        go_ret
        exact ⟨rfl, below_step b1 hb⟩
      · obtain ⟨rfl, rfl, rfl, hck⟩ := HGE.out (by omega)
        have hq := eqI_self id a1 a2 a3
        have b1 := below_box hB (.cells #[.string id, .int .i64 s1, .int .i64 s2, .int .i64 s3] 24)
        have z12 := B12.lt
        go_wp2_with fail
        refine (H4.out _ _ _ (HT.out.next b1) (HM.out.next b1)).mono ?_
        rintro _ w5 ⟨rfl, hb⟩
        replace B12 := (B12.alloc _).next hb
        replace hB := below_step b1 hb
        clear hb b1 z12
        have e1 : ((k : Int) == (n : Int) + j1) = true := by simpa using hck
        obtain ⟨q0, q1, q2, q3⟩ := B12.cells4
        have z12 := B12.lt
        go_wp2_with fail
        have b1 := below_box hB (.cells #[.string id, .int .i64 a1, .int .i64 a2, .int .i64 a3] 24)
        refine (awake_any _ (HT.out.next b1)).mono ?_
        rintro _ w6 ⟨rfl, hb⟩
        go_wp2
        go_ret
        exact ⟨rfl, below_step b1 hb⟩

theorem newV_ok (id : ByteArray) (now : Int) (h : (newV id now).e = 0) : newV id now = ⟨id, 1, now, 0, 0⟩ := by
  revert h
  unfold newV
  repeat' split
  all_goals simp
theorem instanceCounts_walk (id : ByteArray) (A : Option Addr) (n cap : Nat) (l : List Int) (B : Option Addr) (m cap' : Nat) (l' : List Int) (now : Int) (w : World) (hT : Tab w) (m1 : id.size ≤ maxLen)
    (hl : l.length = n ∧ Seg w A n (ints l) ∧ (∀ n ∈ l, (Lit.int .i64 n).wf = true) ∧ n ≤ maxLen) (hm : l'.length = m ∧ Seg w B m (ints l') ∧ (∀ n ∈ l', (Lit.int .i64 n).wf = true) ∧ m ≤ maxLen) (_ : (Lit.int .i64 now).wf = true) :
    Calls Tryd.prog 6 #[.string id, .slice A n cap, .slice B m cap', .int .i64 now] w fun e w' => e = .returned (.bool true) ∧ Below w.heap.size w w' := by
  obtain ⟨h1, h2, _, h4⟩ := hl
  obtain ⟨h1', h2', _, h4'⟩ := hm
  by_cases g0 : 300 < n
  · exact counts_e1 id now A B n m cap cap' w hT (by simp; omega)
  by_cases g1 : 300 < m
  · exact counts_e2 id now A B n m cap cap' w hT (by simp; omega) (by simp; omega)
  by_cases g2 : 300 < id.size
  · exact counts_e3 id now A B n m cap cap' w hT (by simp; omega) (by simp; omega) (by simp; omega)
  have H1 : Hid (∀ W, _) := fun W => new_any id now W m1
  have d0 : decide ((300 : Int) < (n : Int)) = false := by simp; omega
  have d1 : decide ((300 : Int) < (m : Int)) = false := by simp; omega
  have d2 : decide ((300 : Int) < (id.size : Int)) = false := by simp; omega
  by_cases he : (newV id now).e = 0
  · rw [newV_ok id now he] at H1
    obtain ⟨c, c1, c2, c3⟩ := playI_law id now (l ++ l') 1 now 0 0
    obtain ⟨k, k1, k2, k3⟩ := playI_law id now l 1 now 0 0
    obtain ⟨j, j1, j2, j3⟩ := playI_law id now l' (playI id now l 1 now 0 0).st (playI id now l 1 now 0 0).si (playI id now l 1 now 0 0).us 0
    have hap := playI_app id now l' l 1 now 0 0
    have hsh := playI_shift id now l' (playI id now l 1 now 0 0).st (playI id now l 1 now 0 0).si (playI id now l 1 now 0 0).us (playI id now l 1 now 0 0).n
    refine counts_main id now A B n m cap cap' l l' c _ _ _ _ _ _ _ _ _ _ _ w hT h1 h1' h2 h2' d0 d1 d2 (by omega) (by omega)
      (fun hA => by
        rcases Nat.eq_zero_or_pos n with h | h
        · exact h
        · obtain ⟨b, o, hh, _⟩ := h2 0 h
          rw [hA] at hh; cases hh)
      (fun hB => by
        rcases Nat.eq_zero_or_pos m with h | h
        · exact h
        · obtain ⟨b, o, hh, _⟩ := h2' 0 h
          rw [hB] at hh; cases hh) H1
      (fun W A cap t1 t2 => by
        have h := play_any id 1 now 0 now A (n + m) cap (l ++ l') W m1 t1 (by rw [List.length_append, h1, h1']) t2 (by omega)
        rw [show (playI id now (l ++ l') 1 now 0 0).n = (c : Int) by rw [c2]; omega] at h
        exact h)
      (fun W A cap t1 t2 => play_any id 1 now 0 now A n cap l W m1 t1 h1 t2 (by omega))
      (fun W A cap t1 t2 => play_any id _ _ _ now A m cap l' W m1 t1 h1' t2 (by omega))
      (by rw [List.length_append, h1, h1'] at c1; exact c1) (by rw [c3]; omega) (by rw [k2]; omega) (by rw [k2]; omega) (by rw [j2]; omega) (by rw [j2]; omega) ?_ ?_
    · intro hlt
      rw [if_neg (by rw [h1]; omega)] at hap
      rw [hap]
      exact ⟨rfl, rfl, rfl, by rw [hap] at c2; rw [c2]; omega⟩
    · intro hge
      have hkn : (playI id now l 1 now 0 0).n = 0 + (l.length : Int) := by rw [h1]; omega
      rw [if_pos hkn, hsh] at hap
      rw [hap]
      exact ⟨rfl, rfl, rfl, by rw [hap] at c2; simp only at c2; rw [hkn, h1] at c2; omega⟩
  · exact counts_new id now A B n m cap cap' _ _ _ _ _ w hT d0 d1 d2 H1 (by simpa using he)
end Go.Proofs.YtfcihloebncmdaaDoor
