/- Open of the reference: the walk. -/
import Derived.Test.YtjcojgblnbhejaaBA
namespace Go.Proofs.Ytjcojgblnbhejaa
open Go.ChangeShapes Go.WideShapes Go.ChangeAt Go.RowKit
attribute [local go_sem] ownAt ownUpon mixAt mixUpon

set_option maxRecDepth 100000 in
set_option maxHeartbeats 400000 in
theorem ropen_short (t : ByteArray) (w : World) (h : (t.size : Int) < 8) : Calls Try.prog 58 #[.string t] w fun e w' => e = .returned (.tuple #[.string ByteArray.empty, .int .i64 0, .int .i64 14]) ∧ Below w.heap.size w w' := by
  go_enter Try.func58, Try.ntmps58
  go_wp2
  go_ret3
  exact ⟨rfl, Below.refl _ _⟩
theorem mul4 (a b c d : Nat) : (((a : Int) * 256 + b) * 256 + c) * 256 + d = (((((a * 256 + b) * 256 + c) * 256 + d : Nat)) : Int) := by omega
theorem num4_val4 (l : List UInt8) (h : 4 ≤ l.length) : num4 (val4 l) = l.take 4 := by
  match l, h with
  | a :: b :: c :: d :: l, _ =>
    have ha := UInt8.toNat_lt a
    have hb := UInt8.toNat_lt b
    have hc := UInt8.toNat_lt c
    have hd := UInt8.toNat_lt d
    unfold num4 val4
    simp only [List.getD_cons_zero, List.getD_cons_succ, List.take_succ_cons, List.take_zero]
    refine congr (congrArg _ ?_) (congr (congrArg _ ?_) (congr (congrArg _ ?_) (congr (congrArg _ ?_) rfl)))
    all_goals
      apply UInt8.toNat_inj.1
      rw [ofNat_toNat]
      omega
theorem bs_inj {a b : List UInt8} (h : bs a = bs b) : a = b := by
  have := congrArg (fun t : ByteArray => t.data.toList) h
  simpa [bs] using this
theorem bs_tl (a : List UInt8) : (bs a).toList = a := by
  rw [ByteArray.toList_eq]
  simp [bs]
/-- A comparison of strings, as the walk writes it. -/
theorem bs_same (a b : List UInt8) : ((bs a).toList == (bs b).toList) = decide (a = b) := by
  rw [bs_tl, bs_tl, Bool.eq_iff_iff]
  simp
theorem drewN_below (w : World) (n : Nat) : Below w.heap.size w (w.drewN n) := ⟨rfl, rfl, rfl, Nat.le_refl _, fun _ _ => rfl⟩
set_option maxRecDepth 100000 in
set_option maxHeartbeats 400000 in
theorem ropen_big (t : ByteArray) (n : Nat) (w : World) (h : (8 : Int) ≤ t.size) (hs : (t.size : Int) ≤ 1000000) (hv : val4 t.data.toList = n) (h2 : (262136 : Int) < n) : Calls Try.prog 58 #[.string t] w fun e w' => e = .returned (.tuple #[.string ByteArray.empty, .int .i64 0, .int .i64 13]) ∧ Below w.heap.size w w' := by
  have h0 : 0 < t.size := by omega
  have h1 : 1 < t.size := by omega
  have h2' : 2 < t.size := by omega
  have h3' : 3 < t.size := by omega
  have g1 : (1 : Int) < t.size := by omega
  have g2 : (2 : Int) < t.size := by omega
  have g3 : (3 : Int) < t.size := by omega
  have a0 := UInt8.toNat_lt (t[0]'h0)
  have a1 := UInt8.toNat_lt (t[1]'h1)
  have a2 := UInt8.toNat_lt (t[2]'h2')
  have a3 := UInt8.toNat_lt (t[3]'h3')
  have hm := mul4 (t[0]'h0).toNat (t[1]'h1).toNat (t[2]'h2').toNat (t[3]'h3').toNat
  have e : (((t[0]'h0).toNat * 256 + (t[1]'h1).toNat) * 256 + (t[2]'h2').toNat) * 256 + (t[3]'h3').toNat = n := by
    rw [← hv]
    unfold val4
    rw [← at_getD t 0 h0, ← at_getD t 1 h1, ← at_getD t 2 h2', ← at_getD t 3 h3']
  rw [e] at hm
  have HM := Lib.hid hm
  clear hm e hv
  go_enter Try.func58, Try.ntmps58
  go_upto_region 3 with fail
  go_quiet (fail)
  rw [HM.out]
  clear HM a0 a1 a2 a3
  have hb : Below w.heap.size w (w.drewN nq) := drewN_below _ _
  generalize w.drewN nq = w1 at *
  go_wp2
  go_ret3
  exact ⟨rfl, hb⟩
set_option maxRecDepth 100000 in
set_option maxHeartbeats 400000 in
theorem ropen_cut (t : ByteArray) (n : Nat) (w : World) (h : (8 : Int) ≤ t.size) (hs : (t.size : Int) ≤ 1000000) (hv : val4 t.data.toList = n) (h2 : (n : Int) ≤ 262136) (h3 : (t.size : Int) - 8 < n) : Calls Try.prog 58 #[.string t] w fun e w' => e = .returned (.tuple #[.string ByteArray.empty, .int .i64 0, .int .i64 14]) ∧ Below w.heap.size w w' := by
  have h0 : 0 < t.size := by omega
  have h1 : 1 < t.size := by omega
  have h2' : 2 < t.size := by omega
  have h3' : 3 < t.size := by omega
  have g1 : (1 : Int) < t.size := by omega
  have g2 : (2 : Int) < t.size := by omega
  have g3 : (3 : Int) < t.size := by omega
  have a0 := UInt8.toNat_lt (t[0]'h0)
  have a1 := UInt8.toNat_lt (t[1]'h1)
  have a2 := UInt8.toNat_lt (t[2]'h2')
  have a3 := UInt8.toNat_lt (t[3]'h3')
  have hm := mul4 (t[0]'h0).toNat (t[1]'h1).toNat (t[2]'h2').toNat (t[3]'h3').toNat
  have e : (((t[0]'h0).toNat * 256 + (t[1]'h1).toNat) * 256 + (t[2]'h2').toNat) * 256 + (t[3]'h3').toNat = n := by
    rw [← hv]
    unfold val4
    rw [← at_getD t 0 h0, ← at_getD t 1 h1, ← at_getD t 2 h2', ← at_getD t 3 h3']
  rw [e] at hm
  have HM := Lib.hid hm
  clear hm e hv
  go_enter Try.func58, Try.ntmps58
  go_upto_region 3 with fail
  go_quiet (fail)
  rw [HM.out]
  clear HM a0 a1 a2 a3
  have hb : Below w.heap.size w (w.drewN nq) := drewN_below _ _
  generalize w.drewN nq = w1 at *
  go_wp2
  go_ret3
  exact ⟨rfl, hb⟩
set_option maxRecDepth 100000 in
set_option maxHeartbeats 400000 in
theorem ropen_full (x : ByteArray) (c : Nat) (t : ByteArray) (n : Nat) (w : World) (h : (8 : Int) ≤ t.size) (hs : (t.size : Int) ≤ 1000000) (hv : val4 t.data.toList = n) (h2 : (n : Int) ≤ 262136) (h3 : (n : Int) ≤ (t.size : Int) - 8)
    (hC : Hid (∀ W, Calls Try.prog 60 #[.string (t.extract 8 (8 + n))] W fun e w' => e = .returned (.int .u32 c) ∧ W = w'))
    (hA : Hid (∀ W, Calls Try.prog 59 #[.int .u32 c] W fun e w' => ∃ g, e = .returned (.slice (some ⟨g, 0, none⟩) 4 4) ∧ Reads w' g x ∧ Below W.heap.size W w')) (b : Bool) (hcm : Hid ((!(x.toList == (t.extract 4 8).toList)) = b)) : Calls Try.prog 58 #[.string t] w fun e w' => e = .returned (if b then .tuple #[.string ByteArray.empty, .int .i64 0, .int .i64 13] else .tuple #[.string (t.extract 8 (8 + n)), .int .i64 (8 + n), .int .i64 0]) ∧ Below w.heap.size w w' := by
  have h0 : 0 < t.size := by omega
  have h1 : 1 < t.size := by omega
  have h2' : 2 < t.size := by omega
  have h3' : 3 < t.size := by omega
  have g1 : (1 : Int) < t.size := by omega
  have g2 : (2 : Int) < t.size := by omega
  have g3 : (3 : Int) < t.size := by omega
  have a0 := UInt8.toNat_lt (t[0]'h0)
  have a1 := UInt8.toNat_lt (t[1]'h1)
  have a2 := UInt8.toNat_lt (t[2]'h2')
  have a3 := UInt8.toNat_lt (t[3]'h3')
  have hm := mul4 (t[0]'h0).toNat (t[1]'h1).toNat (t[2]'h2').toNat (t[3]'h3').toNat
  have e : (((t[0]'h0).toNat * 256 + (t[1]'h1).toNat) * 256 + (t[2]'h2').toNat) * 256 + (t[3]'h3').toNat = n := by
    rw [← hv]
    unfold val4
    rw [← at_getD t 0 h0, ← at_getD t 1 h1, ← at_getD t 2 h2', ← at_getD t 3 h3']
  rw [e] at hm
  have HM := Lib.hid hm
  clear hm e hv
  go_enter Try.func58, Try.ntmps58
  go_upto_region 3 with fail
  go_quiet (fail)
  rw [HM.out]
  clear HM a0 a1 a2 a3
  have hb : Below w.heap.size w (w.drewN nq) := drewN_below _ _
  generalize w.drewN nq = w1 at *
  go_upto_region 8 with fail
  have h8 : (8 : Int) + n ≤ t.size := by omega
  have h80 : (0 : Int) ≤ 8 + (n : Int) := by omega
  have h81 : (8 : Int) ≤ 8 + (n : Int) := by omega
  have hw8 : IntKind.i64.wrap (8 + (n : Int)) = 8 + n := IntWalk.i64_in _ (by omega)
  have hn8 : (8 + (n : Int)).toNat = 8 + n := by omega
  refine wp_region_mixoT [1, 1, 1, 1, 0, 3, 0, 1, 1, 1] [0, 1, 2, 3, 7, 8, 4, 5, 6, 9] (by kernel_rfl) (by kernel_rfl) rfl ?_
  iterate 6 (refine wpMix_pure (fun K hK => ?_); go_simp; refine hK _ ?_; clear hK K)
  refine wpMix_calm (fun K hK => ?_)
  go_simp
  apply Exists.intro
  refine ⟨fun _ => ?_, hK _ ?_⟩
  go_at_call 60
  exact (hC.out _).mono fun _ _ ⟨he, h⟩ => ⟨he, h ▸ Below.refl _ _⟩
  clear hK K
  refine wpMix_grow (fun w2 hb2 K hK => ?_)
  go_simp
  go_at_call 59
  refine (hA.out _).mono ?_
  rintro _ w3 ⟨g1, rfl, B1, hb3⟩
  refine ⟨_, rfl, below_step hb2 hb3, hK _ _ ?_⟩
  clear hK K
  replace hb := below_step hb (below_step hb2 hb3)
  clear hb2 hb3
  have i1 : ∀ i : Idx w3, (convert 59 9 (.slice (some ⟨g1, 0, none⟩) 4 4)).run Try.prog i.at = .ok (.string x) i.at := fun i => B1 _ i.below
  refine wpMix_calm (fun K hK => ?_); go_simp; refine hK _ ?_; clear hK K
  clear i1 B1
  have hcb := hcm.out
  refine wpMix_pure (fun K hK => ?_); go_simp; refine hK _ ?_; clear hK K
  refine wpMix_nil (fun w6 hb6 => ?_)
  replace hb := below_step hb hb6
  clear hb6
  cases b
  all_goals
    go_wp2
    go_ret3
    exact ⟨rfl, hb⟩
/-- Open of the reference. -/
theorem ropen_any (t : ByteArray) (w : World) (hs : t.size ≤ 1000000) : Calls Try.prog 58 #[.string t] w fun e w' => e = .returned (.tuple #[.string (bs (openV t.data.toList).body), .int .i64 (openV t.data.toList).n, .int .i64 (openV t.data.toList).e]) ∧ Below w.heap.size w w' := by
  have hl : t.data.toList.length = t.size := Array.length_toList
  have hlt := val4_lt t.data.toList
  unfold openV
  by_cases h8 : t.data.toList.length < 8
  · rw [if_pos h8]; exact ropen_short t w (by omega)
  rw [if_neg h8]
  by_cases h1 : 262136 < val4 t.data.toList
  · rw [if_pos h1]; exact ropen_big t _ w (by omega) (by omega) rfl (by omega)
  rw [if_neg h1]
  by_cases h2 : t.data.toList.length < val4 t.data.toList + 8
  · rw [if_pos h2]; exact ropen_cut t _ w (by omega) (by omega) rfl (by omega) (by omega)
  rw [if_neg h2]
  have e1 : (t.data.toList.drop 8).take (val4 t.data.toList) = (t.extract 8 (8 + val4 t.data.toList)).data.toList := by rw [ext_list, show 8 + val4 t.data.toList - 8 = val4 t.data.toList by omega]
  have z1 := ext_size t 8 (8 + val4 t.data.toList) (by omega)
  have hcl := crcV_lt (t.extract 8 (8 + val4 t.data.toList)).data.toList
  have hvl := val4_lt (t.data.toList.drop 4)
  have e3 : t.extract 4 8 = bs (num4 (val4 (t.data.toList.drop 4))) := by
    rw [num4_val4 _ (by rw [List.length_drop]; omega)]
    conv => lhs; rw [bs_list (t.extract 4 8), ext_list]
  refine (ropen_full (bs (num4 (crcV (t.extract 8 (8 + val4 t.data.toList)).data.toList))) (crcV (t.extract 8 (8 + val4 t.data.toList)).data.toList) t _ w (by omega) (by omega) rfl (by omega) (by omega) (Lib.hid fun W => rcrc_any _ W (by omega)) (Lib.hid fun W => four_reads _ W (by omega)) _ (Lib.hid rfl)).mono fun e w' ⟨he, hb⟩ => ⟨?_, hb⟩
  rw [he, e1, e3]
  generalize crcV (t.extract 8 (8 + val4 t.data.toList)).data.toList = c at *
  generalize val4 (t.data.toList.drop 4) = m at *
  by_cases h3 : c = m
  · subst h3
    rw [bs_same, if_neg (by simp), if_pos rfl]
    dsimp only
    rw [← bs_list]
    rfl
  · have h5 : ¬ num4 c = num4 m := fun h => h3 (by
      have h4 : val4 (num4 c ++ []) = val4 (num4 m ++ []) := by rw [h]
      rwa [val4_num4 c hcl, val4_num4 m hvl] at h4)
    rw [bs_same, if_pos (by simp [h5]), if_neg h3]
    rfl
end Go.Proofs.Ytjcojgblnbhejaa
