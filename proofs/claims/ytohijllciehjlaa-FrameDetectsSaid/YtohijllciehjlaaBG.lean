/- Unpack of the program and of the reference: the walks. -/
import Derived.Test.YtohijllciehjlaaBF
import Derived.ScopeJumps
import Derived.WalkMore
namespace Go.Proofs.Ytohijllciehjlaa
open Go.ChangeShapes Go.WideShapes Go.ChangeAt Go.RowKit
attribute [local go_sem] ownAt ownUpon mixAt mixUpon

theorem i64_or_small (a b : Nat) (ha : a < 4294967296) (hb : b < 4294967296) : bits .or .i64 (a : Int) (b : Int) = ((a ||| b : Nat) : Int) := by
  have hx : a ||| b < 2 ^ 32 := Nat.or_lt_two_pow (by omega) (by omega)
  show IntKind.i64.wrap ((BitVec.ofInt 64 (a : Int) ||| BitVec.ofInt 64 (b : Int)).toNat : Int) = _
  have h1 : (BitVec.ofInt 64 (a : Int)).toNat = a := by rw [BitVec.toNat_ofInt]; omega
  have h2 : (BitVec.ofInt 64 (b : Int)).toNat = b := by rw [BitVec.toNat_ofInt]; omega
  rw [BitVec.toNat_or, h1, h2]
  exact IntWalk.i64_in _ (by omega)
theorem i64_two (a b : Nat) (ha : a < 256) (hb : b < 256) : bits .or .i64 ((a : Int) * 256) (b : Int) = ((a * 256 + b : Nat) : Int) := by
  have := i64_or_small (a * 256) b (by omega) (by omega)
  rw [nat_join 8 _ _ (by omega) (by omega)] at this
  exact this
def sz2 (r : List UInt8) : Nat := (r.getD 0 0).toNat * 256 + (r.getD 1 0).toNat
def rest2 (m : Nat) (l : List (List UInt8)) (r : List UInt8) : List (List UInt8) × Int := if (unpF m r).2 = 0 then (l ++ (unpF m r).1, 0) else ([], (unpF m r).2)
theorem rest2_short {m : Nat} {l : List (List UInt8)} {r : List UInt8} (h : r.length < 2) : rest2 (m + 1) l r = ([], 14) := by
  unfold rest2
  rw [unpF, if_pos h]
  rfl
theorem rest2_big {m : Nat} {l : List (List UInt8)} {r : List UInt8} (h : ¬ r.length < 2) (h2 : 4000 < sz2 r) : rest2 (m + 1) l r = ([], 13) := by
  unfold rest2
  unfold sz2 at h2
  rw [unpF, if_neg h, if_pos h2]
  rfl
theorem rest2_cut {m : Nat} {l : List (List UInt8)} {r : List UInt8} (h : ¬ r.length < 2) (h2 : ¬ 4000 < sz2 r) (h3 : r.length < sz2 r + 2) : rest2 (m + 1) l r = ([], 14) := by
  unfold rest2
  unfold sz2 at h2 h3
  rw [unpF, if_neg h, if_neg h2, if_pos h3]
  rfl
theorem rest2_next {m : Nat} {l : List (List UInt8)} {r : List UInt8} (h : ¬ r.length < 2) (h2 : ¬ 4000 < sz2 r) (h3 : ¬ r.length < sz2 r + 2) : rest2 (m + 1) l r = rest2 m (l ++ [(r.drop 2).take (sz2 r)]) (r.drop (sz2 r + 2)) := by
  unfold rest2
  unfold sz2 at *
  rw [unpF, if_neg h, if_neg h2, if_neg h3]
  generalize unpF m (r.drop ((r.getD 0 0).toNat * 256 + (r.getD 1 0).toNat + 2)) = z
  by_cases hz : z.2 = 0
  · rw [if_pos hz, if_pos rfl, if_pos hz]
    simp
  · rw [if_neg hz, if_neg hz, if_neg hz]
theorem rest2_zero {l : List (List UInt8)} {r : List UInt8} (h : r.length = 0) : rest2 0 l r = (l, 0) := by
  unfold rest2
  rw [unpF, if_pos h]
  simp
theorem rest2_more {l : List (List UInt8)} {r : List UInt8} (h : r.length ≠ 0) : rest2 0 l r = ([], 13) := by
  unfold rest2
  rw [unpF, if_neg h]
  rfl
theorem unpF_bad (m : Nat) (r : List UInt8) (h : (unpF m r).2 ≠ 0) : (unpF m r).1 = [] := by
  cases m with
  | zero =>
    rw [unpF]
    split <;> rfl
  | succ m =>
    rw [unpF] at h ⊢
    split
    · rfl
    · next h1 =>
      rw [if_neg h1] at h
      split
      · rfl
      · next h2 =>
        rw [if_neg h2] at h
        split
        · rfl
        · next h3 =>
          rw [if_neg h3] at h
          split
          · next h4 => rw [if_pos h4] at h; exact absurd rfl h
          · rfl
theorem unp_start {s : List UInt8} (h : 1 ≤ s.length) (h2 : (s.getD 0 0).toNat ≤ 64) : unpackV s = rest2 (s.getD 0 0).toNat [] (s.drop 1) := by
  unfold unpackV rest2
  rw [if_neg (by omega), if_neg (by omega)]
  by_cases hz : (unpF (s.getD 0 0).toNat (s.drop 1)).2 = 0
  · rw [if_pos hz, List.nil_append, ← hz]
  · rw [if_neg hz, ← unpF_bad _ _ hz]
def Unpacked (s : List UInt8) (w : World) (e : Ending) (w' : World) : Prop := ∃ v, e = .returned (.tuple #[v, .int .i64 (unpackV s).2]) ∧ Strs w' v (unpackV s).1 ∧ Below w.heap.size w w'
theorem unpacked_of {s : List UInt8} {l : List (List UInt8)} {k : Int} {w w' : World} {e : Ending} (h : unpackV s = (l, k)) (H : ∃ v, e = .returned (.tuple #[v, .int .i64 k]) ∧ Strs w' v l ∧ Below w.heap.size w w') : Unpacked s w e w' := by
  unfold Unpacked
  rw [h]
  exact H
theorem unpacked_no {s : List UInt8} {k : Int} {w w' : World} {e : Ending} (h : unpackV s = ([], k)) (he : e = .returned (.tuple #[.slice none 0 0, .int .i64 k])) (hb : Below w.heap.size w w') : Unpacked s w e w' := unpacked_of h ⟨_, he, Strs.nil _, hb⟩
def UnpRel (s : List UInt8) (n : Nat) (w : World) (u0 u1 u7 u2 : Value) (wr : World) : Prop := ∃ (k : Nat) (r : List UInt8) (l : List (List UInt8)) (v : Value), .string (bs r) = u0 ∧ v = u1 ∧ .int .i64 14 = u7 ∧ .int .i64 k = u2 ∧ k ≤ n ∧ r.length ≤ 1000000 ∧ l.length = k ∧ OwnS wr w.heap.size v l ∧ Below w.heap.size w wr ∧ unpackV s = rest2 (n - k) l r
def Jmp (s : List UInt8) (w0 : World) (a : Act) (w : World) : Prop := ∃ (k : Int) (u0 u1 u2 u3 u4 u5 u6 u8 u9 u10 u11 u12 u13 u14 u15 u16 u17 u18 u19 u20 u21 u22 u23 u24 u25 u26 u27 u28 u29 u30 u31 u32 u33 u34 u35 u36 u37 u38 u39 u40 u41 u42 u43 u44 u45 u46 u47 u48 u49 u50 u51 u52 u53 u54 u55 u56 u57 : Value), a = { tmps := #[u0, u1, u2, u3, u4, u5, u6, .int .i64 k, u8, u9, u10, u11, u12, u13, u14, u15, u16, u17, u18, u19, u20, u21, u22, u23, u24, u25, u26, u27, u28, u29, u30, u31, u32, u33, u34, u35, u36, u37, u38, u39, u40, u41, u42, u43, u44, u45, u46, u47, u48, u49, u50, u51, u52, u53, u54, u55, u56, u57], defers := [] } ∧ unpackV s = ([], k) ∧ Below w0.heap.size w0 w
theorem Jmp.mk {s : List UInt8} {w0 w : World} {k : Int} {u0 u1 u2 u3 u4 u5 u6 u8 u9 u10 u11 u12 u13 u14 u15 u16 u17 u18 u19 u20 u21 u22 u23 u24 u25 u26 u27 u28 u29 u30 u31 u32 u33 u34 u35 u36 u37 u38 u39 u40 u41 u42 u43 u44 u45 u46 u47 u48 u49 u50 u51 u52 u53 u54 u55 u56 u57 : Value} (h : unpackV s = ([], k)) (hb : Below w0.heap.size w0 w)  : (0 : Nat) = 0 ∧ Jmp s w0 { tmps := #[u0, u1, u2, u3, u4, u5, u6, .int .i64 k, u8, u9, u10, u11, u12, u13, u14, u15, u16, u17, u18, u19, u20, u21, u22, u23, u24, u25, u26, u27, u28, u29, u30, u31, u32, u33, u34, u35, u36, u37, u38, u39, u40, u41, u42, u43, u44, u45, u46, u47, u48, u49, u50, u51, u52, u53, u54, u55, u56, u57], defers := [] } w := ⟨rfl, k, _, _, _, _, _, _, _, _, _, _, _, _, _, _, _, _, _, _, _, _, _, _, _, _, _, _, _, _, _, _, _, _, _, _, _, _, _, _, _, _, _, _, _, _, _, _, _, _, _, _, _, _, _, _, _, _, _, rfl, h, hb⟩
set_option maxRecDepth 100000 in
set_option maxHeartbeats 1000000 in
theorem unpack_any (t : ByteArray) (w : World) (ht : t.size ≤ 1000000) : Calls Try.prog 13 #[.string t] w (Unpacked t.data.toList w) := by
  have hl : t.data.toList.length = t.size := Array.length_toList
  generalize hs' : t.data.toList = s at *
  have HS := Lib.hid hs'
  clear hs'
  go_enter Try.func13, Try.ntmps13
  go_wp2
  refine wp_scope_jumps 0 (Jmp s w) (fun _ _ => 0) (by rfl) ?_ ?_
  · by_cases h0 : t.size = 0
    · have hz : t.toList = [] := by rw [ByteArray.toList_eq, HS.out]; exact List.eq_nil_of_length_eq_zero (by omega)
      have HH := Lib.hid (show unpackV s = ([], 14) by rw [List.eq_nil_of_length_eq_zero (show s.length = 0 by omega)]; rfl)
      clear h0 hl ht
      go_wp2
      go_step3
      exact Jmp.mk HH.out (Below.refl _ _)
    · have h0' : 0 < t.size := by omega
      have hz : (t.toList == []) = false := by
        rw [ByteArray.toList_eq, HS.out]
        cases s
        · simp at hl; omega
        · rfl
      have hz2 : t.toList ≠ [] := fun h => by rw [h] at hz; cases hz
      have h1i : (1 : Int) ≤ t.size := by omega
      have hb0 := at_getD t 0 h0'
      rw [HS.out] at hb0
      have HB0 := Lib.hid hb0
      clear hb0
      have a0 := UInt8.toNat_lt (t[0]'h0')
      go_upto_region 5 with fail
      go_quiet (fail)
      rw [HB0.out] at a0 ⊢
      have he1 : t.extract 1 t.size = bs (s.drop 1) := by
        rw [bs_list (t.extract 1 t.size), ext_list, HS.out, List.take_of_length_le (by rw [List.length_drop]; omega)]
      rw [he1]
      clear he1 HB0 hz hz2 h1i h0
      have hb : Below w.heap.size w (w.drewN nq) := drewN_below _ _
      generalize w.drewN nq = w1 at *
      by_cases h64 : 64 < (s.getD 0 0).toNat
      · have HH := Lib.hid (show unpackV s = ([], 13) by unfold unpackV; rw [if_neg (by omega), if_pos h64])
        generalize (s.getD 0 0).toNat = n at *
        have h64' : (64 : Int) < n := by omega
        go_wp2
        go_step3
        exact Jmp.mk HH.out hb
      · have hst := unp_start (s := s) (by omega) (by omega)
        have hrl : (s.drop 1).length ≤ 1000000 := by rw [List.length_drop]; omega
        generalize s.drop 1 = r0 at *
        generalize (s.getD 0 0).toNat = n at *
        have hn64 : (n : Int) ≤ 64 := by omega
        have HST := Lib.hid hst
        have HRL := Lib.hid hrl
        clear hst hrl h64 a0
        go_wp2
        go_loopw [0, 4, 7, 18] (UnpRel s n w) (fun _ _ _ i _ => n - (intOf i).toNat)
        case atStart => exact ⟨0, r0, [], _, rfl, rfl, rfl, rfl, Nat.zero_le _, HRL.out, rfl, OwnS.nil _ _, hb, HST.out⟩
        case round =>
          clear HST HRL hb
          obtain ⟨k, r, l, v, rfl, rfl, rfl, rfl, hk, hr, hlk, ho, hB, hu⟩ := hrel
          by_cases hlt : k < n
          · have hki : (k : Int) < n := by omega
            obtain ⟨m, hm⟩ : ∃ m, n - k = m + 1 := ⟨n - (k + 1), by omega⟩
            have hm2 : n - (k + 1) = m := by omega
            have hz := hB.size
            rw [hm] at hu
            have hbz := bs_size r
            by_cases h2 : r.length < 2
            · have HH := Lib.hid (hu.trans (rest2_short h2))
              have h2i : ((bs r).size : Int) < 2 := by omega
              clear hbz
              clear hu hm hm2
              go_wp2
              go_step3
              exact Jmp.mk HH.out hB
            have h2i : (2 : Int) ≤ (bs r).size := by omega
            have z0 : 0 < (bs r).size := by omega
            have z1 : 1 < (bs r).size := by omega
            have z1i : (1 : Int) < (bs r).size := by omega
            have g0 := at_getD (bs r) 0 z0
            have g1 := at_getD (bs r) 1 z1
            have l0 := UInt8.toNat_lt ((bs r)[0]'z0)
            have l1 := UInt8.toNat_lt ((bs r)[1]'z1)
            have hor : bits BinOp.or IntKind.i64 ((((bs r)[0]'z0).toNat : Int) * 256) (((bs r)[1]'z1).toNat : Int) = ((sz2 r : Nat) : Int) := by
              rw [i64_two _ _ l0 l1, g0, g1]
              rfl
            have hsl : sz2 r < 65536 := by
              rw [g0] at l0
              rw [g1] at l1
              unfold sz2
              have e : (bs r).data.toList = r := by simp [bs]
              rw [e] at l0 l1
              omega
            have HOR := Lib.hid hor
            have HX := Lib.hid hbz
            clear hor g0 g1 hbz
            go_upto_region 11 with fail
            go_quiet (fail)
            rw [HOR.out]
            have he2 : (bs r).extract 2 (bs r).size = bs (r.drop 2) := by
              rw [bs_list ((bs r).extract 2 (bs r).size), ext_list, HX.out]
              have e : (bs r).data.toList = r := by simp [bs]
              rw [e, List.take_of_length_le (by rw [List.length_drop]; omega)]
            rw [he2]
            replace hB : Below w.heap.size w (wr.drewN nq) := below_step hB (drewN_below _ _)
            replace ho : OwnS (wr.drewN nq) w.heap.size v l := ho.up (drewN_below _ _)
            replace hz : w.heap.size ≤ (wr.drewN nq).heap.size := hB.size
            generalize wr.drewN nq = w2 at *
            clear he2 HOR l0 l1 h2i
            have hr2 : (r.drop 2).length + 2 = r.length := by rw [List.length_drop]; omega
            have hbz := bs_size (r.drop 2)
            by_cases h4 : 4000 < sz2 r
            · have HH := Lib.hid (hu.trans (rest2_big h2 h4))
              clear hu hm hm2 hbz hr2
              generalize sz2 r = z at *
              have h4i : (4000 : Int) < z := by omega
              go_wp2
              go_step3
              exact Jmp.mk HH.out hB
            by_cases h5 : r.length < sz2 r + 2
            · have HH := Lib.hid (hu.trans (rest2_cut h2 h4 h5))
              clear hu hm hm2
              generalize sz2 r = z at *
              generalize r.drop 2 = r2 at *
              have h4i : (z : Int) ≤ 4000 := by omega
              have h5i : ((bs r2).size : Int) < z := by omega
              clear hbz hr2
              go_wp2
              go_step3
              exact Jmp.mk HH.out hB
            rw [rest2_next h2 h4 h5, show r.drop (sz2 r + 2) = (r.drop 2).drop (sz2 r) by rw [List.drop_drop, Nat.add_comm]] at hu
            generalize sz2 r = z at *
            generalize r.drop 2 = r2 at *
            have h4i : (z : Int) ≤ 4000 := by omega
            have h5i : (z : Int) ≤ (bs r2).size := by omega
            have h50 : (0 : Int) ≤ z := by omega
            have e : (bs r2).data.toList = r2 := by simp [bs]
            have hx0 : (bs r2).extract 0 z = bs (r2.take z) := by
              rw [bs_list ((bs r2).extract 0 z), ext_list, e, List.drop_zero, Nat.sub_zero]
            have hx1 : (bs r2).extract z (bs r2).size = bs (r2.drop z) := by
              rw [bs_list ((bs r2).extract z (bs r2).size), ext_list, e, List.take_of_length_le (by rw [List.length_drop]; omega)]
            have HU := Lib.hid hu
            have HL := Lib.hid hlk
            have HR := Lib.hid (show (r2.drop z).length ≤ 1000000 by rw [List.length_drop]; omega)
            clear hu hlk hbz e
            go_upto_region 15 with fail
            refine wp_region_mixoT [1, 1, 1, 1, 3, 2, 1, 1, 1, 1, 1] [0, 1, 2, 3, 6, 7, 8, 4, 5, 9, 10] (by kernel_rfl) (by kernel_rfl) rfl ?_
            iterate 7 (refine wpMix_pure (fun K hK => ?_); go_simp; refine hK _ ?_; clear hK K)
            clear hx0 hx1
            refine wpMix_grow (fun w3 hb3 K hK => ?_)
            go_simp
            refine ⟨below_box hb3 _, hK _ _ ?_⟩
            clear hK K
            have O := (Box.new w3 9 #[.string (bs (r2.take z))]).cell 0 _ rfl
            have ho3 : OwnS (w3.alloc (.cells #[.string (bs (r2.take z))] 9)) w.heap.size v l := (ho.up hb3).up (below_box (Below.refl _ _) _)
            have hB3 : Below w.heap.size w (w3.alloc (.cells #[.string (bs (r2.take z))] 9)) := below_box (below_step hB hb3) _
            refine wpMix_append rfl (.tmp 39) (.tmp 43) 22 22 rfl v (.slice (some ⟨w3.heap.size, 0, none⟩) 1 1) rfl rfl (fun w4 hb4 => ?_)
            obtain ⟨v', w5, hrun, ho5, hB5⟩ := run_push (x := r2.take z) (h := w3.heap.size) (c := 1) 22 (ho3.up hb4) ((hb4.cell (p := ⟨w3.heap.size, 0, none⟩) (by simp)).trans O) (below_step hB3 hb4) (by have := hb4.size; simp at this; have := hb3.size; omega) (by rw [HL.out]; omega)
            refine ⟨v', w5, hrun, ?_⟩
            clear hrun O ho3 hB3 hb3 hb4 ho
            iterate 2 (refine wpMix_pure (fun K hK => ?_); go_simp; refine hK _ ?_; clear hK K)
            refine wpMix_nil (fun w6 hb6 => ?_)
            replace ho5 := ho5.up hb6
            replace hB5 := hB5.trans (hb6.mono hB5.size)
            clear hb6
            go_wp2
            go_roundw
            case rel => exact ⟨k + 1, _, _, _, rfl, rfl, rfl, by go_num, by omega, HR.out, by rw [List.length_append, HL.out]; rfl, ho5, hB5, by rw [hm2]; exact HU.out⟩
            case measure => simp [intOf]; omega
          · obtain rfl : k = n := by omega
            rw [Nat.sub_self] at hu
            by_cases hr0 : r.length = 0
            · have HH := Lib.hid (hu.trans (rest2_zero hr0))
              have hz : (bs r).toList = [] := by rw [bs_tl]; exact List.eq_nil_of_length_eq_zero hr0
              obtain ⟨A, cap, rfl, hsg, hA, hc⟩ := ho.strs
              have hst : Strs wr (.slice A l.length l.length) l := ⟨A, _, rfl, hsg, hA, Nat.le_refl _⟩
              have HS2 := Lib.hid hst
              have hci : (l.length : Int) ≤ cap := by omega
              clear ho hsg hA hst hu hr0 hlk
              go_wp2
              simp only [Exit.jump]
              go_ret2
              exact unpacked_of HH.out ⟨_, rfl, HS2.out, hB⟩
            · have HH := Lib.hid (hu.trans (rest2_more hr0))
              have hz : ((bs r).toList == []) = false := by
                rw [bs_tl]
                cases r
                · simp at hr0
                · rfl
              have hz2 : (!((bs r).toList == [])) = true := by rw [hz]; rfl
              have hz3 : (bs r).toList ≠ [] := fun h => by rw [h] at hz; cases hz
              clear ho hu hr0 hlk
              go_wp2
              go_step3
              exact Jmp.mk HH.out hB
  · rintro a' w' ⟨k, u0, u1, u2, u3, u4, u5, u6, u8, u9, u10, u11, u12, u13, u14, u15, u16, u17, u18, u19, u20, u21, u22, u23, u24, u25, u26, u27, u28, u29, u30, u31, u32, u33, u34, u35, u36, u37, u38, u39, u40, u41, u42, u43, u44, u45, u46, u47, u48, u49, u50, u51, u52, u53, u54, u55, u56, u57, rfl, hu, hb⟩
    have HU := Lib.hid hu
    clear hu
    go_wp2
    simp only [Exit.jump]
    go_ret2
    exact unpacked_no HU.out rfl hb
end Go.Proofs.Ytohijllciehjlaa
