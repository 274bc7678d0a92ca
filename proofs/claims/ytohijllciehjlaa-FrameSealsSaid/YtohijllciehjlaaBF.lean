/- Pack of the program and of the reference: the walks. -/
import Derived.Test.YtohijllciehjlaaBE
import Derived.Test.YtohijllciehjlaaS
namespace Go.Proofs.Ytohijllciehjlaa
open Go.ChangeShapes Go.WideShapes Go.ChangeAt Go.RowKit
attribute [local go_sem] ownAt ownUpon mixAt mixUpon

instance (fs : List (List UInt8)) : Decidable (Packs fs) := by unfold Packs; infer_instance
def packV (fs : List (List UInt8)) : List UInt8 × Int := if Packs fs then (packL fs, 0) else ([], 3)
def PackRel (l : List (List UInt8)) (w : World) (u i : Value) (wr : World) : Prop := ∃ (k : Nat) (v : Value), v = u ∧ i = .int .i64 k ∧ k ≤ l.length ∧ OwnB wr w.heap.size v (UInt8.ofNat l.length :: encs (l.take k)) ∧ (∀ x ∈ l.take k, x.length ≤ 4000) ∧ (encs (l.take k)).length ≤ k * 4002 ∧ Below w.heap.size w wr
theorem own_of_new {W w : World} {n : Nat} {x : UInt8} (hx : (n : Int) = (x.toNat : Int)) (hb : Below W.heap.size W w) : OwnB (w.alloc (.cells #[.int .u8 (n : Int)] 5)) W.heap.size (.slice (some ⟨w.heap.size, 0, none⟩) 1 1) [x] := by
  refine ⟨rfl, .inr ⟨w.heap.size, 1, #[.int .u8 (n : Int)], rfl, hb.size, heap_alloc_new w _, Nat.le_refl _, by decide, rfl, ?_⟩⟩
  rw [hx]
  rfl
theorem encs_snoc (l : List (List UInt8)) (x : List UInt8) : encs (l ++ [x]) = encs l ++ enc x := by simp [encs]
theorem enc_two (h : List UInt8) (x : List UInt8) : h ++ enc x = (h ++ [UInt8.ofNat (x.length / 256), UInt8.ofNat x.length]) ++ x := by simp [enc]
theorem not_packs {l : List (List UInt8)} {k : Nat} (hk : k < l.length) (h : 4000 < (l.getD k []).length) : packV l = ([], 3) := by
  refine if_neg (fun hp => ?_)
  have := hp.2 (l.getD k []) (by
    rw [List.getD_eq_getElem?_getD, List.getElem?_eq_getElem hk]
    exact List.getElem_mem _)
  omega
/-- An append in a drawn region. -/
theorem wpMix_append {P : Program} {ops : Array Oper} {Q : Exit → Act → World → Prop} {ks : List Nat} {a : Act} {W : World} {o : Oper} {rest : List Oper} (hgd : o.guard = none) (s x : Operand) (t u : TypeId)
    (ho : o.op = .call { callee := .builtin .append, args := #[s, x], argTypes := #[t, u] }) (V X : Value) (hs : a.eval s = V) (hx : a.eval x = X)
    (h : ∀ w2, Below W.heap.size W w2 → ∃ v' w', (Builtin.append_ #[t, u] o.type #[V, X]).run P w2 = .ok v' w' ∧ wpMix P ops Q ks rest (a.put o.dst v') w') : wpMix P ops Q (2 :: ks) (o :: rest) a W :=
  wpMix_own fun w2 hb K hK => by
    obtain ⟨v', w', hrun, h2⟩ := h w2 hb
    have hw : Region.wanted o (yielded ops a.tmps) = true := by simp [Region.wanted, hgd]
    rw [if_pos hw]
    unfold mixAt execOp
    simp only [ho, resolve, invoke, builtin, Sem.run_bind, Sem.run_pure, Result.andThen_ok, List.map_toArray, List.map_cons, List.map_nil, hs, hx, hrun]
    exact hK _ _ h2
def Packed (l : List (List UInt8)) (w : World) (e : Ending) (w' : World) : Prop := e = .returned (.tuple #[.string (bs (packV l).1), .int .i64 (packV l).2]) ∧ Below w.heap.size w w'
theorem packed_no {l : List (List UInt8)} {w w' : World} {e : Ending} (h : packV l = ([], 3)) (he : e = .returned (.tuple #[.string ByteArray.empty, .int .i64 3])) (hb : Below w.heap.size w w') : Packed l w e w' := by
  refine ⟨?_, hb⟩
  rw [he, h]
  rfl
theorem packed_yes {l : List (List UInt8)} {w w' : World} {e : Ending} (h : Packs l) (he : e = .returned (.tuple #[.string (bs (packL l)), .int .i64 0])) (hb : Below w.heap.size w w') : Packed l w e w' := by
  refine ⟨?_, hb⟩
  unfold packV
  rw [he, if_pos h]
set_option maxRecDepth 100000 in
theorem pack_many (A : Option Addr) (ca n : Nat) (l : List (List UInt8)) (w : World) (hn : l.length = n) (h : (64 : Int) < n) : Calls Try.prog 11 #[.slice A n ca] w (Packed l w) := by
  have HP : Hid _ := Lib.hid (show packV l = ([], 3) from if_neg fun hp => by have := hp.1; omega)
  go_enter Try.func11, Try.ntmps11
  go_wp2
  go_ret2
  exact packed_no HP.out rfl (Below.refl _ _)
set_option maxRecDepth 100000 in
set_option maxHeartbeats 1000000 in
theorem pack_few (A : Option Addr) (ca : Nat) (l : List (List UInt8)) (w : World) (hA : Seg w A l.length (strs l)) (hl : (l.length : Int) ≤ 64) : Calls Try.prog 11 #[.slice A l.length ca] w (Packed l w) := by
  have HA := Lib.hid hA
  clear hA
  generalize hn : l.length = n at *
  have HN := Lib.hid hn
  clear hn
  have hx : (n : Int) = ((UInt8.ofNat n).toNat : Int) := by rw [ofNat_toNat]; omega
  have HX := Lib.hid hx
  clear hx
  go_enter Try.func11, Try.ntmps11
  go_wp2
  go_loopw [4, 16] (PackRel l w) (fun _ i _ => n - (intOf i).toNat)
  case atStart => exact ⟨0, _, rfl, rfl, by omega, by rw [HN.out]; exact own_of_new HX.out (Below.refl _ _), fun x h => absurd h (by simp), by simp [encs], below_box (Below.refl _ _) _⟩
  case round =>
    obtain ⟨k, v, rfl, rfl, hk, ho, hall, hel, hBw⟩ := hrel
    have HALL := Lib.hid hall
    clear hall HX
    rw [HN.out] at hk
    have hz := hBw.size
    by_cases hlt : k < n
    · obtain ⟨b1, o1, rfl, hb1, q1⟩ := seg_str (by rw [HN.out]; exact HA.out) k (by rw [HN.out]; exact hlt)
      replace q1 := (hBw.cell (p := ⟨b1, o1 + k, none⟩) hb1).trans q1
      have hki : (k : Int) < n := by omega
      have hk0 : (0 : Int) ≤ k := by omega
      have hmem : l.getD k [] = l.getD k [] := rfl
      by_cases hx : (l.getD k []).length ≤ 4000
      · have hxs := bs_size (l.getD k [])
        have hts := take_getD l k (by rw [HN.out]; exact hlt)
        clear hmem
        generalize l.getD k [] = x at *
        have hx1 : ((bs x).size : Int) ≤ 4000 := by omega
        have hx0 : (0 : Int) ≤ (bs x).size := by omega
        have he1 : UInt8.ofNat l.length :: encs (l.take (k + 1)) = ((UInt8.ofNat l.length :: encs (l.take k)) ++ [UInt8.ofNat (x.length / 256), UInt8.ofNat x.length]) ++ x := by
          rw [hts, encs_snoc, ← enc_two]
          rfl
        have he2 : (encs (l.take (k + 1))).length ≤ (k + 1) * 4002 := by
          rw [hts, encs_snoc, List.length_append, enc_len]
          omega
        have he3 : ∀ y ∈ l.take (k + 1), y.length ≤ 4000 := fun y hy => by
          rw [hts, List.mem_append] at hy
          rcases hy with h | h
          · exact HALL.out y h
          · simp only [List.mem_singleton] at h; subst h; exact hx
        have hln : (UInt8.ofNat l.length :: encs (l.take k)).length + 2 + x.length < 1000000 := by
          simp only [List.length_cons]
          omega
        have H1 := Lib.hid he1
        have H2 := Lib.hid he2
        have H3 := Lib.hid he3
        clear hts he1 he2 he3 HALL hel
        generalize UInt8.ofNat l.length :: encs (l.take k) = out at *
        have hc : ∀ W : World, (W.alloc (.cells #[.int .u8 (((bs x).size : Int) / 256), .int .u8 (((bs x).size : Int) % 256)] 5)).cell? ⟨W.heap.size, 0, none⟩ = some (.int .u8 ((UInt8.ofNat (x.length / 256)).toNat : Int)) ∧ (W.alloc (.cells #[.int .u8 (((bs x).size : Int) / 256), .int .u8 (((bs x).size : Int) % 256)] 5)).cell? ⟨W.heap.size, 1, none⟩ = some (.int .u8 ((UInt8.ofNat x.length).toNat : Int)) := fun W => by
          have hbx := Box.new W 5 #[.int .u8 (((bs x).size : Int) / 256), .int .u8 (((bs x).size : Int) % 256)]
          rw [hbx.cell 0 _ rfl, hbx.cell 1 _ rfl, ofNat_toNat, ofNat_toNat, hxs]
          have e1 : ((x.length : Int) / 256) = ((x.length / 256 % 256 : Nat) : Int) := by omega
          have e2 : ((x.length : Int) % 256) = ((x.length % 256 : Nat) : Int) := by omega
          rw [e1, e2]
          exact ⟨rfl, rfl⟩
        have HC := Lib.hid hc
        have HXS := Lib.hid hxs
        clear hc hxs
        go_wp2_with (first | (at_builtin; refine wpList_push2 rfl (.tmp 23) (.tmp 31) rfl w.heap.size v out _ _ wr.heap.size 2 rfl rfl (ho.up (below_box (Below.refl _ _) _)) (HC.out wr).1 (HC.out wr).2 (below_box hBw _) (by simp; omega) (by omega) ?_; intro v' w3 ho3 hB3; have hz3 : w.heap.size ≤ w3.heap.size := hB3.size) | (at_builtin; go_loud (refine wpList_pushs rfl (.tmp 33) (.tmp 34) rfl w.heap.size v' _ x rfl rfl ho3 hB3 hz3 (by simp only [List.length_append, List.length_cons, List.length_nil]; omega) ?_); intro v4 w4 ho4 hB4))
        go_roundw
        case rel => exact ⟨k + 1, _, rfl, by go_num, by rw [HN.out]; omega, by rw [H1.out]; exact ho4, H3.out, H2.out, hB4⟩
        case measure => simp [intOf]; omega
      · have hxs := bs_size (l.getD k [])
        have HP := Lib.hid (not_packs (by rw [HN.out]; exact hlt) (by omega : 4000 < (l.getD k []).length))
        clear hmem
        generalize bs (l.getD k []) = x at *
        have hx1 : (4000 : Int) < x.size := by omega
        clear ho hxs hx
        go_wp2
        go_ret2
        exact packed_no HP.out rfl hBw
    · obtain rfl : k = n := by omega
      have hp : Packs l := ⟨by rw [HN.out]; omega, by have h := HALL.out; rwa [List.take_of_length_le (by rw [HN.out]; exact Nat.le_refl _)] at h⟩
      have hpl : UInt8.ofNat l.length :: encs (l.take k) = packL l := by rw [List.take_of_length_le (by rw [HN.out]; exact Nat.le_refl _)]; rfl
      rw [hpl] at ho
      have HP := Lib.hid hp
      have hcv := conv_own ho
      clear hp hpl ho hel HALL
      go_wp2
      go_ret2
      exact packed_yes HP.out rfl hBw
theorem pack_any (u : Value) (l : List (List UInt8)) (w : World) (h : Strs w u l) : Calls Try.prog 11 #[u] w (Packed l w) := by
  obtain ⟨A, ca, rfl, hA, _⟩ := h
  by_cases hl : l.length ≤ 64
  · exact pack_few A ca l w hA (by omega)
  · exact pack_many A ca _ l w rfl (by omega)
set_option maxRecDepth 100000 in
theorem rpack_many (A : Option Addr) (ca n : Nat) (l : List (List UInt8)) (w : World) (hn : l.length = n) (h : (64 : Int) < n) : Calls Try.prog 12 #[.slice A n ca] w (Packed l w) := by
  have HP : Hid _ := Lib.hid (show packV l = ([], 3) from if_neg fun hp => by have := hp.1; omega)
  go_enter Try.func12, Try.ntmps12
  go_wp2
  go_ret2
  exact packed_no HP.out rfl (Below.refl _ _)
set_option maxRecDepth 100000 in
set_option maxHeartbeats 1000000 in
theorem rpack_few (A : Option Addr) (ca : Nat) (l : List (List UInt8)) (w : World) (hA : Seg w A l.length (strs l)) (hl : (l.length : Int) ≤ 64) : Calls Try.prog 12 #[.slice A l.length ca] w (Packed l w) := by
  have HA := Lib.hid hA
  clear hA
  generalize hn : l.length = n at *
  have HN := Lib.hid hn
  clear hn
  have hx : (n : Int) = ((UInt8.ofNat n).toNat : Int) := by rw [ofNat_toNat]; omega
  have HX := Lib.hid hx
  clear hx
  go_enter Try.func12, Try.ntmps12
  go_wp2
  go_loopw [4, 15] (PackRel l w) (fun _ i _ => n - (intOf i).toNat)
  case atStart => exact ⟨0, _, rfl, rfl, by omega, by rw [HN.out]; exact own_of_new HX.out (Below.refl _ _), fun x h => absurd h (by simp), by simp [encs], below_box (Below.refl _ _) _⟩
  case round =>
    obtain ⟨k, v, rfl, rfl, hk, ho, hall, hel, hBw⟩ := hrel
    have HALL := Lib.hid hall
    clear hall HX
    rw [HN.out] at hk
    have hz := hBw.size
    by_cases hlt : k < n
    · obtain ⟨b1, o1, rfl, hb1, q1⟩ := seg_str (by rw [HN.out]; exact HA.out) k (by rw [HN.out]; exact hlt)
      replace q1 := (hBw.cell (p := ⟨b1, o1 + k, none⟩) hb1).trans q1
      have hki : (k : Int) < n := by omega
      have hk0 : (0 : Int) ≤ k := by omega
      have hmem : l.getD k [] = l.getD k [] := rfl
      by_cases hx : (l.getD k []).length ≤ 4000
      · have hxs := bs_size (l.getD k [])
        have hts := take_getD l k (by rw [HN.out]; exact hlt)
        clear hmem
        generalize l.getD k [] = x at *
        have hx1 : ((bs x).size : Int) ≤ 4000 := by omega
        have hx0 : (0 : Int) ≤ (bs x).size := by omega
        have he1 : UInt8.ofNat l.length :: encs (l.take (k + 1)) = ((UInt8.ofNat l.length :: encs (l.take k)) ++ [UInt8.ofNat (x.length / 256), UInt8.ofNat x.length]) ++ x := by
          rw [hts, encs_snoc, ← enc_two]
          rfl
        have he2 : (encs (l.take (k + 1))).length ≤ (k + 1) * 4002 := by
          rw [hts, encs_snoc, List.length_append, enc_len]
          omega
        have he3 : ∀ y ∈ l.take (k + 1), y.length ≤ 4000 := fun y hy => by
          rw [hts, List.mem_append] at hy
          rcases hy with h | h
          · exact HALL.out y h
          · simp only [List.mem_singleton] at h; subst h; exact hx
        have hln : (UInt8.ofNat l.length :: encs (l.take k)).length + 2 + x.length < 1000000 := by
          simp only [List.length_cons]
          omega
        have H1 := Lib.hid he1
        have H2 := Lib.hid he2
        have H3 := Lib.hid he3
        clear hts he1 he2 he3 HALL hel
        generalize UInt8.ofNat l.length :: encs (l.take k) = out at *
        have hc : ∀ W : World, (W.alloc (.cells #[.int .u8 (((bs x).size : Int) / 256), .int .u8 (((bs x).size : Int) % 256)] 5)).cell? ⟨W.heap.size, 0, none⟩ = some (.int .u8 ((UInt8.ofNat (x.length / 256)).toNat : Int)) ∧ (W.alloc (.cells #[.int .u8 (((bs x).size : Int) / 256), .int .u8 (((bs x).size : Int) % 256)] 5)).cell? ⟨W.heap.size, 1, none⟩ = some (.int .u8 ((UInt8.ofNat x.length).toNat : Int)) := fun W => by
          have hbx := Box.new W 5 #[.int .u8 (((bs x).size : Int) / 256), .int .u8 (((bs x).size : Int) % 256)]
          rw [hbx.cell 0 _ rfl, hbx.cell 1 _ rfl, ofNat_toNat, ofNat_toNat, hxs]
          have e1 : ((x.length : Int) / 256) = ((x.length / 256 % 256 : Nat) : Int) := by omega
          have e2 : ((x.length : Int) % 256) = ((x.length % 256 : Nat) : Int) := by omega
          rw [e1, e2]
          exact ⟨rfl, rfl⟩
        have HC := Lib.hid hc
        have HXS := Lib.hid hxs
        clear hc hxs
        go_upto_region 9 with fail
        have i0 : ∀ i : Idx wr, i.at.cell? ⟨b1, o1 + k, none⟩ = some (.string (bs x)) := fun i => (i.below.cell (p := ⟨b1, o1 + k, none⟩) (Nat.lt_of_lt_of_le hb1 hz)).trans q1
        have hq1 : IntKind.i64.wrap (((bs x).size : Int) / 256) = ((bs x).size : Int) / 256 := IntWalk.i64_in _ (by omega)
        have hq2 : IntKind.u8.wrap (((bs x).size : Int) / 256) = ((bs x).size : Int) / 256 := by rw [IntKind.wrap_u8']; omega
        have hq3 : ((bs x).size : Int).tmod 256 = ((bs x).size : Int) % 256 := Int.tmod_eq_emod_of_nonneg hx0
        have hq4 : IntKind.u8.wrap (((bs x).size : Int) % 256) = ((bs x).size : Int) % 256 := by rw [IntKind.wrap_u8']; omega
        refine wp_region_mixoT [1, 1, 1, 0, 0, 1, 1, 1, 1, 1, 0, 0, 1, 1, 1, 3, 2, 1] [0, 1, 2, 3, 4, 5, 6, 7, 8, 9, 10, 11, 12, 13, 14, 15, 16, 17] (by kernel_rfl) (by kernel_rfl) rfl ?_
        iterate 3 (refine wpMix_pure (fun K hK => ?_); go_simp; refine hK _ ?_; clear hK K)
        iterate 2 (refine wpMix_calm (fun K hK => ?_); go_simp; refine hK _ ?_; clear hK K)
        iterate 5 (refine wpMix_pure (fun K hK => ?_); go_simp; refine hK _ ?_; clear hK K)
        iterate 2 (refine wpMix_calm (fun K hK => ?_); go_simp; refine hK _ ?_; clear hK K)
        iterate 3 (refine wpMix_pure (fun K hK => ?_); go_simp; refine hK _ ?_; clear hK K)
        clear i0 hq1 hq2 hq3 hq4
        refine wpMix_grow (fun w2 hb2 K hK => ?_)
        go_simp
        refine ⟨below_box hb2 _, hK _ _ ?_⟩
        clear hK K
        have ho2 : OwnB (w2.alloc (.cells #[.int .u8 (((bs x).size : Int) / 256), .int .u8 (((bs x).size : Int) % 256)] 5)) w.heap.size v out := (ho.up hb2).up (below_box (Below.refl _ _) _)
        have hB2 : Below w.heap.size w (w2.alloc (.cells #[.int .u8 (((bs x).size : Int) / 256), .int .u8 (((bs x).size : Int) % 256)] 5)) := below_box (below_step hBw hb2) _
        have hcc := Lib.hid (HC.out w2)
        have q2 : (w2.alloc (.cells #[.int .u8 (((bs x).size : Int) / 256), .int .u8 (((bs x).size : Int) % 256)] 5)).cell? ⟨b1, o1 + k, none⟩ = some (.string (bs x)) := ((below_box hb2 _).cell (p := ⟨b1, o1 + k, none⟩) (Nat.lt_of_lt_of_le hb1 hz)).trans q1
        have hz2 := hb2.size
        refine wpMix_append rfl (.tmp 24) (.tmp 39) 36 36 rfl v (.slice (some ⟨w2.heap.size, 0, none⟩) 2 2) rfl rfl (fun w3 hb3 => ?_)
        obtain ⟨v', w4, hrun, ho3, hB3⟩ := run_push2 (h := w2.heap.size) (c := 2) 36 (ho2.up hb3) ((hb3.cell (p := ⟨w2.heap.size, 0, none⟩) (by simp)).trans hcc.out.1) ((hb3.cell (p := ⟨w2.heap.size, 1, none⟩) (by simp)).trans hcc.out.2) (below_step hB2 hb3) (by have := hb3.size; simp at this; omega) (by omega)
        refine ⟨v', w4, hrun, ?_⟩
        clear hrun
        refine wpMix_pure (fun K hK => ?_); go_simp; refine hK _ ?_; clear hK K
        refine wpMix_nil (fun w5 hb5 => ?_)
        replace ho3 := ho3.up hb5
        have hB5 := hB3.trans (hb5.mono hB3.size)
        have q3 := (hb5.cell (p := ⟨b1, o1 + k, none⟩) (Nat.lt_of_lt_of_le (Nat.lt_of_lt_of_le hb1 (Nat.le_refl _)) hB3.size)).trans ((hB3.cell (p := ⟨b1, o1 + k, none⟩) hb1).trans ((hBw.cell (p := ⟨b1, o1 + k, none⟩) hb1).symm.trans q1))
        have hz5 : w.heap.size ≤ w5.heap.size := hB5.size
        clear hb5 hB3 hb3 hB2 hcc q2 hz2 hb2 q1 ho ho2
        go_wp2_with (at_builtin; go_loud (refine wpList_pushs rfl (.tmp 41) (.tmp 45) rfl w.heap.size v' _ x rfl rfl ho3 hB5 hz5 (by simp only [List.length_append, List.length_cons, List.length_nil]; omega) ?_); intro v6 w6 ho4 hB4)
        go_roundw
        case rel => exact ⟨k + 1, _, rfl, by go_num, by rw [HN.out]; omega, by rw [H1.out]; exact ho4, H3.out, H2.out, hB4⟩
        case measure => simp [intOf]; omega
      · have hxs := bs_size (l.getD k [])
        have HP := Lib.hid (not_packs (by rw [HN.out]; exact hlt) (by omega : 4000 < (l.getD k []).length))
        clear hmem
        generalize bs (l.getD k []) = x at *
        have hx1 : (4000 : Int) < x.size := by omega
        clear ho hxs hx
        go_wp2
        go_ret2
        exact packed_no HP.out rfl hBw
    · obtain rfl : k = n := by omega
      have hp : Packs l := ⟨by rw [HN.out]; omega, by have h := HALL.out; rwa [List.take_of_length_le (by rw [HN.out]; exact Nat.le_refl _)] at h⟩
      have hpl : UInt8.ofNat l.length :: encs (l.take k) = packL l := by rw [List.take_of_length_le (by rw [HN.out]; exact Nat.le_refl _)]; rfl
      rw [hpl] at ho
      have HP := Lib.hid hp
      have hcv := conv_own ho
      clear hp hpl ho hel HALL
      go_wp2
      go_ret2
      exact packed_yes HP.out rfl hBw
theorem rpack_any (u : Value) (l : List (List UInt8)) (w : World) (h : Strs w u l) : Calls Try.prog 12 #[u] w (Packed l w) := by
  obtain ⟨A, ca, rfl, hA, _⟩ := h
  by_cases hl : l.length ≤ 64
  · exact rpack_few A ca l w hA (by omega)
  · exact rpack_many A ca _ l w rfl (by omega)
end Go.Proofs.Ytohijllciehjlaa
