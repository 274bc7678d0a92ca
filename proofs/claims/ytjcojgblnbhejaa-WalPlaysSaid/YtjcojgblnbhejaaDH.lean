/- The reference's disk: Write, Replace, Crash, Restart. -/
import Derived.Test.YtjcojgblnbhejaaDG
namespace Go.Proofs.Ytjcojgblnbhejaa
open Go.ChangeShapes Go.WideShapes Go.ChangeAt Go.RowKit
attribute [local go_sem] ownAt ownUpon mixAt mixUpon

theorem rfail_write (w : World) (g : Nat) (t : ByteArray) (x : Int) (H : Hid (Calls Try.prog 50 #[.pointer (some ⟨g, 0, none⟩)] w fun e w' => e = .returned (.int .i64 x) ∧ w = w')) (hx : (x != 0) = true) : Calls Try.prog 49 #[.pointer (some ⟨g, 0, none⟩), .string t] w fun e w' => e = .returned (.int .i64 x) ∧ w = w' := by
  go_enter Try.func49, Try.ntmps49
  go_wp2_with (go_at_call 50; refine H.out.mono ?_; rintro _ _ ⟨rfl, rfl⟩)
  go_ret
  exact ⟨rfl, rfl⟩
theorem rfail_replace (w : World) (g : Nat) (t : ByteArray) (x : Int) (H : Hid (Calls Try.prog 50 #[.pointer (some ⟨g, 0, none⟩)] w fun e w' => e = .returned (.int .i64 x) ∧ w = w')) (hx : (x != 0) = true) : Calls Try.prog 46 #[.pointer (some ⟨g, 0, none⟩), .string t] w fun e w' => e = .returned (.int .i64 x) ∧ w = w' := by
  go_enter Try.func46, Try.ntmps46
  go_wp2_with (go_at_call 50; refine H.out.mono ?_; rintro _ _ ⟨rfl, rfl⟩)
  go_ret
  exact ⟨rfl, rfl⟩
theorem rfail_sync (w : World) (g : Nat) (x : Int) (H : Hid (Calls Try.prog 50 #[.pointer (some ⟨g, 0, none⟩)] w fun e w' => e = .returned (.int .i64 x) ∧ w = w')) (hx : (x != 0) = true) : Calls Try.prog 47 #[.pointer (some ⟨g, 0, none⟩)] w fun e w' => e = .returned (.int .i64 x) ∧ w = w' := by
  go_enter Try.func47, Try.ntmps47
  go_wp2_with (go_at_call 50; refine H.out.mono ?_; rintro _ _ ⟨rfl, rfl⟩)
  go_ret
  exact ⟨rfl, rfl⟩
theorem rfail_crash (w : World) (g : Nat) (k x : Int) (H : Hid (Calls Try.prog 50 #[.pointer (some ⟨g, 0, none⟩)] w fun e w' => e = .returned (.int .i64 x) ∧ w = w')) (hx : (x != 0) = true) : Calls Try.prog 31 #[.pointer (some ⟨g, 0, none⟩), .int .i64 k] w fun e w' => e = .returned (.int .i64 x) ∧ w = w' := by
  go_enter Try.func31, Try.ntmps31
  go_wp2_with (go_at_call 50; refine H.out.mono ?_; rintro _ _ ⟨rfl, rfl⟩)
  go_ret
  exact ⟨rfl, rfl⟩
theorem rfail_contents (w : World) (g : Nat) (x : Int) (H : Hid (Calls Try.prog 50 #[.pointer (some ⟨g, 0, none⟩)] w fun e w' => e = .returned (.int .i64 x) ∧ w = w')) (hx : (x != 0) = true) : Calls Try.prog 35 #[.pointer (some ⟨g, 0, none⟩)] w fun e w' => e = .returned (.string ByteArray.empty) ∧ w = w' := by
  go_enter Try.func35, Try.ntmps35
  go_wp2_with (go_at_call 50; refine H.out.mono ?_; rintro _ _ ⟨rfl, rfl⟩)
  go_ret
  exact ⟨rfl, rfl⟩
theorem rneg_crash (w : World) (g : Nat) (k : Int) (H : Hid (Calls Try.prog 50 #[.pointer (some ⟨g, 0, none⟩)] w fun e w' => e = .returned (.int .i64 0) ∧ w = w')) (hx : k < 0) : Calls Try.prog 31 #[.pointer (some ⟨g, 0, none⟩), .int .i64 k] w fun e w' => e = .returned (.int .i64 2) ∧ w = w' := by
  go_enter Try.func31, Try.ntmps31
  go_wp2_with (go_at_call 50; refine H.out.mono ?_; rintro _ _ ⟨rfl, rfl⟩)
  go_ret
  exact ⟨rfl, rfl⟩
theorem rreplace_full (w : World) (g : Nat) (t : ByteArray) (sz : Int) (a b c : ByteArray) (rep down : Bool) (hb : Box w g 66 #[.int .i64 sz, .string a, .string b, .bool rep, .string c, .bool down]) (H : Hid (Calls Try.prog 50 #[.pointer (some ⟨g, 0, none⟩)] w fun e w' => e = .returned (.int .i64 0) ∧ w = w')) (hx : sz < t.size) : Calls Try.prog 46 #[.pointer (some ⟨g, 0, none⟩), .string t] w fun e w' => e = .returned (.int .i64 3) ∧ w = w' := by
  have c0 := hb.cell 0 _ rfl
  have l0 := hb.lt
  clear hb
  go_enter Try.func46, Try.ntmps46
  go_wp2_with (go_at_call 50; refine H.out.mono ?_; rintro _ _ ⟨rfl, rfl⟩)
  go_ret
  exact ⟨rfl, rfl⟩
theorem rreplace_yes (w : World) (g : Nat) (t : ByteArray) (sz : Int) (a b c : ByteArray) (rep down : Bool) (hb : Box w g 66 #[.int .i64 sz, .string a, .string b, .bool rep, .string c, .bool down]) (H : Hid (Calls Try.prog 50 #[.pointer (some ⟨g, 0, none⟩)] w fun e w' => e = .returned (.int .i64 0) ∧ w = w')) (hx : t.size ≤ sz) : Calls Try.prog 46 #[.pointer (some ⟨g, 0, none⟩), .string t] w fun e w' => e = .returned (.int .i64 0) ∧ Box w' g 66 #[.int .i64 sz, .string a, .string b, .bool true, .string t, .bool down] ∧ Only [g] w w' := by
  have c0 := hb.cell 0 _ rfl
  have c3 := hb.cell 3 _ rfl
  have c4 := hb.cell 4 _ rfl
  have f3 := hb.frozen 3
  have f4 := hb.frozen 4
  have l0 := hb.lt
  have HB := Lib.hid hb
  clear hb
  go_enter Try.func46, Try.ntmps46
  go_wp2_with (go_at_call 50; refine H.out.mono ?_; rintro _ _ ⟨rfl, rfl⟩)
  go_ret
  exact ⟨rfl, ((HB.out.set 3 (.bool true)).set 4 (.string t)).eq_ (by simp), ((Only.refl [g] w).set (.inl (by simp)) _).set (.inl (by simp)) _⟩
theorem rrestart_no (w : World) (g : Nat) (sz : Int) (a b c : ByteArray) (rep down : Bool) (hb : Box w g 66 #[.int .i64 sz, .string a, .string b, .bool rep, .string c, .bool down]) (h0 : 0 ≤ sz) (h : sz = 0 ∨ down = false) : Calls Try.prog 33 #[.pointer (some ⟨g, 0, none⟩)] w fun e w' => e = .returned (.int .i64 10) ∧ w = w' := by
  have hm := Lib.hid (made_box w g sz a b c rep down hb h0)
  have c5 := hb.cell 5 _ rfl
  have l0 := hb.lt
  clear hb
  by_cases hz : sz = 0
  · rw [show decide (0 < sz) = false by simp; omega] at hm
    clear h
    go_enter Try.func33, Try.ntmps33
    go_wp2_with (go_at_call 52; refine hm.out.mono ?_; rintro _ _ ⟨rfl, rfl⟩)
    go_ret
    exact ⟨rfl, rfl⟩
  · obtain rfl : down = false := h.resolve_left hz
    rw [show decide (0 < sz) = true by simp; omega] at hm
    clear h
    go_enter Try.func33, Try.ntmps33
    go_wp2_with (go_at_call 52; refine hm.out.mono ?_; rintro _ _ ⟨rfl, rfl⟩)
    go_ret
    exact ⟨rfl, rfl⟩
theorem rrestart_yes (w : World) (g : Nat) (sz : Int) (a b c : ByteArray) (rep : Bool) (hb : Box w g 66 #[.int .i64 sz, .string a, .string b, .bool rep, .string c, .bool true]) (h0 : 0 < sz) : Calls Try.prog 33 #[.pointer (some ⟨g, 0, none⟩)] w fun e w' => e = .returned (.int .i64 0) ∧ Box w' g 66 #[.int .i64 sz, .string a, .string b, .bool rep, .string c, .bool false] ∧ Only [g] w w' := by
  have hm := Lib.hid (made_box w g sz a b c rep true hb (by omega))
  have c5 := hb.cell 5 _ rfl
  have f5 := hb.frozen 5
  have l0 := hb.lt
  have HB := Lib.hid hb
  clear hb
  rw [show decide (0 < sz) = true by simp; omega] at hm
  go_enter Try.func33, Try.ntmps33
  go_wp2_with (go_at_call 52; refine hm.out.mono ?_; rintro _ _ ⟨rfl, rfl⟩)
  go_ret
  exact ⟨rfl, (HB.out.set 5 (.bool false)).eq_ (by simp), (Only.refl [g] w).set (.inl (by simp)) _⟩
set_option maxHeartbeats 1000000 in
theorem rwrite_full (w : World) (g : Nat) (t x : ByteArray) (sz : Int) (a b c : ByteArray) (rep down : Bool) (hb : Box w g 66 #[.int .i64 sz, .string a, .string b, .bool rep, .string c, .bool down]) (H : Hid (Calls Try.prog 50 #[.pointer (some ⟨g, 0, none⟩)] w fun e w' => e = .returned (.int .i64 0) ∧ w = w'))
    (HC : Hid (∀ W, Below w.heap.size w W → Calls Try.prog 35 #[.pointer (some ⟨g, 0, none⟩)] W fun e w' => e = .returned (.string x) ∧ Below W.heap.size W w')) (h1 : x.size ≤ 300000) (h2 : t.size ≤ 1000000) (h4 : sz < (x.size : Int) + (t.size : Int)) : Calls Try.prog 49 #[.pointer (some ⟨g, 0, none⟩), .string t] w fun e w' => e = .returned (.int .i64 3) ∧ Below w.heap.size w w' := by
  have i0 : ∀ i : Idx w, i.at.cell? ⟨g, 0, none⟩ = some (.int .i64 sz) := fun i => (hb.idx i).cell 0 _ rfl
  have l0 := hb.lt
  have hw1 : IntKind.i64.wrap ((x.size : Int) + (t.size : Int)) = (x.size : Int) + (t.size : Int) := IntWalk.i64_in _ (by omega)
  have HB := Lib.hid hb
  clear hb
  go_enter Try.func49, Try.ntmps49
  go_upto_region 4 with (go_at_call 50; refine H.out.mono ?_; rintro _ _ ⟨rfl, rfl⟩)
  refine wp_region_mix [0, 0, 0, 0, 0, 0, 0, 0, 0, 0, 0] (by kernel_rfl) (by kernel_rfl) ?_
  refine wpMix_calm (fun K hK => ?_)
  go_simp
  refine hK _ ?_
  clear hK K
  refine wpMix_calm (fun K hK => ?_)
  go_simp
  apply Exists.intro
  refine ⟨fun _ => ?_, hK _ ?_⟩
  go_at_call 35
  exact HC.out _ (Idx.below _)
  clear hK K
  iterate 9 (refine wpMix_calm (fun K hK => ?_); go_simp; refine hK _ ?_; clear hK K)
  clear i0 H HC
  refine wpMix_nil (fun w33 hb => ?_)
  go_wp2
  go_ret
  exact ⟨rfl, hb⟩
set_option maxHeartbeats 1000000 in
theorem rwrite_rep (w : World) (g : Nat) (t x : ByteArray) (sz : Int) (a b c : ByteArray) (down : Bool) (hb : Box w g 66 #[.int .i64 sz, .string a, .string b, .bool true, .string c, .bool down]) (H : Hid (Calls Try.prog 50 #[.pointer (some ⟨g, 0, none⟩)] w fun e w' => e = .returned (.int .i64 0) ∧ w = w'))
    (HC : Hid (∀ W, Below w.heap.size w W → Calls Try.prog 35 #[.pointer (some ⟨g, 0, none⟩)] W fun e w' => e = .returned (.string x) ∧ Below W.heap.size W w')) (h1 : x.size ≤ 300000) (h2 : t.size ≤ 1000000) (h4 : (x.size : Int) + (t.size : Int) ≤ sz) (hl : c.size + t.size ≤ 2000000) : Calls Try.prog 49 #[.pointer (some ⟨g, 0, none⟩), .string t] w fun e w' => e = .returned (.int .i64 0) ∧ Box w' g 66 #[.int .i64 sz, .string a, .string b, .bool true, .string (c ++ t), .bool down] ∧ Only [g] w w' := by
  have i0 : ∀ i : Idx w, i.at.cell? ⟨g, 0, none⟩ = some (.int .i64 sz) := fun i => (hb.idx i).cell 0 _ rfl
  have l0 := hb.lt
  have hw1 : IntKind.i64.wrap ((x.size : Int) + (t.size : Int)) = (x.size : Int) + (t.size : Int) := IntWalk.i64_in _ (by omega)
  have HB := Lib.hid hb
  clear hb
  go_enter Try.func49, Try.ntmps49
  go_upto_region 4 with (go_at_call 50; refine H.out.mono ?_; rintro _ _ ⟨rfl, rfl⟩)
  refine wp_region_mix [0, 0, 0, 0, 0, 0, 0, 0, 0, 0, 0] (by kernel_rfl) (by kernel_rfl) ?_
  refine wpMix_calm (fun K hK => ?_)
  go_simp
  refine hK _ ?_
  clear hK K
  refine wpMix_calm (fun K hK => ?_)
  go_simp
  apply Exists.intro
  refine ⟨fun _ => ?_, hK _ ?_⟩
  go_at_call 35
  exact HC.out _ (Idx.below _)
  clear hK K
  iterate 9 (refine wpMix_calm (fun K hK => ?_); go_simp; refine hK _ ?_; clear hK K)
  clear i0 H HC
  refine wpMix_nil (fun w33 hb => ?_)
  have P := HB.out.next hb
  have hO := Only.of_up (F := [g]) hb
  clear HB hb l0 hw1
  have c3 := P.cell 3 _ rfl
  have c4 := P.cell 4 _ rfl
  have f4 := P.frozen 4
  have l3 := P.lt
  have hns : ¬ 9223372036854775807 < c.size + t.size := by omega
  go_wp2
  go_ret
  exact ⟨rfl, (P.set 4 (.string (c ++ t))).eq_ (by simp), hO.set (.inl (by simp)) _⟩
set_option maxHeartbeats 1000000 in
theorem rwrite_app (w : World) (g : Nat) (t x : ByteArray) (sz : Int) (a b c : ByteArray) (down : Bool) (hb : Box w g 66 #[.int .i64 sz, .string a, .string b, .bool false, .string c, .bool down]) (H : Hid (Calls Try.prog 50 #[.pointer (some ⟨g, 0, none⟩)] w fun e w' => e = .returned (.int .i64 0) ∧ w = w'))
    (HC : Hid (∀ W, Below w.heap.size w W → Calls Try.prog 35 #[.pointer (some ⟨g, 0, none⟩)] W fun e w' => e = .returned (.string x) ∧ Below W.heap.size W w')) (h1 : x.size ≤ 300000) (h2 : t.size ≤ 1000000) (h4 : (x.size : Int) + (t.size : Int) ≤ sz) (hl : b.size + t.size ≤ 2000000) : Calls Try.prog 49 #[.pointer (some ⟨g, 0, none⟩), .string t] w fun e w' => e = .returned (.int .i64 0) ∧ Box w' g 66 #[.int .i64 sz, .string a, .string (b ++ t), .bool false, .string c, .bool down] ∧ Only [g] w w' := by
  have i0 : ∀ i : Idx w, i.at.cell? ⟨g, 0, none⟩ = some (.int .i64 sz) := fun i => (hb.idx i).cell 0 _ rfl
  have l0 := hb.lt
  have hw1 : IntKind.i64.wrap ((x.size : Int) + (t.size : Int)) = (x.size : Int) + (t.size : Int) := IntWalk.i64_in _ (by omega)
  have HB := Lib.hid hb
  clear hb
  go_enter Try.func49, Try.ntmps49
  go_upto_region 4 with (go_at_call 50; refine H.out.mono ?_; rintro _ _ ⟨rfl, rfl⟩)
  refine wp_region_mix [0, 0, 0, 0, 0, 0, 0, 0, 0, 0, 0] (by kernel_rfl) (by kernel_rfl) ?_
  refine wpMix_calm (fun K hK => ?_)
  go_simp
  refine hK _ ?_
  clear hK K
  refine wpMix_calm (fun K hK => ?_)
  go_simp
  apply Exists.intro
  refine ⟨fun _ => ?_, hK _ ?_⟩
  go_at_call 35
  exact HC.out _ (Idx.below _)
  clear hK K
  iterate 9 (refine wpMix_calm (fun K hK => ?_); go_simp; refine hK _ ?_; clear hK K)
  clear i0 H HC
  refine wpMix_nil (fun w33 hb => ?_)
  have P := HB.out.next hb
  have hO := Only.of_up (F := [g]) hb
  clear HB hb l0 hw1
  have c3 := P.cell 3 _ rfl
  have c4 := P.cell 2 _ rfl
  have f4 := P.frozen 2
  have l3 := P.lt
  have hns : ¬ 9223372036854775807 < b.size + t.size := by omega
  go_wp2
  go_ret
  exact ⟨rfl, (P.set 2 (.string (b ++ t))).eq_ (by simp), hO.set (.inl (by simp)) _⟩
set_option maxHeartbeats 1000000 in
theorem rcrash_yes (w : World) (g : Nat) (k : Int) (m : Nat) (sz : Int) (a b c : ByteArray) (rep down : Bool) (hb : Box w g 66 #[.int .i64 sz, .string a, .string b, .bool rep, .string c, .bool down]) (H : Hid (Calls Try.prog 50 #[.pointer (some ⟨g, 0, none⟩)] w fun e w' => e = .returned (.int .i64 0) ∧ w = w')) (hx : 0 ≤ k) (hm : (if (b.size : Int) < k then (b.size : Int) else k) = m) (hl : a.size + b.size ≤ 1000000) : Calls Try.prog 31 #[.pointer (some ⟨g, 0, none⟩), .int .i64 k] w fun e w' => e = .returned (.int .i64 0) ∧ Box w' g 66 #[.int .i64 sz, .string (a ++ b.extract 0 m), .string ByteArray.empty, .bool false, .string ByteArray.empty, .bool true] ∧ Only [g] w w' := by
  have hml : m ≤ b.size := by split at hm <;> omega
  have hcm : (0 : Int) ≤ (m : Int) ∧ (m : Int) ≤ (b.size : Int) := by omega
  have hes : (b.extract 0 m).size = m := by simp; omega
  have hns : ¬ 9223372036854775807 < a.size + m := by omega
  have i1 : ∀ i : Idx w, i.at.cell? ⟨g, 1, none⟩ = some (.string a) := fun i => (hb.idx i).cell 1 _ rfl
  have i2 : ∀ i : Idx w, i.at.cell? ⟨g, 2, none⟩ = some (.string b) := fun i => (hb.idx i).cell 2 _ rfl
  have HB := Lib.hid hb
  clear hb
  go_enter Try.func31, Try.ntmps31
  go_upto_region 6 with (go_at_call 50; refine H.out.mono ?_; rintro _ _ ⟨rfl, rfl⟩)
  clear H
  refine wp_region_mixT [1, 1, 1, 1, 0, 1, 1, 1, 0, 1, 1, 1, 1, 0, 1, 1, 1, 1, 2] (by kernel_rfl) (by kernel_rfl) ?_
  iterate 4 (refine wpMix_pure (fun K hK => ?_); go_simp; refine hK _ ?_; clear hK K)
  refine wpMix_calm (fun K hK => ?_); go_simp; refine hK _ ?_; clear hK K
  iterate 3 (refine wpMix_pure (fun K hK => ?_); go_simp; refine hK _ ?_; clear hK K)
  refine wpMix_calm (fun K hK => ?_); go_simp; refine hK _ ?_; clear hK K
  iterate 4 (refine wpMix_pure (fun K hK => ?_); go_simp; refine hK _ ?_; clear hK K)
  refine wpMix_calm (fun K hK => ?_); go_simp; refine hK _ ?_; clear hK K
  iterate 2 (refine wpMix_pure (fun K hK => ?_); go_simp; refine hK _ ?_; clear hK K)
  refine wpMix_pure (fun K hK => ?_)
  go_simp
  refine hK _ ?_
  clear hK K
  refine wpMix_pure (fun K hK => ?_)
  go_simp
  refine hK _ ?_
  clear hK K
  refine wpMix_own (fun w2 hb2 K hK => ?_)
  go_simp
  go_at_call 51
  refine (rset_any w2 g sz a b c _ rep down (HB.out.next hb2)).mono ?_
  rintro _ w3 ⟨rfl, P, ho⟩
  refine ⟨_, rfl, hK _ _ ?_⟩
  clear hK K i1 i2
  have hO := (Only.of_up hb2).trans ho (fun x hx => .inl hx)
  clear ho hb2
  refine wpMix_nil (fun w4 hb4 => ?_)
  replace P := P.next hb4
  replace hO := hO.up hb4
  clear hb4
  have c5 := P.cell 5 _ rfl
  have f5 := P.frozen 5
  have l5 := P.lt
  go_wp2
  go_ret
  exact ⟨rfl, (P.set 5 (.bool true)).eq_ (by simp), hO.set (.inl (by simp)) _⟩
end Go.Proofs.Ytjcojgblnbhejaa
