/- The reference's disk: its block holds strings; contracts of its methods. -/
import Derived.Test.YtjcojgblnbhejaaDF
import Derived.Test.YtjcojgblnbhejaaXN
namespace Go.Proofs.Ytjcojgblnbhejaa
open Go.ChangeShapes Go.WideShapes Go.ChangeAt Go.RowKit
attribute [local go_sem] ownAt ownUpon mixAt mixUpon

theorem ret_bool' {a b : Bool} (h : a = b) : Ending.returned (.bool a) = .returned (.bool b) := by rw [h]

def rcells (sz : Int) (a b : ByteArray) (rep : Bool) (c : ByteArray) (down : Bool) : Array Value := #[.int .i64 sz, .string a, .string b, .bool rep, .string c, .bool down]
theorem made_box (w : World) (g : Nat) (sz : Int) (a b c : ByteArray) (rep down : Bool) (hb : Box w g 66 #[.int .i64 sz, .string a, .string b, .bool rep, .string c, .bool down]) (_h0 : 0 ≤ sz) : Calls Try.prog 52 #[.pointer (some ⟨g, 0, none⟩)] w fun e w' => e = .returned (.bool (decide (0 < sz))) ∧ w = w' := by
  have c0 := hb.cell 0 _ rfl
  have l0 := hb.lt
  clear hb
  go_enter Try.func52, Try.ntmps52
  go_wp2
  go_ret
  exact ⟨rfl, rfl⟩
theorem rready_box (w : World) (g : Nat) (sz : Int) (a b c : ByteArray) (rep down : Bool) (hb : Box w g 66 #[.int .i64 sz, .string a, .string b, .bool rep, .string c, .bool down]) (h0 : 0 ≤ sz) : Calls Try.prog 50 #[.pointer (some ⟨g, 0, none⟩)] w fun e w' => e = .returned (.int .i64 (if sz = 0 then 10 else if down then 22 else 0)) ∧ w = w' := by
  have hm := Lib.hid (made_box w g sz a b c rep down hb h0)
  have c5 := hb.cell 5 _ rfl
  have l0 := hb.lt
  clear hb
  by_cases hz : sz = 0
  · rw [if_pos hz]
    rw [show decide (0 < sz) = false by simp; omega] at hm
    go_enter Try.func50, Try.ntmps50
    go_wp2_with (go_at_call 52; refine hm.out.mono ?_; rintro _ _ ⟨rfl, rfl⟩)
    go_ret
    exact ⟨rfl, rfl⟩
  · rw [if_neg hz]
    rw [show decide (0 < sz) = true by simp; omega] at hm
    cases down
    all_goals
      go_enter Try.func50, Try.ntmps50
      go_wp2_with (go_at_call 52; refine hm.out.mono ?_; rintro _ _ ⟨rfl, rfl⟩)
      go_ret
      exact ⟨rfl, rfl⟩
theorem rcontents_yes (w : World) (g : Nat) (sz : Int) (a b c : ByteArray) (rep down : Bool) (hb : Box w g 66 #[.int .i64 sz, .string a, .string b, .bool rep, .string c, .bool down]) (H : Hid (Calls Try.prog 50 #[.pointer (some ⟨g, 0, none⟩)] w fun e w' => e = .returned (.int .i64 0) ∧ w = w')) (hl : a.size + b.size ≤ 1000000) : Calls Try.prog 35 #[.pointer (some ⟨g, 0, none⟩)] w fun e w' => e = .returned (.string (if rep then c else a ++ b)) ∧ Below w.heap.size w w' := by
  have c1 := hb.cell 1 _ rfl
  have c2 := hb.cell 2 _ rfl
  have c3 := hb.cell 3 _ rfl
  have c4 := hb.cell 4 _ rfl
  have l0 := hb.lt
  have HB := Lib.hid hb
  clear hb
  have i1 : ∀ i : Idx w, i.at.cell? ⟨g, 1, none⟩ = some (.string a) := fun i => (HB.out.idx i).cell 1 _ rfl
  have i2 : ∀ i : Idx w, i.at.cell? ⟨g, 2, none⟩ = some (.string b) := fun i => (HB.out.idx i).cell 2 _ rfl
  have hns : ¬ 9223372036854775807 < a.size + b.size := by omega
  cases rep
  · go_enter Try.func35, Try.ntmps35
    go_upto_region 5 with (go_at_call 50; refine H.out.mono ?_; rintro _ _ ⟨rfl, rfl⟩)
    refine wp_region_mix [0, 0, 0, 0, 0, 0, 0, 0, 0, 1] (by kernel_rfl) (by kernel_rfl) ?_
    iterate 8 (refine wpMix_calm (fun K hK => ?_); go_simp; refine hK _ ?_; clear hK K)
    refine wpMix_calm (fun K hK => ?_)
    go_simp
    first | (refine hK _ ?_; clear hK K) | (simp only [if_neg hns]; go_simp; refine hK _ ?_; clear hK K)
    refine wpMix_pure (fun K hK => ?_)
    go_simp
    refine hK _ ?_
    clear hK K i1 i2
    refine wpMix_nil (fun w33 hb => ?_)
    go_wp2
    go_ret
    exact ⟨rfl, hb⟩
  · go_enter Try.func35, Try.ntmps35
    go_wp2_with (go_at_call 50; refine H.out.mono ?_; rintro _ _ ⟨rfl, rfl⟩)
    go_ret
    exact ⟨rfl, Below.refl _ _⟩
theorem rset_any (w : World) (g : Nat) (sz : Int) (a b c x : ByteArray) (rep down : Bool) (hb : Box w g 66 #[.int .i64 sz, .string a, .string b, .bool rep, .string c, .bool down]) : Calls Try.prog 51 #[.pointer (some ⟨g, 0, none⟩), .string x] w fun e w' => e = .returned (.tuple #[]) ∧ Box w' g 66 #[.int .i64 sz, .string x, .string ByteArray.empty, .bool false, .string ByteArray.empty, .bool down] ∧ Only [g] w w' := by
  have c1 := hb.cell 1 _ rfl
  have c2 := hb.cell 2 _ rfl
  have c3 := hb.cell 3 _ rfl
  have c4 := hb.cell 4 _ rfl
  have f1 := hb.frozen 1
  have f2 := hb.frozen 2
  have f3 := hb.frozen 3
  have f4 := hb.frozen 4
  have l0 := hb.lt
  go_enter Try.func51, Try.ntmps51
  go_wp2
  go_end0
  refine ⟨rfl, ((((hb.set 1 (.string x)).set 2 (.string ByteArray.empty)).set 3 (.bool false)).set 4 (.string ByteArray.empty)).eq_ (by simp), ((((Only.refl [g] w).set (.inl (by simp)) _).set (.inl (by simp)) _).set (.inl (by simp)) _).set (.inl (by simp)) _⟩
theorem rsynced_box (w : World) (g : Nat) (sz : Int) (a b c : ByteArray) (rep down : Bool) (hb : Box w g 66 #[.int .i64 sz, .string a, .string b, .bool rep, .string c, .bool down]) (h0 : 0 ≤ sz) : Calls Try.prog 53 #[.pointer (some ⟨g, 0, none⟩)] w fun e w' => e = .returned (.int .i64 (if sz = 0 then 0 else a.size)) ∧ w = w' := by
  have hm := Lib.hid (made_box w g sz a b c rep down hb h0)
  have c1 := hb.cell 1 _ rfl
  have l0 := hb.lt
  clear hb
  by_cases hz : sz = 0
  · rw [if_pos hz]
    rw [show decide (0 < sz) = false by simp; omega] at hm
    go_enter Try.func53, Try.ntmps53
    go_wp2_with (go_at_call 52; refine hm.out.mono ?_; rintro _ _ ⟨rfl, rfl⟩)
    go_ret
    exact ⟨rfl, rfl⟩
  · rw [if_neg hz]
    rw [show decide (0 < sz) = true by simp; omega] at hm
    go_enter Try.func53, Try.ntmps53
    go_wp2_with (go_at_call 52; refine hm.out.mono ?_; rintro _ _ ⟨rfl, rfl⟩)
    go_ret
    exact ⟨rfl, rfl⟩
theorem rdown_box (w : World) (g : Nat) (sz : Int) (a b c : ByteArray) (rep down : Bool) (hb : Box w g 66 #[.int .i64 sz, .string a, .string b, .bool rep, .string c, .bool down]) (h0 : 0 < sz) : Calls Try.prog 45 #[.pointer (some ⟨g, 0, none⟩)] w fun e w' => e = .returned (.bool down) ∧ w = w' := by
  have hm := Lib.hid (made_box w g sz a b c rep down hb (by omega))
  have c5 := hb.cell 5 _ rfl
  have l0 := hb.lt
  clear hb
  rw [show decide (0 < sz) = true by simp; omega] at hm
  go_enter Try.func45, Try.ntmps45
  go_wp2_with (go_at_call 52; refine hm.out.mono ?_; rintro _ _ ⟨rfl, rfl⟩)
  go_ret
  exact ⟨ret_bool' (by simp), rfl⟩
theorem rsync_yes (w : World) (g : Nat) (sz : Int) (a b c : ByteArray) (rep down : Bool) (x : ByteArray) (hb : Box w g 66 #[.int .i64 sz, .string a, .string b, .bool rep, .string c, .bool down]) (H : Hid (Calls Try.prog 50 #[.pointer (some ⟨g, 0, none⟩)] w fun e w' => e = .returned (.int .i64 0) ∧ w = w'))
    (HC : Hid (Calls Try.prog 35 #[.pointer (some ⟨g, 0, none⟩)] w fun e w' => e = .returned (.string x) ∧ Below w.heap.size w w')) : Calls Try.prog 47 #[.pointer (some ⟨g, 0, none⟩)] w fun e w' => e = .returned (.int .i64 0) ∧ Box w' g 66 #[.int .i64 sz, .string x, .string ByteArray.empty, .bool false, .string ByteArray.empty, .bool down] ∧ Only [g] w w' := by
  have HB := Lib.hid hb
  clear hb
  go_enter Try.func47, Try.ntmps47
  go_wp2_with (first
    | (go_at_call 50; refine H.out.mono ?_; rintro _ _ ⟨rfl, rfl⟩)
    | (go_at_call 35; refine HC.out.mono ?_; rintro _ w1 ⟨rfl, hB⟩)
    | (go_at_call 51; refine (rset_any w1 g sz a b c x rep down (HB.out.next hB)).mono ?_; rintro _ w2 ⟨rfl, P, ho⟩))
  go_ret
  exact ⟨rfl, P, (Only.of_up hB).trans ho (fun x hx => .inl hx)⟩
end Go.Proofs.Ytjcojgblnbhejaa
