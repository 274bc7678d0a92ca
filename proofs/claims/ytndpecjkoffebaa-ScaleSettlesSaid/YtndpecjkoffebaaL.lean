/- The examples of layer 42 (awake) hold. -/
import Derived.Test.YtndpecjkoffebaaK
import Derived.Test.YtndpecjkoffebaaM
namespace Go.Proofs.Ytndpecjkoffebaa
open Go.ChangeShapes Go.WideShapes Go.ChangeAt Go.RowKit
attribute [local go_sem] ownAt ownUpon mixAt mixUpon

def eq2 (a b a' b' : Int) : Bool := a == a' && b == b'
theorem eq2_self (a b : Int) : eq2 a b a b = true := by simp [eq2]
theorem eql25 (a b a' b' : Int) (w : World) : (binOp .eql 25 (.agg #[.int .i64 a, .int .i64 b]) (.agg #[.int .i64 a', .int .i64 b'])).run Try.prog w = .ok (.bool (eq2 a b a' b')) w := by
  unfold eq2
  cases h1 : a == a' <;> cases h2 : b == b' <;> simp [go_sem, h1, h2]
attribute [local go_sem high] eql25

theorem example_any (w : World) : Calls Try.prog 30 #[] w fun e w' => e = .returned (.agg #[.int .i64 10, .int .i64 1, .int .i64 5, .int .i64 2, .int .i64 1, .int .i64 0, .int .i64 0]) ∧ Below w.heap.size w w' := by
  go_enter Try.func30, Try.ntmps30
  go_wp2
  exact bodyPost_ret (v := .agg #[.int .i64 10, .int .i64 1, .int .i64 5, .int .i64 2, .int .i64 1, .int .i64 0, .int .i64 0]) (by simp [results, Try.results30, go_sem]) rfl ⟨rfl, (Below.refl _ _).alloc (Nat.le_refl _) _⟩

theorem start_ex (w : World) : Calls Try.prog 9 #[.agg #[.int .i64 10, .int .i64 1, .int .i64 5, .int .i64 2, .int .i64 1, .int .i64 0, .int .i64 0]] w fun e w' => e = .returned (.tuple #[.agg #[.int .i64 1, .int .i64 (-1)], .int .i64 0]) ∧ Below w.heap.size w w' := by
  have h := start_any 10 1 5 2 1 0 0 w
  rw [show startV 10 1 5 2 1 0 0 = ⟨1, -1, 0⟩ from rfl] at h
  exact h
theorem des_ex (w : World) : Calls Try.prog 11 #[.agg #[.int .i64 10, .int .i64 0, .int .i64 9, .int .i64 1, .int .i64 1, .int .i64 0, .int .i64 0], .int .i64 21] w fun e w' => e = .returned (.tuple #[.int .i64 3, .int .i64 0]) ∧ Below w.heap.size w w' := by
  have h := des_any 10 0 9 1 1 0 0 21 w
  rw [show desV 10 0 9 1 1 0 0 21 = ⟨3, 0⟩ from rfl] at h
  exact h
theorem set_ex (w : World) : Calls Try.prog 15 #[.agg #[.int .i64 1, .int .i64 0, .int .i64 9, .int .i64 3, .int .i64 1, .int .i64 0, .int .i64 0], .agg #[.int .i64 2, .int .i64 (-1)], .int .i64 9] w fun e w' => e = .returned (.tuple #[.int .i64 3, .int .i64 0]) ∧ Below w.heap.size w w' := by
  have h := set_any 1 0 9 3 1 0 0 2 (-1) 9 w
  rw [show setV 1 0 9 3 1 0 0 2 (-1) 9 = ⟨3, 0⟩ from rfl] at h
  exact h
theorem check_ex (w : World) : Calls Try.prog 17 #[.agg #[.int .i64 0, .int .i64 0, .int .i64 0, .int .i64 0, .int .i64 0, .int .i64 0, .int .i64 0]] w fun e w' => e = .returned (.int .i64 2) ∧ Below w.heap.size w w' := check_any 0 0 0 0 0 0 0 w
theorem play_ex (A : Option Addr) (w : World) (hls : Seg w A 3 (ints [40, 40, 0])) : Calls Try.prog 20 #[.agg #[.int .i64 10, .int .i64 1, .int .i64 5, .int .i64 2, .int .i64 1, .int .i64 0, .int .i64 0], .agg #[.int .i64 1, .int .i64 (-1)], .slice A 3 3, .int .i64 0] w (ListOut w ⟨[3, 4, 3], 0⟩) := by
  have h := play_any 10 1 5 2 1 0 0 1 (-1) 0 A 3 3 [40, 40, 0] w rfl hls ⟨by omega, by omega⟩
  rw [show playV 10 1 5 2 1 0 0 1 (-1) [40, 40, 0] 0 = ⟨[3, 4, 3], 0⟩ from rfl] at h
  exact h

theorem seg_of_box {w : World} {b : Nat} {zs : List Int} (h : Box w b 3 (zs.map (Value.int .i64)).toArray) : Seg w (some ⟨b, 0, none⟩) zs.length (ints zs) := fun k hk =>
  ⟨b, 0, rfl, h.lt, by rw [Nat.zero_add]; exact h.cell k _ (by simp [ints, List.getD, hk])⟩
theorem own_slice {w : World} {base n : Nat} {v : Value} {zs : List Int} (h : w.ownsRow base 3 1 v n (zs.map (Value.int .i64))) (h0 : 0 < n) :
    ∃ b o cap, v = .slice (some ⟨b, o, none⟩) n cap ∧ Seg w (some ⟨b, o, none⟩) n (ints zs) := by
  obtain ⟨A, cap, rfl, hs, _, _⟩ := own_ints h
  obtain ⟨b, o, rfl, _, _⟩ := hs 0 h0
  exact ⟨b, o, cap, rfl, hs⟩
theorem seg3 {w : World} {b o : Nat} {f : Nat → Value} (h : Seg w (some ⟨b, o, none⟩) 3 f) : w.cell? ⟨b, o, none⟩ = some (f 0) ∧ w.cell? ⟨b, o + 1, none⟩ = some (f 1) ∧ w.cell? ⟨b, o + 2, none⟩ = some (f 2) := by
  have q : ∀ k, k < 3 → w.cell? ⟨b, o + k, none⟩ = some (f k) := fun k hk => by
    obtain ⟨b', o', he, _, hc⟩ := h k hk
    obtain ⟨rfl, rfl⟩ : b = b' ∧ o = o' := by injection he with h; injection h with h1 h2; exact ⟨h1, h2⟩
    exact hc
  exact ⟨q 0 (by omega), q 1 (by omega), q 2 (by omega)⟩

set_option maxHeartbeats 1000000 in
theorem awake_any (w : World) : Calls Try.prog 19 #[] w fun e w' => e = .returned (.bool true) ∧ Below w.heap.size w w' := by
  go_enter Try.func19, Try.ntmps19
  go_wp2_with fail
  refine (example_any _).mono ?_
  rintro _ wx1 ⟨rfl, hb⟩
  have hB := hb
  clear hb
  go_wp2_with fail
  refine (start_ex _).mono ?_
  rintro _ wx2 ⟨rfl, hb⟩
  replace hB := below_step hB hb
  clear hb
  go_upto_region 2 with fail
  refine wp_forget (fun W => Box W (wx2.heap.size) 25 #[.int .i64 1, .int .i64 (-1)] ∧ Below w.heap.size w W)
    ⟨(Box.new wx2 25 #[.int .i64 1, .int .i64 (-1)]), (below_box hB _)⟩ ?_
  clear hB
  rintro wx3 ⟨S, hB⟩
  have cS_0 := S.cell 0 _ rfl
  have cS_1 := S.cell 1 _ rfl
  have lS := S.lt
  clear cS_0 cS_1 lS
  have iS_0 : ∀ i : Idx wx3, _ := fun i => (S.idx i).cell 0 _ rfl
  have iS_1 : ∀ i : Idx wx3, _ := fun i => (S.idx i).cell 1 _ rfl
  refine wp_region_mix [0, 0, 3, 3, 1, 1, 1, 1, 1] (by kernel_rfl) (by kernel_rfl) ?_
  refine wpMix_calm (fun K hK => ?_)
  go_simp
  apply Exists.intro
  refine ⟨fun _ => ?_, hK _ ?_⟩
  go_at_call 30
  exact (example_any _)
  clear hK K
  (refine wpMix_calm (fun K hK => ?_); go_simp; refine hK _ ?_; clear hK K)
  clear iS_0 iS_1
  refine wpMix_grow (fun wx4 hb K hK => ?_)
  have hbk := hb
  replace S := (S).next hb
  replace hB := below_step hB hb
  clear hb
  have cS_0 := S.cell 0 _ rfl
  have cS_1 := S.cell 1 _ rfl
  have lS := S.lt
  go_simp
  refine ⟨below_box hbk _, hK _ _ ?_⟩
  clear hK K hbk
  clear cS_0 cS_1 lS
  refine wpMix_grow (fun wx5 hb K hK => ?_)
  have hbk := hb
  replace S := (S.alloc _).next hb
  have L := ((Box.new wx4 3 #[.int .i64 40, .int .i64 40, .int .i64 0])).next hb
  replace hB := below_step (below_box hB _) hb
  clear hb
  have cS_0 := S.cell 0 _ rfl
  have cS_1 := S.cell 1 _ rfl
  have lS := S.lt
  have cL_0 := L.cell 0 _ rfl
  have cL_1 := L.cell 1 _ rfl
  have cL_2 := L.cell 2 _ rfl
  have lL := L.lt
  go_simp
  go_at_call 20
  refine (play_ex _ _ (seg_of_box (zs := [40, 40, 0]) L)).mono ?_
  rintro _ wx6 ⟨v, rfl, hown, hb⟩
  refine ⟨_, rfl, (below_step hbk hb).mono (by simp), hK _ _ ?_⟩
  clear hK K hbk
  clear cS_0 cS_1 lS cL_0 cL_1 cL_2 lL
  replace S := (S).next hb
  replace L := (L).next hb
  replace hB := below_step hB hb
  clear hb
  obtain ⟨b1, o1, cap1, rfl, hR⟩ := own_slice hown (by decide)
  clear hown
  iterate 5 (refine wpMix_pure (fun K hK => ?_); go_simp; refine hK _ ?_; clear hK K)
  refine wpMix_nil (fun wx7 hb => ?_)
  replace S := (S).next hb
  replace L := (L).next hb
  replace hR := hR.next hb
  replace hB := below_step hB hb
  clear hb
  have cS_0 := S.cell 0 _ rfl
  have cS_1 := S.cell 1 _ rfl
  have lS := S.lt
  have cL_0 := L.cell 0 _ rfl
  have cL_1 := L.cell 1 _ rfl
  have cL_2 := L.cell 2 _ rfl
  have lL := L.lt
  go_wp2_with fail
  refine (des_ex _).mono ?_
  rintro _ wx8 ⟨rfl, hb⟩
  clear cS_0 cS_1 lS cL_0 cL_1 cL_2 lL
  replace S := (S).next hb
  replace L := (L).next hb
  replace hR := hR.next hb
  replace hB := below_step hB hb
  clear hb
  have cS_0 := S.cell 0 _ rfl
  have cS_1 := S.cell 1 _ rfl
  have lS := S.lt
  have cL_0 := L.cell 0 _ rfl
  have cL_1 := L.cell 1 _ rfl
  have cL_2 := L.cell 2 _ rfl
  have lL := L.lt
  go_wp2_with fail
  refine (set_ex _).mono ?_
  rintro _ wx9 ⟨rfl, hb⟩
  clear cS_0 cS_1 lS cL_0 cL_1 cL_2 lL
  replace S := (S).next hb
  replace L := (L).next hb
  replace hR := hR.next hb
  replace hB := below_step hB hb
  clear hb
  have r0 : wx9.cell? ⟨b1, o1, none⟩ = some (.int .i64 3) := (seg3 hR).1
  have r1 : wx9.cell? ⟨b1, o1 + 1, none⟩ = some (.int .i64 4) := (seg3 hR).2.1
  have r2 : wx9.cell? ⟨b1, o1 + 2, none⟩ = some (.int .i64 3) := (seg3 hR).2.2
  have hq := eq2_self 1 (-1)
  have cS_0 := S.cell 0 _ rfl
  have cS_1 := S.cell 1 _ rfl
  have lS := S.lt
  have cL_0 := L.cell 0 _ rfl
  have cL_1 := L.cell 1 _ rfl
  have cL_2 := L.cell 2 _ rfl
  have lL := L.lt
  go_wp2_with fail
  refine (check_ex _).mono ?_
  rintro _ wx10 ⟨rfl, hb⟩
  clear cS_0 cS_1 lS cL_0 cL_1 cL_2 lL
  replace S := (S).next hb
  replace L := (L).next hb
  replace hR := hR.next hb
  replace hB := below_step hB hb
  clear hb
  go_wp2
  go_ret
  exact ⟨rfl, hB⟩

end Go.Proofs.Ytndpecjkoffebaa
