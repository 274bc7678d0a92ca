/- Seal of the reference: the walk. -/
import Derived.Test.YtjcojgblnbhejaaST
import Derived.Test.YtjcojgblnbhejaaZ
import Derived.Test.YtjcojgblnbhejaaXM
namespace Go.Proofs.Ytjcojgblnbhejaa
open Go.ChangeShapes Go.WideShapes Go.ChangeAt Go.RowKit
attribute [local go_sem] ownAt ownUpon mixAt mixUpon

/-- The slice over four bytes that lies in block g reads as the string x in every later world. -/
def Reads (w : World) (g : Nat) (x : ByteArray) : Prop := ∀ w', Below w.heap.size w w' → (convert 59 9 (.slice (some ⟨g, 0, none⟩) 4 4)).run Try.prog w' = .ok (.string x) w'
theorem four_reads (n : Nat) (w : World) (hn : n < 4294967296) : Calls Try.prog 59 #[.int .u32 n] w fun e w' => ∃ g, e = .returned (.slice (some ⟨g, 0, none⟩) 4 4) ∧ Reads w' g (bs (num4 n)) ∧ Below w.heap.size w w' :=
  (four_any n w hn).mono fun _ _ ⟨g, he, hb, hw⟩ => ⟨g, he, fun _ hb2 => conv4 (hb.next hb2) hn, hw⟩
set_option maxHeartbeats 400000 in
theorem rseal_core (t x y : ByteArray) (z : Nat) (w : World) (ht : (t.size : Int) ≤ 262136) (s1 : x.size = 4) (s2 : y.size = 4)
    (hA : Hid (∀ W, Calls Try.prog 59 #[.int .u32 t.size] W fun e w' => ∃ g, e = .returned (.slice (some ⟨g, 0, none⟩) 4 4) ∧ Reads w' g x ∧ Below W.heap.size W w'))
    (hC : Hid (∀ W, Calls Try.prog 60 #[.string t] W fun e w' => e = .returned (.int .u32 z) ∧ W = w'))
    (hB : Hid (∀ W, Calls Try.prog 59 #[.int .u32 z] W fun e w' => ∃ g, e = .returned (.slice (some ⟨g, 0, none⟩) 4 4) ∧ Reads w' g y ∧ Below W.heap.size W w')) :
    Calls Try.prog 48 #[.string t] w fun e w' => e = .returned (.tuple #[.string (x ++ y ++ t), .int .i64 0]) ∧ Below w.heap.size w w' := by
  have hns : ¬ 9223372036854775807 < 4 + 4 + t.size := by omega
  have hwr : IntKind.u32.wrap (t.size : Int) = t.size := by rw [IntKind.wrap_u32']; omega
  go_enter Try.func48, Try.ntmps48
  go_upto_region 3 with fail
  refine wp_region_mixoT [1, 1, 1, 3, 0, 1, 0, 3, 0, 1, 1, 1, 1, 1] [0, 1, 2, 5, 10, 3, 4, 6, 7, 8, 9, 11, 12, 13] (by kernel_rfl) (by kernel_rfl) rfl ?_
  iterate 5 (refine wpMix_pure (fun K hK => ?_); go_simp; refine hK _ ?_; clear hK K)
  refine wpMix_grow (fun w2 hb2 K hK => ?_)
  go_simp
  go_at_call 59
  refine (hA.out _).mono ?_
  rintro _ w3 ⟨g1, rfl, B1, hb3⟩
  refine ⟨_, rfl, below_step hb2 hb3, hK _ _ ?_⟩
  clear hK K
  have hB3 := below_step hb2 hb3
  clear hb2 hb3
  have i1 : ∀ i : Idx w3, (convert 59 9 (.slice (some ⟨g1, 0, none⟩) 4 4)).run Try.prog i.at = .ok (.string x) i.at := fun i => B1 _ i.below
  refine wpMix_calm (fun K hK => ?_); go_simp; refine hK _ ?_; clear hK K
  refine wpMix_calm (fun K hK => ?_)
  go_simp
  apply Exists.intro
  refine ⟨fun _ => ?_, hK _ ?_⟩
  go_at_call 60
  exact (hC.out _).mono fun _ _ ⟨he, h⟩ => ⟨he, h ▸ Below.refl _ _⟩
  clear hK K i1 B1
  refine wpMix_grow (fun w4 hb4 K hK => ?_)
  go_simp
  go_at_call 59
  refine (hB.out _).mono ?_
  rintro _ w5 ⟨g2, rfl, B2, hb5⟩
  refine ⟨_, rfl, below_step hb4 hb5, hK _ _ ?_⟩
  clear hK K
  have hB5 := below_step hB3 (below_step hb4 hb5)
  clear hb4 hb5 hB3
  have i2 : ∀ i : Idx w5, (convert 59 9 (.slice (some ⟨g2, 0, none⟩) 4 4)).run Try.prog i.at = .ok (.string y) i.at := fun i => B2 _ i.below
  refine wpMix_calm (fun K hK => ?_); go_simp; refine hK _ ?_; clear hK K
  clear i2 B2
  iterate 4 (refine wpMix_pure (fun K hK => ?_); go_simp; refine hK _ ?_; clear hK K)
  refine wpMix_nil (fun w6 hb6 => ?_)
  have hB6 := Lib.hid (below_step hB5 hb6)
  clear hB5 hb6
  go_wp2
  go_ret2
  exact ⟨rfl, hB6.out⟩
theorem rseal_yes (t : ByteArray) (w : World) (ht : (t.size : Int) ≤ 262136) : Calls Try.prog 48 #[.string t] w fun e w' => e = .returned (.tuple #[.string (bs (sealL t.data.toList)), .int .i64 0]) ∧ Below w.heap.size w w' := by
  have hs : bs (sealL t.data.toList) = bs (num4 t.size) ++ bs (num4 (crcV t.data.toList)) ++ t := by
    have hl : t.data.toList.length = t.size := Array.length_toList
    unfold sealL
    rw [hl, ← bs_app, ← bs_app, ← bs_list t]
    apply ByteArray.ext
    simp [ByteArray.data_append, Array.append_assoc]
  rw [hs]
  exact rseal_core t _ _ (crcV t.data.toList) w ht (bs_size _) (bs_size _) (Lib.hid fun W => four_reads t.size W (by omega)) (Lib.hid fun W => rcrc_any t W (by omega)) (Lib.hid fun W => four_reads (crcV t.data.toList) W (by have := crcV_lt t.data.toList; omega))
theorem rseal_no (t : ByteArray) (w : World) (ht : 262136 < (t.size : Int)) : Calls Try.prog 48 #[.string t] w fun e w' => e = .returned (.tuple #[.string ByteArray.empty, .int .i64 3]) ∧ Below w.heap.size w w' := by
  go_enter Try.func48, Try.ntmps48
  go_wp2
  go_ret2
  exact ⟨rfl, Below.refl _ _⟩
end Go.Proofs.Ytjcojgblnbhejaa
