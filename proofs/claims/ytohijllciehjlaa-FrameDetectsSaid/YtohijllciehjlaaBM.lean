/- FramePacks and FrameSplits: the walks. -/
import Derived.Test.YtohijllciehjlaaBK
import Derived.Test.YtohijllciehjlaaBL
namespace Go.Proofs.Ytohijllciehjlaa
open Go.ChangeShapes Go.WideShapes Go.ChangeAt Go.RowKit

theorem total_any (u : Value) (l : List (List UInt8)) (w : World) (h : Strs w u l) (hl : l.length ≤ 140737488355328) (hm : ∀ x ∈ l, x.length ≤ 140737488355328) : Calls Try.prog 9 #[u] w (Tot l w) := by
  obtain ⟨A, ca, rfl, hA, _⟩ := h
  exact total_seg A ca l w hA (by omega) hm
theorem unpackV_len (s : List UInt8) : (unpackV s).1.length ≤ 1000000 := by
  by_cases h : (unpackV s).2 = 0
  · have := (pack_unpack s h).1.1
    omega
  · have e : (unpackV s).1 = [] := by
      unfold unpackV at *
      split
      · rfl
      · next h1 =>
        rw [if_neg h1] at h
        split
        · rfl
        · next h2 =>
          rw [if_neg h2] at h
          exact unpF_bad _ _ h
    rw [e]
    decide
/-- What an argument of strings is. -/
def Arg (W : World) (A : Option Addr) (n cap : Nat) (l : List (List UInt8)) : Prop := l.length = n ∧ Strs W (.slice A n cap) l ∧ (∀ y ∈ l, y.length ≤ 140737488355328) ∧ n ≤ 140737488355328
set_option maxRecDepth 100000 in
set_option maxHeartbeats 2000000 in
theorem framePacks_walk (A : Option Addr) (n cap : Nat) (l : List (List UInt8)) (t : ByteArray) (W : World) (harg : Arg W A n cap l) {p1 : Prop} (_ : p1) : Calls Try.prog 3 #[.slice A n cap, .string t] W fun e w' => e = .returned (.bool true) ∧ Below W.heap.size W w' := by
  obtain ⟨hln, hs, hm, hmax⟩ := harg
  have HT := Lib.hid (total_any _ l W hs (by omega) hm)
  have hln2 := hln
  clear hm hln
  go_enter Try.func3, Try.ntmps3
  go_wp2_with fail
  refine HT.out.mono ?_
  rintro _ w1 ⟨v, rfl, hv, hB⟩
  clear HT
  replace hs := hs.up hB
  by_cases hv1 : 20000 < v
  · clear hv hln2
    go_wp2_with fail
    refine (awake_any _).mono ?_
    rintro _ w2 ⟨rfl, hb⟩
    replace hB := below_step hB hb
    go_wp2
    go_ret
    exact ⟨rfl, hB⟩
  have hv2 := hv (by omega)
  have hv3 : v ≤ 20000 := by omega
  clear hv hv1
  by_cases ht : 20000 < (t.size : Int)
  · clear hv2 hln2
    go_wp2_with fail
    refine (awake_any _).mono ?_
    rintro _ w2 ⟨rfl, hb⟩
    replace hB := below_step hB hb
    go_wp2
    go_ret
    exact ⟨rfl, hB⟩
  have ht2 : (t.size : Int) ≤ 20000 := by omega
  have hll : l.length ≤ 1000000 := by omega
  have htt : t.size ≤ 1000000 := by omega
  have hsl := unpackV_len t.data.toList
  have HL := Lib.hid (And.intro hll (And.intro htt hsl))
  clear ht hv2 hln2 hll htt hsl
  go_wp2_with fail
  refine (pack_any _ l _ hs).mono ?_
  rintro _ w2 ⟨rfl, hb⟩
  replace hs := hs.up hb
  replace hB := below_step hB hb
  clear hb
  go_wp2_with fail
  refine (rpack_any _ l _ hs).mono ?_
  rintro _ w3 ⟨rfl, hb⟩
  replace hB := below_step hB hb
  clear hb hs
  generalize (packV l).1 = ps
  generalize (packV l).2 = pe
  go_wp2_with fail
  refine (unpack_any t _ HL.out.2.1).mono ?_
  rintro _ w4 ⟨v1, rfl, s1, hb⟩
  replace hB := below_step hB hb
  clear hb
  go_wp2_with fail
  refine (runpack_any t _ HL.out.2.1).mono ?_
  rintro _ w5 ⟨v2, rfl, s2, hb⟩
  replace hB := below_step hB hb
  replace s1 := s1.up hb
  clear hb
  generalize (unpackV t.data.toList).2 = ue at *
  go_wp2_with fail
  refine (same_yes v1 v2 _ _ s1 s2 HL.out.2.2).mono ?_
  rintro _ w6 ⟨rfl, hb⟩
  replace hB := below_step hB hb
  clear hb s1 s2
  go_wp2_with fail
  refine (awake_any _).mono ?_
  rintro _ w7 ⟨rfl, hb⟩
  replace hB := below_step hB hb
  clear hb
  go_wp2
  go_ret
  exact ⟨rfl, hB⟩
set_option maxRecDepth 100000 in
set_option maxHeartbeats 2000000 in
theorem frameSplits_walk (A : Option Addr) (n cap : Nat) (l : List (List UInt8)) (t : ByteArray) (W : World) (harg : Arg W A n cap l) {p1 : Prop} (_ : p1) : Calls Try.prog 6 #[.slice A n cap, .string t] W fun e w' => e = .returned (.bool true) ∧ Below W.heap.size W w' := by
  obtain ⟨hln, hs, hm, hmax⟩ := harg
  have HT := Lib.hid (total_any _ l W hs (by omega) hm)
  have hln2 := hln
  clear hm hln
  go_enter Try.func6, Try.ntmps6
  go_wp2_with fail
  refine HT.out.mono ?_
  rintro _ w1 ⟨v, rfl, hv, hB⟩
  clear HT
  replace hs := hs.up hB
  by_cases hv1 : 20000 < v
  · clear hv hln2
    go_wp2_with fail
    refine (awake_any _).mono ?_
    rintro _ w2 ⟨rfl, hb⟩
    replace hB := below_step hB hb
    go_wp2
    go_ret
    exact ⟨rfl, hB⟩
  have hv2 := hv (by omega)
  have hv3 : v ≤ 20000 := by omega
  clear hv hv1
  by_cases ht : 20000 < (t.size : Int)
  · clear hv2 hln2
    go_wp2_with fail
    refine (awake_any _).mono ?_
    rintro _ w2 ⟨rfl, hb⟩
    replace hB := below_step hB hb
    go_wp2
    go_ret
    exact ⟨rfl, hB⟩
  have ht2 : (t.size : Int) ≤ 20000 := by omega
  have hll : l.length ≤ 1000000 := by omega
  have htt : t.size ≤ 1000000 := by omega
  have hsl := (show (splitV t.data.toList).1.length ≤ 1000000 by have h1 := splitV_len t.data.toList; rw [Array.length_toList] at h1; have h2 : t.data.size = t.size := rfl; omega)
  have HL := Lib.hid (And.intro hll (And.intro htt hsl))
  clear ht hv2 hln2 hll htt hsl
  go_wp2_with fail
  refine (join_any _ l _ hs HL.out.1).mono ?_
  rintro _ w2 ⟨rfl, hb⟩
  replace hs := hs.up hb
  replace hB := below_step hB hb
  clear hb
  go_wp2_with fail
  refine (rjoin_any _ l _ hs HL.out.1).mono ?_
  rintro _ w3 ⟨rfl, hb⟩
  replace hB := below_step hB hb
  clear hb hs
  generalize (joinV l).1 = ps
  generalize (joinV l).2 = pe
  go_wp2_with fail
  refine (split_any t _ HL.out.2.1).mono ?_
  rintro _ w4 ⟨v1, rfl, s1, hb⟩
  replace hB := below_step hB hb
  clear hb
  go_wp2_with fail
  refine (rsplit_any t _ HL.out.2.1).mono ?_
  rintro _ w5 ⟨v2, rfl, s2, hb⟩
  replace hB := below_step hB hb
  replace s1 := s1.up hb
  clear hb
  generalize (splitV t.data.toList).2 = ue at *
  go_wp2_with fail
  refine (same_yes v1 v2 _ _ s1 s2 HL.out.2.2).mono ?_
  rintro _ w6 ⟨rfl, hb⟩
  replace hB := below_step hB hb
  clear hb s1 s2
  go_wp2_with fail
  refine (awake_any _).mono ?_
  rintro _ w7 ⟨rfl, hb⟩
  replace hB := below_step hB hb
  clear hb
  go_wp2
  go_ret
  exact ⟨rfl, hB⟩
end Go.Proofs.Ytohijllciehjlaa
