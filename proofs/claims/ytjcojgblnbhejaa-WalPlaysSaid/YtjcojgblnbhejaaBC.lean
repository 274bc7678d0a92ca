/- Split of the program and of the reference: the walks. -/
import Derived.Test.YtjcojgblnbhejaaBB
namespace Go.Proofs.Ytjcojgblnbhejaa
open Go.ChangeShapes Go.WideShapes Go.ChangeAt Go.RowKit

def SplitRel (s : List UInt8) (w : World) (u i : Value) (wr : World) : Prop := ∃ (l : List (List UInt8)) (k : Nat) (v : Value), v = u ∧ i = .int .i64 k ∧ k ≤ s.length ∧ OwnS wr w.heap.size v l ∧ Below w.heap.size w wr ∧ splitV s = (l ++ (splitV (s.drop k)).1, k + (splitV (s.drop k)).2) ∧ l.length ≤ k
theorem split_go (s : List UInt8) (l : List (List UInt8)) (k : Nat) (h : splitV s = (l ++ (splitV (s.drop k)).1, k + (splitV (s.drop k)).2)) (he : (openV (s.drop k)).e = 0) :
    splitV s = ((l ++ [(openV (s.drop k)).body]) ++ (splitV (s.drop (k + (openV (s.drop k)).n))).1, (k + (openV (s.drop k)).n) + (splitV (s.drop (k + (openV (s.drop k)).n))).2) := by
  rw [splitV_step (s.drop k), if_pos he, List.drop_drop] at h
  rw [h]
  simp [Nat.add_assoc]
theorem split_end (s : List UInt8) (l : List (List UInt8)) (k : Nat) (h : splitV s = (l ++ (splitV (s.drop k)).1, k + (splitV (s.drop k)).2)) (he : (openV (s.drop k)).e ≠ 0) : splitV s = (l, k) := by
  rw [splitV_step (s.drop k), if_neg he] at h
  rw [h]
  simp
theorem split_len (s : List UInt8) (l : List (List UInt8)) (k : Nat) (h : splitV s = (l ++ (splitV (s.drop k)).1, k + (splitV (s.drop k)).2)) (hk : k = s.length) : splitV s = (l, k) := by
  refine split_end s l k h ?_
  rw [hk, List.drop_length]
  decide
/-- The slice, if it isn't nil, lies in a block from base on. -/
def Newer (base : Nat) (v : Value) : Prop := ∀ a n c, v = .slice (some a) n c → base ≤ a.block
theorem OwnS.newer {w : World} {base : Nat} {v : Value} {l : List (List UInt8)} (h : OwnS w base v l) : Newer base v := by
  intro a n c he
  rcases h.2 with ⟨h0, _⟩ | ⟨g, cap, cur, h0, hg, _⟩
  · rw [he] at h0
    cases h0
  · rw [he] at h0
    injection h0 with h1
    injection h1 with h1
    subst h1
    exact hg
def StrsN (w : World) (base : Nat) (v : Value) (l : List (List UInt8)) : Prop := Strs w v l ∧ Newer base v
/-- What splitting returns. -/
def Splits (s : List UInt8) (w : World) (e : Ending) (w' : World) : Prop := ∃ v, e = .returned (.tuple #[v, .int .i64 (splitV s).2]) ∧ StrsN w' w.heap.size v (splitV s).1 ∧ Below w.heap.size w w'
theorem splits_of {s : List UInt8} {l : List (List UInt8)} {k : Nat} {w w' : World} {e : Ending} (h : splitV s = (l, k)) (H : ∃ v, e = .returned (.tuple #[v, .int .i64 k]) ∧ StrsN w' w.heap.size v l ∧ Below w.heap.size w w') : Splits s w e w' := by
  unfold Splits
  rw [h]
  exact H
/-- A slice cut off at its own length. -/
theorem Strs.cut {w : World} {A : Option Addr} {n c c' : Nat} {l : List (List UInt8)} (h : Strs w (.slice A n c) l) (hn : n ≤ c') : Strs w (.slice A n c') l := by
  obtain ⟨B, d, h1, h2, h3, h4⟩ := h
  injection h1 with e1 e2 e3
  subst e1 e2 e3
  exact ⟨_, _, rfl, h2, h3, hn⟩
set_option maxRecDepth 100000 in
set_option maxHeartbeats 1000000 in
theorem split_any (t : ByteArray) (w : World) (hs : t.size ≤ 1000000) : Calls Try.prog 41 #[.string t] w (Splits t.data.toList w) := by
  have hl : t.data.toList.length = t.size := Array.length_toList
  generalize hs' : t.data.toList = s at *
  have HS := Lib.hid hs'
  clear hs'
  go_enter Try.func41, Try.ntmps41
  go_wp2
  go_loopw [4, 5] (SplitRel s w) (fun _ i _ => (t.size + 1 - (intOf i).toNat))
  case atStart => exact ⟨[], 0, _, rfl, rfl, by omega, OwnS.nil _ _, Below.refl _ _, by simp, by simp⟩
  case round =>
    obtain ⟨l, k, v, rfl, rfl, hk, ho, hB, hsp, hlk⟩ := hrel
    have hop : Hid (∀ W, Calls Try.prog 57 #[.string (t.extract k t.size)] W fun e w' => e = .returned (.tuple #[.string (bs (openV (s.drop k)).body), .int .i64 (openV (s.drop k)).n, .int .i64 (openV (s.drop k)).e]) ∧ Below W.heap.size W w') := Lib.hid fun W => by
      have h1 := open_any (t.extract k t.size) W (by rw [ext_size _ _ _ (Nat.le_refl _)]; omega)
      rwa [ext_list, List.take_of_length_le (by rw [List.length_drop, Array.length_toList]; exact Nat.le_refl _), HS.out] at h1
    have hz := hB.size
    have hk0 : (0 : Int) ≤ k := by omega
    have hki : (k : Int) ≤ t.size := by omega
    by_cases hlt : k < t.size
    · by_cases he : (openV (s.drop k)).e = 0
      · have hlt' : (k : Int) < t.size := by omega
        have hsg := Lib.hid (split_go s l k hsp he)
        have hoo := open_ok he
        rw [List.length_drop] at hoo
        clear hsp
        rw [he] at hop
        clear he
        generalize (openV (s.drop k)).n = n at *
        generalize (openV (s.drop k)).body = b at *
        go_wp2_with fail
        refine (hop.out _).mono ?_
        rintro _ w2 ⟨rfl, hb⟩
        replace ho := ho.up hb
        replace hB := below_step hB hb
        have hz2 := hb.size
        clear hb hop hk0 hki
        have hwr : (k : Int) + n ≤ 1000000 := by omega
        have hsrc := (Box.new w2 9 #[.string (bs b)]).cell 0 _ rfl
        have hbb : Below w.heap.size w (w2.alloc (.cells #[.string (bs b)] 9)) := below_box hB _
        go_wp2_with (at_builtin; go_loud (refine wpList_push rfl (.tmp 23) (.tmp 25) rfl w.heap.size v l b w2.heap.size 1 rfl rfl (ho.up (below_box (Below.refl _ _) _)) hsrc hbb (by simp; omega) (by omega) ?_); intro v' w3 ho3 hB3; clear hsrc hbb)
        go_roundw
        case rel => exact ⟨l ++ [b], k + n, _, rfl, by go_num, by omega, ho3, hB3, hsg.out, by rw [List.length_append]; simp only [List.length_cons, List.length_nil]; omega⟩
        case measure => simp [intOf]; omega
      · have hlt' : (k : Int) < t.size := by omega
        have hse := split_end s l k hsp he
        clear hsp
        have hne : ((openV (s.drop k)).e != 0) = true := bne_iff_ne.2 he
        clear he
        generalize (openV (s.drop k)).n = n at *
        generalize (openV (s.drop k)).body = b at *
        generalize (openV (s.drop k)).e = er at *
        go_wp2_with fail
        refine (hop.out _).mono ?_
        rintro _ w2 ⟨rfl, hb⟩
        replace ho := ho.up hb
        replace hB := below_step hB hb
        clear hb hop
        have hnw := ho.newer
        obtain ⟨A, cap, rfl, hsg, hA, hc⟩ := ho.strs
        have hst : StrsN w2 w.heap.size (.slice A l.length l.length) l := ⟨⟨A, _, rfl, hsg, hA, Nat.le_refl _⟩, fun a n c e => hnw a l.length cap (by cases e; rfl)⟩
        have HH := Lib.hid (And.intro hst (And.intro hse hB))
        clear ho hsg hA hst hse hB hnw
        go_wp2
        go_ret2
        obtain ⟨h1, h2, h3⟩ := HH.out
        exact splits_of h2 ⟨_, rfl, h1, h3⟩
    · obtain rfl : k = t.size := by omega
      have hse := split_len s l t.size hsp (by omega)
      have hnw := ho.newer
      obtain ⟨A, cap, rfl, hsg, hA, hc⟩ := ho.strs
      have hst : StrsN wr w.heap.size (.slice A l.length l.length) l := ⟨⟨A, _, rfl, hsg, hA, Nat.le_refl _⟩, fun a n c e => hnw a l.length cap (by cases e; rfl)⟩
      have HH := Lib.hid (And.intro hst (And.intro hse hB))
      clear ho hsg hA hst hse hB hnw hsp hop
      go_wp2
      go_ret2
      obtain ⟨h1, h2, h3⟩ := HH.out
      exact splits_of h2 ⟨_, rfl, h1, h3⟩
set_option maxRecDepth 100000 in
set_option maxHeartbeats 1000000 in
theorem rsplit_any (t : ByteArray) (w : World) (hs : t.size ≤ 1000000) : Calls Try.prog 42 #[.string t] w (Splits t.data.toList w) := by
  have hl : t.data.toList.length = t.size := Array.length_toList
  generalize hs' : t.data.toList = s at *
  have HS := Lib.hid hs'
  clear hs'
  go_enter Try.func42, Try.ntmps42
  go_wp2
  go_loopw [4, 5] (SplitRel s w) (fun _ i _ => (t.size + 1 - (intOf i).toNat))
  case atStart => exact ⟨[], 0, _, rfl, rfl, by omega, OwnS.nil _ _, Below.refl _ _, by simp, by simp⟩
  case round =>
    obtain ⟨l, k, v, rfl, rfl, hk, ho, hB, hsp, hlk⟩ := hrel
    have hop : Hid (∀ W, Calls Try.prog 58 #[.string (t.extract k t.size)] W fun e w' => e = .returned (.tuple #[.string (bs (openV (s.drop k)).body), .int .i64 (openV (s.drop k)).n, .int .i64 (openV (s.drop k)).e]) ∧ Below W.heap.size W w') := Lib.hid fun W => by
      have h1 := ropen_any (t.extract k t.size) W (by rw [ext_size _ _ _ (Nat.le_refl _)]; omega)
      rwa [ext_list, List.take_of_length_le (by rw [List.length_drop, Array.length_toList]; exact Nat.le_refl _), HS.out] at h1
    have hz := hB.size
    have hk0 : (0 : Int) ≤ k := by omega
    have hki : (k : Int) ≤ t.size := by omega
    by_cases he : (openV (s.drop k)).e = 0
    · have hsg := Lib.hid (split_go s l k hsp he)
      have hoo := open_ok he
      rw [List.length_drop] at hoo
      clear hsp
      rw [he] at hop
      clear he
      generalize (openV (s.drop k)).n = n at *
      generalize (openV (s.drop k)).body = b at *
      go_wp2_with fail
      refine (hop.out _).mono ?_
      rintro _ w2 ⟨rfl, hb⟩
      replace ho := ho.up hb
      replace hB := below_step hB hb
      have hz2 := hb.size
      clear hb hop hk0 hki
      have hwr : (k : Int) + n ≤ 1000000 := by omega
      have hsrc := (Box.new w2 9 #[.string (bs b)]).cell 0 _ rfl
      have hbb : Below w.heap.size w (w2.alloc (.cells #[.string (bs b)] 9)) := below_box hB _
      go_wp2_with (at_builtin; go_loud (refine wpList_push rfl (.tmp 21) (.tmp 23) rfl w.heap.size v l b w2.heap.size 1 rfl rfl (ho.up (below_box (Below.refl _ _) _)) hsrc hbb (by simp; omega) (by omega) ?_); intro v' w3 ho3 hB3; clear hsrc hbb)
      go_roundw
      case rel => exact ⟨l ++ [b], k + n, _, rfl, by go_num, by omega, ho3, hB3, hsg.out, by rw [List.length_append]; simp only [List.length_cons, List.length_nil]; omega⟩
      case measure => simp [intOf]; omega
    · have hse := split_end s l k hsp he
      clear hsp
      have hne : ((openV (s.drop k)).e != 0) = true := bne_iff_ne.2 he
      clear he
      generalize (openV (s.drop k)).n = n at *
      generalize (openV (s.drop k)).body = b at *
      generalize (openV (s.drop k)).e = er at *
      go_wp2_with fail
      refine (hop.out _).mono ?_
      rintro _ w2 ⟨rfl, hb⟩
      replace ho := ho.up hb
      replace hB := below_step hB hb
      clear hb hop
      have HH := Lib.hid (And.intro (show StrsN w2 w.heap.size _ l from ⟨ho.strs, ho.newer⟩) (And.intro hse hB))
      clear ho hse hB
      go_wp2
      go_ret2
      obtain ⟨h1, h2, h3⟩ := HH.out
      exact splits_of h2 ⟨_, rfl, h1, h3⟩
end Go.Proofs.Ytjcojgblnbhejaa
