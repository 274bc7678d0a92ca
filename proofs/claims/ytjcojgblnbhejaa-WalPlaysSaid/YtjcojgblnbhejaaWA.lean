/- A log of the program over a disk: the methods, the walks. -/
import Derived.Test.YtjcojgblnbhejaaBC
import Derived.Test.YtjcojgblnbhejaaDI
namespace Go.Proofs.Ytjcojgblnbhejaa
open Go.ChangeShapes Go.WideShapes Go.ChangeAt Go.RowKit
attribute [local go_sem] ownAt ownUpon mixAt mixUpon

/-- The log lies in block lg; its disk lies in block g. -/
def LogAt (w : World) (lg g : Nat) : Prop := Box w lg 39 #[.pointer (some ⟨g, 0, none⟩)]
theorem LogAt.up {w w' : World} {lg g : Nat} (h : LogAt w lg g) (hb : Below w.heap.size w w') : LogAt w' lg g := Box.next h hb
theorem Left.of_up {w w1 w' : World} {g : Nat} {F : List Nat} {er : Int} {s : DS} {e : Ending} (hb : Below w.heap.size w w1) (_hF : ∀ b ∈ F, b < w.heap.size) (h : Left w1 g F er s e w') : Left w g F er s e w' := by
  obtain ⟨he, F', k1, k2, k3⟩ := h
  refine ⟨he, F', k1, (Only.of_up hb).trans k2 (fun x hx => .inl hx), fun b hb' => ?_⟩
  rcases k3 b hb' with h | h
  · exact .inl h
  · exact .inr (Nat.le_trans hb.size h)
theorem DiskAt.lt {w : World} {g : Nat} {F : List Nat} {s : DS} (h : DiskAt w g F s) : ∀ b ∈ F, b < w.heap.size := by obtain ⟨_, _, _, _, _, _, _, _, _, _, _, _, _, h11⟩ := h; exact h11
theorem made_nil (w : World) : Calls Try.prog 38 #[.pointer none] w fun e w' => e = .returned (.bool false) ∧ w = w' := by
  go_enter Try.func38, Try.ntmps38
  go_wp2
  go_ret
  exact ⟨rfl, rfl⟩
theorem made_zero (w : World) (lg : Nat) (h : Box w lg 39 #[.pointer none]) : Calls Try.prog 38 #[.pointer (some ⟨lg, 0, none⟩)] w fun e w' => e = .returned (.bool false) ∧ w = w' := by
  have c0 := h.cell 0 _ rfl
  clear h
  go_enter Try.func38, Try.ntmps38
  go_wp2
  go_ret
  exact ⟨rfl, rfl⟩
theorem made_any (w : World) (lg g : Nat) (h : LogAt w lg g) : Calls Try.prog 38 #[.pointer (some ⟨lg, 0, none⟩)] w fun e w' => e = .returned (.bool true) ∧ w = w' := by
  have c0 := Box.cell h 0 _ rfl
  clear h
  go_enter Try.func38, Try.ntmps38
  go_wp2
  go_ret
  exact ⟨rfl, rfl⟩
def appendV (s : DS) (rec : List UInt8) : Int × DS := if (sealV rec).2 = 0 then writeV s (sealV rec).1 else ((sealV rec).2, s)
def replV (s : DS) (t : List UInt8) : Int × DS := if (replaceV s t).1 = 0 then syncV (replaceV s t).2 else replaceV s t
def compactV (s : DS) (rec : List UInt8) : Int × DS := if (sealV rec).2 = 0 then replV s (sealV rec).1 else ((sealV rec).2, s)
set_option maxHeartbeats 400000 in
theorem append_any (w : World) (lg g : Nat) (F : List Nat) (s : DS) (t : ByteArray) (hl : LogAt w lg g) (h : DiskAt w g F s) (hf : Fit s) : Calls Try.prog 12 #[.pointer (some ⟨lg, 0, none⟩), .string t] w (Left w g F (appendV s t.data.toList).1 (appendV s t.data.toList).2) := by
  have HM := Lib.hid (made_any w lg g hl)
  have HS := Lib.hid (seal_any t w)
  have hlt := h.lt
  have HLT := Lib.hid hlt
  clear hlt
  by_cases h0 : (sealV t.data.toList).2 = 0
  · have ha : appendV s t.data.toList = writeV s (sealV t.data.toList).1 := if_pos h0
    rw [ha]
    rw [h0] at HS
    clear ha h0
    have HW := Lib.hid (fun W (hb : Below w.heap.size w W) => by
      have h1 := write_any W g F (bs (sealV t.data.toList).1) s (h.up hb) hf
      rwa [show (bs (sealV t.data.toList).1).data.toList = (sealV t.data.toList).1 by simp [bs]] at h1)
    generalize (sealV t.data.toList).1 = x at *
    generalize writeV s x = r at *
    clear h
    go_enter Try.func12, Try.ntmps12
    go_wp2_with fail
    refine HM.out.mono ?_
    rintro _ _ ⟨rfl, rfl⟩
    go_wp2_with fail
    refine HS.out.mono ?_
    rintro _ w1 ⟨rfl, hb⟩
    have c0 := Box.cell (hl.up hb) 0 _ rfl
    have HB := Lib.hid hb
    clear hb
    go_wp2_with fail
    refine (HW.out _ HB.out).mono ?_
    rintro _ w2 ⟨rfl, HX⟩
    clear c0
    go_wp2
    go_ret
    exact Left.of_up HB.out HLT.out ⟨rfl, HX⟩
  · have ha : appendV s t.data.toList = ((sealV t.data.toList).2, s) := if_neg h0
    rw [ha]
    have hne : ((sealV t.data.toList).2 != 0) = true := bne_iff_ne.2 h0
    clear ha h0
    generalize (sealV t.data.toList).2 = er at *
    have HD := Lib.hid h
    clear h
    go_enter Try.func12, Try.ntmps12
    go_wp2_with fail
    refine HM.out.mono ?_
    rintro _ _ ⟨rfl, rfl⟩
    go_wp2_with fail
    refine HS.out.mono ?_
    rintro _ w1 ⟨rfl, hb⟩
    go_wp2
    go_ret
    exact Left.of_up hb HLT.out ((HD.out.up hb).left_same er)
theorem wsync_any (w : World) (lg g : Nat) (F : List Nat) (s : DS) (hl : LogAt w lg g) (h : DiskAt w g F s) (hf : Fit s) : Calls Try.prog 17 #[.pointer (some ⟨lg, 0, none⟩)] w (Left w g F (syncV s).1 (syncV s).2) := by
  have HM := Lib.hid (made_any w lg g hl)
  have HW := Lib.hid (sync_any w g F s h hf)
  have c0 := Box.cell hl 0 _ rfl
  clear h hl
  generalize syncV s = r at *
  go_enter Try.func17, Try.ntmps17
  go_wp2_with fail
  refine HM.out.mono ?_
  rintro _ _ ⟨rfl, rfl⟩
  go_wp2_with fail
  refine HW.out.mono ?_
  rintro _ w2 ⟨rfl, HX⟩
  clear c0
  go_wp2
  go_ret
  exact ⟨rfl, HX⟩
theorem replaceV_fit (s : DS) (t : List UInt8) (hf : Fit s) : Fit (replaceV s t).2 := by
  unfold replaceV
  split
  · split
    · next h => exact ⟨hf.lo, hf.hi, hf.two, h⟩
    · exact hf
  · exact hf
set_option maxHeartbeats 400000 in
theorem repl_any (w : World) (g : Nat) (F : List Nat) (s : DS) (t : ByteArray) (h : DiskAt w g F s) (hf : Fit s) : Calls Try.prog 37 #[.agg #[.pointer (some ⟨g, 0, none⟩)], .string t] w (Left w g F (replV s t.data.toList).1 (replV s t.data.toList).2) := by
  have HB0 : Hid _ := Lib.hid (below_box (Below.refl _ w) (.cells #[.pointer (some ⟨g, 0, none⟩)] 37))
  have hlt := h.lt
  have HLT := Lib.hid hlt
  clear hlt
  have B0 := Box.new w 37 #[.pointer (some ⟨g, 0, none⟩)]
  have HR := Lib.hid (replace_any _ g F t s (h.up HB0.out) hf)
  have hf2 := replaceV_fit s t.data.toList hf
  by_cases h0 : (replaceV s t.data.toList).1 = 0
  · have ha : replV s t.data.toList = syncV (replaceV s t.data.toList).2 := if_pos h0
    rw [ha]
    rw [h0] at HR
    clear ha h0
    generalize (replaceV s t.data.toList).2 = s2 at *
    have HY := Lib.hid (fun W F2 (hd : DiskAt W g F2 s2) => sync_any W g F2 s2 hd hf2)
    generalize syncV s2 = r at *
    have hgl : g < w.heap.size := by obtain ⟨_, _, _, _, _, _, _, g5, _⟩ := h; exact HLT.out g (by first | exact g5 | (obtain ⟨_, _, _, _, _, _, _, g5, _⟩ := h; exact g5))
    have hnf : w.heap.size ∉ F := fun hm => by have := HLT.out _ hm; omega
    have HNF := Lib.hid hnf
    clear h hf2 hnf
    go_enter Try.func37, Try.ntmps37
    go_wp2_with fail
    refine HR.out.mono ?_
    rintro _ w2 ⟨rfl, F2, HX, HO, HN⟩
    have hO : Only F w w2 := (Only.of_up HB0.out).trans HO (fun x hx => .inl hx)
    have c2 := Box.cell (B0.only HO HNF.out) 0 _ rfl
    have l2 : w.heap.size < w2.heap.size := Nat.lt_of_lt_of_le (by simp) HO.size
    have HHO := Lib.hid (And.intro hO HN)
    clear HO hO HN B0
    go_wp2_with fail
    refine (HY.out _ F2 HX).mono ?_
    rintro _ w3 ⟨rfl, F3, HX3, HO3, HN3⟩
    clear c2
    go_wp2
    go_ret
    obtain ⟨hO, hN⟩ := HHO.out
    refine ⟨rfl, F3, HX3, hO.trans HO3 (fun x hx => ?_), fun b hb => ?_⟩
    · rcases hN x hx with h | h
      · exact .inl h
      · right; simp at h; omega
    · rcases HN3 b hb with h | h
      · rcases hN b h with h | h
        · exact .inl h
        · right; simp at h; omega
      · right; omega
  · have ha : replV s t.data.toList = replaceV s t.data.toList := if_neg h0
    rw [ha]
    have hne : ((replaceV s t.data.toList).1 != 0) = true := bne_iff_ne.2 h0
    clear ha h0 hf2
    generalize (replaceV s t.data.toList).2 = s2 at *
    generalize (replaceV s t.data.toList).1 = er at *
    clear h
    go_enter Try.func37, Try.ntmps37
    go_wp2_with fail
    refine HR.out.mono ?_
    rintro _ w2 ⟨rfl, HX⟩
    clear B0
    go_wp2
    go_ret
    exact Left.of_up HB0.out HLT.out ⟨rfl, HX⟩
set_option maxHeartbeats 400000 in
theorem compact_any (w : World) (lg g : Nat) (F : List Nat) (s : DS) (t : ByteArray) (hl : LogAt w lg g) (h : DiskAt w g F s) (hf : Fit s) : Calls Try.prog 15 #[.pointer (some ⟨lg, 0, none⟩), .string t] w (Left w g F (compactV s t.data.toList).1 (compactV s t.data.toList).2) := by
  have HM := Lib.hid (made_any w lg g hl)
  have HS := Lib.hid (seal_any t w)
  have hlt := h.lt
  have HLT := Lib.hid hlt
  clear hlt
  by_cases h0 : (sealV t.data.toList).2 = 0
  · have ha : compactV s t.data.toList = replV s (sealV t.data.toList).1 := if_pos h0
    rw [ha]
    rw [h0] at HS
    clear ha h0
    have HW := Lib.hid (fun W (hb : Below w.heap.size w W) => by
      have h1 := repl_any W g F s (bs (sealV t.data.toList).1) (h.up hb) hf
      rwa [show (bs (sealV t.data.toList).1).data.toList = (sealV t.data.toList).1 by simp [bs]] at h1)
    generalize (sealV t.data.toList).1 = x at *
    generalize replV s x = r at *
    clear h
    go_enter Try.func15, Try.ntmps15
    go_wp2_with fail
    refine HM.out.mono ?_
    rintro _ _ ⟨rfl, rfl⟩
    go_wp2_with fail
    refine HS.out.mono ?_
    rintro _ w1 ⟨rfl, hb⟩
    have c0 := Box.cell (hl.up hb) 0 _ rfl
    have HB := Lib.hid hb
    clear hb
    go_wp2_with fail
    refine (HW.out _ HB.out).mono ?_
    rintro _ w2 ⟨rfl, HX⟩
    clear c0
    go_wp2
    go_ret
    exact Left.of_up HB.out HLT.out ⟨rfl, HX⟩
  · have ha : compactV s t.data.toList = ((sealV t.data.toList).2, s) := if_neg h0
    rw [ha]
    have hne : ((sealV t.data.toList).2 != 0) = true := bne_iff_ne.2 h0
    clear ha h0
    generalize (sealV t.data.toList).2 = er at *
    have HD := Lib.hid h
    clear h
    go_enter Try.func15, Try.ntmps15
    go_wp2_with fail
    refine HM.out.mono ?_
    rintro _ _ ⟨rfl, rfl⟩
    go_wp2_with fail
    refine HS.out.mono ?_
    rintro _ w1 ⟨rfl, hb⟩
    go_wp2
    go_ret
    exact Left.of_up hb HLT.out ((HD.out.up hb).left_same er)
end Go.Proofs.Ytjcojgblnbhejaa
