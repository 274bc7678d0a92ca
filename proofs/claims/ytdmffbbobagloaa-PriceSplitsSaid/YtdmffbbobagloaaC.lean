/- Check of the reference of layer 53 (price), and both for any price. -/
import Derived.Test.YtdmffbbobagloaaB
namespace Go.Proofs.Ytdmffbbobagloaa
open Go.ChangeShapes Go.WideShapes Go.ChangeAt Go.RowKit
attribute [local go_sem] ownAt ownUpon mixAt mixUpon

def RChkRel (fi fu iv : Int) (A : Option Addr) (n cap : Nat) (ts : List T2) (w : World) (i : Value) (wr : World) : Prop :=
  ∃ k : Nat, i = .int .i64 k ∧ k ≤ n ∧ chkL (ts.drop k) (befI ts k) = chkL ts 0 ∧ Box wr w.heap.size 24 #[.int .i64 fi, .int .i64 fu, .int .i64 iv, .slice A n cap] ∧ Below w.heap.size w wr

set_option maxHeartbeats 4000000 in
theorem rchk_main (fi fu iv : Int) (A : Option Addr) (n cap : Nat) (ts : List T2) (w : World) (a1 : 0 ≤ fi) (b1 : fi ≤ 1000000000)(a2 : 0 ≤ fu) (b2 : fu ≤ 1000000000)(a3 : 0 ≤ iv) (b3 : iv ≤ 1000000000) (h1 : 1 ≤ n) (h2 : n ≤ 8) (hn : ts.length = n) (hs : Seg w A (n * 2) (tCell ts)) : Calls Try.prog 16 #[.agg #[.int .i64 fi, .int .i64 fu, .int .i64 iv, .slice A n cap]] w fun e w' => e = .returned (.int .i64 (chkL ts 0)) ∧ Below w.heap.size w w' := by
  have HN := Lib.hid hn
  have HS := Lib.hid hs
  clear hn hs
  go_enter Try.func16, Try.ntmps16
  go_wp2_with fail
  refine (num_yes _ _ (by omega) (by omega)).mono ?_
  rintro _ wy1 ⟨rfl, rfl⟩
  go_wp2_with fail
  refine (num_yes _ _ (by omega) (by omega)).mono ?_
  rintro _ wy2 ⟨rfl, rfl⟩
  go_wp2_with fail
  refine (num_yes _ _ (by omega) (by omega)).mono ?_
  rintro _ wy3 ⟨rfl, rfl⟩
  go_wp2
  refine wp_forget (fun W => Box W (w.heap.size) 24 #[.int .i64 fi, .int .i64 fu, .int .i64 iv, .slice A n cap] ∧ Below w.heap.size w W)
    ⟨(Box.new w 24 #[.int .i64 fi, .int .i64 fu, .int .i64 iv, .slice A n cap]), (below_box (Below.refl _ _) _)⟩ ?_
  rintro wx4 ⟨P, hB⟩
  have cP_0 := P.cell 0 _ rfl
  have cP_1 := P.cell 1 _ rfl
  have cP_2 := P.cell 2 _ rfl
  have cP_3 := P.cell 3 _ rfl
  have lP := P.lt
  go_loopw [34] (RChkRel fi fu iv A n cap ts w) (fun i _ => n - (intOf i).toNat)
  case atStart => exact ⟨0, rfl, by omega, by simp [befI], P, hB⟩
  case round =>
    clear cP_0 cP_1 cP_2 cP_3 lP P hB
    obtain ⟨k, rfl, hk, hR, P, hB⟩ := hrel
    have HR := Lib.hid hR
    clear hR
    by_cases hlt : k < n
    · have hT := tier_any A n cap ts k wr HN.out (HS.out.next hB) hlt (by omega)
      have HT := Lib.hid hT
      clear hT
      replace HR : Hid (_ = _) := (chkL_step ts k (by rw [HN.out]; exact hlt) _).symm.trans HR.out
      generalize tierE (befI ts k) (ts.getD k T2.z).u (ts.getD k T2.z).m (decide (k + 1 = ts.length)) = x at *
      have cP_0 := P.cell 0 _ rfl
      have cP_1 := P.cell 1 _ rfl
      have cP_2 := P.cell 2 _ rfl
      have cP_3 := P.cell 3 _ rfl
      have lP := P.lt
      by_cases hx : x = 0
      · rw [if_pos hx] at HR
        subst hx
        go_wp2_with fail
        refine (HT.out).mono ?_
        rintro _ wx21 ⟨rfl, hb⟩
        clear cP_0 cP_1 cP_2 cP_3 lP
        replace P := P.next hb
        replace hB := below_step hB hb
        clear hb
        have cP_0 := P.cell 0 _ rfl
        have cP_1 := P.cell 1 _ rfl
        have cP_2 := P.cell 2 _ rfl
        have cP_3 := P.cell 3 _ rfl
        have lP := P.lt
        go_wp2
        go_roundw
        case rel => exact ⟨k + 1, by go_num, by omega, HR.out, P, hB⟩
        case measure => simp [intOf]; omega
      · rw [if_neg hx] at HR
        have hx2 : (x != 0) = true := bne_iff_ne.2 hx
        clear hx
        go_wp2_with fail
        refine (HT.out).mono ?_
        rintro _ wx21 ⟨rfl, hb⟩
        clear cP_0 cP_1 cP_2 cP_3 lP
        replace P := P.next hb
        replace hB := below_step hB hb
        clear hb
        have cP_0 := P.cell 0 _ rfl
        have cP_1 := P.cell 1 _ rfl
        have cP_2 := P.cell 2 _ rfl
        have cP_3 := P.cell 3 _ rfl
        have lP := P.lt
        go_wp2
        rw [← HR.out]
        go_ret
        exact ⟨rfl, hB⟩
    · have hkn : (n : Int) ≤ k := by omega
      replace HR : Hid (_ = _) := (chkL_end ts k (by rw [HN.out]; omega) _).symm.trans HR.out
      have cP_0 := P.cell 0 _ rfl
      have cP_1 := P.cell 1 _ rfl
      have cP_2 := P.cell 2 _ rfl
      have cP_3 := P.cell 3 _ rfl
      have lP := P.lt
      go_wp2
      rw [← HR.out]
      go_ret
      exact ⟨rfl, hB⟩
theorem chk_any (fi fu iv : Int) (A : Option Addr) (n cap : Nat) (ts : List T2) (w : World) (hn : ts.length = n) (hs : Seg w A (n * 2) (tCell ts)) : Calls Try.prog 15 #[.agg #[.int .i64 fi, .int .i64 fu, .int .i64 iv, .slice A n cap]] w fun e w' => e = .returned (.int .i64 (chkV fi fu iv ts)) ∧ Below w.heap.size w w' := by
  unfold chkV
  cases h1 : numB fi
  · exact chk_1 fi fu iv A n cap w (numB_no _ h1)
  · obtain ⟨a1, b1⟩ := (numB_iff _).1 h1
    cases h2 : numB fu
    · exact chk_2 fi fu iv A n cap w a1 b1 (numB_no _ h2)
    · obtain ⟨a2, b2⟩ := (numB_iff _).1 h2
      cases h3 : numB iv
      · exact chk_3 fi fu iv A n cap w a1 b1 a2 b2 (numB_no _ h3)
      · obtain ⟨a3, b3⟩ := (numB_iff _).1 h3
        rw [if_pos (show (true && (true && true)) = true from rfl)]
        by_cases hl : 1 ≤ ts.length ∧ ts.length ≤ 8
        · rw [if_pos hl]
          rw [hn] at hl
          exact chk_main fi fu iv A n cap ts w a1 b1 a2 b2 a3 b3 hl.1 hl.2 hn hs
        · rw [if_neg hl]
          rw [hn] at hl
          exact chk_4 fi fu iv A n cap w a1 b1 a2 b2 a3 b3 (by omega)
theorem rchk_any (fi fu iv : Int) (A : Option Addr) (n cap : Nat) (ts : List T2) (w : World) (hn : ts.length = n) (hs : Seg w A (n * 2) (tCell ts)) : Calls Try.prog 16 #[.agg #[.int .i64 fi, .int .i64 fu, .int .i64 iv, .slice A n cap]] w fun e w' => e = .returned (.int .i64 (chkV fi fu iv ts)) ∧ Below w.heap.size w w' := by
  unfold chkV
  cases h1 : numB fi
  · exact rchk_1 fi fu iv A n cap w (numB_no _ h1)
  · obtain ⟨a1, b1⟩ := (numB_iff _).1 h1
    cases h2 : numB fu
    · exact rchk_2 fi fu iv A n cap w a1 b1 (numB_no _ h2)
    · obtain ⟨a2, b2⟩ := (numB_iff _).1 h2
      cases h3 : numB iv
      · exact rchk_3 fi fu iv A n cap w a1 b1 a2 b2 (numB_no _ h3)
      · obtain ⟨a3, b3⟩ := (numB_iff _).1 h3
        rw [if_pos (show (true && (true && true)) = true from rfl)]
        by_cases hl : 1 ≤ ts.length ∧ ts.length ≤ 8
        · rw [if_pos hl]
          rw [hn] at hl
          exact rchk_main fi fu iv A n cap ts w a1 b1 a2 b2 a3 b3 hl.1 hl.2 hn hs
        · rw [if_neg hl]
          rw [hn] at hl
          by_cases h0 : n = 0
          · exact rchk_4 fi fu iv A n cap w a1 b1 a2 b2 a3 b3 h0
          · exact rchk_5 fi fu iv A n cap w a1 b1 a2 b2 a3 b3 (by omega) (by omega)

end Go.Proofs.Ytdmffbbobagloaa
