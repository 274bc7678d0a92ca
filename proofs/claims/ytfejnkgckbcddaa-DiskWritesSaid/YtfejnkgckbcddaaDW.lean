/- DiskWrites: the walk. -/
import Derived.Test.YtfejnkgckbcddaaDO
namespace Go.Proofs.Ytfejnkgckbcddaa
open Go.ChangeShapes Go.WideShapes Go.ChangeAt Go.RowKit

theorem rdy_up (s : DS) (hz : 1 ≤ s.sz) (hd : s.down = false) : rdy s = 0 := by
  unfold rdy
  rw [if_neg (by omega), if_neg (by rw [hd]; simp)]
/-- What the loop knows: the disk is up, and the string is its contents. -/
structure Up (sz : Int) (s : DS) (x : ByteArray) : Prop where
  fit : Fit s
  z : s.sz = sz
  d : s.down = false
  x : bs (cont s) = x
def WritesRel (w : World) (g n : Nat) (sz : Int) (i sv : Value) (wr : World) : Prop := ∃ (k : Nat) (s : DS) (x : ByteArray), i = .int .i64 k ∧ sv = .string x ∧ k ≤ n ∧ At w wr g s ∧ Up sz s x
theorem Up.len {sz : Int} {s : DS} {x : ByteArray} (h : Up sz s x) : (x.size : Int) ≤ sz ∧ (cont s).length = x.size := by
  have h1 := cont_le s h.fit
  have h2 := h.x
  have h3 := h.z
  have h4 : (cont s).length = x.size := by rw [← h2, bs_size]
  omega
theorem Up.contents {sz : Int} {s : DS} {x : ByteArray} (h : Up sz s x) (hz : 1 ≤ sz) : (⟨(contV s).toArray⟩ : ByteArray) = x := by
  unfold contV
  rw [if_pos (rdy_up s (by rw [h.z]; exact hz) h.d)]
  exact h.x
theorem Up.write_yes {sz : Int} {s : DS} {x t : ByteArray} (h : Up sz s x) (hz : 1 ≤ sz) (hl : (x.size : Int) + t.size ≤ sz) : ∃ s', writeV s t.data.toList = (0, s') ∧ Up sz s' (x ++ t) := by
  have hr := rdy_up s (by rw [h.z]; exact hz) h.d
  obtain ⟨h1, h2⟩ := h.len
  have hv : writeV s t.data.toList = (0, if s.rep then { s with fre := s.fre ++ t.data.toList } else { s with app := s.app ++ t.data.toList }) := by
    unfold writeV
    rw [if_pos hr, size_toList, if_pos (by rw [h2, h.z]; exact hl)]
  refine ⟨_, hv, ?_⟩
  have hf := (doV_fit s 0 t.data.toList 0 h.fit).1
  have hdo : doV s 0 t.data.toList 0 = writeV s t.data.toList := by unfold doV; rw [if_pos rfl]
  rw [hdo, hv] at hf
  have hx := h.x
  cases hr : s.rep
  · rw [hr] at hf
    simp only [Bool.false_eq_true, if_false] at hf ⊢
    refine ⟨hf, h.z, h.d, ?_⟩
    unfold cont at *
    simp only [hr, Bool.false_eq_true, if_false] at hx ⊢
    rw [← hx]
    conv => rhs; rw [bs_list t]
    rw [bs_app, List.append_assoc]
  · rw [hr] at hf
    simp only [if_true] at hf ⊢
    refine ⟨hf, h.z, h.d, ?_⟩
    unfold cont at *
    simp only [hr, if_true] at hx ⊢
    rw [← hx]
    conv => rhs; rw [bs_list t]
    rw [bs_app]
theorem Up.write_no {sz : Int} {s : DS} {x t : ByteArray} (h : Up sz s x) (hz : 1 ≤ sz) (hl : sz < (x.size : Int) + t.size) : writeV s t.data.toList = (3, s) := by
  have hr := rdy_up s (by rw [h.z]; exact hz) h.d
  obtain ⟨h1, h2⟩ := h.len
  unfold writeV
  rw [if_pos hr, size_toList, if_neg (by rw [h2, h.z]; omega)]
theorem Up.replace_yes {sz : Int} {s : DS} {x t : ByteArray} (h : Up sz s x) (hz : 1 ≤ sz) (hl : (t.size : Int) ≤ sz) : ∃ s', replaceV s t.data.toList = (0, s') ∧ Up sz s' t := by
  have hr := rdy_up s (by rw [h.z]; exact hz) h.d
  have hv : replaceV s t.data.toList = (0, { s with rep := true, fre := t.data.toList }) := by
    unfold replaceV
    rw [if_pos hr, size_toList, if_pos (by rw [h.z]; exact hl)]
  refine ⟨_, hv, ⟨h.fit.lo, h.fit.hi, h.fit.two, ?_⟩, h.z, h.d, (bs_list t).symm⟩
  show ((t.data.toList).length : Int) ≤ s.sz
  rw [size_toList, h.z]
  exact hl
theorem Up.replace_no {sz : Int} {s : DS} {x t : ByteArray} (h : Up sz s x) (hz : 1 ≤ sz) (hl : sz < (t.size : Int)) : replaceV s t.data.toList = (3, s) := by
  have hr := rdy_up s (by rw [h.z]; exact hz) h.d
  unfold replaceV
  rw [if_pos hr, size_toList, if_neg (by rw [h.z]; omega)]
theorem Up.sync {sz : Int} {s : DS} {x : ByteArray} (h : Up sz s x) (hz : 1 ≤ sz) : ∃ s', syncV s = (0, s') ∧ Up sz s' x ∧ (if s'.sz = 0 then 0 else (s'.dur.length : Int)) = x.size := by
  have hr := rdy_up s (by rw [h.z]; exact hz) h.d
  have hv : syncV s = (0, ⟨s.sz, cont s, [], false, [], s.down⟩) := by
    unfold syncV
    rw [if_pos hr]
  have hf := (doV_fit s 1 [] 0 h.fit).1
  have hdo : doV s 1 [] 0 = syncV s := by unfold doV; rw [if_neg (by omega), if_pos rfl]
  rw [hdo, hv] at hf
  obtain ⟨h1, h2⟩ := h.len
  have hz2 := h.z
  refine ⟨_, hv, ⟨hf, h.z, h.d, ?_⟩, ?_⟩
  · show bs (cont s ++ []) = x
    rw [List.append_nil]
    exact h.x
  · show (if s.sz = 0 then 0 else ((cont s).length : Int)) = x.size
    rw [if_neg (by omega), h2]
theorem writes_no (sz : Int) (A : Option Addr) (n cap : Nat) (w : World) (h : sz < 1 ∨ (1 ≤ sz ∧ 262144 < sz)) : Calls Try.prog 5 #[.int .i64 sz, .slice A n cap] w fun e w' => e = .returned (.bool true) ∧ Below w.heap.size w w' := by
  go_enter Try.func5, Try.ntmps5
  go_wp2_with fail
  refine (newDisk_no sz _ h).mono ?_
  rintro _ w1 ⟨rfl, rfl⟩
  go_wp2_with fail
  refine (awake_any _).mono ?_
  rintro _ wz ⟨rfl, hb⟩
  go_wp2
  go_ret
  exact ⟨rfl, hb⟩
theorem writes_long (sz : Int) (A : Option Addr) (n cap : Nat) (os : List OpV) (w : World) (hs : Hid (Seg w A (n * 3) (oCell os))) (HM : Hid (∀ W, Seg W A (n * 3) (oCell os) → Calls Try.prog 8 #[.slice A n cap] W fun e w' => e = .returned (.bool false) ∧ Below W.heap.size W w')) (h1 : 1 ≤ sz) (h2 : sz ≤ 262144) : Calls Try.prog 5 #[.int .i64 sz, .slice A n cap] w fun e w' => e = .returned (.bool true) ∧ Below w.heap.size w w' := by
  go_enter Try.func5, Try.ntmps5
  go_wp2_with fail
  refine (at_new (w0 := w) sz (Below.refl _ _) h1 h2).mono ?_
  rintro _ w1 ⟨g, rfl, H2⟩
  go_wp2_with fail
  refine (HM.out _ (hs.out.next H2.below)).mono ?_
  rintro _ w3 ⟨rfl, hb⟩
  replace H2 := H2.up hb
  clear hb HM
  go_wp2_with fail
  refine (awake_any _).mono ?_
  rintro _ wz ⟨rfl, hb⟩
  go_wp2
  go_ret
  exact ⟨rfl, below_step H2.below hb⟩
set_option maxHeartbeats 4000000 in
set_option maxRecDepth 100000 in
theorem writes_main (sz : Int) (A : Option Addr) (n cap : Nat) (os : List OpV) (w : World) (hn : os.length = n) (hs : Hid (Seg w A (n * 3) (oCell os))) (HM : Hid (∀ W, Seg W A (n * 3) (oCell os) → Calls Try.prog 8 #[.slice A n cap] W fun e w' => e = .returned (.bool true) ∧ Below W.heap.size W w')) (hS : SmallP os) (h1 : 1 ≤ sz) (h2 : sz ≤ 262144) : Calls Try.prog 5 #[.int .i64 sz, .slice A n cap] w fun e w' => e = .returned (.bool true) ∧ Below w.heap.size w w' := by
  go_enter Try.func5, Try.ntmps5
  go_wp2_with fail
  refine (at_new (w0 := w) sz (Below.refl _ _) h1 h2).mono ?_
  rintro _ w1 ⟨g, rfl, H2⟩
  have hup : Up sz ⟨sz, [], [], false, [], false⟩ ByteArray.empty := ⟨new_fit sz h1 h2, rfl, rfl, rfl⟩
  go_wp2_with fail
  refine (HM.out _ (hs.out.next H2.below)).mono ?_
  rintro _ w3 ⟨rfl, hb⟩
  replace H2 := H2.up hb
  clear hb HM
  go_wp2
  have HN := Lib.hid hn
  have HS := Lib.hid hS
  have h300 : n ≤ 300 := by rw [← hn]; exact hS.1
  clear hn hS
  go_loopw [8, 7] (WritesRel w g n sz) (fun i _ _ => n - (intOf i).toNat)
  case atStart => exact ⟨0, _, _, rfl, rfl, by omega, H2, hup⟩
  case round =>
  clear H2 hup
  obtain ⟨k, s, x, rfl, rfl, hk, H, hU⟩ := hrel
  by_cases hlt : k < n
  · obtain ⟨b1, o1, rfl, hb1, q0, q1, _⟩ := oseg hs.out k hlt
    have hsz := HS.out.2 k (by rw [HN.out]; exact hlt)
    generalize os.getD k OpV.z = o at *
    obtain ⟨kk, tt, nn⟩ := o
    simp only at q0 q1 hsz
    have Q0 := Lib.hid q0
    have Q1 := Lib.hid q1
    have HU := Lib.hid hU
    have hxl := hU.len.1
    clear q0 q1 hU
    have hk300 : (k : Int) < 300 := by omega
    have c0 := (H.below.cell (p := ⟨b1, o1 + k * 3, none⟩) hb1).trans Q0.out
    have c1 := (H.below.cell (p := ⟨b1, o1 + k * 3 + 1, none⟩) hb1).trans Q1.out
    have hlb : b1 < wr.heap.size := Nat.lt_of_lt_of_le hb1 H.below.size
    by_cases hk0 : kk = 0
    · subst hk0
      have hwx : IntKind.i64.wrap ((x.size : Int) + (tt.size : Int)) = (x.size : Int) + (tt.size : Int) := IntWalk.i64_in _ (by omega)
      have hns : ¬ 9223372036854775807 < x.size + tt.size := by omega
      by_cases hl : (x.size : Int) + tt.size ≤ sz
      · obtain ⟨s', hv, hU'⟩ := HU.out.write_yes h1 hl
        have HV := Lib.hid hv
        have HU' := Lib.hid hU'
        clear hv hU'
        go_wp2_with fail
        refine (at_write tt H HU.out.fit HV.out).mono ?_
        clear H c0 c1 hlb
        rintro _ wb ⟨rfl, H⟩
        have c0 := (H.below.cell (p := ⟨b1, o1 + k * 3, none⟩) hb1).trans Q0.out
        have c1 := (H.below.cell (p := ⟨b1, o1 + k * 3 + 1, none⟩) hb1).trans Q1.out
        have hlb : b1 < wb.heap.size := Nat.lt_of_lt_of_le hb1 H.below.size
        go_wp2_with fail
        refine (at_contents H HU'.out.fit (x := (x ++ tt)) (HU'.out.contents h1)).mono ?_
        clear H c0 c1 hlb
        rintro _ wd ⟨rfl, H⟩
        go_wp2_with fail
        refine (at_down H (r := false) (by rw [rdy_up _ (by rw [HU'.out.z]; exact h1) HU'.out.d]; rfl)).mono ?_
        rintro _ we ⟨rfl, H⟩
        go_wp2
        go_roundw
        case rel => exact ⟨k + 1, _, (x ++ tt), by go_num, rfl, by omega, H, HU'.out⟩
        case measure => simp [intOf]; omega
      · have hl' : sz < (x.size : Int) + tt.size := by omega
        have HV := Lib.hid (HU.out.write_no h1 hl')
        go_wp2_with fail
        refine (at_write tt H HU.out.fit HV.out).mono ?_
        clear H c0 c1 hlb
        rintro _ wb ⟨rfl, H⟩
        have c0 := (H.below.cell (p := ⟨b1, o1 + k * 3, none⟩) hb1).trans Q0.out
        have c1 := (H.below.cell (p := ⟨b1, o1 + k * 3 + 1, none⟩) hb1).trans Q1.out
        have hlb : b1 < wb.heap.size := Nat.lt_of_lt_of_le hb1 H.below.size
        go_wp2_with fail
        refine (at_contents H HU.out.fit (x := x) (HU.out.contents h1)).mono ?_
        clear H c0 c1 hlb
        rintro _ wd ⟨rfl, H⟩
        go_wp2_with fail
        refine (at_down H (r := false) (by rw [rdy_up _ (by rw [HU.out.z]; exact h1) HU.out.d]; rfl)).mono ?_
        rintro _ we ⟨rfl, H⟩
        go_wp2
        go_roundw
        case rel => exact ⟨k + 1, _, x, by go_num, rfl, by omega, H, HU.out⟩
        case measure => simp [intOf]; omega
    · have z0 : (kk == 0) = false := beq_eq_false_iff_ne.2 hk0
      by_cases hk2 : kk = 2
      · subst hk2
        by_cases hl : (tt.size : Int) ≤ sz
        · obtain ⟨s', hv, hU'⟩ := HU.out.replace_yes h1 hl
          have HV := Lib.hid hv
          have HU' := Lib.hid hU'
          clear hv hU'
          go_wp2_with fail
          refine (at_replace tt H HU.out.fit HV.out).mono ?_
          clear H c0 c1 hlb
          rintro _ wb ⟨rfl, H⟩
          have c0 := (H.below.cell (p := ⟨b1, o1 + k * 3, none⟩) hb1).trans Q0.out
          have c1 := (H.below.cell (p := ⟨b1, o1 + k * 3 + 1, none⟩) hb1).trans Q1.out
          have hlb : b1 < wb.heap.size := Nat.lt_of_lt_of_le hb1 H.below.size
          go_wp2_with fail
          refine (at_contents H HU'.out.fit (x := tt) (HU'.out.contents h1)).mono ?_
          clear H c0 c1 hlb
          rintro _ wd ⟨rfl, H⟩
          go_wp2_with fail
          refine (at_down H (r := false) (by rw [rdy_up _ (by rw [HU'.out.z]; exact h1) HU'.out.d]; rfl)).mono ?_
          rintro _ we ⟨rfl, H⟩
          go_wp2
          go_roundw
          case rel => exact ⟨k + 1, _, tt, by go_num, rfl, by omega, H, HU'.out⟩
          case measure => simp [intOf]; omega
        · have hl' : sz < (tt.size : Int) := by omega
          have HV := Lib.hid (HU.out.replace_no h1 hl')
          go_wp2_with fail
          refine (at_replace tt H HU.out.fit HV.out).mono ?_
          clear H c0 c1 hlb
          rintro _ wb ⟨rfl, H⟩
          have c0 := (H.below.cell (p := ⟨b1, o1 + k * 3, none⟩) hb1).trans Q0.out
          have c1 := (H.below.cell (p := ⟨b1, o1 + k * 3 + 1, none⟩) hb1).trans Q1.out
          have hlb : b1 < wb.heap.size := Nat.lt_of_lt_of_le hb1 H.below.size
          go_wp2_with fail
          refine (at_contents H HU.out.fit (x := x) (HU.out.contents h1)).mono ?_
          clear H c0 c1 hlb
          rintro _ wd ⟨rfl, H⟩
          go_wp2_with fail
          refine (at_down H (r := false) (by rw [rdy_up _ (by rw [HU.out.z]; exact h1) HU.out.d]; rfl)).mono ?_
          rintro _ we ⟨rfl, H⟩
          go_wp2
          go_roundw
          case rel => exact ⟨k + 1, _, x, by go_num, rfl, by omega, H, HU.out⟩
          case measure => simp [intOf]; omega
      · have z2 : (kk == 2) = false := beq_eq_false_iff_ne.2 hk2
        obtain ⟨s', hv, hU', hsy⟩ := HU.out.sync h1
        have HV := Lib.hid hv
        have HU' := Lib.hid hU'
        have HY := Lib.hid hsy
        clear hv hU' hsy
        go_wp2_with fail
        refine (at_sync H HU.out.fit HV.out).mono ?_
        clear H c0 c1 hlb
        rintro _ wb ⟨rfl, H⟩
        go_wp2_with fail
        refine (at_synced H HY.out).mono ?_
        rintro _ wc ⟨rfl, H⟩
        go_wp2_with fail
        refine (at_contents H HU'.out.fit (x := x) (HU'.out.contents h1)).mono ?_
        rintro _ wd ⟨rfl, H⟩
        go_wp2_with fail
        refine (at_down H (r := false) (by rw [rdy_up _ (by rw [HU'.out.z]; exact h1) HU'.out.d]; rfl)).mono ?_
        rintro _ we ⟨rfl, H⟩
        go_wp2
        go_roundw
        case rel => exact ⟨k + 1, _, x, by go_num, rfl, by omega, H, HU'.out⟩
        case measure => simp [intOf]; omega
  · obtain rfl : k = n := by omega
    go_wp2_with fail
    refine (awake_any _).mono ?_
    rintro _ wz ⟨rfl, hb⟩
    go_wp2
    go_ret
    exact ⟨rfl, below_step H.below hb⟩
theorem diskWrites_walk (sz : Int) (A : Option Addr) (n cap : Nat) (os : List OpV) (w : World) {p0 : Prop} (_ : p0) (HZ : os.length = n ∧ Seg w A (n * 3) (oCell os) ∧ n ≤ maxLen) : Calls Try.prog 5 #[.int .i64 sz, .slice A n cap] w fun e w' => e = .returned (.bool true) ∧ Below w.heap.size w w' := by
  obtain ⟨hn, hs, _⟩ := HZ
  by_cases h : 1 ≤ sz ∧ sz ≤ 262144
  · obtain ⟨b, hb, HM⟩ := small_any A n cap os w hn hs
    cases b
    · exact writes_long sz A n cap os w hs HM h.1 h.2
    · exact writes_main sz A n cap os w hn hs HM (hb.1 rfl) h.1 h.2
  · exact writes_no sz A n cap w (by omega)
end Go.Proofs.Ytfejnkgckbcddaa
