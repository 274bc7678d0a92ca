/- WalRecovers: the walk. -/
import Derived.Test.YtjcojgblnbhejaaWJ
namespace Go.Proofs.Ytjcojgblnbhejaa
open Go.ChangeShapes Go.WideShapes Go.ChangeAt Go.RowKit

def Script (W : World) (A : Option Addr) (n : Nat) (os : List OpV) : Prop := os.length = n ∧ Seg W A (n * 3) (oCell os) ∧ n ≤ maxLen
def RecRel (W : World) (g lg n : Nat) (i : Value) (wr : World) : Prop := ∃ (k : Nat) (s : DS) (d a : List (List UInt8)), i = .int .i64 k ∧ k ≤ n ∧ AtX W wr g s [lgX lg g] ∧ Holds s d a
set_option maxRecDepth 100000 in
set_option maxHeartbeats 4000000 in
theorem walRecovers_walk (A : Option Addr) (n cap : Nat) (os : List OpV) (keep : Int) (W : World) (hz : Script W A n os) {p1 : Prop} (_ : p1) : Calls Try.prog 6 #[.slice A n cap, .int .i64 keep] W fun e w' => e = .returned (.bool true) ∧ Below W.heap.size W w' := by
  obtain ⟨hn, hs, hmax⟩ := hz
  have hmx : (n : Int) ≤ 9223372036854775807 := by unfold maxLen at hmax; omega
  have HS := Lib.hid hs
  have HN := Lib.hid hn
  have HM := Lib.hid (fun w (h : Below W.heap.size W w) => small_any A n cap os w hmx (hs.next h))
  have H0 := Lib.hid (Holds.made 50000 (by decide) (by decide))
  clear hs hn hmax
  go_enter Try.func6, Try.ntmps6
  go_wp2_with fail
  refine (dk_new (w0 := W) 50000 (Below.refl _ _) (by decide) (by decide)).mono ?_
  rintro _ w1 ⟨g, rfl, h1⟩
  go_wp2_with fail
  refine (atx_open h1 H0.out.fit H0.out.sz H0.out.down).mono ?_
  clear h1
  rintro _ w2 ⟨lg, rfl, h2⟩
  rw [H0.out.opened] at h2
  have HI := Lib.hid (show lgX lg g ∈ [lgX lg g] from List.mem_cons_self)
  go_wp2_with fail
  refine (HM.out _ h2.below).mono ?_
  rintro _ w3 ⟨r, rfl, hb3⟩
  replace h2 := h2.up hb3
  clear hb3 HM
  cases r
  · go_wp2_with fail
    refine (awake_any _).mono ?_
    rintro _ w4 ⟨rfl, hb⟩
    replace h2 := (h2.up hb).below
    clear hb
    go_wp2
    go_ret
    exact ⟨rfl, h2⟩
  by_cases hk0 : keep < 0
  · go_wp2_with fail
    refine (awake_any _).mono ?_
    rintro _ w4 ⟨rfl, hb⟩
    replace h2 := (h2.up hb).below
    clear hb
    go_wp2
    go_ret
    exact ⟨rfl, h2⟩
  go_wp2
  go_loopw [38] (RecRel W g lg n) (fun i _ => n - (intOf i).toNat)
  case atStart => exact ⟨0, _, _, _, rfl, by omega, h2, H0.out⟩
  case round =>
  clear h2
  obtain ⟨k, s, d, a, rfl, hk, h, hh⟩ := hrel
  by_cases hlt : k < n
  · obtain ⟨b1, o1, rfl, hb1, q0, q1, _⟩ := oseg HS.out k hlt
    have hB := h.below
    replace q0 := (hB.cell (p := ⟨b1, o1 + k * 3, none⟩) hb1).trans q0
    replace q1 := (hB.cell (p := ⟨b1, o1 + k * 3 + 1, none⟩) hb1).trans q1
    have hb2 : b1 < wr.heap.size := Nat.lt_of_lt_of_le hb1 hB.size
    clear hb1
    rw [bs_list (os.getD k OpV.z).t] at q1
    generalize (os.getD k OpV.z).t.data.toList = t at *
    generalize (os.getD k OpV.z).k = kk at *
    clear hB
    by_cases h1 : kk = 1
    · subst h1
      obtain ⟨s', e', hh', _⟩ := hh.sync
      have HH := Lib.hid (And.intro e' hh')
      have HF := Lib.hid hh.fit
      clear e' hh' hh
      go_wp2_with fail
      refine (lg_sync h HI.out HF.out HH.out.1).mono ?_
      clear h q0 q1
      rintro _ w4 ⟨rfl, h4⟩
      go_wp2
      go_roundw
      case rel => exact ⟨k + 1, s', _, _, by go_num, by omega, h4, HH.out.2⟩
      case measure => simp [intOf]; omega
    · obtain ⟨er, s', a', e', hh'⟩ := hh.appends t
      have HH := Lib.hid (And.intro e' hh')
      have HF := Lib.hid hh.fit
      clear e' hh' hh
      have hne : (kk == 1) = false := by simpa using h1
      go_wp2_with fail
      refine (lg_append t h HI.out HF.out HH.out.1).mono ?_
      clear h q0 q1 h1 hne
      rintro _ w4 ⟨rfl, h4⟩
      go_wp2
      go_roundw
      case rel => exact ⟨k + 1, s', _, _, by go_num, by omega, h4, HH.out.2⟩
      case measure => simp [intOf]; omega
  · obtain rfl : k = n := by omega
    clear hlt hk
    have e5 := hh.crash keep (by omega)
    have f5 := crash_fit hh.fit e5
    have e6 := restart_yes s.sz (joinL d ++ (joinL a).take keep.toNat) hh.sz
    have f6 := restart_fit f5.1 e6
    have d6 : (⟨s.sz, joinL d ++ (joinL a).take keep.toNat, [], false, [], false⟩ : DS).down = false := rfl
    have z6 : 1 ≤ (⟨s.sz, joinL d ++ (joinL a).take keep.toNat, [], false, [], false⟩ : DS).sz := hh.sz
    have r6 := recs_opened _ f6.1 z6 d6
    have c6 : cont ⟨s.sz, joinL d ++ (joinL a).take keep.toNat, [], false, [], false⟩ = joinL d ++ (joinL a).take keep.toNat := by
      unfold cont
      simp
    obtain ⟨a', m, ha, hsp⟩ := crashed d a keep.toNat hh.len
    rw [c6, hsp] at r6
    have f7 := opened_fit _ f6.1 d6
    have z7 : 1 ≤ (opened ⟨s.sz, joinL d ++ (joinL a).take keep.toNat, [], false, [], false⟩).sz := by rw [f7.2.1]; exact z6
    have n1 := recs_count s hh.fit
    rw [hh.recs] at n1
    have hcut : (d ++ a).take (d ++ a').length = d ++ a' := by rw [ha, ← List.append_assoc]; exact List.take_left
    have hl1 : (d ++ a').length ≤ (d ++ a).length := by rw [ha]; simp
    have hl2 : d.length ≤ (d ++ a').length := by simp
    have hr := hh.recs
    have hd := hh.durs
    have HE := Lib.hid (And.intro hh.fit (And.intro hh.sz (And.intro e5 (And.intro e6 (And.intro f6.1 (And.intro z6 d6))))))
    have HG := Lib.hid (And.intro f7.1 (And.intro z7 (And.intro r6 (And.intro hr hd))))
    have HC := Lib.hid hcut
    clear e5 f5 e6 f6 d6 z6 r6 c6 hsp f7 z7 hcut ha hr hd hh
    generalize (⟨s.sz, joinL d ++ (joinL a).take keep.toNat, [], false, [], true⟩ : DS) = s5 at *
    generalize (⟨s.sz, joinL d ++ (joinL a).take keep.toNat, [], false, [], false⟩ : DS) = s6 at *
    generalize d ++ a = B at *
    generalize d ++ a' = C at *
    go_wp2_with fail
    refine (lg_records h HI.out HE.out.1 HE.out.2.1).mono ?_
    clear h
    rintro _ w4 ⟨v4, Y, rfl, h4, hs4⟩
    rw [HG.out.2.2.2.1] at hs4
    obtain ⟨A4, cap4, rfl, _, _, hc4⟩ := h4.strs hs4 (fun x hx => List.mem_append_left _ hx)
    have HI2 := Lib.hid (show lgX lg g ∈ Y ++ [lgX lg g] from List.mem_append_right _ HI.out)
    go_wp2_with fail
    refine (lg_durable h4 HI2.out HE.out.1 HE.out.2.1).mono ?_
    clear h4
    rintro _ w5 ⟨rfl, h5, _⟩
    rw [HG.out.2.2.2.2]
    have hc4' : (B.length : Int) ≤ cap4 := by omega
    go_wp2_with fail
    refine (dk_crash keep h5 HE.out.1 HE.out.2.2.1).mono ?_
    clear h5
    rintro _ w6 ⟨rfl, h6⟩
    go_wp2_with fail
    refine (dk_restart h6 HE.out.2.2.2.1).mono ?_
    clear h6
    rintro _ w7 ⟨rfl, h7⟩
    go_wp2_with fail
    refine (atx_open h7 HE.out.2.2.2.2.1 HE.out.2.2.2.2.2.1 HE.out.2.2.2.2.2.2).mono ?_
    clear h7
    rintro _ w8 ⟨lg2, rfl, h8⟩
    have HI3 := Lib.hid (show lgX lg2 g ∈ lgX lg2 g :: (Y ++ [lgX lg g]) from List.mem_cons_self)
    go_wp2_with fail
    refine (lg_records h8 HI3.out HG.out.1 HG.out.2.1).mono ?_
    clear h8
    rintro _ w9 ⟨v9, Y2, rfl, h9, hs9⟩
    rw [HG.out.2.2.1] at hs9
    have st9 := h9.strs hs9 (fun x hx => List.mem_append_left _ hx)
    have st4 := h9.strs hs4 (fun x hx => List.mem_append_right _ (List.mem_cons_of_mem _ (List.mem_append_left _ hx)))
    replace st4 := st4.take C.length hl1
    rw [HC.out] at st4
    have st9' := st9
    obtain ⟨A9, cap9, rfl, _⟩ := st9'
    clear hs4 hs9
    have hC : C.length ≤ 1000000 := by omega
    have HC2 := Lib.hid hC
    clear hC
    go_wp2_with fail
    refine (same_any _ _ _ _ _ st9 st4 HC2.out).mono ?_
    rintro _ w10 ⟨rfl, hb10⟩
    rw [show decide (C = C) = true from decide_eq_true rfl]
    have h10 := (h9.up hb10).below
    clear h9 st9 st4 hb10
    go_wp2_with fail
    refine (awake_any _).mono ?_
    rintro _ w11 ⟨rfl, hb11⟩
    go_wp2
    go_ret
    exact ⟨rfl, below_step h10 hb11⟩
end Go.Proofs.Ytjcojgblnbhejaa
