/- FrameDetects: the walk. -/
import Derived.Test.YtohijllciehjlaaBQ
namespace Go.Proofs.Ytohijllciehjlaa
open Go.ChangeShapes Go.WideShapes Go.ChangeAt Go.RowKit

theorem open_bs (s : List UInt8) (W : World) (h : s.length ≤ 1000000) : Calls Try.prog 18 #[.string (bs s)] W fun e w' => e = .returned (.tuple #[.string (bs (openV s).body), .int .i64 (openV s).n, .int .i64 (openV s).e]) ∧ Below W.heap.size W w' := by
  have h1 := open_any (bs s) W (by rw [bs_size]; exact h)
  rwa [show (bs s).data.toList = s by simp [bs]] at h1
set_option maxRecDepth 100000 in
set_option maxHeartbeats 2000000 in
theorem detects_main (b t : List UInt8) (at_ : Int) (ch : Nat) (W : World) (hb : b.length ≤ 20000) (ht : t.length ≤ 20000) (hch : ch < 256) : Calls Try.prog 8 #[.string (bs b), .int .i64 at_, .int .u8 ch, .string (bs t)] W fun e w' => e = .returned (.bool true) ∧ Below W.heap.size W w' := by
  have hbz := bs_size b
  have htz := bs_size t
  have hz1 : ((bs b).size : Int) ≤ 20000 := by omega
  have hz2 : ((bs t).size : Int) ≤ 20000 := by omega
  have HSe := Lib.hid (show ∀ W', Calls Try.prog 16 #[.string (bs b)] W' fun e w' => e = .returned (.tuple #[.string (bs (sealL b)), .int .i64 0]) ∧ Below W'.heap.size W' w' from fun W' => by
    have h := seal_any (bs b) W'
    rw [show (bs b).data.toList = b by simp [bs], show sealV b = (sealL b, 0) from if_pos (by omega)] at h
    exact h)
  have HO1 := Lib.hid (show ∀ W', Calls Try.prog 18 #[.string (bs (sealL b) ++ bs t)] W' fun e w' => e = .returned (.tuple #[.string (bs b), .int .i64 ((bs b).size + 8), .int .i64 0]) ∧ Below W'.heap.size W' w' from fun W' => by
    have h := open_bs (sealL b ++ t) W' (by rw [List.length_append, sealL_len]; omega)
    rw [open_seal b t (by omega)] at h
    rw [bs_app, hbz, Int.add_comm]
    exact h)
  have hsz := bs_size (sealL b)
  rw [sealL_len] at hsz
  have hsi : ((bs (sealL b)).size : Int) = (bs b).size + 8 := by omega
  have HSI := Lib.hid hsi
  have hns : ¬ 9223372036854775807 < (bs (sealL b)).size + (bs t).size := by omega
  have hsle : ((bs (sealL b)).size : Int) ≤ 20008 := by omega
  have HD := Lib.hid (show ∀ k x, k < 8 + b.length → x ≠ (sealL b).getD k 0 → _ from fun k x hk hx => detect b t k x (by omega) hk hx)
  have HBZ := Lib.hid hbz
  have HTZ := Lib.hid htz
  have HSZ := Lib.hid hsz
  clear hsz hbz htz hsi
  go_enter Try.func8, Try.ntmps8
  go_wp2_with fail
  refine (HSe.out _).mono ?_
  rintro _ w1 ⟨rfl, hB⟩
  clear HSe
  have hsi := HSI.out
  go_wp2_with fail
  refine (HO1.out _).mono ?_
  rintro _ w2 ⟨rfl, hb⟩
  replace hB := below_step hB hb
  clear hb HO1
  by_cases ha : at_ < 0
  · skip
    go_wp2_with fail
    refine (awake_any _).mono ?_
    rintro _ w7 ⟨rfl, hb⟩
    replace hB := below_step hB hb
    go_wp2
    go_ret
    exact ⟨rfl, hB⟩
  have ha0 : 0 ≤ at_ := by omega
  by_cases ha2 : ((bs b).size : Int) + 8 ≤ at_
  · clear ha
    go_wp2_with fail
    refine (awake_any _).mono ?_
    rintro _ w7 ⟨rfl, hb⟩
    replace hB := below_step hB hb
    go_wp2
    go_ret
    exact ⟨rfl, hB⟩
  obtain ⟨k, rfl⟩ : ∃ k : Nat, at_ = k := ⟨at_.toNat, by omega⟩
  have hk1 : (k : Int) < (bs b).size + 8 := by omega
  have hkl : k < (sealL b).length := by rw [sealL_len]; have := HBZ.out; omega
  have hkb : k < 8 + b.length := by have := HBZ.out; omega
  clear ha ha2
  by_cases hc0 : ch = 0
  · subst hc0
    go_wp2_with fail
    refine (awake_any _).mono ?_
    rintro _ w7 ⟨rfl, hb⟩
    replace hB := below_step hB hb
    go_wp2
    go_ret
    exact ⟨rfl, hB⟩
  have hc1 : (((ch : Nat) : Int) == 0) = false := beq_eq_false_iff_ne.2 (by omega)
  have hxr := u8_xor_nat ((sealL b).getD k 0).toNat ch (UInt8.toNat_lt _) hch
  have hzz : ((sealL b).getD k 0).toNat ^^^ ch = ((sealL b).getD k 0 ^^^ UInt8.ofNat ch).toNat := by
    rw [UInt8.toNat_xor, ofNat_toNat, Nat.mod_eq_of_lt hch]
  rw [hzz] at hxr
  have hne : (sealL b).getD k 0 ^^^ UInt8.ofNat ch ≠ (sealL b).getD k 0 := xor_ne _ _ (fun h => hc0 (by
    have h2 := congrArg UInt8.toNat h
    rw [ofNat_toNat, Nat.mod_eq_of_lt hch] at h2
    exact h2))
  obtain ⟨cap, w3, hcv, hby, hb3, hlt3⟩ := bytes_conv w2 (sealL b)
  have hg := hB.size
  replace hB := below_step hB hb3
  obtain ⟨q1, q2⟩ := hby k hkl
  generalize hgg : w2.heap.size = g at *
  clear hgg hb3
  have hdet := HD.out k _ hkb hne
  clear HD hne hzz hkb hc0
  generalize (sealL b).getD k 0 ^^^ UInt8.ofNat ch = z at *
  generalize (sealL b).getD k 0 = x0 at *
  have hby2 := hby.set k z hkl
  have hSl : ((sealL b).set k z).length = (sealL b).length := List.length_set
  have hback := bytes_back hby2 cap
  rw [hSl] at hback
  have hlen := sealL_len b
  have hS2 := bs_size ((sealL b).set k z)
  have HO2 := Lib.hid (show ∀ W', Calls Try.prog 18 #[.string (bs ((sealL b).set k z) ++ bs t)] W' fun e w' => e = .returned (.tuple #[.string (bs (openV ((sealL b).set k z ++ t)).body), .int .i64 (openV ((sealL b).set k z ++ t)).n, .int .i64 (openV ((sealL b).set k z ++ t)).e]) ∧ Below W'.heap.size W' w' from fun W' => by
    rw [bs_app]
    exact open_bs _ W' (by rw [List.length_append, hSl, hlen]; omega))
  have hki : (k : Int) < (sealL b).length := by omega
  have hk0 : (0 : Int) ≤ k := by omega
  have hns2 : ¬ 9223372036854775807 < (bs ((sealL b).set k z)).size + (bs t).size := by rw [hS2, hSl, hlen, HTZ.out]; omega
  have hlt4 : g < w3.heap.size := hlt3
  have HHB := Lib.hid hB
  clear hS2 hlen hSl hby hby2 hkl hB hlt3 hns hsle HSI HSZ HTZ
  generalize hS' : bs ((sealL b).set k z) = S' at *
  generalize (openV ((sealL b).set k z ++ t)).n = on at *
  by_cases h4 : 4 ≤ k
  · have he := hdet.2 h4
    rw [he] at HO2
    clear hdet he hS'
    generalize (openV ((sealL b).set k z ++ t)).body = ob at *
    have h4i : (4 : Int) ≤ k := by omega
    generalize bs (sealL b) = S at *
    generalize (sealL b).length = Sn at *
    go_wp2_with fail
    refine (HO2.out _).mono ?_
    rintro _ w5 ⟨rfl, hb⟩
    have hB : Below W.heap.size W w5 := (HHB.out.setCell (p := ⟨g, k, none⟩) hg _).trans (hb.mono (by have := HHB.out.size; simpa [World.setCell] using this))
    clear hb q1 q2 hback hcv
    go_wp2_with fail
    refine (awake_any _).mono ?_
    rintro _ w7 ⟨rfl, hb⟩
    replace hB := below_step hB hb
    go_wp2
    go_ret
    exact ⟨rfl, hB⟩
  · have he := hdet.1 (by omega)
    have h4i : (k : Int) < 4 := by omega
    have h4n : ¬ (4 : Int) ≤ k := by omega
    clear hdet hS'
    generalize (openV ((sealL b).set k z ++ t)).body = ob at *
    generalize (openV ((sealL b).set k z ++ t)).e = oe at *
    generalize bs (sealL b) = S at *
    generalize (sealL b).length = Sn at *
    by_cases h0 : oe = 0
    · subst h0
      have hob : ((bs ob).toList == (bs b).toList) = false := by rw [bs_same]; exact decide_eq_false fun h => he ⟨rfl, h⟩
      clear he
      go_wp2_with fail
      refine (HO2.out _).mono ?_
      rintro _ w5 ⟨rfl, hb⟩
      have hB : Below W.heap.size W w5 := (HHB.out.setCell (p := ⟨g, k, none⟩) hg _).trans (hb.mono (by have := HHB.out.size; simpa [World.setCell] using this))
      clear hb q1 q2 hback hcv
      go_wp2_with fail
      refine (awake_any _).mono ?_
      rintro _ w7 ⟨rfl, hb⟩
      replace hB := below_step hB hb
      go_wp2
      go_ret
      exact ⟨rfl, hB⟩
    · have h0b : (oe == 0) = false := beq_eq_false_iff_ne.2 h0
      clear he h0
      go_wp2_with fail
      refine (HO2.out _).mono ?_
      rintro _ w5 ⟨rfl, hb⟩
      have hB : Below W.heap.size W w5 := (HHB.out.setCell (p := ⟨g, k, none⟩) hg _).trans (hb.mono (by have := HHB.out.size; simpa [World.setCell] using this))
      clear hb q1 q2 hback hcv
      go_wp2_with fail
      refine (awake_any _).mono ?_
      rintro _ w7 ⟨rfl, hb⟩
      replace hB := below_step hB hb
      go_wp2
      go_ret
      exact ⟨rfl, hB⟩
theorem detects_long (b t : ByteArray) (at_ ch : Int) (W : World) (h : 20000 < (b.size : Int) ∨ ((b.size : Int) ≤ 20000 ∧ 20000 < (t.size : Int))) : Calls Try.prog 8 #[.string b, .int .i64 at_, .int .u8 ch, .string t] W fun e w' => e = .returned (.bool true) ∧ Below W.heap.size W w' := by
  rcases h with h | ⟨h1, h2⟩
  all_goals
    go_enter Try.func8, Try.ntmps8
    go_wp2_with fail
    refine (awake_any _).mono ?_
    rintro _ w7 ⟨rfl, hB⟩
    go_wp2
    go_ret
    exact ⟨rfl, hB⟩
theorem frameDetects_walk (b : ByteArray) (at_ ch : Int) (t : ByteArray) (W : World) {p0 p1 p3 : Prop} (_ : p0) (_ : p1) (hch : (Lit.int .u8 ch).wf = true) (_ : p3) : Calls Try.prog 8 #[.string b, .int .i64 at_, .int .u8 ch, .string t] W fun e w' => e = .returned (.bool true) ∧ Below W.heap.size W w' := by
  have hc : 0 ≤ ch ∧ ch ≤ 255 := by
    simp only [Lit.wf, Bool.and_eq_true, decide_eq_true_eq] at hch
    exact hch
  by_cases h : (b.size : Int) ≤ 20000 ∧ (t.size : Int) ≤ 20000
  · obtain ⟨c, rfl⟩ : ∃ c : Nat, ch = c := ⟨ch.toNat, by omega⟩
    have hbl : b.data.toList.length = b.size := Array.length_toList
    have htl : t.data.toList.length = t.size := Array.length_toList
    have := detects_main b.data.toList t.data.toList at_ c W (by omega) (by omega) (by omega)
    rwa [← bs_list, ← bs_list] at this
  · exact detects_long b t at_ ch W (by omega)
end Go.Proofs.Ytohijllciehjlaa
