/- New, check, Used of the program: the walks. -/
import Derived.Test.YtbcologcendhlaaSD
namespace Go.Proofs.Ytbcologcendhlaa
open Go.ChangeShapes Go.WideShapes Go.ChangeAt Go.RowKit
open Go.Maps (Keyed)

def NewRel (total : Int) (R : KL) (w : World) (p br bu : Nat) (i : Value) (wr : World) : Prop := ∃ k : Nat, i = .int .i64 k ∧ k ≤ R.length ∧ Box wr p 53 #[.int .i64 total, .int .i64 (total - wsum all (R.take k)), .map (some br), .map (some bu)] ∧ MapA wr br k (look (R.take k)) ∧ MapA wr bu 0 (fun _ => none) ∧ Below w.heap.size w wr
theorem new_no (total least code : Int) (A : Option Addr) (n ca : Nat) (w : World) (HC : Hid (Calls Try.prog 12 #[.int .i64 total, .int .i64 least, .slice A n ca] w fun e w' => e = .returned (.int .i64 code) ∧ Below w.heap.size w w')) (hc : (code != 0) = true) : Calls Try.prog 10 #[.int .i64 total, .int .i64 least, .slice A n ca] w fun e w' => e = .returned (.tuple #[.pointer none, .int .i64 code]) ∧ Below w.heap.size w w' := by
  go_enter Try.func10, Try.ntmps10
  go_wp2_with fail
  refine HC.out.mono ?_
  rintro _ w1 ⟨rfl, hb⟩
  go_wp2
  go_ret2
  exact ⟨rfl, hb⟩
/-- The sum of some reserves. -/
theorem wsum_take (R : KL) (h : ∀ p ∈ R, 0 ≤ p.2) (k : Nat) : 0 ≤ wsum all (R.take k) ∧ wsum all (R.take k) ≤ wsum all R := by
  have h1 : wsum all (R.take k) + wsum all (R.drop k) = wsum all R := by
    have : ∀ a b : KL, wsum all (a ++ b) = wsum all a + wsum all b := by
      intro a b
      induction a with
      | nil => simp [wsum]
      | cons p a ih => obtain ⟨x, c⟩ := p; rw [List.cons_append, wsum, wsum, ih]; omega
    rw [← this, List.take_append_drop]
  have h2 : 0 ≤ wsum all (R.drop k) := wsum_nonneg (fun p hp => h p (List.mem_of_mem_drop hp))
  have h3 : 0 ≤ wsum all (R.take k) := wsum_nonneg (fun p hp => h p (List.mem_of_mem_take hp))
  omega
theorem new_start (w : World) (cs : Array Value) : MapA (((w.alloc (.map #[] 0)).alloc (.map #[] 0)).alloc (.cells cs 53)) w.heap.size 0 (fun _ => none) ∧ MapA (((w.alloc (.map #[] 0)).alloc (.map #[] 0)).alloc (.cells cs 53)) (w.heap.size + 1) 0 (fun _ => none) ∧
    Box (((w.alloc (.map #[] 0)).alloc (.map #[] 0)).alloc (.cells cs 53)) (w.heap.size + 1 + 1) 53 cs ∧ Below w.heap.size w (((w.alloc (.map #[] 0)).alloc (.map #[] 0)).alloc (.cells cs 53)) := by
  have b1 := below_box (Below.refl _ w) (.map #[] 0)
  have m1 := MapA.made w
  have z1 : (w.alloc (.map #[] 0)).heap.size = w.heap.size + 1 := by simp
  generalize w.alloc (.map #[] 0) = w1 at *
  have b2 := below_box (Below.refl _ w1) (.map #[] 0)
  have m2 := MapA.made w1
  have z2 : (w1.alloc (.map #[] 0)).heap.size = w1.heap.size + 1 := by simp
  generalize w1.alloc (.map #[] 0) = w2 at *
  have b3 := below_box (Below.refl _ w2) (.cells cs 53)
  have x3 := Box.new w2 53 cs
  generalize w2.alloc (.cells cs 53) = w3 at *
  rw [z1] at m2
  rw [z2, z1] at x3
  exact ⟨(m1.up b2).up b3, m2.up b3, x3, below_step (below_step b1 b2) b3⟩
set_option maxHeartbeats 2000000 in
theorem new_yes (total least : Int) (A : Option Addr) (ca : Nat) (R : KL) (w : World) (hR : Seg w A (R.length * 2) (rCell R)) (hF : Conf total least R) (HC : Hid (Calls Try.prog 12 #[.int .i64 total, .int .i64 least, .slice A R.length ca] w fun e w' => e = .returned (.int .i64 0) ∧ Below w.heap.size w w')) : Calls Try.prog 10 #[.int .i64 total, .int .i64 least, .slice A R.length ca] w fun e w' => ∃ p br bu, e = .returned (.tuple #[.pointer (some ⟨p, 0, none⟩), .int .i64 0]) ∧ SlotsAt w' p br bu 0 ⟨total, R, []⟩ ∧ Below w.heap.size w w' ∧ w.heap.size ≤ p ∧ w.heap.size ≤ br ∧ w.heap.size ≤ bu := by
  have HR := Lib.hid hR
  have HF := Lib.hid hF
  have hmm := @run_makeMap Try.prog
  clear hR hF
  go_enter Try.func10, Try.ntmps10
  go_wp2_with fail
  refine HC.out.mono ?_
  rintro _ w1 ⟨rfl, hb1⟩
  clear HC
  go_wp2
  obtain ⟨m1, m2, x3, hb3⟩ := new_start w1 #[.int .i64 total, .int .i64 total, .map (some w1.heap.size), .map (some (w1.heap.size + 1))]
  have hle := hb1.size
  have hB3 := below_step hb1 hb3
  generalize ((w1.alloc (.map #[] 0)).alloc (.map #[] 0)).alloc (.cells #[.int .i64 total, .int .i64 total, .map (some w1.heap.size), .map (some (w1.heap.size + 1))] 53) = w3 at *
  have e1 : w1.heap.size ≠ w1.heap.size + 1 := by omega
  have e2 : w1.heap.size + 1 + 1 ≠ w1.heap.size := by omega
  have e3 : w1.heap.size + 1 + 1 ≠ w1.heap.size + 1 := by omega
  have g1 : w.heap.size ≤ w1.heap.size + 1 + 1 := by omega
  have g2 : w.heap.size ≤ w1.heap.size + 1 := by omega
  have g3 : w.heap.size ≤ w1.heap.size := hle
  clear hb1 hb3
  generalize w1.heap.size + 1 + 1 = p at *
  generalize w1.heap.size + 1 = bu at *
  generalize w1.heap.size = br at *
  clear hmm
  go_loopw [26] (NewRel total R w p br bu) (fun i _ => R.length - (intOf i).toNat)
  case atStart => exact ⟨0, rfl, by omega, by simpa [wsum] using x3, m1.congr (fun s => rfl), m2, hB3⟩
  case round =>
  clear x3 m1 m2 hB3
  obtain ⟨k, rfl, hk, hx, hm1, hm2, hB⟩ := hrel
  by_cases hlt : k < R.length
  · obtain ⟨b1, o1, rfl, hb1, q0, q1⟩ := rseg HR.out k hlt
    replace q0 := (hB.cell (p := ⟨b1, o1 + k * 2, none⟩) hb1).trans q0
    replace q1 := (hB.cell (p := ⟨b1, o1 + k * 2 + 1, none⟩) hb1).trans q1
    have hb2 : b1 < wr.heap.size := Nat.lt_of_lt_of_le hb1 hB.size
    have h3 : R[k] = R.getD k ([], 0) := by rw [List.getD_eq_getElem?_getD, List.getElem?_eq_getElem hlt]; rfl
    generalize R.getD k ([], 0) = e at *
    obtain ⟨x, c⟩ := e
    simp only at q0 q1
    have hmem : (x, c) ∈ R := by rw [← h3]; exact List.getElem_mem hlt
    have hok := HF.out.ok _ hmem
    simp only at hok
    have htk : R.take (k + 1) = R.take k ++ [(x, c)] := by rw [List.take_succ_eq_append_getElem hlt, h3]
    have hnin : x ∉ keys (R.take k) := by
      have hnd := HF.out.nd
      have h5 : keys R = keys (R.take k) ++ keys (R.drop k) := by unfold keys; rw [← List.map_append, List.take_append_drop]
      rw [h5, List.nodup_append] at hnd
      intro hm
      have h6 : x ∈ keys (R.drop k) := by
        rw [List.drop_eq_getElem_cons hlt, h3]
        exact List.mem_cons_self
      exact hnd.2.2 x hm x h6 rfl
    have hws := wsum_take R (fun p hp => (HF.out.ok p hp).2.1) k
    have ht0 := HF.out.t0
    have ht1 := HF.out.t1
    have hsum := HF.out.sum
    have hl0 := HF.out.l0
    have hxm : x.length ≤ maxLen := by have := nameV_len hok.1; unfold maxLen; omega
    have hwf : (Lit.int .i64 c).wf = true := WalkArith.wf_i64 (by omega)
    have hk32 : R.length ≤ 32 := HF.out.len
    have hkm : k < maxLen := by have := HF.out.len; unfold maxLen; omega
    have hsub : IntKind.i64.wrap (total - wsum all (R.take k) - c) = total - wsum all (R.take k) - c := by rw [IntKind.wrap_i64]; omega
    have HT := Lib.hid (And.intro htk hnin)
    clear htk hnin hmem h3 hsum
    generalize hsk : wsum all (R.take k) = sk at *
    have HSK := Lib.hid hsk
    clear hsk
    have hX := Box.new wr 47 #[.string (bs x), .int .i64 c]
    have hb4 := below_box (Below.refl _ wr) (.cells #[.string (bs x), .int .i64 c] 47)
    have hrb : p < wr.heap.size := hx.lt
    have hrbr : br < wr.heap.size := hm1.lt
    go_upto_region 8 with fail
    replace hx := hx.next hb4
    replace hm1 := hm1.up hb4
    replace hm2 := hm2.up hb4
    replace hB := below_step hB hb4
    clear hb4 q0 q1 hb1 hb2
    generalize wr.heap.size = rb at *
    generalize wr.alloc (.cells #[.string (bs x), .int .i64 c] 47) = w4 at *
    have c2 := hx.cell 2 _ rfl
    have d0 := hX.cell 0 _ rfl
    have d1 := hX.cell 1 _ rfl
    go_upto_region 9 with (at_mapUpdate; refine wpList_mput _ rfl _ _ _ rfl _ _ _ rfl hm1 hkm x c rfl rfl hxm hwf ?_; intro w5 hm5 hg5)
    have hO5 : Only [br] w4 w5 := only_grown hg5 (fun b hb => by
      injection hb with hb
      rw [hb]
      exact List.mem_singleton.2 rfl)
    have hp5 : p ∉ [br] := fun h => e2 (List.mem_singleton.1 h)
    have hx5 := hx.only hO5 hp5
    have hm25 := hm2.only hO5 (fun h => e1 (List.mem_singleton.1 h).symm)
    have hX5 := hX.only hO5 (fun h => by have := List.mem_singleton.1 h; omega)
    have hB5 : Below w.heap.size w w5 := hB.trans (hO5.below (fun b hb => by rw [List.mem_singleton.1 hb]; omega) (by have := hB.size; omega))
    clear hx hm1 hm2 hX hg5 c2 d0 d1 hB hO5 hp5
    have c1 := hx5.cell 1 _ rfl
    have f1 := hx5.frozen 1
    have d1 := hX5.cell 1 _ rfl
    go_wp2
    have hO6 : Only [p] w5 (w5.setCell ⟨p, 1, none⟩ (.int .i64 (total - sk - c))) := (Only.refl [p] w5).set (.inl (List.mem_singleton.2 rfl)) _
    have hx6 := hx5.set 1 (.int .i64 (total - sk - c))
    have hm6 := hm5.only hO6 (fun h => e2 (List.mem_singleton.1 h).symm)
    have hm26 := hm25.only hO6 (fun h => e3 (List.mem_singleton.1 h).symm)
    have hB6 : Below w.heap.size w (w5.setCell ⟨p, 1, none⟩ (.int .i64 (total - sk - c))) := hB5.trans (hO6.below (fun b hb => by rw [List.mem_singleton.1 hb]; exact g1) hB5.size)
    generalize w5.setCell ⟨p, 1, none⟩ (.int .i64 (total - sk - c)) = w6 at *
    go_roundw
    case rel => exact ⟨k + 1, by go_num, by omega, hx6.eq_ (by rw [HT.out.1, wsum_snoc, HSK.out, show total - (sk + if all x = true then c else 0) = total - sk - c by simp [all]; omega]; rfl), hm6.congr (fun s => by rw [HT.out.1, look_snoc HT.out.2]), hm26, hB6⟩
    case measure => simp [intOf]; omega
  · obtain rfl : k = R.length := by omega
    rw [List.take_length] at hx hm1
    go_wp2
    go_ret2
    refine ⟨p, br, bu, rfl, ⟨hx, hm1.mono HF.out.len, hm2.congr (fun s => rfl), e1⟩, hB, g1, by omega, g2⟩
end Go.Proofs.Ytbcologcendhlaa
