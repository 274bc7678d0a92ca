/- Check of the program: the walk. -/
import Derived.Test.YtbcologcendhlaaSM
namespace Go.Proofs.Ytbcologcendhlaa
open Go.ChangeShapes Go.WideShapes Go.ChangeAt Go.RowKit
open Go.Maps (Keyed)

/-- A map of bools: at which keys it holds true. -/
def MapB (w : World) (b N : Nat) (f : Key → Bool) : Prop := ∃ D : DU, w.ownsMap Try.prog 9 (plainElem Try.prog 4) b N D ∧ ∀ s : Key, D.atKey (kl s) (.lit (.bool false)) = .lit (.bool (f s))
theorem MapB.made (w : World) : MapB (w.alloc (.map #[] 0)) w.heap.size 0 (fun _ => false) := ⟨_, World.ownsMap_made _ _ _ _, fun _ => rfl⟩
theorem MapB.up {w w' : World} {b N : Nat} {f : Key → Bool} (h : MapB w b N f) (hb : Below w.heap.size w w') : MapB w' b N f := by
  obtain ⟨D, h1, h2⟩ := h
  exact ⟨D, h1.kept (grown_of_below hb) (by simp), h2⟩
theorem MapB.congr {w : World} {b N : Nat} {f g : Key → Bool} (h : MapB w b N f) (he : ∀ s, f s = g s) : MapB w b N g := by
  obtain ⟨D, h1, h2⟩ := h
  exact ⟨D, h1, fun s => by rw [← he s]; exact h2 s⟩
theorem plainElem_bool_inv {v : Value} {z : DU × List MemPlace} (h : plainElem Try.prog 4 v = some z) : ∃ x, v = .bool x ∧ z = (.lit (.bool x), []) := by
  have hb : Try.prog.underlying 4 = some .bool := Try.underlying4
  unfold plainElem at h
  rw [hb] at h
  cases v with
  | bool x => exact ⟨x, rfl, (Option.some.inj h).symm⟩
  | _ => cases h
section
variable (w : World) {ops : Array Oper} {rest : List Oper} {o : Oper} {a : Act} {Q : Exit → Act → World → Prop}
theorem wpList_blook (hg : o.guard = none) (m x : Operand) (hop : o.op = Op.lookup 57 m x false) (b N : Nat) (f : Key → Bool) (hm : a.eval m = .map (some b)) (h : MapB w b N f) (s : Key) (hx : a.eval x = .string (bs s)) (hl : s.length ≤ maxLen)
    (hK : wpList Try.prog ops Q rest (a.put o.dst (.bool (f s))) w) : wpList Try.prog ops Q (o :: rest) a w := by
  obtain ⟨D, h1, h2⟩ := h
  refine wpList_plain hg fun K' hK' => ?_
  obtain ⟨v, ps, hrun, hv⟩ := h1.lookup lawS Try.underlying57 (zeroB w) (plainElem_bool Try.underlying4 false) (key_of s hl)
  obtain ⟨y, rfl, hy⟩ := plainElem_bool_inv hv
  rw [h2 s] at hy
  injection hy with hy _
  injection hy with hy
  injection hy with hy
  unfold Oper.wp
  simp [execOp, hop, hm, hx, hrun, Result.andThen]
  rw [← hy]
  exact hK' _ _ hK
theorem wpList_bput (hg : o.guard = none) (m x v : Operand) (hop : o.op = Op.mapUpdate 57 m x v) (b N : Nat) (f : Key → Bool) (hm : a.eval m = .map (some b)) (h : MapB w b N f) (hN : N < maxLen) (s : Key) (c : Bool) (hx : a.eval x = .string (bs s)) (hv : a.eval v = .bool c) (hl : s.length ≤ maxLen)
    (hK : ∀ w', MapB w' b (N + 1) (fun t => if t = s then c else f t) → w.grownBy w' (some b) → wpList Try.prog ops Q rest (a.put o.dst undef) w') : wpList Try.prog ops Q (o :: rest) a w := by
  obtain ⟨D, h1, h2⟩ := h
  refine wpList_mapUpdate_own w hg m x v _ hop 9 4 lawS Try.underlying57 _ b N D hm h1 hN _ _ (kl s) hx hv (key_of s hl) _ [] (plainElem_bool Try.underlying4 c) (fun w' r1 r2 => hK w' ⟨_, r1, fun t => ?_⟩ r2)
  by_cases ht : t = s
  · subst ht
    simp only [if_true]
    exact Maps.atKey_put_same h1.isMap (kl_key t) _ _
  · simp only [if_neg ht]
    rw [Maps.atKey_put_other (kl_ne ht)]
    exact h2 t
end
/-- The cells of reserves. -/
def rCell (R : KL) (q : Nat) : Value := if q % 2 = 0 then .string (bs (R.getD (q / 2) ([], 0)).1) else .int .i64 (R.getD (q / 2) ([], 0)).2
theorem rseg {w : World} {A : Option Addr} {n : Nat} {R : KL} (h : Seg w A (n * 2) (rCell R)) (k : Nat) (hk : k < n) : ∃ b o, A = some ⟨b, o, none⟩ ∧ b < w.heap.size ∧
    w.cell? ⟨b, o + k * 2, none⟩ = some (.string (bs (R.getD k ([], 0)).1)) ∧ w.cell? ⟨b, o + k * 2 + 1, none⟩ = some (.int .i64 (R.getD k ([], 0)).2) := by
  obtain ⟨b, o, rfl, hb, h0⟩ := h (k * 2) (by omega)
  refine ⟨b, o, rfl, hb, ?_, ?_⟩
  · rw [h0, rCell, show k * 2 / 2 = k by omega, if_pos (by omega)]
  · obtain ⟨b', o', he, _, h1⟩ := h (k * 2 + 1) (by omega)
    obtain ⟨rfl, rfl⟩ : b = b' ∧ o = o' := by injection he with h; injection h with h1 h2; exact ⟨h1, h2⟩
    rw [Nat.add_assoc, h1, rCell, show (k * 2 + 1) / 2 = k by omega, if_neg (by omega)]
/-- What checking the reserves finds, behind those seen. -/
def chk (total : Int) : Int → List Key → KL → Int
  | sum, _, [] => if total < sum then 3 else 0
  | sum, seen, (s, c) :: R => if nameV s = false then 4 else if s ∈ seen then 6 else if c < 0 ∨ total < c then 2 else chk total (sum + c) (seen ++ [s]) R
def checkV (total least : Int) (R : KL) : Int := if total < 0 ∨ 1000000000 < total ∨ least < 0 ∨ total < least then 2 else if 32 < R.length then 3 else chk total least [] R
def ChkRel (total least : Int) (R : KL) (w : World) (b : Nat) (u i : Value) (wr : World) : Prop := ∃ (k : Nat) (sum : Int), u = .int .i64 sum ∧ i = .int .i64 k ∧ k ≤ R.length ∧ 0 ≤ sum ∧ sum ≤ total + total * k ∧ MapB wr b k (fun s => decide (s ∈ keys (R.take k))) ∧ Below w.heap.size w wr ∧ w.heap.size ≤ b ∧ checkV total least R = chk total sum (keys (R.take k)) (R.drop k)
set_option maxHeartbeats 2000000 in
theorem check_any (total least : Int) (A : Option Addr) (ca : Nat) (R : KL) (w : World) (hR : Seg w A (R.length * 2) (rCell R)) (hlen : ∀ p ∈ R, p.1.length ≤ 300) : Calls Try.prog 12 #[.int .i64 total, .int .i64 least, .slice A R.length ca] w fun e w' => e = .returned (.int .i64 (checkV total least R)) ∧ Below w.heap.size w w' := by
  by_cases h0 : total < 0 ∨ 1000000000 < total ∨ least < 0 ∨ total < least
  · have hv : checkV total least R = 2 := if_pos h0
    rw [hv]
    go_enter Try.func12, Try.ntmps12
    by_cases h1 : total < 0
    · go_wp2
      go_ret
      exact ⟨rfl, Below.refl _ _⟩
    by_cases h2 : 1000000000 < total
    · go_wp2
      go_ret
      exact ⟨rfl, Below.refl _ _⟩
    by_cases h3 : least < 0
    · go_wp2
      go_ret
      exact ⟨rfl, Below.refl _ _⟩
    have h4 : total < least := by omega
    clear h0
    go_wp2
    go_ret
    exact ⟨rfl, Below.refl _ _⟩
  have h1 : ¬ total < 0 := by omega
  have h2 : ¬ 1000000000 < total := by omega
  have h3 : ¬ least < 0 := by omega
  have h4 : ¬ total < least := by omega
  by_cases h32 : (32 : Int) < R.length
  · have hv : checkV total least R = 3 := by unfold checkV; rw [if_neg h0, if_pos (by omega)]
    rw [hv]
    clear h0
    go_enter Try.func12, Try.ntmps12
    go_wp2
    go_ret
    exact ⟨rfl, Below.refl _ _⟩
  have hv : checkV total least R = chk total least [] R := by unfold checkV; rw [if_neg h0, if_neg (by omega)]
  have HV := Lib.hid hv
  have HR := Lib.hid hR
  have HL := Lib.hid hlen
  clear h0 hv hR hlen
  have hmm := @run_makeMap Try.prog
  go_enter Try.func12, Try.ntmps12
  go_wp2
  go_loopw [7, 35] (ChkRel total least R w w.heap.size) (fun _ i _ => R.length - (intOf i).toNat)
  case atStart => exact ⟨0, least, rfl, rfl, by omega, by omega, by omega, (MapB.made w).congr (fun s => by simp [keys]), (Below.refl _ _).alloc (Nat.le_refl _) _, Nat.le_refl _, HV.out⟩
  case round =>
  obtain ⟨k, sum, rfl, rfl, hk, hs0, hs1, hM, hB, hwb, hch⟩ := hrel
  by_cases hlt : k < R.length
  · obtain ⟨b1, o1, rfl, hb1, q0, q1⟩ := rseg HR.out k hlt
    replace q0 := (hB.cell (p := ⟨b1, o1 + k * 2, none⟩) hb1).trans q0
    replace q1 := (hB.cell (p := ⟨b1, o1 + k * 2 + 1, none⟩) hb1).trans q1
    have hb2 : b1 < wr.heap.size := Nat.lt_of_lt_of_le hb1 hB.size
    generalize hg : R.getD k ([], 0) = e at *
    obtain ⟨x, c⟩ := e
    simp only at q0 q1
    have HG := Lib.hid hg
    clear hg
    go_upto_region 9 with fail
    have hwr : w.heap.size < wr.heap.size := by obtain ⟨_, h1, _⟩ := hM; exact h1.lt
    have hb3 := below_box (Below.refl _ wr) (.cells #[.string (bs x), .int .i64 c] 47)
    have hX := Box.new wr 47 #[.string (bs x), .int .i64 c]
    replace hM := hM.up hb3
    replace hB := below_step hB hb3
    clear hb3 q0 q1 hb1 hb2
    generalize wr.heap.size = rb at *
    generalize wr.alloc (.cells #[.string (bs x), .int .i64 c] 47) = w1 at *
    have hmem : (x, c) ∈ R := by
      have h1 := List.getElem?_eq_getElem hlt
      have h2 : R[k] = (x, c) := by
        have h3 := HG.out
        rw [List.getD_eq_getElem?_getD, h1] at h3
        exact h3
      rw [← h2]
      exact List.getElem_mem hlt
    have hx := HL.out _ hmem
    simp only at hx
    have hdr : R.drop k = (x, c) :: R.drop (k + 1) := by
      have h3 := HG.out
      rw [List.getD_eq_getElem?_getD, List.getElem?_eq_getElem hlt] at h3
      rw [List.drop_eq_getElem_cons hlt]
      exact congrArg (· :: _) h3
    have htk : keys (R.take (k + 1)) = keys (R.take k) ++ [x] := by
      have h3 := HG.out
      rw [List.getD_eq_getElem?_getD, List.getElem?_eq_getElem hlt] at h3
      have h4 : R[k] = (x, c) := h3
      rw [List.take_succ_eq_append_getElem hlt, keys, List.map_append, h4]
      rfl
    rw [hdr] at hch
    clear hmem hdr
    have HK := Lib.hid htk
    clear htk
    have HX := Lib.hid hX
    have d0 := hX.cell 0 _ rfl
    clear hX
    have HN := Lib.hid (fun W => name_any x W (by omega))
    cases hn : nameV x
    · have h4 : checkV total least R = 4 := by rw [hch, chk, if_pos hn]
      rw [hn] at HN
      have H4 := Lib.hid h4
      clear hch h4 hn
      go_wp2_with fail
      refine (HN.out _).mono ?_
      rintro _ w2 ⟨rfl, hb4⟩
      go_wp2
      go_ret
      rw [H4.out]
      exact ⟨rfl, below_step hB hb4⟩
    rw [hn] at HN
    have hx24 := nameV_len hn
    have hxm : x.length ≤ maxLen := by unfold maxLen; omega
    by_cases hin : x ∈ keys (R.take k)
    · have h6 : checkV total least R = 6 := by rw [hch, chk, if_neg (by rw [hn]; decide), if_pos hin]
      have H6 := Lib.hid h6
      have hd : decide (x ∈ keys (R.take k)) = true := decide_eq_true hin
      have HD := Lib.hid hd
      clear hch h6 hn hin hd
      go_wp2_with fail
      refine (HN.out _).mono ?_
      rintro _ w2 ⟨rfl, hb4⟩
      replace hM := hM.up hb4
      replace hB := below_step hB hb4
      have d0 := (HX.out.next hb4).cell 0 _ rfl
      clear hb4
      go_wp2_with (at_lookup; refine wpList_blook _ rfl _ _ rfl _ _ _ rfl hM x rfl hxm ?_; rw [HD.out])
      go_ret
      rw [H6.out]
      exact ⟨rfl, hB⟩
    by_cases hc : c < 0 ∨ total < c
    · have h2' : checkV total least R = 2 := by rw [hch, chk, if_neg (by rw [hn]; decide), if_neg hin, if_pos hc]
      have H2 := Lib.hid h2'
      have HD := Lib.hid (show decide (x ∈ keys (R.take k)) = false from decide_eq_false hin)
      clear hch h2' hn hin
      go_wp2_with fail
      refine (HN.out _).mono ?_
      rintro _ w2 ⟨rfl, hb4⟩
      replace hM := hM.up hb4
      replace hB := below_step hB hb4
      have d0 := (HX.out.next hb4).cell 0 _ rfl
      have d1 := (HX.out.next hb4).cell 1 _ rfl
      clear hb4
      by_cases hc0 : c < 0
      · go_wp2_with (at_lookup; refine wpList_blook _ rfl _ _ rfl _ _ _ rfl hM x rfl hxm ?_; rw [HD.out])
        go_ret
        rw [H2.out]
        exact ⟨rfl, hB⟩
      · have hc1 : total < c := by omega
        clear hc
        go_wp2_with (at_lookup; refine wpList_blook _ rfl _ _ rfl _ _ _ rfl hM x rfl hxm ?_; rw [HD.out])
        go_ret
        rw [H2.out]
        exact ⟨rfl, hB⟩
    have hc0 : ¬ c < 0 := by omega
    have hc1 : ¬ total < c := by omega
    have hch' : checkV total least R = chk total (sum + c) (keys (R.take (k + 1))) (R.drop (k + 1)) := by rw [hch, chk, if_neg (by rw [hn]; decide), if_neg hin, if_neg hc, HK.out]
    have HC := Lib.hid hch'
    have HD := Lib.hid (show decide (x ∈ keys (R.take k)) = false from decide_eq_false hin)
    have hk32 : (k : Int) < 32 := by omega
    have hprod : total * (k : Int) ≤ 1000000000 * 32 := by
      have h5 : total * (k : Int) ≤ 1000000000 * (k : Int) := Int.mul_le_mul_of_nonneg_right (by omega) (by omega)
      omega
    have hsum : IntKind.i64.wrap (sum + c) = sum + c := by rw [IntKind.wrap_i64]; omega
    have hk1 : total + total * (k + 1 : Nat) = (total + total * k) + total := by push_cast; rw [Int.mul_add]; omega
    have HQ : Hid (0 ≤ sum + c ∧ sum + c ≤ total + total * (k + 1 : Nat)) := Lib.hid ⟨by omega, by rw [hk1]; omega⟩
    clear hch hch' hn hin hc hprod hk1 hs0 hs1
    go_wp2_with fail
    refine (HN.out _).mono ?_
    rintro _ w2 ⟨rfl, hb4⟩
    replace hM := hM.up hb4
    replace hB := below_step hB hb4
    have d0 := (HX.out.next hb4).cell 0 _ rfl
    have d1 := (HX.out.next hb4).cell 1 _ rfl
    have HX2 := Lib.hid (HX.out.next hb4)
    clear hb4
    go_wp2_with (first
      | (at_lookup; refine wpList_blook _ rfl _ _ rfl _ _ _ rfl hM x rfl hxm ?_; rw [HD.out])
      | (at_mapUpdate
         refine wpList_bput _ rfl _ _ _ rfl _ _ _ rfl hM (by unfold maxLen; omega) x true rfl rfl hxm ?_
         intro w3 hM3 hg3
         have hB3 : Below w.heap.size w w3 := hB.trans ⟨hg3.os, hg3.tape, hg3.output, hg3.size, fun j hj => hg3.block j (by have := hB.size; omega) (by simp; omega)⟩
         have d3 : w3.cell? ⟨rb, 1, none⟩ = some (.int .i64 c) := by
           rw [World.cell?_of_block (w := w2) (hg3.block rb HX2.out.lt (by simp; omega))]
           exact HX2.out.cell 1 _ rfl
         have HM3 := Lib.hid hM3
         clear d0 d1 hg3 hM3 hM))
    go_roundw
    case rel => exact ⟨k + 1, sum + c, rfl, by go_num, by omega, HQ.out.1, HQ.out.2, HM3.out.congr (fun s => by
      rw [HK.out]
      by_cases hs : s = x
      · simp [hs]
      · simp [hs]), hB3, Nat.le_refl _, HC.out⟩
    case measure => simp [intOf]; omega
  · obtain rfl : k = R.length := by omega
    rw [List.drop_length, chk] at hch
    have HC := Lib.hid hch
    clear hch hM
    by_cases hov : total < sum
    · have h3' : checkV total least R = 3 := by rw [HC.out, if_pos hov]
      have H3 := Lib.hid h3'
      clear h3'
      go_wp2
      go_ret
      rw [H3.out]
      exact ⟨rfl, hB⟩
    · have h3' : checkV total least R = 0 := by rw [HC.out, if_neg hov]
      have H3 := Lib.hid h3'
      clear h3'
      go_wp2
      go_ret
      rw [H3.out]
      exact ⟨rfl, hB⟩
end Go.Proofs.Ytbcologcendhlaa
