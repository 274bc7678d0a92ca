/- Split of layer 53 (price). -/
import Derived.Test.YtdmffbbobagloaaF
namespace Go.Proofs.Ytdmffbbobagloaa
open Go.ChangeShapes Go.WideShapes Go.ChangeAt Go.RowKit
attribute [local go_sem] ownAt ownUpon mixAt mixUpon

def partL (ts : List T2) (units : Int) (k : Nat) : List Int := (List.range k).map (partV ts units)
theorem partL_len (ts : List T2) (units : Int) (k : Nat) : (partL ts units k).length = k := by simp [partL]
theorem partL_get (ts : List T2) (units : Int) (k j : Nat) (h : j < k) : (partL ts units k).getD j 0 = partV ts units j := by simp [partL, List.getD, h]
theorem pI_get (ts : List T2) (units : Int) (k j : Nat) (h : j < k) : pI ts units k j = (partL ts units k).getD j 0 := by rw [partL_get ts units k j h, pI, if_pos h]
theorem seg_arr (ts : List T2) (units : Int) (n : Nat) (h : n ≤ 8) {w : World} {b : Nat} {t : TypeId} (hb : Box w b t (partArr ts units n)) : Seg w (some ⟨b, 0, none⟩) n (ints (partL ts units n)) := fun k hk =>
  ⟨b, 0, rfl, hb.lt, by rw [Nat.zero_add]; exact hb.cell k _ (by rw [partArr_get ts units n k (by omega), ints, pI_get ts units n k hk])⟩
def LOut (w : World) (l : List Int) (x : Int) (e : Ending) (w' : World) : Prop := ∃ v, e = .returned (.tuple #[v, .int .i64 x]) ∧ w'.ownsRow w.heap.size 3 1 v l.length (l.map (Value.int .i64)) ∧ Below w.heap.size w w'
theorem lout_nil {w w' : World} {x : Int} (h : Below w.heap.size w w') : LOut w [] x (.returned (.tuple #[.slice none 0 0, .int .i64 x])) w' := ⟨_, rfl, World.ownsRow_nil _ _ _ _, h⟩
theorem info3 : (Try.prog.info? 3).map (fun i => (i.zero, i.size, i.bytes)) = some (some (.int .i64 0), 1, 8) := by kernel_rfl
theorem grown_below {w w' : World} {base : Nat} {row : Option Nat} (hg : w.grownBy w' row) (hr : ∀ k, row = some k → base ≤ k) (hb : base ≤ w.heap.size) : Below base w w' :=
  ⟨hg.os, hg.tape, hg.output, hg.size, fun k hk => hg.block k (by omega) (fun h => by have := hr k h.symm; omega)⟩
theorem run_sl47 (W : World) (b n : Nat) (h : n ≤ 8) : (Instr.sliceAt 47 (.pointer (some ⟨b, 0, none⟩)) none (some (.int .i64 (n : Int))) none).run Try.prog W = .ok (.slice (some ⟨b, 0, none⟩) n 8) W := by
  have hal : Try.prog.arrayLen 47 = 8 := by simp [Program.arrayLen, Try.underlying47]
  rw [run_sliceAt_array_h W 47 ⟨b, 0, none⟩ (by simp [Program.arrayLen, Program.elem, Try.underlying47]) .i64 (n : Int) (by omega) (by rw [hal]; omega)]
  simp [Program.elem, Try.underlying47, Try.sizeOf3, slicedAt, hal]
  rfl
theorem own_empty (w : World) (base : Nat) (h : base ≤ w.heap.size) : (w.alloc (.cells #[] 3)).ownsRow base 3 1 (.slice (some ⟨w.heap.size, 0, none⟩) 0 0) 0 [] :=
  ⟨rfl, .inr ⟨w.heap.size, 0, #[], rfl, h, heap_alloc_new w _, Nat.le_refl _, by unfold maxLen; omega, rfl, rfl⟩⟩
theorem seg_none {w : World} {A : Option Addr} {n : Nat} {f : Nat → Value} (h : Seg w A n f) : A = none → n = 0 := fun hA => by
  rcases Nat.eq_zero_or_pos n with h0 | h0
  · exact h0
  · obtain ⟨_, _, he, _⟩ := h 0 h0
    rw [hA] at he
    cases he
set_option maxHeartbeats 1000000 in
theorem spl_0 (fi fu iv : Int) (A : Option Addr) (n cap : Nat) (ts : List T2) (units x : Int) (w : World) (hs : Hid (Seg w A (n * 2) (tCell ts))) (HC : Hid (∀ W, Seg W A (n * 2) (tCell ts) → Calls Try.prog 15 #[.agg #[.int .i64 fi, .int .i64 fu, .int .i64 iv, .slice A n cap]] W fun e w' => e = .returned (.int .i64 x) ∧ Below W.heap.size W w')) (hx : (x != 0) = true) : Calls Try.prog 11 #[.agg #[.int .i64 fi, .int .i64 fu, .int .i64 iv, .slice A n cap], .int .i64 units] w fun e w' => e = .returned (.tuple #[.slice none 0 0, .int .i64 x]) ∧ Below w.heap.size w w' := by
  go_enter Try.func11, Try.ntmps11
  go_wp2_with fail
  refine (HC.out _ (hs.out.next (below_box (Below.refl _ _) _))).mono ?_
  rintro _ wx1 ⟨rfl, hb⟩
  have P := (Box.new w 24 #[.int .i64 fi, .int .i64 fu, .int .i64 iv, .slice A n cap]).next hb
  have hB := below_step (below_box (Below.refl _ w) _) hb
  clear hb
  have cP_0 := P.cell 0 _ rfl
  have cP_1 := P.cell 1 _ rfl
  have cP_2 := P.cell 2 _ rfl
  have cP_3 := P.cell 3 _ rfl
  have lP := P.lt
  go_wp2
  refine bodyPost_ret (v := .tuple #[.slice none 0 0, .int .i64 x]) ?_ (by with_reducible rfl) ⟨(by with_reducible rfl), hB⟩
  simp [results, Try.results11, go_sem]
set_option maxHeartbeats 1000000 in
theorem spl_1 (fi fu iv : Int) (A : Option Addr) (n cap : Nat) (ts : List T2) (units : Int) (w : World) (hs : Hid (Seg w A (n * 2) (tCell ts))) (HC : Hid (∀ W, Seg W A (n * 2) (tCell ts) → Calls Try.prog 15 #[.agg #[.int .i64 fi, .int .i64 fu, .int .i64 iv, .slice A n cap]] W fun e w' => e = .returned (.int .i64 0) ∧ Below W.heap.size W w')) (h : (units < 0 ∨ (0 ≤ units ∧ 1000000000000 < units))) : Calls Try.prog 11 #[.agg #[.int .i64 fi, .int .i64 fu, .int .i64 iv, .slice A n cap], .int .i64 units] w fun e w' => e = .returned (.tuple #[.slice none 0 0, .int .i64 2]) ∧ Below w.heap.size w w' := by
  go_enter Try.func11, Try.ntmps11
  go_wp2_with fail
  refine (HC.out _ (hs.out.next (below_box (Below.refl _ _) _))).mono ?_
  rintro _ wx1 ⟨rfl, hb⟩
  have P := (Box.new w 24 #[.int .i64 fi, .int .i64 fu, .int .i64 iv, .slice A n cap]).next hb
  have hB := below_step (below_box (Below.refl _ w) _) hb
  clear hb
  have cP_0 := P.cell 0 _ rfl
  have cP_1 := P.cell 1 _ rfl
  have cP_2 := P.cell 2 _ rfl
  have cP_3 := P.cell 3 _ rfl
  have lP := P.lt
  go_wp2_with fail
  refine (btw_no _ _ _ _ h).mono ?_
  rintro _ wy2 ⟨rfl, rfl⟩
  go_wp2
  refine bodyPost_ret (v := .tuple #[.slice none 0 0, .int .i64 2]) ?_ (by with_reducible rfl) ⟨(by with_reducible rfl), hB⟩
  simp [results, Try.results11, go_sem]
set_option maxHeartbeats 4000000 in
theorem spl_2 (fi fu iv : Int) (A : Option Addr) (n cap : Nat) (ts : List T2) (units : Int) (w : World) (hs : Hid (Seg w A (n * 2) (tCell ts))) (HC : Hid (∀ W, Seg W A (n * 2) (tCell ts) → Calls Try.prog 15 #[.agg #[.int .i64 fi, .int .i64 fu, .int .i64 iv, .slice A n cap]] W fun e w' => e = .returned (.int .i64 0) ∧ Below W.heap.size W w')) (h3 : 0 ≤ units) (h4 : units ≤ 1000000000000) (h1 : 1 ≤ n) (h2 : n ≤ 8) (HS : Hid (∀ W, Seg W A (n * 2) (tCell ts) → Calls Try.prog 23 #[.agg #[.int .i64 fi, .int .i64 fu, .int .i64 iv, .slice A n cap], .int .i64 units] W fun e w' => e = .returned (.agg #[.int .i64 (pI ts units n 0), .int .i64 (pI ts units n 1), .int .i64 (pI ts units n 2), .int .i64 (pI ts units n 3), .int .i64 (pI ts units n 4), .int .i64 (pI ts units n 5), .int .i64 (pI ts units n 6), .int .i64 (pI ts units n 7)]) ∧ Below W.heap.size W w')) : Calls Try.prog 11 #[.agg #[.int .i64 fi, .int .i64 fu, .int .i64 iv, .slice A n cap], .int .i64 units] w (LOut w (partL ts units n) 0) := by
  go_enter Try.func11, Try.ntmps11
  go_wp2_with fail
  refine (HC.out _ (hs.out.next (below_box (Below.refl _ _) _))).mono ?_
  rintro _ wx1 ⟨rfl, hb⟩
  have P := (Box.new w 24 #[.int .i64 fi, .int .i64 fu, .int .i64 iv, .slice A n cap]).next hb
  have hB := below_step (below_box (Below.refl _ w) _) hb
  clear hb
  have cP_0 := P.cell 0 _ rfl
  have cP_1 := P.cell 1 _ rfl
  have cP_2 := P.cell 2 _ rfl
  have cP_3 := P.cell 3 _ rfl
  have lP := P.lt
  go_wp2_with fail
  refine (btw_yes _ _ _ _ h3 h4).mono ?_
  rintro _ wy2 ⟨rfl, rfl⟩
  go_wp2_with fail
  refine (HS.out _ (hs.out.next hB)).mono ?_
  rintro _ wx3 ⟨rfl, hb⟩
  clear cP_0 cP_1 cP_2 cP_3 lP
  replace P := P.next hb
  replace hB := below_step hB hb
  clear hb
  have cP_0 := P.cell 0 _ rfl
  have cP_1 := P.cell 1 _ rfl
  have cP_2 := P.cell 2 _ rfl
  have cP_3 := P.cell 3 _ rfl
  have lP := P.lt
  have zP_O := P.lt
  have zB_O := hB.size
  go_upto_region 7 with fail
  clear cP_0 cP_1 cP_2 cP_3 lP
  have zP := P.lt
  refine wp_forget (fun W => Box W w.heap.size 24 #[.int .i64 fi, .int .i64 fu, .int .i64 iv, .slice A n cap] ∧ Box W (wx3.heap.size) 47 #[.int .i64 (pI ts units n 0), .int .i64 (pI ts units n 1), .int .i64 (pI ts units n 2), .int .i64 (pI ts units n 3), .int .i64 (pI ts units n 4), .int .i64 (pI ts units n 5), .int .i64 (pI ts units n 6), .int .i64 (pI ts units n 7)] ∧ Below w.heap.size w W)
    ⟨(P.alloc _), (Box.new wx3 47 #[.int .i64 (pI ts units n 0), .int .i64 (pI ts units n 1), .int .i64 (pI ts units n 2), .int .i64 (pI ts units n 3), .int .i64 (pI ts units n 4), .int .i64 (pI ts units n 5), .int .i64 (pI ts units n 6), .int .i64 (pI ts units n 7)]), (below_box hB _)⟩ ?_
  clear P hB
  rintro wx4 ⟨P, O, hB⟩
  have cP_0 := P.cell 0 _ rfl
  have cP_1 := P.cell 1 _ rfl
  have cP_2 := P.cell 2 _ rfl
  have cP_3 := P.cell 3 _ rfl
  have lP := P.lt
  have cO_0 := O.cell 0 _ rfl
  have cO_1 := O.cell 1 _ rfl
  have cO_2 := O.cell 2 _ rfl
  have cO_3 := O.cell 3 _ rfl
  have cO_4 := O.cell 4 _ rfl
  have cO_5 := O.cell 5 _ rfl
  have cO_6 := O.cell 6 _ rfl
  have cO_7 := O.cell 7 _ rfl
  have lO := O.lt
  clear cP_0 cP_1 cP_2 cP_3 lP cO_0 cO_1 cO_2 cO_3 cO_4 cO_5 cO_6 cO_7 lO
  have cP_0 := P.cell 0 _ rfl
  have cP_1 := P.cell 1 _ rfl
  have cP_2 := P.cell 2 _ rfl
  have cP_3 := P.cell 3 _ rfl
  have lP := P.lt
  obtain ⟨i0, hi, hz0, hz1, hz2⟩ := info_parts info3
  have HI := Lib.hid hi
  clear hi
  have hsl := fun W => run_sl47 W wx3.heap.size n h2
  have HW := Lib.hid (own_empty wx4 w.heap.size hB.size)
  have HA := Lib.hid ((seg_arr ts units n h2 O).next ((Below.refl _ wx4).alloc (Nat.le_refl _) (.cells #[] 3)))
  clear O
  go_wp2_with (at_builtin; go_loud (refine wpList_append_seg _ rfl (.tmp 19) (.tmp 23) 31 rfl w.heap.size 3 i0 (.int .i64 0) 1 8 Try.underlying31 HI.out hz0 hz1 hz2 rfl (by decide) (.slice (some ⟨wx4.heap.size, 0, none⟩) 0 0) 0 [] rfl HW.out (some ⟨wx3.heap.size, 0, none⟩) n 8 (ints (partL ts units n)) rfl (by rw [Nat.mul_one]; exact HA.out) (fun _ _ => rfl) (by unfold maxLen; omega) (by omega) (below_box hB _).size (fun h => by cases h) ?_); intro v1 wa1 ho hg _)
  rw [Nat.zero_add, List.nil_append, segCells_ints _ _ (partL_len ts units n)] at ho
  have hB1 : Below w.heap.size w wa1 := (below_box hB _).trans (grown_below hg (fun k hk => by simp [Value.ownBlock] at hk; subst hk; exact hB.size) (below_box hB _).size)
  go_wp2
  go_ret2
  exact ⟨v1, rfl, by rw [partL_len]; exact ho, hB1⟩

end Go.Proofs.Ytdmffbbobagloaa
