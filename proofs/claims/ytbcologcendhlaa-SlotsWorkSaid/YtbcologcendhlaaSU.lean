/- Both slots side by side behind a world: the program's and the reference's; what each operation leaves. -/
import Derived.Test.YtbcologcendhlaaSZ
import Derived.Test.YtbcologcendhlaaSL
namespace Go.Proofs.Ytbcologcendhlaa
open Go.ChangeShapes Go.WideShapes Go.ChangeAt Go.RowKit

theorem bump_len (l : KL) (s : Key) (d : Int) : (bump l s d).length ≤ l.length + 1 := by
  induction l with
  | nil => simp [bump]
  | cons p l ih =>
    obtain ⟨x, c⟩ := p
    rw [bump]
    split
    · simp
    · simp only [List.length_cons]; omega
theorem op_len (st : SS) (o : Int × Key) : (opV st o).2.U.length ≤ st.U.length + 1 := by
  unfold opV acqV relV
  split
  · split
    · exact Nat.le_succ _
    · split
      · exact Nat.le_succ _
      · exact bump_len _ _ _
  · split
    · split
      · exact Nat.le_succ _
      · split
        · exact Nat.le_succ _
        · exact bump_len _ _ _
    · exact Nat.le_succ _
theorem play_len (st : SS) (l : OL) : (playV st l).U.length ≤ st.U.length + l.length := by
  induction l generalizing st with
  | nil => exact Nat.le_refl _
  | cons p l ih =>
    have h1 := ih (opV st p).2
    have h2 := op_len st p
    show (playV (opV st p).2 l).U.length ≤ _
    simp only [List.length_cons]
    omega
theorem RefQ.only {w w' : World} {F : List Nat} {r : Nat} {A2 : Option Addr} {c2 : Nat} {v3 : Value} {st : SS} (h : RefQ w r A2 c2 v3 st) (ho : Only F w w') (hr : r ∉ F) (hA : ∀ a, A2 = some a → a.block ∉ F) (hv : ∀ b, v3.ownBlock = some b → b ∉ F) : RefQ w' r A2 c2 v3 st :=
  ⟨⟨h.ref.box.only ho hr, seg_only h.ref.res ho hA, own_only h.ref.own ho hv⟩, h.s1, h.s2, fun a ha => Nat.lt_of_lt_of_le (h.s4 a ha) ho.size⟩
theorem RefQ.up {w w' : World} {r : Nat} {A2 : Option Addr} {c2 : Nat} {v3 : Value} {st : SS} (h : RefQ w r A2 c2 v3 st) (hb : Below w.heap.size w w') : RefQ w' r A2 c2 v3 st :=
  ⟨h.ref.up hb, h.s1, h.s2, fun a ha => Nat.lt_of_lt_of_le (h.s4 a ha) hb.size⟩
theorem SlotsAt.lt {w : World} {p br bu N : Nat} {st : SS} (h : SlotsAt w p br bu N st) : p < w.heap.size ∧ br < w.heap.size ∧ bu < w.heap.size := by
  obtain ⟨h1, ⟨_, ⟨_, _, h2, _⟩, _⟩, ⟨_, ⟨_, _, h3, _⟩, _⟩, _⟩ := h
  exact ⟨h1.lt, (Array.getElem?_eq_some_iff.1 h2).1, (Array.getElem?_eq_some_iff.1 h3).1⟩

/-- The program's slots (state s1) and the reference's (state s2), all of their blocks newer than w0's. -/
structure Two (w0 w : World) (p br bu N r : Nat) (A2 : Option Addr) (c2 : Nat) (v3 : Value) (s1 s2 : SS) : Prop where
  one : S1 w0 w p br bu N s1
  two : RefQ w r A2 c2 v3 s2
  lr : w0.heap.size ≤ r
  lv : ∀ b, v3.ownBlock = some b → w0.heap.size ≤ b
  ar : r ≠ p ∧ r ≠ br ∧ r ≠ bu
  av : ∀ b, v3.ownBlock = some b → b ≠ p ∧ b ≠ br ∧ b ≠ bu
  aA : ∀ a, A2 = some a → a.block ≠ bu
section
variable {w0 w w' : World} {p br bu N r : Nat} {A2 : Option Addr} {c2 : Nat} {v3 : Value} {s1 s2 s1' s2' st : SS} {least : Int}
theorem Two.up (h : Two w0 w p br bu N r A2 c2 v3 s1 s2) (hb : Below w.heap.size w w') : Two w0 w' p br bu N r A2 c2 v3 s1 s2 := ⟨h.one.up hb, h.two.up hb, h.lr, h.lv, h.ar, h.av, h.aA⟩
theorem two_changed {er : Int} {e : Ending} (h : Two w0 w p br bu N r A2 c2 v3 s1 s2) (k : Changed p br bu (N + 1) er s1' w e w') : e = .returned (.int .i64 er) ∧ Two w0 w' p br bu (N + 1) r A2 c2 v3 s1' s2 := by
  obtain ⟨he, h1⟩ := s1_changed h.one k
  exact ⟨he, h1, h.two.only k.2.2 (fun hm => h.ar.2.2 (List.mem_singleton.1 hm)) (fun a ha hm => h.aA a ha (List.mem_singleton.1 hm)) (fun b hb hm => (h.av b hb).2.2 (List.mem_singleton.1 hm)), h.lr, h.lv, h.ar, h.av, h.aA⟩
theorem two_rchanged {er : Int} {e : Ending} (h : Two w0 w p br bu N r A2 c2 v3 s1 s2) (k : RChanged r A2 c2 v3 er s2' w e w') : e = .returned (.int .i64 er) ∧ ∃ v3', Two w0 w' p br bu N r A2 c2 v3' s1 s2' := by
  obtain ⟨he, v3', hq, ho, hv⟩ := k
  have hlt := h.one.sl.lt
  have hmem : ∀ x, x ∈ r :: v3.ownBlock.toList → x = r ∨ v3.ownBlock = some x := fun x hx => by
    rcases List.mem_cons.1 hx with hx | hx
    · exact .inl hx
    · exact .inr (by simpa using hx)
  have hz := h.one.below.size
  refine ⟨he, v3', ⟨h.one.sl.only ho (fun hm => ?_) (fun hm => ?_) (fun hm => ?_), h.one.below.trans (ho.below (fun x hx => ?_) hz), h.one.lp, h.one.lbr, h.one.lbu⟩, hq, h.lr, fun b hb => ?_, h.ar, fun b hb => ?_, h.aA⟩
  · rcases hmem _ hm with hx | hx
    · exact h.ar.1 hx.symm
    · exact (h.av _ hx).1 rfl
  · rcases hmem _ hm with hx | hx
    · exact h.ar.2.1 hx.symm
    · exact (h.av _ hx).2.1 rfl
  · rcases hmem _ hm with hx | hx
    · exact h.ar.2.2 hx.symm
    · exact (h.av _ hx).2.2 rfl
  · rcases hmem _ hx with hx | hx
    · rw [hx]; exact h.lr
    · exact h.lv _ hx
  · rcases hv b hb with hx | hx
    · exact h.lv _ hx
    · omega
  · rcases hv b hb with hx | hx
    · exact h.av _ hx
    · omega
/-- Both made. -/
theorem two_made {total : Int} {R : KL} {e : Ending} (h : S1 w0 w p br bu 0 ⟨total, R, []⟩) (k : RNewEnds total R w e w') : ∃ r A2 c2, e = .returned (.tuple #[.pointer (some ⟨r, 0, none⟩), .int .i64 0]) ∧ Two w0 w' p br bu 0 r A2 c2 (.slice none 0 0) ⟨total, R, []⟩ ⟨total, R, []⟩ := by
  obtain ⟨r, A2, c2, he, hq, hb, hr, hA⟩ := k
  have hlt := h.sl.lt
  have hz := h.below.size
  refine ⟨r, A2, c2, he, h.up hb, hq, by omega, (fun b hb => by cases hb), by omega, (fun b hb => by cases hb), fun a ha => ?_⟩
  have := hA a ha
  omega
theorem two_acquire (s : Key) (h : Two w0 w p br bu N r A2 c2 v3 s1 s2) (hg : Good least s2) (hm : s2.U.length ≤ 1000000) : Calls Try.prog 14 #[.pointer (some ⟨r, 0, none⟩), .string (bs s)] w fun e w' => e = .returned (.int .i64 (opV s2 (0, s)).1) ∧ ∃ v3', Two w0 w' p br bu N r A2 c2 v3' s1 (opV s2 (0, s)).2 :=
  (racquire_any w r A2 c2 v3 s2 least s h.two hg hm).mono fun _ _ k => two_rchanged h k
theorem two_release (s : Key) (h : Two w0 w p br bu N r A2 c2 v3 s1 s2) (hg : Good least s2) (hm : s2.U.length ≤ 1000000) : Calls Try.prog 15 #[.pointer (some ⟨r, 0, none⟩), .string (bs s)] w fun e w' => e = .returned (.int .i64 (opV s2 (1, s)).1) ∧ ∃ v3', Two w0 w' p br bu N r A2 c2 v3' s1 (opV s2 (1, s)).2 :=
  (rrelease_any w r A2 c2 v3 s2 least s h.two hg hm).mono fun _ _ k => two_rchanged h k
theorem op_none (st : SS) (k : Int) (f : Key) (h0 : k ≠ 0) (h1 : k ≠ 1) : opV st (k, f) = (0, st) := by
  unfold opV
  rw [if_neg h0, if_neg h1]
theorem two_total (h : Two w0 w p br bu N r A2 c2 v3 st s2) (hg : Good least st) : Calls Try.prog 16 #[.pointer (some ⟨p, 0, none⟩)] w fun e w' => e = .returned (.tuple #[.int .i64 (wsum all st.U), .int .i64 st.total]) ∧ Two w0 w' p br bu N r A2 c2 v3 st s2 :=
  (total_any w p br bu N st least h.one.sl hg).mono fun _ _ ⟨he, hb⟩ => ⟨he, h.up hb⟩
theorem two_rtotal (h : Two w0 w p br bu N r A2 c2 v3 s1 st) (hg : Good least st) (hm : st.U.length ≤ 1000000) : Calls Try.prog 17 #[.pointer (some ⟨r, 0, none⟩)] w fun e w' => e = .returned (.tuple #[.int .i64 (wsum all st.U), .int .i64 st.total]) ∧ Two w0 w' p br bu N r A2 c2 v3 s1 st :=
  (rtotal_any w r A2 c2 v3 st least h.two.ref hg (by omega)).mono fun _ _ ⟨he, hb⟩ => ⟨he, h.up hb⟩
theorem two_used (s : Key) (h : Two w0 w p br bu N r A2 c2 v3 st s2) (hg : Good least st) (hl : s.length ≤ 1000000) : Calls Try.prog 18 #[.pointer (some ⟨p, 0, none⟩), .string (bs s)] w fun e w' => e = .returned (.int .i64 (cnt st.U s)) ∧ Below w.heap.size w w' := by
  have := used_any w p br bu N st s h.one.sl hl
  rwa [used_cnt hg] at this
theorem two_rused (s : Key) (h : Two w0 w p br bu N r A2 c2 v3 s1 st) (hm : st.U.length ≤ 1000000) : Calls Try.prog 19 #[.pointer (some ⟨r, 0, none⟩), .string (bs s)] w fun e w' => e = .returned (.int .i64 (cnt st.U s)) ∧ Below w.heap.size w w' :=
  (rused_any w r A2 c2 v3 st s h.two.ref (by omega)).mono fun _ _ ⟨he, hb⟩ => ⟨he, hb ▸ Below.refl _ _⟩
theorem two_free (s : Key) (h : Two w0 w p br bu N r A2 c2 v3 st s2) (hg : Good least st) (hl : s.length ≤ 1000000) : Calls Try.prog 20 #[.pointer (some ⟨p, 0, none⟩), .string (bs s)] w fun e w' => e = .returned (.int .i64 (freeV st s)) ∧ Below w.heap.size w w' :=
  free_any w p br bu N st least s h.one.sl hg hl
theorem two_rfree (s : Key) (h : Two w0 w p br bu N r A2 c2 v3 s1 st) (hg : Good least st) (hm : st.U.length ≤ 1000000) : Calls Try.prog 21 #[.pointer (some ⟨r, 0, none⟩), .string (bs s)] w fun e w' => e = .returned (.int .i64 (freeV st s)) ∧ Below w.heap.size w w' :=
  rfree_any w r A2 c2 v3 st least s h.two.ref hg (by omega)
theorem changed_from {w1 : World} {er : Int} {e : Ending} (hb : Below w.heap.size w w1) (k : Changed p br bu N er st w1 e w') : Changed p br bu N er st w e w' :=
  ⟨k.1, k.2.1, (Only.of_up hb).trans k.2.2 (fun _ hx => .inl hx)⟩
/-- done, over whatever lies beside. -/
theorem done_only (k : Int) (f : Key) (h : SlotsAt w p br bu N st) (hg : Good least st) (hl : f.length ≤ 1000000) (hN : N ≤ 1000000) : Calls Try.prog 13 #[.pointer (some ⟨p, 0, none⟩), .agg #[.int .i64 k, .string (bs f)]] w (Changed p br bu (N + 1) (opV st (k, f)).1 (opV st (k, f)).2 w) := by
  have hx := Box.new w 36 #[.int .i64 k, .string (bs f)]
  have hbx := below_box (Below.refl _ w) (.cells #[.int .i64 k, .string (bs f)] 36)
  have h1 := h.up hbx
  have HB := Lib.hid hbx
  have c0 := hx.cell 0 _ rfl
  unfold opV
  by_cases k0 : k = 0
  · subst k0
    rw [if_pos rfl]
    dsimp only
    have HA := Lib.hid (acquire_any _ p br bu N st least f h1 hg hl hN)
    have c1 := hx.cell 1 _ rfl
    clear h hg h1 hbx hx
    generalize acqV st f = r at *
    go_enter Try.func13, Try.ntmps13
    go_wp2_with fail
    refine HA.out.mono ?_
    rintro _ w2 ⟨rfl, h2⟩
    clear c0 c1
    have H2 := Lib.hid h2
    clear h2
    go_wp2
    go_ret
    exact changed_from HB.out ⟨rfl, H2.out⟩
  · rw [if_neg k0]
    have n0 : (k == 0) = false := by simpa using k0
    by_cases k1 : k = 1
    · subst k1
      rw [if_pos rfl]
      dsimp only
      have HA := Lib.hid (release_any _ p br bu N st least f h1 hg hl hN)
      have c1 := hx.cell 1 _ rfl
      clear h hg h1 hbx hx
      generalize relV st f = r at *
      go_enter Try.func13, Try.ntmps13
      go_wp2_with fail
      refine HA.out.mono ?_
      rintro _ w2 ⟨rfl, h2⟩
      clear c0 c1
      have H2 := Lib.hid h2
      clear h2
      go_wp2
      go_ret
      exact changed_from HB.out ⟨rfl, H2.out⟩
    · rw [if_neg k1]
      have n1 : (k == 1) = false := by simpa using k1
      have H1 := Lib.hid h1
      clear h hg h1 hbx hx
      go_enter Try.func13, Try.ntmps13
      go_wp2
      go_ret
      obtain ⟨a1, a2, a3, a4⟩ := H1.out
      exact ⟨rfl, ⟨a1, a2, a3.mono (Nat.le_succ N), a4⟩, Only.of_up HB.out⟩
theorem two_done (k : Int) (f : Key) (h : Two w0 w p br bu N r A2 c2 v3 st s2) (hg : Good least st) (hl : f.length ≤ 1000000) (hN : N ≤ 1000000) : Calls Try.prog 13 #[.pointer (some ⟨p, 0, none⟩), .agg #[.int .i64 k, .string (bs f)]] w fun e w' => e = .returned (.int .i64 (opV st (k, f)).1) ∧ Two w0 w' p br bu (N + 1) r A2 c2 v3 (opV st (k, f)).2 s2 :=
  (done_only k f h.one.sl hg hl hN).mono fun _ _ k => two_changed h k
end
end Go.Proofs.Ytbcologcendhlaa
