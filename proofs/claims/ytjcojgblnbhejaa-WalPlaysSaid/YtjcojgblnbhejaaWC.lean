/- A disk, and blocks beside it, behind a world; the methods of a log that only ask; Open. -/
import Derived.Test.YtjcojgblnbhejaaWB
import Derived.Test.YtjcojgblnbhejaaBD
import Derived.Test.YtjcojgblnbhejaaXN
namespace Go.Proofs.Ytjcojgblnbhejaa
open Go.ChangeShapes Go.WideShapes Go.ChangeAt Go.RowKit
attribute [local go_sem] ownAtC ownUponC

/-- A block beside the disk: its number, and what it is. -/
abbrev Aside := Nat × Obj
/-- The disk behind block g, and the blocks X beside it, all laid since w0. -/
structure AtX (w0 w : World) (g : Nat) (s : DS) (X : List Aside) : Prop where
  disk : ∃ F, DiskAt w g F s ∧ (∀ b ∈ F, w0.heap.size ≤ b) ∧ ∀ x ∈ X, x.1 ∉ F
  below : Below w0.heap.size w0 w
  box : ∀ x ∈ X, w.heap[x.1]? = some x.2
  new : ∀ x ∈ X, w0.heap.size ≤ x.1
  nd : (X.map (·.1)).Nodup
theorem obj_lt {w : World} {b : Nat} {o : Obj} (h : w.heap[b]? = some o) : b < w.heap.size := (Array.getElem?_eq_some_iff.1 h).1
theorem AtX.up {w0 w w' : World} {g : Nat} {s : DS} {X : List Aside} (h : AtX w0 w g s X) (hb : Below w.heap.size w w') : AtX w0 w' g s X := by
  obtain ⟨⟨F, d1, d2, d3⟩, h2, h3, h4, h5⟩ := h
  exact ⟨⟨F, d1.up hb, d2, d3⟩, below_step h2 hb, fun x hx => (hb.block _ (obj_lt (h3 x hx))).trans (h3 x hx), h4, h5⟩
theorem AtX.sub {w0 w : World} {g : Nat} {s : DS} {X Y : List Aside} (h : AtX w0 w g s X) (hs : Y.Sublist X) : AtX w0 w g s Y := by
  obtain ⟨⟨F, d1, d2, d3⟩, h2, h3, h4, h5⟩ := h
  exact ⟨⟨F, d1, d2, fun x hx => d3 x (hs.subset hx)⟩, h2, fun x hx => h3 x (hs.subset hx), fun x hx => h4 x (hs.subset hx), (hs.map _).nodup h5⟩
/-- A block that was laid since. -/
theorem AtX.fresh {w0 w w' : World} {g : Nat} {s : DS} {X : List Aside} {b : Nat} {o : Obj} (h : AtX w0 w g s X) (hb : Below w.heap.size w w') (ho : w'.heap[b]? = some o) (hn : w.heap.size ≤ b) : AtX w0 w' g s ((b, o) :: X) := by
  have hu := h.up hb
  obtain ⟨⟨F, d1, d2, d3⟩, h2, h3, h4, h5⟩ := h
  refine ⟨⟨F, d1.up hb, d2, ?_⟩, hu.below, ?_, ?_, ?_⟩
  · intro x hx
    rcases List.mem_cons.1 hx with rfl | hx
    · intro hm
      have := d1.lt _ hm
      simp only at this
      omega
    · exact d3 x hx
  · intro x hx
    rcases List.mem_cons.1 hx with rfl | hx
    · exact ho
    · exact hu.box x hx
  · intro x hx
    rcases List.mem_cons.1 hx with rfl | hx
    · exact Nat.le_trans h2.size hn
    · exact h4 x hx
  · rw [List.map_cons, List.nodup_cons]
    refine ⟨fun hm => ?_, h5⟩
    obtain ⟨x, hx, he⟩ := List.mem_map.1 hm
    have := obj_lt (h3 x hx)
    simp only at he
    omega
theorem AtX.more {w0 w : World} {g : Nat} {s : DS} {X : List Aside} (h : AtX w0 w g s X) (t : TypeId) (cs : Array Value) : AtX w0 (w.alloc (.cells cs t)) g s ((w.heap.size, .cells cs t (0, 0)) :: X) :=
  h.fresh (below_box (Below.refl _ w) (.cells cs t)) (Box.new w t cs) (Nat.le_refl _)
/-- In every world that has the blocks Y the value v reads as the strings l. -/
def Held (Y : List Aside) (v : Value) (l : List (List UInt8)) : Prop := ∀ w : World, (∀ x ∈ Y, w.heap[x.1]? = some x.2) → Strs w v l
theorem AtX.held {w0 w w' : World} {g : Nat} {s : DS} {X : List Aside} {v : Value} {l : List (List UInt8)} (h : AtX w0 w g s X) (hb : Below w.heap.size w w') (hs : StrsN w' w.heap.size v l) : ∃ Y, AtX w0 w' g s (Y ++ X) ∧ Held Y v l := by
  obtain ⟨⟨A, cap, rfl, hseg, hA, hc⟩, hn⟩ := hs
  by_cases h0 : l.length = 0
  · refine ⟨[], h.up hb, fun w _ => ⟨A, cap, rfl, fun k hk => absurd hk (by omega), hA, hc⟩⟩
  · obtain ⟨b, o, rfl, hlt, hcell⟩ := hseg 0 (by omega)
    have hnb : w.heap.size ≤ b := hn _ _ _ rfl
    refine ⟨[(b, w'.heap[b]'hlt)], h.fresh hb (Array.getElem?_eq_getElem hlt) hnb, fun W hW => ⟨_, cap, rfl, fun k hk => ?_, hA, hc⟩⟩
    have hWb := hW _ (List.mem_singleton.2 rfl)
    obtain ⟨b', o', he, _, hc'⟩ := hseg k hk
    injection he with he
    injection he with e1 e2
    subst e1 e2
    refine ⟨b, o, rfl, obj_lt hWb, ?_⟩
    rw [World.cell?_of_block (w := w') (by rw [Array.getElem?_eq_getElem hlt]; exact hWb)]
    exact hc'
theorem atx_left {w0 w : World} {g : Nat} {s s' : DS} {X : List Aside} {er : Int} {f : FuncId} {args : Array Value} (h : AtX w0 w g s X) (k : ∀ F, DiskAt w g F s → Calls Try.prog f args w (Left w g F er s')) : Calls Try.prog f args w fun e w' => e = .returned (.int .i64 er) ∧ AtX w0 w' g s' X := by
  obtain ⟨⟨F, d1, d2, d3⟩, h2, h3, h4, h5⟩ := h
  refine (k F d1).mono fun e w' hl => ?_
  obtain ⟨he, F', k1, k2, k3⟩ := hl
  refine ⟨he, ⟨F', k1, fun b hb => ?_, fun x hx hm => ?_⟩, h2.trans (k2.below d2 h2.size), fun x hx => (k2.block _ (obj_lt (h3 x hx)) (d3 x hx)).trans (h3 x hx), h4, h5⟩
  · rcases k3 b hb with h | h
    · exact d2 b h
    · exact Nat.le_trans h2.size h
  · rcases k3 _ hm with h | h
    · exact d3 x hx h
    · have := obj_lt (h3 x hx)
      omega
theorem atx_calm {w0 w : World} {g : Nat} {s : DS} {X : List Aside} {f : FuncId} {args : Array Value} {Q : Ending → World → Prop} (h : AtX w0 w g s X) (k : ∀ F, DiskAt w g F s → Calls Try.prog f args w fun e w' => Q e w' ∧ Below w.heap.size w w') : Calls Try.prog f args w fun e w' => Q e w' ∧ AtX w0 w' g s X := by
  obtain ⟨F, d1, _⟩ := h.disk
  exact (k F d1).mono fun e w' ⟨hq, hb⟩ => ⟨hq, h.up hb⟩
theorem atx_ref {w0 w : World} {g r : Nat} {s : DS} {T : TypeId} {cs cs' : Array Value} {X : List Aside} {f : FuncId} {args : Array Value} {v : Value} (h : AtX w0 w g s ((r, .cells cs T (0, 0)) :: X)) (k : Calls Try.prog f args w fun e w' => e = .returned v ∧ Box w' r T cs' ∧ Only [r] w w') : Calls Try.prog f args w fun e w' => e = .returned v ∧ AtX w0 w' g s ((r, .cells cs' T (0, 0)) :: X) := by
  obtain ⟨⟨F, d1, d2, d3⟩, h2, h3, h4, h5⟩ := h
  refine k.mono fun e w' hl => ?_
  obtain ⟨he, k1, k2⟩ := hl
  rw [List.map_cons, List.nodup_cons] at h5
  have hr : r ∉ F := d3 (r, Obj.cells cs T (0, 0)) List.mem_cons_self
  have hx : ∀ x ∈ X, x.1 ∉ [r] := fun x hx hm => h5.1 (List.mem_map.2 ⟨x, hx, List.mem_singleton.1 hm⟩)
  refine ⟨he, ⟨F, d1.far k2 (fun b hb hm => hr (List.mem_singleton.1 hm ▸ hb)), d2, fun x hx => ?_⟩, h2.trans (k2.below (fun b hb => ?_) h2.size), fun x hx' => ?_, fun x hx => ?_, ?_⟩
  · rcases List.mem_cons.1 hx with rfl | hx
    · exact hr
    · exact d3 x (List.mem_cons_of_mem _ hx)
  · rw [List.mem_singleton.1 hb]
    exact h4 (r, Obj.cells cs T (0, 0)) List.mem_cons_self
  · rcases List.mem_cons.1 hx' with rfl | hx'
    · exact k1
    · exact (k2.block _ (obj_lt (h3 x (List.mem_cons_of_mem _ hx'))) (hx x hx')).trans (h3 x (List.mem_cons_of_mem _ hx'))
  · rcases List.mem_cons.1 hx with rfl | hx
    · exact h4 (r, Obj.cells cs T (0, 0)) List.mem_cons_self
    · exact h4 x (List.mem_cons_of_mem _ hx)
  · rw [List.map_cons, List.nodup_cons]
    exact h5
abbrev lgX (lg g : Nat) : Aside := (lg, .cells #[.pointer (some ⟨g, 0, none⟩)] 39 (0, 0))
abbrev rlX (rl r : Nat) : Aside := (rl, .cells #[.pointer (some ⟨r, 0, none⟩)] 68 (0, 0))
abbrev rX (r : Nat) (s : DS) : Aside := (r, .cells #[.int .i64 s.sz, .string (bs s.dur), .string (bs s.app), .bool s.rep, .string (bs s.fre), .bool s.down] 66 (0, 0))

def recs (s : DS) : List (List UInt8) := (splitV (contV s)).1
def durs (s : DS) : List (List UInt8) := (splitV ((contV s).take s.dur.length)).1
theorem rdy_cases (s : DS) (hz : 1 ≤ s.sz) : (rdy s = 0 ∧ s.down = false) ∨ (rdy s = 22 ∧ s.down = true) := by
  unfold rdy
  rw [if_neg (by omega)]
  cases s.down
  · exact .inl ⟨rfl, rfl⟩
  · exact .inr ⟨rfl, rfl⟩
theorem contV_len (s : DS) (hf : Fit s) : (contV s).length ≤ 262144 := by
  have h1 := cont_le s hf
  have h2 := hf.hi
  unfold contV
  split
  · omega
  · exact Nat.zero_le _
theorem bs_back (x : List UInt8) : (bs x).data.toList = x := by simp [bs]
theorem recover_any (t : ByteArray) (w : World) (hs : t.size ≤ 1000000) : Calls Try.prog 18 #[.string t] w (Splits t.data.toList w) := by
  have H := Lib.hid (split_any t w hs)
  clear hs
  go_enter Try.func18, Try.ntmps18
  go_wp2_with fail
  refine H.out.mono ?_
  rintro _ w1 ⟨v, rfl, hv, hb⟩
  go_wp2
  go_ret2
  exact ⟨v, rfl, hv, hb⟩
theorem rrecover_any (t : ByteArray) (w : World) (hs : t.size ≤ 1000000) : Calls Try.prog 19 #[.string t] w (Splits t.data.toList w) := by
  have H := Lib.hid (rsplit_any t w hs)
  clear hs
  go_enter Try.func19, Try.ntmps19
  go_wp2_with fail
  refine H.out.mono ?_
  rintro _ w1 ⟨v, rfl, hv, hb⟩
  go_wp2
  go_ret2
  exact ⟨v, rfl, hv, hb⟩
theorem recover_bs (x : List UInt8) (w : World) (hs : x.length ≤ 1000000) : Calls Try.prog 18 #[.string (bs x)] w (Splits x w) := by
  have := recover_any (bs x) w (by rw [bs_size]; exact hs)
  rwa [bs_back] at this
theorem rrecover_bs (x : List UInt8) (w : World) (hs : x.length ≤ 1000000) : Calls Try.prog 19 #[.string (bs x)] w (Splits x w) := by
  have := rrecover_any (bs x) w (by rw [bs_size]; exact hs)
  rwa [bs_back] at this
theorem records_any (w : World) (lg g : Nat) (F : List Nat) (s : DS) (hl : LogAt w lg g) (h : DiskAt w g F s) (hf : Fit s) (hz : 1 ≤ s.sz) : Calls Try.prog 14 #[.pointer (some ⟨lg, 0, none⟩)] w fun e w' => (∃ v, e = .returned v ∧ StrsN w' w.heap.size v (recs s)) ∧ Below w.heap.size w w' := by
  have HM := Lib.hid (made_any w lg g hl)
  have HD := Lib.hid (down_any w g F s h)
  have HC := Lib.hid (Contents_any w g F s h hf)
  have hx := contV_len s hf
  have HR := Lib.hid (fun W => recover_bs (contV s) W (by omega))
  have c0 := Box.cell hl 0 _ rfl
  have HL := Lib.hid hl
  clear hl h hf hx
  unfold recs
  rcases rdy_cases s hz with ⟨h0, _⟩ | ⟨h0, _⟩
  · have e0 : (rdy s == 22) = false := by rw [h0]; rfl
    rw [e0] at HD
    clear e0 h0 hz
    change Hid (Calls Try.prog _ _ _ fun e w' => e = .returned (.string (bs (contV s))) ∧ _) at HC
    generalize contV s = x at *
    go_enter Try.func14, Try.ntmps14
    go_wp2_with fail
    refine HM.out.mono ?_
    rintro _ _ ⟨rfl, rfl⟩
    go_wp2_with fail
    refine HD.out.mono ?_
    rintro _ _ ⟨rfl, rfl⟩
    go_wp2_with fail
    refine HC.out.mono ?_
    rintro _ w1 ⟨rfl, hb⟩
    go_wp2_with fail
    refine (HR.out w1).mono ?_
    rintro _ w2 ⟨v, rfl, hv, hb2⟩
    go_wp2
    go_ret
    exact ⟨⟨v, rfl, hv.1, fun a n c e => Nat.le_trans hb.size (hv.2 a n c e)⟩, below_step hb hb2⟩
  · have e0 : (rdy s == 22) = true := by rw [h0]; rfl
    rw [e0] at HD
    have e1 : contV s = [] := if_neg (by rw [h0]; decide)
    rw [e1]
    clear e0 h0 hz e1 HC HR
    go_enter Try.func14, Try.ntmps14
    go_wp2_with fail
    refine HM.out.mono ?_
    rintro _ _ ⟨rfl, rfl⟩
    go_wp2_with fail
    refine HD.out.mono ?_
    rintro _ _ ⟨rfl, rfl⟩
    go_wp2
    go_ret
    exact ⟨⟨_, rfl, Strs.nil _, fun a n c e => by cases e⟩, Below.refl _ _⟩
theorem take_extract (x : List UInt8) (k : Nat) : (bs x).extract 0 k = bs (x.take k) := bs_take x k
theorem durable_any (w : World) (lg g : Nat) (F : List Nat) (s : DS) (hl : LogAt w lg g) (h : DiskAt w g F s) (hf : Fit s) (hz : 1 ≤ s.sz) : Calls Try.prog 16 #[.pointer (some ⟨lg, 0, none⟩)] w fun e w' => e = .returned (.int .i64 (durs s).length) ∧ Below w.heap.size w w' := by
  have HM := Lib.hid (made_any w lg g hl)
  have HD := Lib.hid (down_any w g F s h)
  have HC := Lib.hid (Contents_any w g F s h hf)
  have HY := Lib.hid (fun W (hb : Below w.heap.size w W) => synced_any W g F s (h.up hb))
  have hx := contV_len s hf
  have HR := Lib.hid (fun W => recover_bs ((contV s).take s.dur.length) W (by rw [List.length_take]; omega))
  have c0 := Box.cell hl 0 _ rfl
  have HL := Lib.hid hl
  have hdl : s.dur.length ≤ 262144 := by have := hf.two; have := hf.hi; omega
  clear h hf
  unfold durs
  rcases rdy_cases s hz with ⟨h0, _⟩ | ⟨h0, _⟩
  · have e0 : (rdy s == 22) = false := by rw [h0]; rfl
    rw [e0] at HD
    rw [if_neg (show ¬ s.sz = 0 by omega)] at HY
    clear e0 h0 hz
    change Hid (Calls Try.prog _ _ _ fun e w' => e = .returned (.string (bs (contV s))) ∧ _) at HC
    generalize contV s = x at *
    generalize s.dur.length = n at *
    have hsz := bs_size x
    clear hl
    go_enter Try.func16, Try.ntmps16
    go_wp2_with fail
    refine HM.out.mono ?_
    rintro _ _ ⟨rfl, rfl⟩
    go_wp2_with fail
    refine HD.out.mono ?_
    rintro _ _ ⟨rfl, rfl⟩
    go_wp2_with fail
    refine HC.out.mono ?_
    rintro _ w1 ⟨rfl, hb⟩
    have c1 := Box.cell (HL.out.up hb) 0 _ rfl
    have HB := Lib.hid hb
    clear c0 hb
    go_wp2_with fail
    refine (HY.out w1 HB.out).mono ?_
    rintro _ _ ⟨rfl, rfl⟩
    go_wp2_with fail
    all_goals
      rw [bs_take]
      try rw [show x.take x.length = x.take n by rw [List.take_length, List.take_of_length_le (by omega)]]
      refine (HR.out w1).mono ?_
      rintro _ w2 ⟨v, rfl, ⟨⟨A, cap, rfl, hv⟩, _⟩, hb2⟩
      go_wp2
      go_ret
      exact ⟨rfl, below_step HB.out hb2⟩
  · have e0 : (rdy s == 22) = true := by rw [h0]; rfl
    rw [e0] at HD
    have e1 : contV s = [] := if_neg (by rw [h0]; decide)
    rw [e1, List.take_nil]
    clear e0 h0 hz e1 HC HR HY hx hdl hl
    go_enter Try.func16, Try.ntmps16
    go_wp2_with fail
    refine HM.out.mono ?_
    rintro _ _ ⟨rfl, rfl⟩
    go_wp2_with fail
    refine HD.out.mono ?_
    rintro _ _ ⟨rfl, rfl⟩
    go_wp2
    go_ret
    exact ⟨rfl, Below.refl _ _⟩
end Go.Proofs.Ytjcojgblnbhejaa
