/- Write of a disk. -/
import Derived.Test.YtjcojgblnbhejaaDD
import Derived.Test.YtjcojgblnbhejaaX
namespace Go.Proofs.Ytjcojgblnbhejaa
open Go.ChangeShapes Go.WideShapes Go.ChangeAt Go.RowKit
attribute [local go_sem] ownAt ownUpon mixAt mixUpon

theorem Box.grown {w w' : World} {b : Nat} {t : TypeId} {cs : Array Value} {row : Option Nat} (h : Box w b t cs) (hg : w.grownBy w' row) (hne : some b ≠ row) : Box w' b t cs := (hg.block b h.lt hne).trans h
theorem Row.grown {w w' : World} {v : Value} {xs : List UInt8} {row : Option Nat} (h : Row w v xs) (hg : w.grownBy w' row) (hne : ∀ b, v.ownBlock = some b → some b ≠ row) : Row w' v xs := h.same fun b hb => hg.block b (h.block hb).1 (hne b hb)
theorem RowM.grown {w w' : World} {v : Value} {xs : List UInt8} {row : Option Nat} (h : RowM w v xs) (hg : w.grownBy w' row) (hne : ∀ b, v.ownBlock = some b → some b ≠ row) : RowM w' v xs := h.same fun b hb => hg.block b (h.block hb).1 (hne b hb)
theorem only_grown {F : List Nat} {w w' : World} {row : Option Nat} (hg : w.grownBy w' row) (h : ∀ b, row = some b → b ∈ F) : Only F w w' :=
  ⟨hg.os, hg.tape, hg.output, hg.size, fun k hk hn => hg.block k hk (fun e => hn (h k e.symm))⟩
theorem Row.set {w : World} {v : Value} {xs : List UInt8} {p : Addr} (h : Row w v xs) (hp : v.ownBlock ≠ some p.block) (u : Value) : Row (w.setCell p u) v xs := h.same fun b hb => Below.heap_setCell w p u b (fun e => hp (by rw [hb, e]))
theorem RowM.set {w : World} {v : Value} {xs : List UInt8} {p : Addr} (h : RowM w v xs) (hp : v.ownBlock ≠ some p.block) (u : Value) : RowM (w.setCell p u) v xs := h.same fun b hb => Below.heap_setCell w p u b (fun e => hp (by rw [hb, e]))
def writeV (s : DS) (t : List UInt8) : Int × DS := if rdy s = 0 then (if ((cont s).length + t.length : Int) ≤ s.sz then (0, if s.rep then { s with fre := s.fre ++ t } else { s with app := s.app ++ t }) else (3, s)) else (rdy s, s)
theorem write_not (w : World) (g : Nat) (t : ByteArray) (x : Int) (H : Hid (Calls Try.prog 43 #[.pointer (some ⟨g, 0, none⟩)] w fun e w' => e = .returned (.int .i64 x) ∧ w = w')) (hx : (x != 0) = true) : Calls Try.prog 23 #[.pointer (some ⟨g, 0, none⟩), .string t] w fun e w' => e = .returned (.int .i64 x) ∧ w = w' := by
  go_enter Try.func23, Try.ntmps23
  go_wp2_with (go_at_call 43; refine H.out.mono ?_; rintro _ _ ⟨rfl, rfl⟩)
  go_ret
  exact ⟨rfl, rfl⟩
theorem write_full (w : World) (g : Nat) (t : ByteArray) (sz : Int) (dv av fv : Value) (rep down : Bool) (xs : List UInt8) (hb : Box w g 61 #[.int .i64 sz, dv, av, .bool rep, fv, .bool down]) (H : Hid (Calls Try.prog 43 #[.pointer (some ⟨g, 0, none⟩)] w fun e w' => e = .returned (.int .i64 0) ∧ w = w'))
    (HC : Hid (∀ W, Below w.heap.size w W → Calls Try.prog 44 #[.pointer (some ⟨g, 0, none⟩)] W (Copied W xs))) (h1 : 0 ≤ sz) (h2 : sz ≤ 262144) (h3 : (xs.length : Int) ≤ sz) (h4 : sz < xs.length + t.size) : Calls Try.prog 23 #[.pointer (some ⟨g, 0, none⟩), .string t] w fun e w' => e = .returned (.int .i64 3) ∧ Below w.heap.size w w' := by
  go_enter Try.func23, Try.ntmps23
  go_upto_region 4 with (go_at_call 43; refine H.out.mono ?_; rintro _ _ ⟨rfl, rfl⟩)
  have i0 : ∀ i : Idx w, i.at.cell? ⟨g, 0, none⟩ = some (.int .i64 sz) := fun i => (hb.idx i).cell 0 _ rfl
  have hw1 : IntKind.i64.wrap (sz - (xs.length : Int)) = sz - xs.length := IntWalk.i64_in _ (by omega)
  refine wp_region_mix [0, 0, 0, 0, 0, 0, 0, 3, 1, 1, 1] (by kernel_rfl) (by kernel_rfl) ?_
  iterate 7 (refine wpMix_calm (fun K hK => ?_); go_simp; refine hK _ ?_; clear hK K)
  clear i0
  refine wpMix_grow (fun w2 hb2 K hK => ?_)
  go_simp
  go_at_call 44
  refine (HC.out _ hb2).mono ?_
  rintro _ w3 ⟨v, rfl, hr, hb3, _⟩
  obtain ⟨A, cap, rfl, _⟩ := hr.form
  have hB := below_step hb2 hb3
  refine ⟨_, rfl, hB, hK _ _ ?_⟩
  clear hK K hr hb2 hb3 HC H
  iterate 3 (refine wpMix_pure (fun K hK => ?_); go_simp; refine hK _ ?_; clear hK K)
  refine wpMix_nil (fun w4 hb4 => ?_)
  replace hB := below_step hB hb4
  clear hb4
  go_wp2
  go_ret
  exact ⟨rfl, hB⟩
theorem disk_fre {w w4 w5 : World} {g : Nat} {F : List Nat} {s : DS} {dv av fv v' : Value} {xs' : List UInt8} (P : Box w4 g 61 #[.int .i64 s.sz, dv, av, .bool s.rep, fv, .bool s.down]) (hd : Row w4 dv s.dur) (ho : Row w4 av s.app) (hne : fv.ownBlock ≠ some g)
    (g5 : g ∈ F) (g6 : ∀ b, dv.ownBlock = some b → b ∈ F) (g7 : ∀ b, av.ownBlock = some b → b ∈ F) (g8 : ∀ b, fv.ownBlock = some b → b ∈ F) (g9 : ∀ b, dv.ownBlock = some b → av.ownBlock ≠ some b ∧ fv.ownBlock ≠ some b) (g10 : ∀ b, av.ownBlock = some b → fv.ownBlock ≠ some b) (g11 : ∀ b ∈ F, b < w.heap.size)
    (hB : Below w.heap.size w w4) (hm : RowM w5 v' xs') (hg : w4.grownBy w5 fv.ownBlock) (hv : v'.ownBlock = fv.ownBlock ∨ v'.ownBlock = some w4.heap.size) (er : Int) :
    Left w g F er { s with fre := xs' } (.returned (.int .i64 er)) (w5.setCell ⟨g, 4, none⟩ v') := by
  have hgF := g11 g g5
  have hlt4 := hB.size
  have P5 := P.grown hg (fun e => hne e.symm)
  have P6 : Box (w5.setCell ⟨g, 4, none⟩ v') g 61 #[.int .i64 s.sz, dv, av, .bool s.rep, v', .bool s.down] := (P5.set 4 v').eq_ (by simp)
  have hd6 : Row (w5.setCell ⟨g, 4, none⟩ v') dv s.dur := (hd.grown hg (fun b hb e => (g9 b hb).2 e.symm)).set (hd.ne P (by decide)) v'
  have ho6 : Row (w5.setCell ⟨g, 4, none⟩ v') av s.app := (ho.grown hg (fun b hb e => g10 b hb e.symm)).set (ho.ne P (by decide)) v'
  have hm6 : RowM (w5.setCell ⟨g, 4, none⟩ v') v' xs' := hm.set (hm.ne P5 (by decide)) v'
  have hon : Only F w (w5.setCell ⟨g, 4, none⟩ v') := ((Only.of_up hB).trans (only_grown (F := F) hg (fun b hb => g8 b hb)) (fun x hx => .inl hx)).set (.inl g5) v'
  rcases hv with hv | hv
  · exact ⟨rfl, F, ⟨dv, av, v', P6, hd6, ho6, hm6, g5, g6, g7, by rw [hv]; exact g8, fun b hb => by rw [hv]; exact g9 b hb, by rw [hv]; exact g10, fun b hb => Nat.lt_of_lt_of_le (g11 b hb) hon.size⟩, hon, fun b hb => .inl hb⟩
  · have hlt := (hm6.block hv).1
    refine ⟨rfl, w4.heap.size :: F, ⟨dv, av, v', P6, hd6, ho6, hm6, List.mem_cons_of_mem _ g5, fun b hb => List.mem_cons_of_mem _ (g6 b hb), fun b hb => List.mem_cons_of_mem _ (g7 b hb), fun b hb => by (rw [hv] at hb; cases hb; exact List.mem_cons_self), fun b hb => ⟨(g9 b hb).1, fun e => by (rw [hv] at e; cases e; have := g11 _ (g6 _ hb); omega)⟩, fun b hb e => by (rw [hv] at e; cases e; have := g11 _ (g7 _ hb); omega), fun b hb => ?_⟩, hon, fun b hb => ?_⟩
    · rcases List.mem_cons.1 hb with rfl | hb
      · exact hlt
      · exact Nat.lt_of_lt_of_le (g11 b hb) hon.size
    · rcases List.mem_cons.1 hb with rfl | hb
      · exact .inr hlt4
      · exact .inl hb
theorem disk_app {w w4 w5 : World} {g : Nat} {F : List Nat} {s : DS} {dv av fv v' : Value} {xs' : List UInt8} (P : Box w4 g 61 #[.int .i64 s.sz, dv, av, .bool s.rep, fv, .bool s.down]) (hd : Row w4 dv s.dur) (ho : RowM w4 fv s.fre) (hne : av.ownBlock ≠ some g)
    (g5 : g ∈ F) (g6 : ∀ b, dv.ownBlock = some b → b ∈ F) (g7 : ∀ b, av.ownBlock = some b → b ∈ F) (g8 : ∀ b, fv.ownBlock = some b → b ∈ F) (g9 : ∀ b, dv.ownBlock = some b → av.ownBlock ≠ some b ∧ fv.ownBlock ≠ some b) (g10 : ∀ b, av.ownBlock = some b → fv.ownBlock ≠ some b) (g11 : ∀ b ∈ F, b < w.heap.size)
    (hB : Below w.heap.size w w4) (hm : Row w5 v' xs') (hg : w4.grownBy w5 av.ownBlock) (hv : v'.ownBlock = av.ownBlock ∨ v'.ownBlock = some w4.heap.size) (er : Int) :
    Left w g F er { s with app := xs' } (.returned (.int .i64 er)) (w5.setCell ⟨g, 2, none⟩ v') := by
  have hgF := g11 g g5
  have hlt4 := hB.size
  have P5 := P.grown hg (fun e => hne e.symm)
  have P6 : Box (w5.setCell ⟨g, 2, none⟩ v') g 61 #[.int .i64 s.sz, dv, v', .bool s.rep, fv, .bool s.down] := (P5.set 2 v').eq_ (by simp)
  have hd6 : Row (w5.setCell ⟨g, 2, none⟩ v') dv s.dur := (hd.grown hg (fun b hb e => (g9 b hb).1 e.symm)).set (hd.ne P (by decide)) v'
  have ho6 : RowM (w5.setCell ⟨g, 2, none⟩ v') fv s.fre := (ho.grown hg (fun b hb e => (g10 b e.symm) hb)).set (ho.ne P (by decide)) v'
  have hm6 : Row (w5.setCell ⟨g, 2, none⟩ v') v' xs' := hm.set (hm.ne P5 (by decide)) v'
  have hon : Only F w (w5.setCell ⟨g, 2, none⟩ v') := ((Only.of_up hB).trans (only_grown (F := F) hg (fun b hb => g7 b hb)) (fun x hx => .inl hx)).set (.inl g5) v'
  rcases hv with hv | hv
  · exact ⟨rfl, F, ⟨dv, v', fv, P6, hd6, hm6, ho6, g5, g6, by rw [hv]; exact g7, g8, fun b hb => by rw [hv]; exact g9 b hb, by rw [hv]; exact g10, fun b hb => Nat.lt_of_lt_of_le (g11 b hb) hon.size⟩, hon, fun b hb => .inl hb⟩
  · have hlt := (hm6.block hv).1
    refine ⟨rfl, w4.heap.size :: F, ⟨dv, v', fv, P6, hd6, hm6, ho6, List.mem_cons_of_mem _ g5, fun b hb => List.mem_cons_of_mem _ (g6 b hb), fun b hb => by (rw [hv] at hb; cases hb; exact List.mem_cons_self), fun b hb => List.mem_cons_of_mem _ (g8 b hb), fun b hb => ⟨fun e => by (rw [hv] at e; cases e; have := g11 _ (g6 _ hb); omega), (g9 b hb).2⟩, fun b hb e => by (rw [hv] at hb; cases hb; have := g11 _ (g8 _ e); omega), fun b hb => ?_⟩, hon, fun b hb => ?_⟩
    · rcases List.mem_cons.1 hb with rfl | hb
      · exact hlt
      · exact Nat.lt_of_lt_of_le (g11 b hb) hon.size
    · rcases List.mem_cons.1 hb with rfl | hb
      · exact .inr hlt4
      · exact .inl hb
theorem wpList_append_text {w : World} {ops : Array Oper} {rest : List Oper} {o : Oper} {a : Act} {Q : Exit → Act → World → Prop} (hgd : o.guard = none) (s x : Operand)
    (ho : o.op = .call { callee := .builtin .append, args := #[s, x], argTypes := #[59, 9] })
    (v : Value) (xs : List UInt8) (t : ByteArray) (hs : a.eval s = v) (hx : a.eval x = .string t) (h : RowM w v xs) (hb : xs.length + t.size ≤ 1048576)
    (H : ∀ v' w', RowM w' v' (xs ++ t.data.toList) → w.grownBy w' v.ownBlock → (v'.ownBlock = v.ownBlock ∨ v'.ownBlock = some w.heap.size) → (Row w v xs → Row w' v' (xs ++ t.data.toList)) → wpList Try.prog ops Q rest (a.put o.dst v') w') : wpList Try.prog ops Q (o :: rest) a w :=
  wpList_plain hgd fun _ hK => by
    obtain ⟨v', w', hrun, h2, h3, h4, h5⟩ := run_append_text w o.type v xs h t hb
    unfold Oper.wp execOp
    simp only [ho, resolve, invoke, builtin, Sem.run_bind, Sem.run_pure, Result.andThen_ok, List.map_toArray, List.map_cons, List.map_nil, hs, hx, hrun]
    exact hK _ _ (H v' w' h2 h3 h4 h5)
set_option maxHeartbeats 1000000 in
theorem write_rep (w : World) (g : Nat) (F : List Nat) (t : ByteArray) (s : DS) (h : DiskAt w g F s) (hf : Fit s) (hrep : s.rep = true) (h0 : rdy s = 0) (hlen : ((cont s).length + t.size : Int) ≤ s.sz) : Calls Try.prog 23 #[.pointer (some ⟨g, 0, none⟩), .string t] w (Left w g F 0 { s with fre := s.fre ++ t.data.toList }) := by
  have H := Lib.hid (ready_any w g F s h)
  rw [h0] at H
  have HC : Hid (∀ W, Below w.heap.size w W → _) := Lib.hid (fun W hb => contents_any W g F s (h.up hb) hf)
  obtain ⟨f1, f2, f3, f4⟩ := hf
  obtain ⟨dv, av, fv, hb, hd, ha, hv, g5, g6, g7, g8, g9, g10, g11⟩ := h
  have hxs : ((cont s).length : Int) ≤ s.sz := by omega
  have hxa : (s.fre.length : Int) ≤ (cont s).length := by unfold cont; rw [hrep]; first | (simp; done) | (simp; omega)
  generalize cont s = xs at *
  obtain ⟨sz, dur, app, rep, fre, down⟩ := s
  dsimp only at *
  subst hrep
  clear h0
  have HG : Hid _ := Lib.hid (And.intro g6 (And.intro g7 (And.intro g8 (And.intro g9 (And.intro g10 g11)))))
  clear g6 g7 g8 g9 g10 g11
  have HD := Lib.hid hd
  have HAP := Lib.hid ha
  have HV := Lib.hid hv
  clear hd ha hv
  go_enter Try.func23, Try.ntmps23
  go_upto_region 4 with (go_at_call 43; refine H.out.mono ?_; rintro _ _ ⟨rfl, rfl⟩)
  have i0 : ∀ i : Idx w, i.at.cell? ⟨g, 0, none⟩ = some (.int .i64 sz) := fun i => (hb.idx i).cell 0 _ rfl
  have hw1 : IntKind.i64.wrap (sz - (xs.length : Int)) = sz - xs.length := IntWalk.i64_in _ (by omega)
  refine wp_region_mix [0, 0, 0, 0, 0, 0, 0, 3, 1, 1, 1] (by kernel_rfl) (by kernel_rfl) ?_
  iterate 7 (refine wpMix_calm (fun K hK => ?_); go_simp; refine hK _ ?_; clear hK K)
  clear i0
  refine wpMix_grow (fun w2 hb2 K hK => ?_)
  go_simp
  go_at_call 44
  refine (HC.out _ hb2).mono ?_
  rintro _ w3 ⟨v, rfl, hr, hb3, _⟩
  obtain ⟨A, cap, rfl, _⟩ := hr.form
  have hB := below_step hb2 hb3
  refine ⟨_, rfl, hB, hK _ _ ?_⟩
  clear hK K hr hb2 hb3 HC H
  iterate 3 (refine wpMix_pure (fun K hK => ?_); go_simp; refine hK _ ?_; clear hK K)
  refine wpMix_nil (fun w4 hb4 => ?_)
  replace hB := below_step hB hb4
  clear hb4
  have P := hb.next hB
  have cP_3 := P.cell 3 _ rfl
  have cP_s := P.cell 4 _ rfl
  have lP := P.lt
  have hup : RowM w4 fv fre := HV.out.up hB
  have hne := hup.ne P (by decide)
  go_wp2_with (at_builtin; refine wpList_append_text rfl (.tmp 30) (.tmp 31) rfl _ fre t rfl rfl hup (by omega) ?_; intro v' w5 hm hg hv hr; obtain ⟨A2, cap2, he, _⟩ := hm.cells; clear hup; generalize (_ ++ t.data.toList).length = ln at he; subst he; have P' := P.grown hg (fun e => hne e.symm); have c5 := P'.cell 4 _ rfl; have f5 := P'.frozen 4; have l5 := P'.lt)
  go_ret
  obtain ⟨q6, q7, q8, q9, q10, q11⟩ := HG.out
  exact ⟨rfl, (disk_fre (s := ⟨sz, dur, app, true, fre, down⟩) P (HD.out.up hB) (HAP.out.up hB) hne g5 q6 q7 q8 q9 q10 q11 hB hm hg hv 0).2⟩
set_option maxHeartbeats 1000000 in
theorem write_app (w : World) (g : Nat) (F : List Nat) (t : ByteArray) (s : DS) (h : DiskAt w g F s) (hf : Fit s) (hrep : s.rep = false) (h0 : rdy s = 0) (hlen : ((cont s).length + t.size : Int) ≤ s.sz) : Calls Try.prog 23 #[.pointer (some ⟨g, 0, none⟩), .string t] w (Left w g F 0 { s with app := s.app ++ t.data.toList }) := by
  have H := Lib.hid (ready_any w g F s h)
  rw [h0] at H
  have HC : Hid (∀ W, Below w.heap.size w W → _) := Lib.hid (fun W hb => contents_any W g F s (h.up hb) hf)
  obtain ⟨f1, f2, f3, f4⟩ := hf
  obtain ⟨dv, av, fv, hb, hd, ha, hv, g5, g6, g7, g8, g9, g10, g11⟩ := h
  have hxs : ((cont s).length : Int) ≤ s.sz := by omega
  have hxa : (s.app.length : Int) ≤ (cont s).length := by unfold cont; rw [hrep]; first | (simp; done) | (simp; omega)
  generalize cont s = xs at *
  obtain ⟨sz, dur, app, rep, fre, down⟩ := s
  dsimp only at *
  subst hrep
  clear h0
  have HG : Hid _ := Lib.hid (And.intro g6 (And.intro g7 (And.intro g8 (And.intro g9 (And.intro g10 g11)))))
  clear g6 g7 g8 g9 g10 g11
  have HD := Lib.hid hd
  have HAP := Lib.hid ha
  have HV := Lib.hid hv
  clear hd ha hv
  go_enter Try.func23, Try.ntmps23
  go_upto_region 4 with (go_at_call 43; refine H.out.mono ?_; rintro _ _ ⟨rfl, rfl⟩)
  have i0 : ∀ i : Idx w, i.at.cell? ⟨g, 0, none⟩ = some (.int .i64 sz) := fun i => (hb.idx i).cell 0 _ rfl
  have hw1 : IntKind.i64.wrap (sz - (xs.length : Int)) = sz - xs.length := IntWalk.i64_in _ (by omega)
  refine wp_region_mix [0, 0, 0, 0, 0, 0, 0, 3, 1, 1, 1] (by kernel_rfl) (by kernel_rfl) ?_
  iterate 7 (refine wpMix_calm (fun K hK => ?_); go_simp; refine hK _ ?_; clear hK K)
  clear i0
  refine wpMix_grow (fun w2 hb2 K hK => ?_)
  go_simp
  go_at_call 44
  refine (HC.out _ hb2).mono ?_
  rintro _ w3 ⟨v, rfl, hr, hb3, _⟩
  obtain ⟨A, cap, rfl, _⟩ := hr.form
  have hB := below_step hb2 hb3
  refine ⟨_, rfl, hB, hK _ _ ?_⟩
  clear hK K hr hb2 hb3 HC H
  iterate 3 (refine wpMix_pure (fun K hK => ?_); go_simp; refine hK _ ?_; clear hK K)
  refine wpMix_nil (fun w4 hb4 => ?_)
  replace hB := below_step hB hb4
  clear hb4
  have P := hb.next hB
  have cP_3 := P.cell 3 _ rfl
  have cP_s := P.cell 2 _ rfl
  have lP := P.lt
  have hup : RowM w4 av app := .inl (HAP.out.up hB)
  have hne := hup.ne P (by decide)
  go_wp2_with (at_builtin; refine wpList_append_text rfl (.tmp 39) (.tmp 40) rfl _ app t rfl rfl hup (by omega) ?_; intro v' w5 hm hg hv hr; obtain ⟨A2, cap2, he, _⟩ := hm.cells; clear hup; generalize (_ ++ t.data.toList).length = ln at he; subst he; have P' := P.grown hg (fun e => hne e.symm); have c5 := P'.cell 2 _ rfl; have f5 := P'.frozen 2; have l5 := P'.lt)
  go_ret
  obtain ⟨q6, q7, q8, q9, q10, q11⟩ := HG.out
  exact ⟨rfl, (disk_app (s := ⟨sz, dur, app, false, fre, down⟩) P (HD.out.up hB) (HV.out.up hB) hne g5 q6 q7 q8 q9 q10 q11 hB (hr (HAP.out.up hB)) hg hv 0).2⟩
end Go.Proofs.Ytjcojgblnbhejaa
