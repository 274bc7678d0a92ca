/- Write for any disk; Sync, Replace and Crash of a disk. -/
import Derived.Test.YtjcojgblnbhejaaDE
import Derived.Test.YtjcojgblnbhejaaXM
import Derived.Lib.ConvBytes
namespace Go.Proofs.Ytjcojgblnbhejaa
open Go.ChangeShapes Go.WideShapes Go.ChangeAt Go.RowKit
attribute [local go_sem] ownAt ownUpon mixAt mixUpon

theorem write_any (w : World) (g : Nat) (F : List Nat) (t : ByteArray) (s : DS) (h : DiskAt w g F s) (hf : Fit s) : Calls Try.prog 23 #[.pointer (some ⟨g, 0, none⟩), .string t] w (Left w g F (writeV s t.data.toList).1 (writeV s t.data.toList).2) := by
  have hr := ready_any w g F s h
  unfold writeV
  by_cases h0 : rdy s = 0
  · rw [if_pos h0, size_toList]
    by_cases hl : ((cont s).length + t.size : Int) ≤ s.sz
    · rw [if_pos hl]
      by_cases hrep : s.rep = true
      · have h2 := write_rep w g F t s h hf hrep h0 hl
        rw [if_pos hrep]
        exact h2
      · rw [if_neg hrep]
        exact write_app w g F t s h hf (by simpa using hrep) h0 hl
    · rw [if_neg hl]
      rw [h0] at hr
      have hb := h
      obtain ⟨dv, av, fv, hb, _⟩ := hb
      have hc : ((cont s).length : Int) ≤ s.sz := by
        obtain ⟨_, _, f3, f4⟩ := hf
        unfold cont
        split
        · exact f4
        · rw [List.length_append]; exact f3
      exact (write_full w g t s.sz dv av fv s.rep s.down (cont s) hb hr (Lib.hid (fun W hb => contents_any W g F s (h.up hb) hf)) hf.lo hf.hi hc (by omega)).mono fun e w' ⟨he, hb⟩ => ⟨he, F, h.up hb, Only.of_up hb, fun _ hb => .inl hb⟩
  · rw [if_neg h0]
    refine (write_not w g t (rdy s) hr (by simpa using h0)).mono fun e w' ⟨he, hw⟩ => ?_
    subst hw
    subst he
    exact h.left_same _

def syncV (s : DS) : Int × DS := if rdy s = 0 then (0, ⟨s.sz, cont s, [], false, [], s.down⟩) else (rdy s, s)
theorem sync_not (w : World) (g : Nat) (x : Int) (H : Hid (Calls Try.prog 43 #[.pointer (some ⟨g, 0, none⟩)] w fun e w' => e = .returned (.int .i64 x) ∧ w = w')) (hx : (x != 0) = true) : Calls Try.prog 24 #[.pointer (some ⟨g, 0, none⟩)] w fun e w' => e = .returned (.int .i64 x) ∧ w = w' := by
  go_enter Try.func24, Try.ntmps24
  go_wp2_with (go_at_call 43; refine H.out.mono ?_; rintro _ _ ⟨rfl, rfl⟩)
  go_ret
  exact ⟨rfl, rfl⟩
theorem replace_not (w : World) (g : Nat) (t : ByteArray) (x : Int) (H : Hid (Calls Try.prog 43 #[.pointer (some ⟨g, 0, none⟩)] w fun e w' => e = .returned (.int .i64 x) ∧ w = w')) (hx : (x != 0) = true) : Calls Try.prog 54 #[.pointer (some ⟨g, 0, none⟩), .string t] w fun e w' => e = .returned (.int .i64 x) ∧ w = w' := by
  go_enter Try.func54, Try.ntmps54
  go_wp2_with (go_at_call 43; refine H.out.mono ?_; rintro _ _ ⟨rfl, rfl⟩)
  go_ret
  exact ⟨rfl, rfl⟩
theorem crash_not (w : World) (g : Nat) (k x : Int) (H : Hid (Calls Try.prog 43 #[.pointer (some ⟨g, 0, none⟩)] w fun e w' => e = .returned (.int .i64 x) ∧ w = w')) (hx : (x != 0) = true) : Calls Try.prog 21 #[.pointer (some ⟨g, 0, none⟩), .int .i64 k] w fun e w' => e = .returned (.int .i64 x) ∧ w = w' := by
  go_enter Try.func21, Try.ntmps21
  go_wp2_with (go_at_call 43; refine H.out.mono ?_; rintro _ _ ⟨rfl, rfl⟩)
  go_ret
  exact ⟨rfl, rfl⟩
theorem crash_neg (w : World) (g : Nat) (k : Int) (H : Hid (Calls Try.prog 43 #[.pointer (some ⟨g, 0, none⟩)] w fun e w' => e = .returned (.int .i64 0) ∧ w = w')) (hx : k < 0) : Calls Try.prog 21 #[.pointer (some ⟨g, 0, none⟩), .int .i64 k] w fun e w' => e = .returned (.int .i64 2) ∧ w = w' := by
  go_enter Try.func21, Try.ntmps21
  go_wp2_with (go_at_call 43; refine H.out.mono ?_; rintro _ _ ⟨rfl, rfl⟩)
  go_ret
  exact ⟨rfl, rfl⟩
theorem replace_full (w : World) (g : Nat) (t : ByteArray) (sz : Int) (dv av fv : Value) (rep down : Bool) (hb : Box w g 61 #[.int .i64 sz, dv, av, .bool rep, fv, .bool down]) (H : Hid (Calls Try.prog 43 #[.pointer (some ⟨g, 0, none⟩)] w fun e w' => e = .returned (.int .i64 0) ∧ w = w')) (hx : sz < t.size) : Calls Try.prog 54 #[.pointer (some ⟨g, 0, none⟩), .string t] w fun e w' => e = .returned (.int .i64 3) ∧ w = w' := by
  have c0 := hb.cell 0 _ rfl
  have l0 := hb.lt
  clear hb
  go_enter Try.func54, Try.ntmps54
  go_wp2_with (go_at_call 43; refine H.out.mono ?_; rintro _ _ ⟨rfl, rfl⟩)
  go_ret
  exact ⟨rfl, rfl⟩
/-- What the block of a disk is after three or four stores. -/
theorem sync_yes (w : World) (g : Nat) (sz : Int) (dv av fv : Value) (rep down : Bool) (hb : Box w g 61 #[.int .i64 sz, dv, av, .bool rep, fv, .bool down]) (xs : List UInt8) (H : Hid (Calls Try.prog 43 #[.pointer (some ⟨g, 0, none⟩)] w fun e w' => e = .returned (.int .i64 0) ∧ w = w'))
  (HC : Hid (Calls Try.prog 44 #[.pointer (some ⟨g, 0, none⟩)] w (Copied w xs))) : Calls Try.prog 24 #[.pointer (some ⟨g, 0, none⟩)] w fun e w' => e = .returned (.int .i64 0) ∧ ∃ v, Row w' v xs ∧ (∀ b, v.ownBlock = some b → w.heap.size ≤ b) ∧ Box w' g 61 #[.int .i64 sz, v, .slice none 0 0, .bool false, .slice none 0 0, .bool down] ∧ Only [g] w w' := by
  have hg0 := hb.lt
  go_enter Try.func24, Try.ntmps24
  go_upto_region 5 with (first | (go_at_call 43; refine H.out.mono ?_; rintro _ _ ⟨rfl, rfl⟩) | (go_at_call 44; refine HC.out.mono ?_; rintro _ w1 ⟨v, rfl, hr, hB, hown⟩; have hvf := hr.form; obtain ⟨A, cap, he, _⟩ := hvf; generalize xs.length = ln at he; subst he; have P := hb.next hB; have c1 := P.cell 1 _ rfl; have f1 := P.frozen 1; have l1 := P.lt))
  have hne := hr.ne P (by decide)
  refine wp_forget (fun W => Box W g 61 #[.int .i64 sz, .slice A ln cap, av, .bool rep, fv, .bool down] ∧ Row W (.slice A ln cap) xs ∧ Only [g] w W)
    ⟨(P.set 1 (.slice A ln cap)).eq_ (by simp), hr.set hne _, (Only.of_up hB).set (.inl (by simp)) _⟩ ?_
  clear P hr hB c1 f1 l1 hb HC H hne
  rintro w2 ⟨P, hr, hB⟩
  have hne := hr.ne P (by decide)
  have c2 := P.cell 2 _ rfl
  have c3 := P.cell 3 _ rfl
  have c4 := P.cell 4 _ rfl
  have f2 := P.frozen 2
  have f3 := P.frozen 3
  have f4 := P.frozen 4
  have l2 := P.lt
  go_wp2
  go_ret
  exact ⟨rfl, _, ((hr.set hne _).set hne _).set hne _, hown, (((P.set 2 (.slice none 0 0)).set 4 (.slice none 0 0)).set 3 (.bool false)).eq_ (by simp), ((hB.set (.inl (by simp)) _).set (.inl (by simp)) _).set (.inl (by simp)) _⟩
theorem left_dur {w w' : World} {g : Nat} {F : List Nat} {sz er : Int} {v : Value} {xs : List UInt8} {down : Bool} (hr : Row w' v xs) (hb : Box w' g 61 #[.int .i64 sz, v, .slice none 0 0, .bool false, .slice none 0 0, .bool down]) (ho : Only F w w') (g5 : g ∈ F) (hF : ∀ b ∈ F, b < w.heap.size)
    (hown : ∀ b, v.ownBlock = some b → b ∈ F ∨ w.heap.size ≤ b) : Left w g F er ⟨sz, xs, [], false, [], down⟩ (.returned (.int .i64 er)) w' := by
  refine ⟨rfl, v.ownBlock.toList ++ [g], ⟨v, _, _, hb, hr, Row.nil _, .inl (Row.nil _), by simp, fun b hb => by simp [hb], by simp [Value.ownBlock], by simp [Value.ownBlock], by simp [Value.ownBlock], by simp [Value.ownBlock], fun b hb => ?_⟩, ho, fun b hb => ?_⟩
  · simp only [List.mem_append, Option.mem_toList, List.mem_singleton] at hb
    rcases hb with hb | rfl
    · exact (hr.block hb).1
    · exact Nat.lt_of_lt_of_le (hF _ g5) ho.size
  · simp only [List.mem_append, Option.mem_toList, List.mem_singleton] at hb
    rcases hb with hb | rfl
    · exact hown b hb
    · exact .inl g5
theorem Only.mono {F F' : List Nat} {w w' : World} (h : Only F w w') (hs : ∀ b ∈ F, b ∈ F') : Only F' w w' := ⟨h.os, h.tape, h.output, h.size, fun k hk hn => h.block k hk (fun hm => hn (hs k hm))⟩
theorem sync_any (w : World) (g : Nat) (F : List Nat) (s : DS) (h : DiskAt w g F s) (hf : Fit s) : Calls Try.prog 24 #[.pointer (some ⟨g, 0, none⟩)] w (Left w g F (syncV s).1 (syncV s).2) := by
  have hr := ready_any w g F s h
  have hc := contents_any w g F s h hf
  unfold syncV
  by_cases h0 : rdy s = 0
  · rw [if_pos h0]
    rw [h0] at hr
    obtain ⟨dv, av, fv, hb, _, _, _, g5, _, _, _, _, _, g11⟩ := h
    refine (sync_yes w g s.sz dv av fv s.rep s.down hb (cont s) hr hc).mono fun e w' ⟨he, v, k1, k2, k3, k4⟩ => ?_
    subst he
    exact left_dur k1 k3 (k4.mono (fun b hb => by (simp only [List.mem_singleton] at hb; subst hb; exact g5))) g5 g11 (fun b hb => .inr (k2 b hb))
  · rw [if_neg h0]
    refine (sync_not w g (rdy s) hr (by simpa using h0)).mono fun e w' ⟨he, hw⟩ => ?_
    subst hw
    subst he
    exact h.left_same _
theorem bytes_row (w : World) (t : ByteArray) (ht : t.size ≤ 1048576) : RowM (Lib.bytesWorld w 5 t) (.slice (some ⟨w.heap.size, 0, none⟩) t.size (grownCap w t.size 0 5)) t.data.toList ∧ Below w.heap.size w (Lib.bytesWorld w 5 t) := by
  have hge := grownCap_ge w t.size 0 5
  have hcm := grownCap_le_maxLen w t.size 0 5 (by unfold maxLen; omega)
  have hsz : (Lib.bytesCells w 5 t).size = grownCap w t.size 0 5 := by
    have hd : t.data.size = t.size := rfl
    simp only [Lib.bytesCells, Array.size_append, Array.size_map, Array.size_replicate, hd]
    omega
  refine ⟨.inr ⟨w.heap.size, _, _, by rw [size_toList], Lib.bytesWorld_at_new w 5 t, by rw [size_toList]; exact hge, hcm, hsz, ?_⟩, rfl, rfl, rfl, by rw [Lib.bytesWorld_size]; omega, fun k hk => Lib.bytesWorld_at_old w 5 t k hk⟩
  unfold Lib.bytesCells
  rw [Array.toList_append, Array.toList_map, show t.data.toList.length = (List.map (fun b : UInt8 => Value.int .u8 (b.toNat : Int)) t.data.toList).length by simp]
  exact List.take_left
theorem replace_yes (w : World) (g : Nat) (t : ByteArray) (sz : Int) (dv av fv : Value) (rep down : Bool) (hb : Box w g 61 #[.int .i64 sz, dv, av, .bool rep, fv, .bool down]) (H : Hid (Calls Try.prog 43 #[.pointer (some ⟨g, 0, none⟩)] w fun e w' => e = .returned (.int .i64 0) ∧ w = w')) (hx : t.size ≤ sz) (hs : sz ≤ 262144) : Calls Try.prog 54 #[.pointer (some ⟨g, 0, none⟩), .string t] w fun e w' => e = .returned (.int .i64 0) ∧ ∃ v, RowM w' v t.data.toList ∧ (∀ b, v.ownBlock = some b → w.heap.size ≤ b) ∧ Box w' g 61 #[.int .i64 sz, dv, av, .bool true, v, .bool down] ∧ Only [g] w w' := by
  have hg0 := hb.lt
  have HB := Lib.hid hb
  have c0 := hb.cell 0 _ rfl
  clear hb
  go_enter Try.func54, Try.ntmps54
  go_upto_region 6 with (go_at_call 43; refine H.out.mono ?_; rintro _ _ ⟨rfl, rfl⟩)
  have hc := Lib.run_convert_string_bytes (P := Try.prog) w 9 59 5 t Try.underlying9 Try.underlying59 Try.underlying5
  obtain ⟨hr, hB⟩ := bytes_row w t (by omega)
  generalize Lib.bytesWorld w 5 t = w2 at *
  generalize grownCap w t.size 0 5 = cap at *
  have P := HB.out.next hB
  have hne := hr.ne P (by decide)
  have c3 := P.cell 3 _ rfl
  have c4 := P.cell 4 _ rfl
  have f3 := P.frozen 3
  have f4 := P.frozen 4
  have l2 := P.lt
  have hn := Lib.hid (Nat.le_refl w.heap.size)
  clear c0 H
  go_wp2
  go_ret
  exact ⟨rfl, _, (hr.set hne _).set hne _, fun b hb => by simp [Value.ownBlock] at hb; omega, ((P.set 4 _).set 3 (.bool true)).eq_ (by simp), ((Only.of_up hB).set (.inl (by simp)) _).set (.inl (by simp)) _⟩
def replaceV (s : DS) (t : List UInt8) : Int × DS := if rdy s = 0 then (if (t.length : Int) ≤ s.sz then (0, { s with rep := true, fre := t }) else (3, s)) else (rdy s, s)
theorem replace_any (w : World) (g : Nat) (F : List Nat) (t : ByteArray) (s : DS) (h : DiskAt w g F s) (hf : Fit s) : Calls Try.prog 54 #[.pointer (some ⟨g, 0, none⟩), .string t] w (Left w g F (replaceV s t.data.toList).1 (replaceV s t.data.toList).2) := by
  have hr := ready_any w g F s h
  unfold replaceV
  by_cases h0 : rdy s = 0
  · rw [if_pos h0, size_toList]
    rw [h0] at hr
    obtain ⟨dv, av, fv, hb, hd, ha, _, g5, g6, g7, _, g9, _, g11⟩ := id h
    by_cases hl : (t.size : Int) ≤ s.sz
    · rw [if_pos hl]
      refine (replace_yes w g t s.sz dv av fv s.rep s.down hb hr hl hf.hi).mono fun e w' ⟨he, v, k1, k2, k3, k4⟩ => ?_
      subst he
      have hdn : ∀ b, dv.ownBlock = some b → b ∉ [g] := fun b hb' hm => by
        simp only [List.mem_singleton] at hm
        subst hm
        exact hd.ne hb (by decide) hb'
      have han : ∀ b, av.ownBlock = some b → b ∉ [g] := fun b hb' hm => by
        simp only [List.mem_singleton] at hm
        subst hm
        exact ha.ne hb (by decide) hb'
      refine ⟨rfl, v.ownBlock.toList ++ F, ⟨dv, av, v, k3, hd.far k4 hdn, ha.far k4 han, k1, by simp [g5], fun b hb => by simp [g6 b hb], fun b hb => by simp [g7 b hb], fun b hb => by simp [hb], fun b hb => ⟨(g9 b hb).1, fun e => ?_⟩, fun b hb e => ?_, fun b hb => ?_⟩, k4.mono (fun b hb => by (simp only [List.mem_singleton] at hb; subst hb; exact g5)), fun b hb => ?_⟩
      · have := k2 b e; have := g11 b (g6 b hb); omega
      · have := k2 b e; have := g11 b (g7 b hb); omega
      · simp only [List.mem_append, Option.mem_toList] at hb
        rcases hb with hb | hb
        · exact (k1.block hb).1
        · exact Nat.lt_of_lt_of_le (g11 _ hb) k4.size
      · simp only [List.mem_append, Option.mem_toList] at hb
        rcases hb with hb | hb
        · exact .inr (k2 b hb)
        · exact .inl hb
    · rw [if_neg hl]
      exact (replace_full w g t s.sz dv av fv s.rep s.down hb hr (by omega)).mono fun e w' ⟨he, hw⟩ => by subst hw; subst he; exact h.left_same _
  · rw [if_neg h0]
    refine (replace_not w g t (rdy s) hr (by simpa using h0)).mono fun e w' ⟨he, hw⟩ => ?_
    subst hw
    subst he
    exact h.left_same _
theorem mixAt_of_append {P : Program} {o : Oper} {a : Act} {w2 w' : World} {K : Act → World → Prop} {s x : Operand} {t : TypeId} {v u v' : Value} (ho : o.op = .call { callee := .builtin .append, args := #[s, x], argTypes := #[t, t] })
    (hs : a.eval s = v) (hx : a.eval x = u) (hrun : (Builtin.append_ #[t, t] o.type #[v, u]).run P w2 = .ok v' w') (h : K (a.put o.dst v') w') : mixAt P o a w2 K := by
  unfold mixAt execOp
  simp only [ho, resolve, invoke, builtin, Sem.run_bind, Sem.run_pure, Result.andThen_ok, List.map_toArray, List.map_cons, List.map_nil, hs, hx, hrun]
  exact h
theorem segCells_take (ys : List UInt8) (m : Nat) (h : m ≤ ys.length) : segCells (bytesAt ys) (m * 1) = u8s (ys.take m) := by
  apply List.ext_getElem?
  intro k
  by_cases hk : k < m
  · simp [segCells, bytesAt, u8s, hk, show k < ys.length by omega]
  · simp [segCells, u8s, hk]
    omega
theorem grown_only {F : List Nat} {w w1 w2 : World} {row : Option Nat} (hB : Below w.heap.size w w1) (hg : w1.grownBy w2 row) (h : ∀ b, row = some b → b ∈ F) : Only F w w2 := (Only.of_up hB).trans (only_grown hg h) (fun _x hx => .inl hx)
set_option maxHeartbeats 1000000 in
theorem crash_yes (w : World) (g : Nat) (k : Int) (m : Nat) (sz : Int) (dv av fv : Value) (rep down : Bool) (xs ys : List UInt8) (hb : Box w g 61 #[.int .i64 sz, dv, av, .bool rep, fv, .bool down]) (hd : Row w dv xs) (ha : Row w av ys) (hdg : dv.ownBlock ≠ some g) (H : Hid (Calls Try.prog 43 #[.pointer (some ⟨g, 0, none⟩)] w fun e w' => e = .returned (.int .i64 0) ∧ w = w')) (hx : 0 ≤ k) (hm : (if (ys.length : Int) < k then (ys.length : Int) else k) = m) (hl : xs.length + ys.length ≤ 262144) : Calls Try.prog 21 #[.pointer (some ⟨g, 0, none⟩), .int .i64 k] w fun e w' => e = .returned (.int .i64 0) ∧ ∃ v, Row w' v (xs ++ ys.take m) ∧ (∀ b, v.ownBlock = some b → dv.ownBlock = some b ∨ w.heap.size ≤ b) ∧ Box w' g 61 #[.int .i64 sz, v, .slice none 0 0, .bool false, .slice none 0 0, .bool true] ∧ Only (g :: dv.ownBlock.toList) w w' := by
  have hg0 := hb.lt
  obtain ⟨B, cap', rfl, hn', hcap, hs', _⟩ := RowM.cells (.inl ha)
  have hml : m ≤ ys.length := by split at hm <;> omega
  have hcm : (0 : Int) ≤ (m : Int) ∧ (m : Int) ≤ (cap' : Int) := by omega
  have c1 := hb.cell 1 _ rfl
  have c2 := hb.cell 2 _ rfl
  have HB := Lib.hid hb
  have HD := Lib.hid hd
  have HS := Lib.hid hs'
  clear hb hd ha hs'
  go_enter Try.func21, Try.ntmps21
  go_upto_region 6 with (go_at_call 43; refine H.out.mono ?_; rintro _ _ ⟨rfl, rfl⟩)
  have i1 : ∀ i : Idx w, i.at.cell? ⟨g, 1, none⟩ = some dv := fun i => (HB.out.idx i).cell 1 _ rfl
  have i2 : ∀ i : Idx w, i.at.cell? ⟨g, 2, none⟩ = some (.slice B ys.length cap') := fun i => (HB.out.idx i).cell 2 _ rfl
  clear c1 c2 H
  refine wp_region_mixT [1, 1, 1, 1, 0, 1, 1, 1, 0, 1, 1, 1, 1, 0, 1, 1, 1, 2, 1, 1, 2] (by kernel_rfl) (by kernel_rfl) ?_
  iterate 4 (refine wpMix_pure (fun K hK => ?_); go_simp; refine hK _ ?_; clear hK K)
  refine wpMix_calm (fun K hK => ?_); go_simp; refine hK _ ?_; clear hK K
  iterate 3 (refine wpMix_pure (fun K hK => ?_); go_simp; refine hK _ ?_; clear hK K)
  refine wpMix_calm (fun K hK => ?_); go_simp; refine hK _ ?_; clear hK K
  iterate 4 (refine wpMix_pure (fun K hK => ?_); go_simp; refine hK _ ?_; clear hK K)
  refine wpMix_calm (fun K hK => ?_); go_simp; refine hK _ ?_; clear hK K
  iterate 2 (refine wpMix_pure (fun K hK => ?_); go_simp; refine hK _ ?_; clear hK K)
  refine wpMix_pure (fun K hK => ?_)
  go_simp
  refine hK _ ?_
  clear hK K i1 i2
  refine wpMix_own (fun w2 hb2 K hK => ?_)
  rw [if_pos (by rfl)]
  obtain ⟨i, hi, hz, hs1, hby⟩ := info_parts IU
  have hseg := HS.out.next hb2
  obtain ⟨v', w', hrun, ho', hg, hown'⟩ := run_append_seg (P := Try.prog) w2 0 59 59 5 i (.int .u8 0) 1 1 Try.underlying59 hi hz hs1 hby rfl (by decide) dv xs.length (u8s xs) (HD.out.up hb2) B m cap' (bytesAt ys) (fun j hj => hseg j (by omega)) (fun _ _ => rfl) (by unfold maxLen; omega) (by omega) (Nat.zero_le _) (fun h => by have := hn' h; omega)
  refine mixAt_of_append rfl rfl rfl hrun (hK _ _ ?_)
  clear hK K hrun hi
  rw [segCells_take ys m hml, ← u8s_app] at ho'
  have hr : Row w' v' (xs ++ ys.take m) := by
    have hl2 : (xs ++ ys.take m).length = xs.length + m := by simp; omega
    unfold Row
    rw [hl2]
    exact ho'
  have hvf := hr.form
  obtain ⟨A2, cap2, he, _⟩ := hvf
  generalize (xs ++ ys.take m).length = ln at he
  subst he
  have P := (HB.out.next hb2).grown hg (fun e => hdg e.symm)
  have hB := grown_only (F := g :: dv.ownBlock.toList) hb2 hg (fun b hb => by simp [hb])
  have hov : ∀ b, (Value.slice A2 ln cap2).ownBlock = some b → dv.ownBlock = some b ∨ w.heap.size ≤ b := fun b hb => by
    rcases hown' with h | h
    · exact .inl (h ▸ hb)
    · rw [h] at hb
      cases hb
      exact .inr hb2.size
  clear hg hb2 ho' hown' hseg HS HD HB
  iterate 2 (refine wpMix_pure (fun K hK => ?_); go_simp; refine hK _ ?_; clear hK K)
  refine wpMix_own (fun w3 hb3 K hK => ?_)
  replace P := P.next hb3
  replace hr := hr.up hb3
  replace hB := hB.up hb3
  clear hb3
  have c1 := P.cell 1 _ rfl
  have f1 := P.frozen 1
  have l1 := P.lt
  go_simp
  refine hK _ _ ?_
  clear hK K c1 f1 l1
  have hne := hr.ne P (by decide)
  replace P := (P.set 1 (.slice A2 ln cap2)).eq_ (cs' := #[.int .i64 sz, .slice A2 ln cap2, .slice B ys.length cap', .bool rep, fv, .bool down]) (by simp)
  replace hr := hr.set (p := ⟨g, 1, none⟩) hne (.slice A2 ln cap2)
  replace hB := hB.set (p := ⟨g, 1, none⟩) (.inl (by simp)) (.slice A2 ln cap2)
  refine wpMix_nil (fun w4 hb4 => ?_)
  replace P := P.next hb4
  replace hr := hr.up hb4
  replace hB := hB.up hb4
  clear hb4 hne
  have hne := hr.ne P (by decide)
  have c2 := P.cell 2 _ rfl
  have c3 := P.cell 3 _ rfl
  have c4 := P.cell 4 _ rfl
  have c5 := P.cell 5 _ rfl
  have f2 := P.frozen 2
  have f3 := P.frozen 3
  have f4 := P.frozen 4
  have f5 := P.frozen 5
  have l2 := P.lt
  go_wp2
  go_ret
  exact ⟨rfl, _, (((hr.set hne _).set hne _).set hne _).set hne _, hov, ((((P.set 2 (.slice none 0 0)).set 4 (.slice none 0 0)).set 3 (.bool false)).set 5 (.bool true)).eq_ (by simp), (((hB.set (.inl (by simp)) _).set (.inl (by simp)) _).set (.inl (by simp)) _).set (.inl (by simp)) _⟩
def crashV (s : DS) (k : Int) : Int × DS := if rdy s = 0 then (if k < 0 then (2, s) else (0, ⟨s.sz, s.dur ++ s.app.take k.toNat, [], false, [], true⟩)) else (rdy s, s)
theorem crash_any (w : World) (g : Nat) (F : List Nat) (k : Int) (s : DS) (h : DiskAt w g F s) (hf : Fit s) : Calls Try.prog 21 #[.pointer (some ⟨g, 0, none⟩), .int .i64 k] w (Left w g F (crashV s k).1 (crashV s k).2) := by
  have hr := ready_any w g F s h
  unfold crashV
  by_cases h0 : rdy s = 0
  · rw [if_pos h0]
    rw [h0] at hr
    by_cases hk : k < 0
    · rw [if_pos hk]
      exact (crash_neg w g k hr hk).mono fun e w' ⟨he, hw⟩ => by subst hw; subst he; exact h.left_same _
    · rw [if_neg hk]
      obtain ⟨dv, av, fv, hb, hd, ha, _, g5, g6, _, _, _, _, g11⟩ := h
      have hm : (if (s.app.length : Int) < k then (s.app.length : Int) else k) = (min k.toNat s.app.length : Nat) := by split <;> omega
      have hl : s.dur.length + s.app.length ≤ 262144 := by
        obtain ⟨_, f2, f3, _⟩ := hf
        omega
      refine (crash_yes w g k _ s.sz dv av fv s.rep s.down s.dur s.app hb hd ha (hd.ne hb (by decide)) hr (by omega) hm hl).mono fun e w' ⟨he, v, k1, k2, k3, k4⟩ => ?_
      subst he
      have e9 : s.app.take (min k.toNat s.app.length) = s.app.take k.toNat := by
        rcases Nat.le_total k.toNat s.app.length with h | h
        · rw [Nat.min_eq_left h]
        · rw [Nat.min_eq_right h, List.take_of_length_le h, List.take_of_length_le (Nat.le_refl _)]
      rw [e9] at k1
      refine left_dur k1 k3 (k4.mono (fun b hb => ?_)) g5 g11 (fun b hb => ?_)
      · simp only [List.mem_cons, Option.mem_toList] at hb
        rcases hb with rfl | hb
        · exact g5
        · exact g6 b hb
      · rcases k2 b hb with h | h
        · exact .inl (g6 b h)
        · exact .inr h
  · rw [if_neg h0]
    refine (crash_not w g k (rdy s) hr (by simpa using h0)).mono fun e w' ⟨he, hw⟩ => ?_
    subst hw
    subst he
    exact h.left_same _
end Go.Proofs.Ytjcojgblnbhejaa
