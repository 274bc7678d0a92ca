/- The reference's New, Acquire, Release: the walks. -/
import Derived.Test.YtbcologcendhlaaSX
import Derived.Test.YtbcologcendhlaaK
namespace Go.Proofs.Ytbcologcendhlaa
open Go.ChangeShapes Go.WideShapes Go.ChangeAt Go.RowKit

structure RefQ (w : World) (r : Nat) (A2 : Option Addr) (c2 : Nat) (v3 : Value) (st : SS) : Prop where
  ref : RefS w r A2 c2 v3 st
  s1 : ∀ a, A2 = some a → a.block ≠ r
  s2 : ∀ a b, A2 = some a → v3.ownBlock = some b → a.block ≠ b
  s4 : ∀ a, A2 = some a → a.block < w.heap.size
theorem own_block {w : World} {base : Nat} {e : TypeId} {s : Nat} {v : Value} {n : Nat} {xs : List Value} (h : w.ownsRow base e s v n xs) {b : Nat} (hb : v.ownBlock = some b) : ∃ cur, Box w b e cur := by
  rcases h.2 with ⟨rfl, _⟩ | ⟨g, cap, cur, rfl, _, hh, _⟩
  · cases hb
  · obtain rfl : g = b := by simpa [Value.ownBlock] using hb
    exact ⟨cur, hh⟩
theorem RefQ.s3 {w : World} {r : Nat} {A2 : Option Addr} {c2 : Nat} {v3 : Value} {st : SS} (h : RefQ w r A2 c2 v3 st) {b : Nat} (hb : v3.ownBlock = some b) : b ≠ r ∧ b < w.heap.size := by
  obtain ⟨cur, hc⟩ := own_block h.ref.own hb
  refine ⟨?_, hc.lt⟩
  rintro rfl
  have h2 := h.ref.box
  unfold Box at hc h2
  rw [hc] at h2
  injection h2 with h2
  injection h2 with _ h3
  exact absurd h3 (by decide)
theorem seg_only {w w' : World} {F : List Nat} {A : Option Addr} {n : Nat} {f : Nat → Value} (h : Seg w A n f) (ho : Only F w w') (hF : ∀ a, A = some a → a.block ∉ F) : Seg w' A n f := by
  intro k hk
  obtain ⟨b, o, rfl, hb, hc⟩ := h k hk
  refine ⟨b, o, rfl, Nat.lt_of_lt_of_le hb ho.size, ?_⟩
  rw [World.cell?_of_block (w := w) (ho.block b hb (hF _ rfl))]
  exact hc
theorem own_only {w w' : World} {F : List Nat} {base : Nat} {e : TypeId} {s : Nat} {v : Value} {n : Nat} {xs : List Value} (h : w.ownsRow base e s v n xs) (ho : Only F w w') (hF : ∀ b, v.ownBlock = some b → b ∉ F) : w'.ownsRow base e s v n xs := by
  refine ⟨h.1, ?_⟩
  rcases h.2 with h0 | ⟨g, cap, cur, rfl, hg, hh, r⟩
  · exact .inl h0
  · exact .inr ⟨g, cap, cur, rfl, hg, (ho.block g (Array.getElem?_eq_some_iff.1 hh).1 (hF g rfl)).trans hh, r⟩
theorem own_set {w : World} {g n cap : Nat} {xs : List Value} {e : TypeId} (h : w.ownsRow 0 e 2 (.slice (some ⟨g, 0, none⟩) n cap) n xs) (j : Nat) (u : Value) : (w.setCell ⟨g, j, none⟩ u).ownsRow 0 e 2 (.slice (some ⟨g, 0, none⟩) n cap) n (xs.set j u) := by
  refine ⟨by rw [List.length_set]; exact h.1, ?_⟩
  rcases h.2 with ⟨h0, _⟩ | ⟨g', cap', cur, he, hg, hh, h1, h2, h3, h4⟩
  · cases h0
  · injection he with he1 _ he2
    injection he1 with he1
    injection he1 with he1
    subst he1 he2
    have hb : Box w g e cur := hh
    have hs := hb.set j u
    refine .inr ⟨g, cap, _, rfl, hg, hs, h1, h2, by rw [Array.size_setIfInBounds]; exact h3, ?_⟩
    rw [Array.toList_setIfInBounds, List.take_set, h4]
theorem rV_set (l : KL) (i : Nat) (hi : i < l.length) (s : Key) (c : Int) (h : (l.getD i ([], 0)).1 = s) : rV (l.set i (s, c)) = (rV l).set (i * 2 + 1) (.int .i64 c) := by
  induction l generalizing i with
  | nil => simp at hi
  | cons p l ih =>
    obtain ⟨x, d⟩ := p
    have e : rV ((x, d) :: l) = .string (bs x) :: .int .i64 d :: rV l := rfl
    match i with
    | 0 =>
      have hx : x = s := h
      subst hx
      rfl
    | i + 1 =>
      have hi' : i < l.length := by simp only [List.length_cons] at hi; omega
      have := ih i hi' h
      show Value.string (bs x) :: Value.int .i64 d :: rV (l.set i (s, c)) = _
      rw [this, e, show (i + 1) * 2 + 1 = i * 2 + 1 + 2 by omega]
      rfl
def RNewEnds (total : Int) (R : KL) (w : World) (e : Ending) (w' : World) : Prop := ∃ r A2 c2, e = .returned (.tuple #[.pointer (some ⟨r, 0, none⟩), .int .i64 0]) ∧ RefQ w' r A2 c2 (.slice none 0 0) ⟨total, R, []⟩ ∧ Below w.heap.size w w' ∧ w.heap.size ≤ r ∧ ∀ a, A2 = some a → w.heap.size ≤ a.block
theorem rnew_no (total least code : Int) (A : Option Addr) (n ca : Nat) (w : World) (HC : Hid (Calls Try.prog 27 #[.int .i64 total, .int .i64 least, .slice A n ca] w fun e w' => e = .returned (.int .i64 code) ∧ Below w.heap.size w w')) (hc : (code != 0) = true) : Calls Try.prog 11 #[.int .i64 total, .int .i64 least, .slice A n ca] w fun e w' => e = .returned (.tuple #[.pointer none, .int .i64 code]) ∧ Below w.heap.size w w' := by
  go_enter Try.func11, Try.ntmps11
  go_wp2_with fail
  refine HC.out.mono ?_
  rintro _ w1 ⟨rfl, hb⟩
  go_wp2
  go_ret2
  exact ⟨rfl, hb⟩
theorem wpList_apprs2 {w W : World} {ops : Array Oper} {rest : List Oper} {o : Oper} {a : Act} {Q : Exit → Act → World → Prop} (hgd : o.guard = none) (s x : Operand)
    (ho : o.op = .call { callee := .builtin .append, args := #[s, x], argTypes := #[22, 22] })
    (base : Nat) (v : Value) (l m : KL) (A : Option Addr) (c : Nat) (hs : a.eval s = v) (hx : a.eval x = .slice A m.length c) (hown : W.ownsRow base 47 2 v l.length (rV l)) (hsrc : Seg W A (m.length * 2) (rCell m)) (hn : A = none → m.length = 0 ∧ c = 0) (hB : Below base w W) (hz : base ≤ W.heap.size) (hl : (l.length + m.length) * 24 ≤ 140737488355328)
    (H : ∀ A2 cap2 n2 w', n2 = (l ++ m).length → Seg w' A2 (n2 * 2) (rCell (l ++ m)) → (∀ ad, A2 = some ad → base ≤ ad.block ∧ ad.block < w'.heap.size) → Below base w w' → wpList Try.prog ops Q rest (a.put o.dst (.slice A2 n2 cap2)) w') : wpList Try.prog ops Q (o :: rest) a W :=
  wpList_appr hgd s x ho base v l m A c hs hx hown hsrc hn hB hz hl fun v' w' h1 h2 => by
    obtain ⟨A2, cap2, rfl, hs2, _, _⟩ := own_seg h1 (fun j hj => rV_get _ j hj)
    refine H A2 cap2 _ w' rfl hs2 (fun ad had => ?_) h2
    subst had
    rcases h1.2 with ⟨h0, _⟩ | ⟨g, cap, cur, he, hg, hh, _⟩
    · cases h0
    · injection he with he
      injection he with he
      subst he
      exact ⟨hg, (Array.getElem?_eq_some_iff.1 hh).1⟩
theorem r_row0 (w : World) : (w.alloc (.cells #[] 47)).ownsRow w.heap.size 47 2 (.slice (some ⟨w.heap.size, 0, none⟩) 0 0) ([] : KL).length (rV []) := World.ownsRow_lit w #[] 0 (Nat.le_refl _) (by decide) rfl
set_option maxHeartbeats 1000000 in
theorem rnew_yes (total least : Int) (A : Option Addr) (ca : Nat) (R : KL) (w : World) (hR : Seg w A (R.length * 2) (rCell R)) (hn : A = none → R.length = 0 ∧ ca = 0) (h32 : R.length ≤ 32) (HC : Hid (Calls Try.prog 27 #[.int .i64 total, .int .i64 least, .slice A R.length ca] w fun e w' => e = .returned (.int .i64 0) ∧ Below w.heap.size w w')) : Calls Try.prog 11 #[.int .i64 total, .int .i64 least, .slice A R.length ca] w (RNewEnds total R w) := by
  have HR := Lib.hid hR
  have HN := Lib.hid hn
  clear hR hn
  go_enter Try.func11, Try.ntmps11
  go_wp2_with fail
  refine HC.out.mono ?_
  rintro _ w1 ⟨rfl, hb1⟩
  clear HC
  have hbb := below_box (Below.refl _ w1) (.cells #[] 47)
  have H1 := Lib.hid (And.intro (r_row0 w1) (And.intro ((HR.out.next hb1).next hbb) (And.intro hbb (And.intro hbb.size hb1))))
  clear hbb hb1
  go_wp2_with (at_builtin
               go_loud (refine wpList_apprs2 rfl (.tmp 17) (.tmp 18) rfl w1.heap.size _ [] R A ca rfl rfl H1.out.1 H1.out.2.1 HN.out H1.out.2.2.1 H1.out.2.2.2.1 (by simp only [List.length_nil]; omega) ?_)
               intro A2 cap2 n2 w2 hn2 hs2 ha2 hb2
               rw [List.nil_append] at hn2 hs2
               have hB2 := below_step H1.out.2.2.2.2 hb2
               have hbx := below_box (Below.refl _ w2) (.cells #[.bool true, .int .i64 total, .slice A2 n2 cap2, .slice none 0 0] 56)
               have hx := Box.new w2 56 #[.bool true, .int .i64 total, .slice A2 n2 cap2, .slice none 0 0]
               have H2 := Lib.hid (And.intro hn2 (And.intro hs2 (And.intro ha2 (And.intro hB2 (And.intro hbx hx)))))
               clear hn2 hs2 ha2 hb2 hB2 hbx hx)
  go_ret2
  obtain ⟨hn2, hs2, ha2, hB2, hbx, hx⟩ := H2.out
  subst hn2
  have hz1 := H1.out.2.2.2.2.size
  refine ⟨_, A2, cap2, rfl, ⟨⟨hx, hs2.next hbx, World.ownsRow_nil _ _ _ _⟩, fun a ha => ?_, fun a b _ hb => ?_, fun a ha => Nat.lt_of_lt_of_le (ha2 a ha).2 hbx.size⟩, below_step hB2 hbx, hB2.size, fun a ha => ?_⟩
  · have := (ha2 a ha).2
    omega
  · cases hb
  · have := (ha2 a ha).1
    omega
def RChanged (r : Nat) (A2 : Option Addr) (c2 : Nat) (v3 : Value) (er : Int) (st : SS) (w : World) (e : Ending) (w' : World) : Prop := e = .returned (.int .i64 er) ∧ ∃ v3', RefQ w' r A2 c2 v3' st ∧ Only (r :: v3.ownBlock.toList) w w' ∧ ∀ b, v3'.ownBlock = some b → v3.ownBlock = some b ∨ w.heap.size ≤ b
theorem rchanged_calm {w w' : World} {r : Nat} {A2 : Option Addr} {c2 : Nat} {v3 : Value} {er : Int} {st : SS} (h : RefQ w r A2 c2 v3 st) (hb : Below w.heap.size w w') : RChanged r A2 c2 v3 er st w (.returned (.int .i64 er)) w' :=
  ⟨rfl, v3, ⟨h.ref.up hb, h.s1, h.s2, fun a ha => Nat.lt_of_lt_of_le (h.s4 a ha) hb.size⟩, Only.of_up hb, fun _b h => .inl h⟩
/-- A count in place. -/
theorem rchanged_set {w w1 : World} {r : Nat} {A2 : Option Addr} {c2 : Nat} {g n cap : Nat} {er : Int} {st : SS} {s : Key} {i : Nat} {d : Int} (h : RefQ w r A2 c2 (.slice (some ⟨g, 0, none⟩) n cap) st) (hb : Below w.heap.size w w1) (hn : n = st.U.length) (hi : idx st.U s = some i) :
    RChanged r A2 c2 (.slice (some ⟨g, 0, none⟩) n cap) er ⟨st.total, st.R, bump st.U s d⟩ w (.returned (.int .i64 er)) (w1.setCell ⟨g, i * 2 + 1, none⟩ (.int .i64 (cnt st.U s + d))) := by
  subst hn
  obtain ⟨h1, h2, h3, h4⟩ := idx_some hi
  have hs3 := h.s3 (b := g) rfl
  have hu := h.ref.up hb
  have hO : Only [g] w1 (w1.setCell ⟨g, i * 2 + 1, none⟩ (.int .i64 (cnt st.U s + d))) := (Only.refl [g] w1).set (.inl (List.mem_singleton.2 rfl)) _
  have hown := own_set hu.own (i * 2 + 1) (.int .i64 (cnt st.U s + d))
  refine ⟨rfl, _, ⟨⟨hu.box.only hO (fun h => hs3.1 (List.mem_singleton.1 h).symm), seg_only hu.res hO (fun a ha hm => h.s2 a g ha rfl (List.mem_singleton.1 hm)), ?_⟩, h.s1, h.s2, fun a ha => Nat.lt_of_lt_of_le (h.s4 a ha) (Nat.le_trans hb.size hO.size)⟩, (Only.of_up hb).trans hO (fun x hx => .inl (by rw [List.mem_singleton.1 hx]; exact List.mem_cons_of_mem _ (by simp [Value.ownBlock]))), fun b h => .inl h⟩
  show World.ownsRow _ 0 _ 2 _ (bump st.U s d).length (rV (bump st.U s d))
  rw [h4, rV_set _ _ h1 _ _ (by rw [h2]), List.length_set]
  exact hown
/-- A user more. -/
theorem rchanged_app {w w1 w2 w3 : World} {r : Nat} {A2 : Option Addr} {c2 : Nat} {v3 v' : Value} {er : Int} {st : SS} {s : Key} {d : Int} (h : RefQ w r A2 c2 v3 st) (hb : Below w.heap.size w w1) (hi : idx st.U s = none)
    (h2 : w2 = w1.alloc (.cells #[.string (bs s), .int .i64 d] 59)) (hown : w3.ownsRow 0 59 2 v' (st.U.length + 1) (rV st.U ++ rV [(s, d)])) (hg : w2.grownBy w3 v3.ownBlock) (hl : v'.ownBlock = v3.ownBlock ∨ v'.ownBlock = some w2.heap.size) :
    RChanged r A2 c2 v3 er ⟨st.total, st.R, bump st.U s d⟩ w (.returned (.int .i64 er)) (w3.setCell ⟨r, 3, none⟩ v') := by
  obtain ⟨_, h4⟩ := idx_none hi
  have hb2 : Below w.heap.size w w2 := by rw [h2]; exact below_step hb (below_box (Below.refl _ _) _)
  have hz2 : w.heap.size < w2.heap.size := by rw [h2]; have := hb.size; simp; omega
  have hO : Only v3.ownBlock.toList w2 w3 := only_grown hg (fun b hb => by rw [hb]; simp)
  have hO2 : Only [r] w3 (w3.setCell ⟨r, 3, none⟩ v') := (Only.refl [r] w3).set (.inl (List.mem_singleton.2 rfl)) _
  have hr : r < w.heap.size := h.ref.box.lt
  have hu := h.ref.up hb2
  have hrn : r ∉ v3.ownBlock.toList := fun hm => (h.s3 (b := r) (by simpa using hm)).1 rfl
  have hbx := (hu.box.only hO hrn).set 3 v'
  have hvr : v'.ownBlock ≠ some r := by
    intro hv
    rcases hl with hl | hl
    · rw [hl] at hv
      exact (h.s3 hv).1 rfl
    · rw [hl] at hv
      injection hv with hv
      omega
  have hAr : ∀ a, A2 = some a → a.block ∉ v3.ownBlock.toList := fun a ha hm => h.s2 a a.block ha (by simpa using hm) rfl
  refine ⟨rfl, v', ⟨⟨hbx, seg_only (seg_only hu.res hO hAr) hO2 (fun a ha hm => h.s1 a ha (List.mem_singleton.1 hm)), ?_⟩, h.s1, fun a b ha hv => ?_, fun a ha => Nat.lt_of_lt_of_le (h.s4 a ha) (Nat.le_trans hb2.size (Nat.le_trans hO.size hO2.size))⟩, ?_, fun b hv => ?_⟩
  · show World.ownsRow _ 0 _ 2 _ (bump st.U s d).length (rV (bump st.U s d))
    rw [h4, List.length_append, rV_app]
    exact own_only hown hO2 (fun b hv hm => hvr (by rw [hv, List.mem_singleton.1 hm]))
  · rcases hl with hl | hl
    · exact h.s2 a b ha (by rw [← hl]; exact hv)
    · rw [hl] at hv
      injection hv with hv
      have := h.s4 a ha
      omega
  · refine ((Only.of_up hb2).trans hO (fun x hx => .inl (List.mem_cons_of_mem _ hx))).trans hO2 (fun x hx => .inl (by rw [List.mem_singleton.1 hx]; exact List.mem_cons_self))
  · rcases hl with hl | hl
    · exact .inl (by rw [← hl]; exact hv)
    · rw [hl] at hv
      injection hv with hv
      right
      omega
end Go.Proofs.Ytbcologcendhlaa
