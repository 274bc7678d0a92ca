/- Contracts of Play of layer 42 (scale) and of its reference. -/
import Derived.Test.YtndpecjkoffebaaI
import Derived.Test.YtndpecjkoffebaaX
import Derived.Test.YtndpecjkoffebaaY
namespace Go.Proofs.Ytndpecjkoffebaa
open Go.ChangeShapes Go.WideShapes Go.ChangeAt Go.RowKit
attribute [local go_sem] mixAt mixUpon

structure LR where
  l : List Int
  e : Int
/-- What Play returns from some place on. -/
def playF (t mi ma up dn cu cd : Int) : List Int → Int → Int → Int → List Int → LR
  | l :: ls, now, c, ch, acc => if (nextV t mi ma up dn cu cd c ch l now).e = 0 then playF t mi ma up dn cu cd ls (now + 1) (nextV t mi ma up dn cu cd c ch l now).c (nextV t mi ma up dn cu cd c ch l now).h (acc ++ [(nextV t mi ma up dn cu cd c ch l now).c]) else ⟨[], (nextV t mi ma up dn cu cd c ch l now).e⟩
  | [], _, _, _, acc => ⟨acc, 0⟩
theorem playF_step (t mi ma up dn cu cd : Int) (ls : List Int) (k : Nat) (h : k < ls.length) (now c ch : Int) (acc : List Int) : playF t mi ma up dn cu cd (ls.drop k) now c ch acc =
    if (nextV t mi ma up dn cu cd c ch (ls.getD k 0) now).e = 0 then playF t mi ma up dn cu cd (ls.drop (k + 1)) (now + 1) (nextV t mi ma up dn cu cd c ch (ls.getD k 0) now).c (nextV t mi ma up dn cu cd c ch (ls.getD k 0) now).h (acc ++ [(nextV t mi ma up dn cu cd c ch (ls.getD k 0) now).c]) else ⟨[], (nextV t mi ma up dn cu cd c ch (ls.getD k 0) now).e⟩ := by
  rw [List.drop_eq_getElem_cons h, playF]
  simp [List.getD, h]
theorem playF_end (t mi ma up dn cu cd : Int) (ls : List Int) (k : Nat) (h : ls.length ≤ k) (now c ch : Int) (acc : List Int) : playF t mi ma up dn cu cd (ls.drop k) now c ch acc = ⟨acc, 0⟩ := by
  rw [List.drop_eq_nil_of_le h, playF]
def playV (t mi ma up dn cu cd c ch : Int) (ls : List Int) (now : Int) : LR := if stOk t mi ma up dn cu cd c ch then (if 256 < ls.length then ⟨[], 3⟩ else playF t mi ma up dn cu cd ls now c ch []) else ⟨[], 2⟩

theorem next_time (t mi ma up dn cu cd c ch load now : Int) (h : (nextV t mi ma up dn cu cd c ch load now).e = 0) : 0 ≤ now ∧ now ≤ 1073741824 := by
  unfold nextV at h
  split at h
  · omega
  · simp at h

theorem ownsRow_next {w w' : World} {base : Nat} {e : TypeId} {size : Nat} {v : Value} {n : Nat} {xs : List Value} (h : w.ownsRow base e size v n xs) (hb : Below w.heap.size w w') : w'.ownsRow base e size v n xs := by
  refine ⟨h.1, ?_⟩
  rcases h.2 with h0 | ⟨g, cap, cur, h1, h2, h3, h4⟩
  · exact .inl h0
  · exact .inr ⟨g, cap, cur, h1, h2, (hb.block g (Array.getElem?_eq_some_iff.1 h3).1).trans h3, h4⟩
theorem ownsRow_far {w : World} {base : Nat} {e : TypeId} {size : Nat} {v : Value} {n : Nat} {xs : List Value} (h : w.ownsRow base e size v n xs) {p : Addr} (hp : p.block < base) (u : Value) : (w.setCell p u).ownsRow base e size v n xs := by
  refine ⟨h.1, ?_⟩
  rcases h.2 with h0 | ⟨g, cap, cur, h1, h2, h3, h4⟩
  · exact .inl h0
  · exact .inr ⟨g, cap, cur, h1, h2, (Below.heap_setCell w p u g (by omega)).trans h3, h4⟩
theorem ownsRow_base {w : World} {base base' : Nat} {e : TypeId} {size : Nat} {v : Value} {n : Nat} {xs : List Value} (h : w.ownsRow base e size v n xs) (hb : base' ≤ base) : w.ownsRow base' e size v n xs := by
  refine ⟨h.1, ?_⟩
  rcases h.2 with h0 | ⟨g, cap, cur, h1, h2, h3⟩
  · exact .inl h0
  · exact .inr ⟨g, cap, cur, h1, by omega, h3⟩
theorem Box.grown {w w' : World} {b : Nat} {t : TypeId} {cs : Array Value} {row : Option Nat} (h : Box w b t cs) (hg : w.grownBy w' row) (hne : some b ≠ row) : Box w' b t cs := (hg.block b h.lt hne).trans h
theorem grown_below {w w' : World} {base : Nat} {row : Option Nat} (hg : w.grownBy w' row) (hr : ∀ k, row = some k → base ≤ k) (hb : base ≤ w.heap.size) : Below base w w' :=
  ⟨hg.os, hg.tape, hg.output, hg.size, fun k hk => hg.block k (by omega) (fun h => by have := hr k h.symm; omega)⟩

/-- A list of numbers of the call's own is returned, and a number. -/
def ListOut (w : World) (R : LR) (e : Ending) (w' : World) : Prop := ∃ v, e = .returned (.tuple #[v, .int .i64 R.e]) ∧ w'.ownsRow w.heap.size 3 1 v R.l.length (R.l.map (Value.int .i64)) ∧ Below w.heap.size w w'
theorem listOut_nil {w w' : World} {x : Int} (h : Below w.heap.size w w') : ListOut w ⟨[], x⟩ (.returned (.tuple #[.slice none 0 0, .int .i64 x])) w' := ⟨_, rfl, World.ownsRow_nil _ _ _ _, h⟩

theorem info3 : (Try.prog.info? 3).map (fun i => (i.zero, i.size, i.bytes)) = some (some (.int .i64 0), 1, 8) := by kernel_rfl

def PlayRel (t mi ma up dn cu cd now : Int) (ls : List Int) (n : Nat) (R : LR) (w : World) (i v : Value) (wr : World) : Prop :=
  ∃ (k : Nat) (c ch : Int) (acc : List Int), i = .int .i64 k ∧ k ≤ n ∧ acc.length = k ∧ (k = 0 ∨ (0 ≤ now + k - 1 ∧ now + k - 1 ≤ 1073741824)) ∧ playF t mi ma up dn cu cd (ls.drop k) (now + k) c ch acc = R ∧
    Box wr w.heap.size 23 #[.int .i64 t, .int .i64 mi, .int .i64 ma, .int .i64 up, .int .i64 dn, .int .i64 cu, .int .i64 cd] ∧ Box wr (w.heap.size + 1) 25 #[.int .i64 c, .int .i64 ch] ∧ wr.ownsRow (w.heap.size + 2) 3 1 v k (acc.map (Value.int .i64)) ∧ Below w.heap.size w wr

theorem snoc_ints (acc : List Int) (x : Int) : acc.map (Value.int .i64) ++ [.int .i64 x] = (acc ++ [x]).map (Value.int .i64) := by simp

set_option maxHeartbeats 2000000 in
theorem play_loop (t mi ma up dn cu cd c ch now : Int) (A : Option Addr) (n cap : Nat) (ls : List Int) (w : World) (hn : ls.length = n) (hls : Seg w A n (ints ls)) (HS : Hid (∀ W, Calls Try.prog 25 #[.agg #[.int .i64 t, .int .i64 mi, .int .i64 ma, .int .i64 up, .int .i64 dn, .int .i64 cu, .int .i64 cd], .agg #[.int .i64 c, .int .i64 ch]] W fun e w' => e = .returned (.int .i64 0) ∧ Below W.heap.size W w')) (hsm : n ≤ 256) (wn : -9223372036854775808 ≤ now ∧ now ≤ 9223372036854775807) :
    Calls Try.prog 20 #[.agg #[.int .i64 t, .int .i64 mi, .int .i64 ma, .int .i64 up, .int .i64 dn, .int .i64 cu, .int .i64 cd], .agg #[.int .i64 c, .int .i64 ch], .slice A n cap, .int .i64 now] w (ListOut w (playF t mi ma up dn cu cd ls now c ch [])) := by
  have hd : decide ((256 : Int) < (n : Int)) = false := by simp; omega
  have HN := Lib.hid hn
  have HLS := Lib.hid hls
  clear hn hls
  obtain ⟨i0, hi, hz0, hz1, hz2⟩ := info_parts info3
  have HI := Lib.hid hi
  clear hi
  obtain ⟨wn1, wn2⟩ := wn
  go_enter Try.func20, Try.ntmps20
  go_wp2_with fail
  refine (HS.out _).mono ?_
  rintro _ w1 ⟨rfl, hb⟩
  obtain ⟨B1, B2, hB⟩ := box2 hb
  clear hb
  go_wp2_with fail
  go_loopw [27, 11] (PlayRel t mi ma up dn cu cd now ls n (playF t mi ma up dn cu cd ls now c ch []) w) (fun i _ _ => n - (intOf i).toNat)
  case atStart => exact ⟨0, c, ch, [], rfl, by omega, rfl, .inl rfl, by simp, B1, B2, World.ownsRow_nil _ _ _ _, hB⟩
  case round =>
    clear B1 B2 hB
    obtain ⟨k, c, ch, acc, rfl, hk, hacc, hkt, hR, B1, B2, hown, hB⟩ := hrel
    have HR := Lib.hid hR
    have HO := Lib.hid hown
    have HA := Lib.hid hacc
    clear hR hown hacc
    by_cases hlt : k < n
    · obtain ⟨b1, o1, rfl, hb1, hc1⟩ := HLS.out k hlt
      replace hc1 : wr.cell? ⟨b1, o1 + k, none⟩ = some (.int .i64 (ls.getD k 0)) := (hB.cell (p := ⟨b1, o1 + k, none⟩) hb1).trans hc1
      have hs := hB.size
      have HT : Hid (∀ W, _) := fun W => next_any t mi ma up dn cu cd c ch (ls.getD k 0) (now + k) W
      have HX : Hid _ := next_time t mi ma up dn cu cd c ch (ls.getD k 0) (now + k)
      replace HR : Hid (_ = _) := (playF_step t mi ma up dn cu cd ls k (by rw [HN.out]; exact hlt) (now + k) c ch acc).symm.trans HR.out
      generalize ls.getD k 0 = lk at *
      generalize nextV t mi ma up dn cu cd c ch lk (now + k) = T at *
      obtain ⟨c', h', e'⟩ := T
      simp only at HT HR HX
      obtain ⟨c0, c1, c2, c3, c4, c5, c6⟩ := B1.cells7
      obtain ⟨d0, d1⟩ := B2.cells2
      have hwr : IntKind.i64.wrap (now + (k : Int)) = now + (k : Int) := IntWalk.i64_in _ (by omega)
      go_wp2_with fail
      refine (HT.out _).mono ?_
      rintro _ w2 ⟨rfl, hb⟩
      replace B1 := B1.next hb
      replace B2 := B2.next hb
      replace hB := below_step hB hb
      replace HO := Lib.hid (ownsRow_next HO.out hb)
      clear hb c0 c1 c2 c3 c4 c5 c6 d0 d1 hc1 hwr HT
      go_upto_region 11 with fail
      refine wp_forget (fun w3 => Box w3 w.heap.size 23 #[.int .i64 t, .int .i64 mi, .int .i64 ma, .int .i64 up, .int .i64 dn, .int .i64 cu, .int .i64 cd] ∧ Box w3 (w.heap.size + 1) 25 #[.int .i64 c, .int .i64 ch] ∧ Box w3 w2.heap.size 25 #[.int .i64 c', .int .i64 h'] ∧ w3.ownsRow (w.heap.size + 2) 3 1 u11 k (acc.map (Value.int .i64)) ∧ Below w.heap.size w w3)
        ⟨B1.alloc _, B2.alloc _, Box.new _ _ _, HO.out.alloc _, below_box hB _⟩ ?_
      have hgg : w.heap.size + 1 < w2.heap.size := B2.lt
      clear HO B1 B2 hB
      rintro w3 ⟨B1, B2, B3, HO, hB⟩
      replace HO := Lib.hid HO
      generalize hg : w2.heap.size = g at *
      clear hg w2
      by_cases he : e' = 0
      · subst he
        rw [if_pos rfl] at HR
        have hx := HX.out rfl
        have e0 : ((0 : Int) != 0) = false := rfl
        obtain ⟨d0, d1⟩ := B3.cells2
        obtain ⟨q0, q1⟩ := B2.cells2
        have f0 := B2.frozen 0
        have f1 := B2.frozen 1
        have l2 := B2.lt
        go_upto_region 14 with fail
        refine wp_forget (fun w4 => Box w4 w.heap.size 23 #[.int .i64 t, .int .i64 mi, .int .i64 ma, .int .i64 up, .int .i64 dn, .int .i64 cu, .int .i64 cd] ∧ Box w4 (w.heap.size + 1) 25 #[.int .i64 c', .int .i64 h'] ∧ w4.ownsRow (w.heap.size + 2) 3 1 u11 k (acc.map (Value.int .i64)) ∧ Below w.heap.size w w4)
          ⟨B1.far2 (by omega) _ _, B2.set2, ownsRow_far (ownsRow_far HO.out (p := ⟨w.heap.size + 1, 0, none⟩) (by simp) _) (p := ⟨w.heap.size + 1, 1, none⟩) (by simp) _, below_set2 hB (by omega) _ _⟩ ?_
        clear HO B1 B2 B3 hB d0 d1 q0 q1 f0 f1 l2 hgg
        rintro w4 ⟨B1, B2, HO, hB⟩
        replace HO := Lib.hid HO
        obtain ⟨d0, d1⟩ := B2.cells2
        go_wp2_with (at_builtin; go_loud (refine wpList_append_own _ rfl (.tmp 46) (.tmp 49) 36 rfl (w.heap.size + 2) 3 i0 (.int .i64 0) 1 8 Try.underlying36 HI.out hz0 hz1 hz2 rfl (by decide) _ _ _ rfl (HO.out.alloc _) ⟨w4.heap.size, 0, none⟩ 1 1 [.int .i64 c'] rfl rfl ?c1 ?c2 ?c3 ?c4 ?c5 ?_))
        case c2 => simp [Value.oneCell']
        case c3 => unfold maxLen; omega
        case c4 => omega
        case c5 => have := B2.lt; simp; omega
        intro v' w5 hown' hgrow _
        rw [snoc_ints] at hown'
        have HO' := Lib.hid hown'
        have hrow : ∀ j, u11.ownBlock = some j → w.heap.size + 2 ≤ j := fun j hj => (World.ownsRow.lt HO.out j hj).1
        replace B1 := (B1.alloc (.cells #[Value.int .i64 c'] 3)).grown hgrow (fun h => by have := hrow _ h.symm; omega)
        replace B2 := (B2.alloc (.cells #[Value.int .i64 c'] 3)).grown hgrow (fun h => by have := hrow _ h.symm; omega)
        replace hB := (below_box hB (.cells #[Value.int .i64 c'] 3)).trans (grown_below hgrow (fun j hj => by have := hrow j hj; omega) (by have := hB.size; simp; omega))
        clear hown' hgrow HO d0 d1
        go_wp2
        go_roundw
        case rel => exact ⟨k + 1, c', h', acc ++ [c'], by go_num, by omega, by have := HA.out; simp; omega, .inr (by omega), (by have h := HR.out; rw [Int.add_assoc] at h; exact h), B1, B2, HO'.out, hB⟩
        case measure => simp [intOf]; omega
      · rw [if_neg he] at HR
        have h0 : (e' != 0) = true := by simpa using he
        go_wp2
        go_ret2
        rw [← HR.out]
        exact listOut_nil hB
    · have hkn : (n : Int) ≤ k := by omega
      replace HR : Hid (_ = _) := (playF_end t mi ma up dn cu cd ls k (by rw [HN.out]; omega) (now + k) c ch acc).symm.trans HR.out
      go_wp2
      go_ret2
      rw [← HR.out]
      exact ⟨_, rfl, ownsRow_base (by simp only; rw [HA.out]; exact HO.out) (by omega), hB⟩
def RPlayRel (t mi ma up dn cu cd now : Int) (ls : List Int) (n : Nat) (R : LR) (w : World) (i v m : Value) (wr : World) : Prop :=
  ∃ (k : Nat) (c ch : Int) (acc : List Int), i = .int .i64 k ∧ m = .int .i64 (now + k) ∧ k ≤ n ∧ acc.length = k ∧ (k = 0 ∨ (0 ≤ now + k - 1 ∧ now + k - 1 ≤ 1073741824)) ∧ playF t mi ma up dn cu cd (ls.drop k) (now + k) c ch acc = R ∧
    Box wr w.heap.size 23 #[.int .i64 t, .int .i64 mi, .int .i64 ma, .int .i64 up, .int .i64 dn, .int .i64 cu, .int .i64 cd] ∧ Box wr (w.heap.size + 1) 25 #[.int .i64 c, .int .i64 ch] ∧ wr.ownsRow (w.heap.size + 2) 3 1 v k (acc.map (Value.int .i64)) ∧ Below w.heap.size w wr

theorem next_late (t mi ma up dn cu cd c ch load now : Int) (h : 1073741824 < now) : nextV t mi ma up dn cu cd c ch load now = ⟨0, 0, 2⟩ := by
  unfold nextV
  rw [if_neg (by omega)]

set_option maxHeartbeats 2000000 in
theorem rplay_loop (t mi ma up dn cu cd c ch now : Int) (A : Option Addr) (n cap : Nat) (ls : List Int) (w : World) (hn : ls.length = n) (hls : Seg w A n (ints ls)) (HS : Hid (∀ W, Calls Try.prog 27 #[.agg #[.int .i64 t, .int .i64 mi, .int .i64 ma, .int .i64 up, .int .i64 dn, .int .i64 cu, .int .i64 cd], .agg #[.int .i64 c, .int .i64 ch]] W fun e w' => e = .returned (.int .i64 0) ∧ Below W.heap.size W w')) (hsm : n ≤ 256) (wn : -9223372036854775808 ≤ now ∧ now ≤ 9223372036854775807) :
    Calls Try.prog 21 #[.agg #[.int .i64 t, .int .i64 mi, .int .i64 ma, .int .i64 up, .int .i64 dn, .int .i64 cu, .int .i64 cd], .agg #[.int .i64 c, .int .i64 ch], .slice A n cap, .int .i64 now] w (ListOut w (playF t mi ma up dn cu cd ls now c ch [])) := by
  have hd : decide ((256 : Int) < (n : Int)) = false := by simp; omega
  have HN := Lib.hid hn
  have HLS := Lib.hid hls
  clear hn hls
  obtain ⟨i0, hi, hz0, hz1, hz2⟩ := info_parts info3
  have HI := Lib.hid hi
  clear hi
  obtain ⟨wn1, wn2⟩ := wn
  go_enter Try.func21, Try.ntmps21
  go_wp2_with fail
  refine (HS.out _).mono ?_
  rintro _ w1 ⟨rfl, hb⟩
  obtain ⟨B1, B2, hB⟩ := box2 hb
  clear hb
  go_wp2_with fail
  go_loopw [12, 11, 3] (RPlayRel t mi ma up dn cu cd now ls n (playF t mi ma up dn cu cd ls now c ch []) w) (fun i _ _ _ => n - (intOf i).toNat)
  case atStart => exact ⟨0, c, ch, [], rfl, by simp, by omega, rfl, .inl rfl, by simp, B1, B2, World.ownsRow_nil _ _ _ _, hB⟩
  case round =>
    clear B1 B2 hB
    obtain ⟨k, c, ch, acc, rfl, rfl, hk, hacc, hkt, hR, B1, B2, hown, hB⟩ := hrel
    have HR := Lib.hid hR
    have HO := Lib.hid hown
    have HA := Lib.hid hacc
    clear hR hown hacc
    by_cases hlt : k < n
    · obtain ⟨b1, o1, rfl, hb1, hc1⟩ := HLS.out k hlt
      replace hc1 : wr.cell? ⟨b1, o1 + k, none⟩ = some (.int .i64 (ls.getD k 0)) := (hB.cell (p := ⟨b1, o1 + k, none⟩) hb1).trans hc1
      have hs := hB.size
      have HT : Hid (∀ W, _) := fun W => rnext_any t mi ma up dn cu cd c ch (ls.getD k 0) (now + k) W
      have HX : Hid _ := next_time t mi ma up dn cu cd c ch (ls.getD k 0) (now + k)
      have hz : Hid _ := next_late t mi ma up dn cu cd c ch (ls.getD k 0) (now + k)
      replace HR : Hid (_ = _) := (playF_step t mi ma up dn cu cd ls k (by rw [HN.out]; exact hlt) (now + k) c ch acc).symm.trans HR.out
      generalize ls.getD k 0 = lk at *
      by_cases hlate : 1073741824 < now + (k : Int)
      · have HZ := hz.out hlate
        rw [HZ] at HR
        clear HZ hc1
        go_wp2
        go_ret2
        rw [← HR.out]
        exact listOut_nil hB
      have hlate' : now + (k : Int) ≤ 1073741824 := by omega
      clear hlate hz
      generalize nextV t mi ma up dn cu cd c ch lk (now + k) = T at *
      obtain ⟨c', h', e'⟩ := T
      simp only at HT HR HX
      have j0 : ∀ i : Idx wr, _ := fun i => (B1.idx i).cells7
      have j0a : ∀ i : Idx wr, _ := fun i => (j0 i).1
      have j0b : ∀ i : Idx wr, _ := fun i => (j0 i).2.1
      have j0c : ∀ i : Idx wr, _ := fun i => (j0 i).2.2.1
      have j0d : ∀ i : Idx wr, _ := fun i => (j0 i).2.2.2.1
      have j0e : ∀ i : Idx wr, _ := fun i => (j0 i).2.2.2.2.1
      have j0f : ∀ i : Idx wr, _ := fun i => (j0 i).2.2.2.2.2.1
      have j0g : ∀ i : Idx wr, _ := fun i => (j0 i).2.2.2.2.2.2
      have j1a : ∀ i : Idx wr, _ := fun i => (B2.idx i).cells2.1
      have j1b : ∀ i : Idx wr, _ := fun i => (B2.idx i).cells2.2
      have j2 : ∀ i : Idx wr, i.at.cell? ⟨b1, o1 + k, none⟩ = some (.int .i64 lk) := fun i => (i.below.cell (p := ⟨b1, o1 + k, none⟩) (Nat.lt_of_lt_of_le hb1 hs)).trans hc1
      clear j0 hc1
      go_upto_region 12 with fail
      refine wp_region_mix [0, 0, 0, 0, 0, 0, 0, 0, 0, 0, 1, 2, 2] (by kernel_rfl) (by kernel_rfl) ?_
      iterate 10 (refine wpMix_calm (fun K hK => ?_); go_simp; first | (refine hK _ ?_; clear hK K) | (apply Exists.intro; refine ⟨fun _ => ?_, hK _ ?_⟩; (go_at_call 14; exact HT.out _); clear hK K))
      refine wpMix_pure (fun K hK => ?_)
      go_simp
      refine hK _ ?_
      clear hK K j0a j0b j0c j0d j0e j0f j0g j1a j1b j2 HT
      refine wpMix_own (fun w2 hb K hK => ?_)
      replace B1 := B1.next hb
      replace B2 := B2.next hb
      replace hB := below_step hB hb
      replace HO := Lib.hid (ownsRow_next HO.out hb)
      clear hb
      obtain ⟨q0, q1⟩ := B2.cells2
      have f0 := B2.frozen 0
      have f1 := B2.frozen 1
      have l2 := B2.lt
      go_simp
      refine hK _ _ ?_
      clear hK K
      replace B1 := B1.far2 (g := w.heap.size + 1) (by omega) (.int .i64 c') (.int .i64 h')
      replace B2 : Box _ _ _ #[.int .i64 c', .int .i64 h'] := B2.set2 (v0 := .int .i64 c') (v1 := .int .i64 h')
      replace HO := Lib.hid (ownsRow_far (ownsRow_far HO.out (p := ⟨w.heap.size + 1, 0, none⟩) (by simp) (.int .i64 c')) (p := ⟨w.heap.size + 1, 1, none⟩) (by simp) (.int .i64 h'))
      replace hB := below_set2 hB (g := w.heap.size + 1) (by omega) (.int .i64 c') (.int .i64 h')
      clear q0 q1 f0 f1 l2
      refine wpMix_own (fun w3 hb K hK => ?_)
      replace B1 := B1.next hb
      replace B2 := B2.next hb
      replace hB := below_step hB hb
      replace HO := Lib.hid (ownsRow_next HO.out hb)
      clear hb
      go_simp
      refine hK _ _ ?_
      clear hK K
      refine wpMix_nil (fun w4 hb => ?_)
      replace B1 := B1.next hb
      replace B2 := B2.next hb
      replace hB := below_step hB hb
      replace HO := Lib.hid (ownsRow_next HO.out hb)
      clear hb
      by_cases he : e' = 0
      · subst he
        rw [if_pos rfl] at HR
        have hx := HX.out rfl
        have e0 : ((0 : Int) != 0) = false := rfl
        obtain ⟨d0, d1⟩ := B2.cells2
        go_wp2_with (at_builtin; go_loud (refine wpList_append_own _ rfl (.tmp 44) (.tmp 47) 36 rfl (w.heap.size + 2) 3 i0 (.int .i64 0) 1 8 Try.underlying36 HI.out hz0 hz1 hz2 rfl (by decide) _ _ _ rfl (HO.out.alloc _) ⟨w4.heap.size, 0, none⟩ 1 1 [.int .i64 c'] rfl rfl ?c1 ?c2 ?c3 ?c4 ?c5 ?_))
        case c2 => simp [Value.oneCell']
        case c3 => unfold maxLen; omega
        case c4 => omega
        case c5 => have := B2.lt; simp; omega
        intro v' w5 hown' hgrow _
        rw [snoc_ints] at hown'
        have HO' := Lib.hid hown'
        have hrow : ∀ j, u11.ownBlock = some j → w.heap.size + 2 ≤ j := fun j hj => (World.ownsRow.lt HO.out j hj).1
        replace B1 := (B1.alloc (.cells #[Value.int .i64 c'] 3)).grown hgrow (fun h => by have := hrow _ h.symm; omega)
        replace B2 := (B2.alloc (.cells #[Value.int .i64 c'] 3)).grown hgrow (fun h => by have := hrow _ h.symm; omega)
        replace hB := (below_box hB (.cells #[Value.int .i64 c'] 3)).trans (grown_below hgrow (fun j hj => by have := hrow j hj; omega) (by have := hB.size; simp; omega))
        clear hown' hgrow HO d0 d1
        go_wp2
        go_roundw
        case rel => exact ⟨k + 1, c', h', acc ++ [c'], by go_num, by go_num, by omega, by have := HA.out; simp; omega, .inr (by omega), (by have h := HR.out; rw [Int.add_assoc] at h; exact h), B1, B2, HO'.out, hB⟩
        case measure => simp [intOf]; omega
      · rw [if_neg he] at HR
        have h0 : (e' != 0) = true := by simpa using he
        go_wp2
        go_ret2
        rw [← HR.out]
        exact listOut_nil hB
    · have hkn : (n : Int) ≤ k := by omega
      replace HR : Hid (_ = _) := (playF_end t mi ma up dn cu cd ls k (by rw [HN.out]; omega) (now + k) c ch acc).symm.trans HR.out
      go_wp2
      go_ret2
      rw [← HR.out]
      exact ⟨_, rfl, ownsRow_base (by simp only; rw [HA.out]; exact HO.out) (by omega), hB⟩

set_option maxHeartbeats 400000 in
theorem play_err (t mi ma up dn cu cd c ch now : Int) (A : Option Addr) (n cap : Nat) (w : World) (HS : Hid (∀ W, Calls Try.prog 25 #[.agg #[.int .i64 t, .int .i64 mi, .int .i64 ma, .int .i64 up, .int .i64 dn, .int .i64 cu, .int .i64 cd], .agg #[.int .i64 c, .int .i64 ch]] W fun e w' => e = .returned (.int .i64 2) ∧ Below W.heap.size W w')) :
    Calls Try.prog 20 #[.agg #[.int .i64 t, .int .i64 mi, .int .i64 ma, .int .i64 up, .int .i64 dn, .int .i64 cu, .int .i64 cd], .agg #[.int .i64 c, .int .i64 ch], .slice A n cap, .int .i64 now] w (ListOut w ⟨[], 2⟩) := by
  go_enter Try.func20, Try.ntmps20
  go_wp2_with fail
  refine (HS.out _).mono ?_
  rintro _ w1 ⟨rfl, hb⟩
  obtain ⟨B1, B2, hB⟩ := box2 hb
  clear hb
  go_wp2
  go_ret2
  exact listOut_nil hB
set_option maxHeartbeats 400000 in
theorem play_long (t mi ma up dn cu cd c ch now : Int) (A : Option Addr) (n cap : Nat) (w : World) (HS : Hid (∀ W, Calls Try.prog 25 #[.agg #[.int .i64 t, .int .i64 mi, .int .i64 ma, .int .i64 up, .int .i64 dn, .int .i64 cu, .int .i64 cd], .agg #[.int .i64 c, .int .i64 ch]] W fun e w' => e = .returned (.int .i64 0) ∧ Below W.heap.size W w')) (hd : decide ((256 : Int) < (n : Int)) = true) :
    Calls Try.prog 20 #[.agg #[.int .i64 t, .int .i64 mi, .int .i64 ma, .int .i64 up, .int .i64 dn, .int .i64 cu, .int .i64 cd], .agg #[.int .i64 c, .int .i64 ch], .slice A n cap, .int .i64 now] w (ListOut w ⟨[], 3⟩) := by
  go_enter Try.func20, Try.ntmps20
  go_wp2_with fail
  refine (HS.out _).mono ?_
  rintro _ w1 ⟨rfl, hb⟩
  obtain ⟨B1, B2, hB⟩ := box2 hb
  clear hb
  go_wp2
  go_ret2
  exact listOut_nil hB
theorem play_any (t mi ma up dn cu cd c ch now : Int) (A : Option Addr) (n cap : Nat) (ls : List Int) (w : World) (hn : ls.length = n) (hls : Seg w A n (ints ls)) (wn : -9223372036854775808 ≤ now ∧ now ≤ 9223372036854775807) :
    Calls Try.prog 20 #[.agg #[.int .i64 t, .int .i64 mi, .int .i64 ma, .int .i64 up, .int .i64 dn, .int .i64 cu, .int .i64 cd], .agg #[.int .i64 c, .int .i64 ch], .slice A n cap, .int .i64 now] w (ListOut w (playV t mi ma up dn cu cd c ch ls now)) := by
  unfold playV
  cases hs : stOk t mi ma up dn cu cd c ch
  · refine play_err t mi ma up dn cu cd c ch now A n cap w (fun W => ?_)
    have h := state_any t mi ma up dn cu cd c ch W
    unfold stE at h
    rw [hs] at h
    exact h
  · have HS : Hid (∀ W, Calls Try.prog 25 #[.agg #[.int .i64 t, .int .i64 mi, .int .i64 ma, .int .i64 up, .int .i64 dn, .int .i64 cu, .int .i64 cd], .agg #[.int .i64 c, .int .i64 ch]] W fun e w' => e = .returned (.int .i64 0) ∧ Below W.heap.size W w') := fun W => by
      have h := state_any t mi ma up dn cu cd c ch W
      unfold stE at h
      rw [hs] at h
      exact h
    rw [if_pos rfl]
    by_cases h : 256 < ls.length
    · rw [if_pos h]
      exact play_long t mi ma up dn cu cd c ch now A n cap w HS (by simp; omega)
    · rw [if_neg h]
      exact play_loop t mi ma up dn cu cd c ch now A n cap ls w hn hls HS (by omega) wn

set_option maxHeartbeats 400000 in
theorem rplay_err (t mi ma up dn cu cd c ch now : Int) (A : Option Addr) (n cap : Nat) (w : World) (HS : Hid (∀ W, Calls Try.prog 27 #[.agg #[.int .i64 t, .int .i64 mi, .int .i64 ma, .int .i64 up, .int .i64 dn, .int .i64 cu, .int .i64 cd], .agg #[.int .i64 c, .int .i64 ch]] W fun e w' => e = .returned (.int .i64 2) ∧ Below W.heap.size W w')) :
    Calls Try.prog 21 #[.agg #[.int .i64 t, .int .i64 mi, .int .i64 ma, .int .i64 up, .int .i64 dn, .int .i64 cu, .int .i64 cd], .agg #[.int .i64 c, .int .i64 ch], .slice A n cap, .int .i64 now] w (ListOut w ⟨[], 2⟩) := by
  go_enter Try.func21, Try.ntmps21
  go_wp2_with fail
  refine (HS.out _).mono ?_
  rintro _ w1 ⟨rfl, hb⟩
  obtain ⟨B1, B2, hB⟩ := box2 hb
  clear hb
  go_wp2
  go_ret2
  exact listOut_nil hB
set_option maxHeartbeats 400000 in
theorem rplay_long (t mi ma up dn cu cd c ch now : Int) (A : Option Addr) (n cap : Nat) (w : World) (HS : Hid (∀ W, Calls Try.prog 27 #[.agg #[.int .i64 t, .int .i64 mi, .int .i64 ma, .int .i64 up, .int .i64 dn, .int .i64 cu, .int .i64 cd], .agg #[.int .i64 c, .int .i64 ch]] W fun e w' => e = .returned (.int .i64 0) ∧ Below W.heap.size W w')) (hd : decide ((256 : Int) < (n : Int)) = true) :
    Calls Try.prog 21 #[.agg #[.int .i64 t, .int .i64 mi, .int .i64 ma, .int .i64 up, .int .i64 dn, .int .i64 cu, .int .i64 cd], .agg #[.int .i64 c, .int .i64 ch], .slice A n cap, .int .i64 now] w (ListOut w ⟨[], 3⟩) := by
  go_enter Try.func21, Try.ntmps21
  go_wp2_with fail
  refine (HS.out _).mono ?_
  rintro _ w1 ⟨rfl, hb⟩
  obtain ⟨B1, B2, hB⟩ := box2 hb
  clear hb
  go_wp2
  go_ret2
  exact listOut_nil hB
theorem rplay_any (t mi ma up dn cu cd c ch now : Int) (A : Option Addr) (n cap : Nat) (ls : List Int) (w : World) (hn : ls.length = n) (hls : Seg w A n (ints ls)) (wn : -9223372036854775808 ≤ now ∧ now ≤ 9223372036854775807) :
    Calls Try.prog 21 #[.agg #[.int .i64 t, .int .i64 mi, .int .i64 ma, .int .i64 up, .int .i64 dn, .int .i64 cu, .int .i64 cd], .agg #[.int .i64 c, .int .i64 ch], .slice A n cap, .int .i64 now] w (ListOut w (playV t mi ma up dn cu cd c ch ls now)) := by
  unfold playV
  cases hs : stOk t mi ma up dn cu cd c ch
  · refine rplay_err t mi ma up dn cu cd c ch now A n cap w (fun W => ?_)
    have h := rstate_any t mi ma up dn cu cd c ch W
    unfold stE at h
    rw [hs] at h
    exact h
  · have HS : Hid (∀ W, Calls Try.prog 27 #[.agg #[.int .i64 t, .int .i64 mi, .int .i64 ma, .int .i64 up, .int .i64 dn, .int .i64 cu, .int .i64 cd], .agg #[.int .i64 c, .int .i64 ch]] W fun e w' => e = .returned (.int .i64 0) ∧ Below W.heap.size W w') := fun W => by
      have h := rstate_any t mi ma up dn cu cd c ch W
      unfold stE at h
      rw [hs] at h
      exact h
    rw [if_pos rfl]
    by_cases h : 256 < ls.length
    · rw [if_pos h]
      exact rplay_long t mi ma up dn cu cd c ch now A n cap w HS (by simp; omega)
    · rw [if_neg h]
      exact rplay_loop t mi ma up dn cu cd c ch now A n cap ls w hn hls HS (by omega) wn
end Go.Proofs.Ytndpecjkoffebaa
