/- Contracts of Play of layer 37 (instance) and of its reference. -/
import Derived.Test.YtfcihloebncmdaaDoorC
import Derived.Test.YtfcihloebncmdaaDoorG
namespace Go.Proofs.YtfcihloebncmdaaDoor
open Go.ChangeShapes Go.WideShapes Go.ChangeAt Go.RowKit
attribute [local go_sem] ownAt ownUpon

/-- An instance's state, and how many actions were carried out. -/
structure IC where
  (st si us n : Int)
def playI (id : ByteArray) (now : Int) : List Int → Int → Int → Int → Int → IC
  | [], st, si, us, n => ⟨st, si, us, n⟩
  | a :: l, st, si, us, n => if (stepV id st si us a now).e = 0 then playI id now l (stepV id st si us a now).st (stepV id st si us a now).si (stepV id st si us a now).us (n + 1) else ⟨st, si, us, n⟩
theorem stepV_id (id : ByteArray) (st si us a now : Int) (h : (stepV id st si us a now).e = 0) : (stepV id st si us a now).id = id := by
  revert h
  unfold stepV
  repeat' split
  all_goals simp_all
theorem playI_step (id : ByteArray) (now : Int) (l : List Int) (k : Nat) (h : k < l.length) (st si us n : Int) : playI id now (l.drop k) st si us n =
    if (stepV id st si us (l.getD k 0) now).e = 0 then playI id now (l.drop (k + 1)) (stepV id st si us (l.getD k 0) now).st (stepV id st si us (l.getD k 0) now).si (stepV id st si us (l.getD k 0) now).us (n + 1) else ⟨st, si, us, n⟩ := by
  rw [List.drop_eq_getElem_cons h, playI]
  simp [List.getD, h]
theorem playI_end (id : ByteArray) (now : Int) (l : List Int) (k : Nat) (h : l.length ≤ k) (st si us n : Int) : playI id now (l.drop k) st si us n = ⟨st, si, us, n⟩ := by
  rw [List.drop_eq_nil_of_le h, playI]

def PlayRel (l : List Int) (id : ByteArray) (now : Int) (R : IC) (w : World) (c : Value) (wr : World) : Prop :=
  ∃ (k : Nat) (st si us : Int), c = .int .i64 k ∧ k ≤ l.length ∧ playI id now (l.drop k) st si us k = R ∧ Box wr w.heap.size 24 #[.string id, .int .i64 st, .int .i64 si, .int .i64 us] ∧ Box wr (w.heap.size + 1) 24 #[.string ⟨#[]⟩, .int .i64 0, .int .i64 0, .int .i64 0] ∧ Below w.heap.size w wr

set_option maxHeartbeats 2000000 in
theorem play_any (id : ByteArray) (st si us now : Int) (A : Option Addr) (n cap : Nat) (l : List Int) (w : World) (hid : id.size ≤ maxLen) (hT : Tab w) (hn : l.length = n) (hl : Seg w A n (ints l)) (hbig : n ≤ 9223372036854775807) :
    Calls Tryd.prog 19 #[.agg #[.string id, .int .i64 st, .int .i64 si, .int .i64 us], .slice A n cap, .int .i64 now] w fun e w' => e = .returned (.tuple #[.agg #[.string id, .int .i64 (playI id now l st si us 0).st, .int .i64 (playI id now l st si us 0).si, .int .i64 (playI id now l st si us 0).us], .int .i64 (playI id now l st si us 0).n]) ∧ Below w.heap.size w w' := by
  have HN := Lib.hid hn
  have HL := Lib.hid hl
  have HT0 := Lib.hid hT
  have HI := Lib.hid hid
  clear hn hl hT hid
  have B3 : Box ((w.alloc (.cells #[.string id, .int .i64 st, .int .i64 si, .int .i64 us] 24)).alloc (.cells #[.string ⟨#[]⟩, .int .i64 0, .int .i64 0, .int .i64 0] 24)) w.heap.size 24 #[.string id, .int .i64 st, .int .i64 si, .int .i64 us] := (Box.new w 24 #[.string id, .int .i64 st, .int .i64 si, .int .i64 us]).alloc _
  have B6 := Box.new (w.alloc (.cells #[.string id, .int .i64 st, .int .i64 si, .int .i64 us] 24)) 24 #[.string ⟨#[]⟩, .int .i64 0, .int .i64 0, .int .i64 0]
  have hB := below_box ((Below.refl w.heap.size w).alloc (Nat.le_refl _) (.cells #[.string id, .int .i64 st, .int .i64 si, .int .i64 us] 24)) (.cells #[.string ⟨#[]⟩, .int .i64 0, .int .i64 0, .int .i64 0] 24)
  simp only [World.size_alloc] at B6
  have hst : PlayRel l id now (playI id now l st si us 0) w (.int .i64 0) ((w.alloc (.cells #[.string id, .int .i64 st, .int .i64 si, .int .i64 us] 24)).alloc (.cells #[.string ⟨#[]⟩, .int .i64 0, .int .i64 0, .int .i64 0] 24)) := ⟨0, st, si, us, rfl, by omega, by simp, B3, B6, hB⟩
  have HST := Lib.hid hst
  clear hst B3 B6 hB
  go_enter Tryd.func19, Tryd.ntmps19
  go_wp2_with fail
  go_loopw [14] (PlayRel l id now (playI id now l st si us 0) w) (fun i _ => n - (intOf i).toNat)
  case atStart => exact HST.out
  case round =>
    clear HST
    obtain ⟨k, s1, i1, u1, rfl, hk, hR, B3, B6, hB⟩ := hrel
    have HR := Lib.hid hR
    clear hR
    by_cases hlt : k < n
    · obtain ⟨b1, o1, rfl, hb1, hc1⟩ := HL.out k hlt
      replace hc1 : wr.cell? ⟨b1, o1 + k, none⟩ = some (.int .i64 (l.getD k 0)) := (hB.cell (p := ⟨b1, o1 + k, none⟩) hb1).trans hc1
      have hs := hB.size
      have HS : Hid (∀ W, Tab W → _) := fun W kT => step_any id s1 i1 u1 (l.getD k 0) now W HI.out kT
      have HID := Lib.hid (stepV_id id s1 i1 u1 (l.getD k 0) now)
      replace HR : Hid (_ = _) := (playI_step id now l k (by rw [HN.out]; exact hlt) s1 i1 u1 k).symm.trans HR.out
      generalize l.getD k 0 = ak at *
      generalize stepV id s1 i1 u1 ak now = T at *
      obtain ⟨id', s', i', u', e'⟩ := T
      simp only at HS HR HID
      obtain ⟨p0, p1, p2, p3⟩ := B3.cells4
      have z3 := B3.lt
      go_wp2_with fail
      refine (HS.out _ (Hid.out HT0 |>.next hB)).mono ?_
      rintro _ w1 ⟨rfl, hb⟩
      replace B3 := B3.next hb
      replace B6 := B6.next hb
      replace hB := below_step hB hb
      clear hb p0 p1 p2 p3 z3
      by_cases he : e' = 0
      · subst he
        rw [if_pos rfl] at HR
        obtain rfl := HID.out rfl
        obtain ⟨p0, p1, p2, p3⟩ := B3.cells4
        obtain ⟨f0, f1, f2, f3⟩ := B3.frozen4
        have z3 := B3.lt
        go_wp2
        go_roundw
        case rel => exact ⟨k + 1, s', i', u', by go_num, by have := HN.out; omega, HR.out, B3.set4.alloc _, (B6.far4 (by omega) _ _ _ _).alloc _, below_box (below_set4 hB (Nat.le_refl _) _ _ _ _) _⟩
        case measure => simp [intOf]; omega
      · rw [if_neg he] at HR
        have he0 : (e' != 0) = true := by simpa using he
        obtain ⟨p0, p1, p2, p3⟩ := B3.cells4
        obtain ⟨q0, q1, q2, q3⟩ := B6.cells4
        obtain ⟨g0, g1, g2, g3⟩ := B6.frozen4
        have z := B6.lt
        have z3 := B3.lt
        go_wp2
        refine bodyPost_ret (v := .tuple #[.agg #[.string id, .int .i64 s1, .int .i64 i1, .int .i64 u1], .int .i64 k]) ?_ rfl ⟨?_, ?_⟩
        · simp [results, Tryd.results19, go_sem, *]
        · rw [← HR.out]
        · exact below_box (below_set4 hB (by simp) _ _ _ _) _
    · have hkn : (n : Int) ≤ k := by omega
      have hkn' : k = n := by have := HN.out; omega
      replace HR : Hid (_ = _) := (playI_end id now l k (by rw [HN.out]; omega) s1 i1 u1 k).symm.trans HR.out
      subst hkn'
      obtain ⟨p0, p1, p2, p3⟩ := B3.cells4
      obtain ⟨q0, q1, q2, q3⟩ := B6.cells4
      obtain ⟨g0, g1, g2, g3⟩ := B6.frozen4
      have z := B6.lt
      go_wp2
      refine bodyPost_ret (v := .tuple #[.agg #[.string id, .int .i64 s1, .int .i64 i1, .int .i64 u1], .int .i64 k]) ?_ rfl ⟨?_, ?_⟩
      · simp [results, Tryd.results19, go_sem, *]
      · rw [← HR.out]
      · exact below_set4 hB (by simp) _ _ _ _

set_option maxHeartbeats 2000000 in
theorem rplay_any (id : ByteArray) (st si us now : Int) (A : Option Addr) (n cap : Nat) (l : List Int) (w : World) (hid : id.size ≤ maxLen) (hT : Tab w) (hn : l.length = n) (hl : Seg w A n (ints l)) (hbig : n ≤ 9223372036854775807) :
    Calls Tryd.prog 20 #[.agg #[.string id, .int .i64 st, .int .i64 si, .int .i64 us], .slice A n cap, .int .i64 now] w fun e w' => e = .returned (.tuple #[.agg #[.string id, .int .i64 (playI id now l st si us 0).st, .int .i64 (playI id now l st si us 0).si, .int .i64 (playI id now l st si us 0).us], .int .i64 (playI id now l st si us 0).n]) ∧ Below w.heap.size w w' := by
  have HN := Lib.hid hn
  have HL := Lib.hid hl
  have HT0 := Lib.hid hT
  have HI := Lib.hid hid
  clear hn hl hT hid
  have B3 : Box ((w.alloc (.cells #[.string id, .int .i64 st, .int .i64 si, .int .i64 us] 24)).alloc (.cells #[.string ⟨#[]⟩, .int .i64 0, .int .i64 0, .int .i64 0] 24)) w.heap.size 24 #[.string id, .int .i64 st, .int .i64 si, .int .i64 us] := (Box.new w 24 #[.string id, .int .i64 st, .int .i64 si, .int .i64 us]).alloc _
  have B6 := Box.new (w.alloc (.cells #[.string id, .int .i64 st, .int .i64 si, .int .i64 us] 24)) 24 #[.string ⟨#[]⟩, .int .i64 0, .int .i64 0, .int .i64 0]
  have hB := below_box ((Below.refl w.heap.size w).alloc (Nat.le_refl _) (.cells #[.string id, .int .i64 st, .int .i64 si, .int .i64 us] 24)) (.cells #[.string ⟨#[]⟩, .int .i64 0, .int .i64 0, .int .i64 0] 24)
  simp only [World.size_alloc] at B6
  have hst : PlayRel l id now (playI id now l st si us 0) w (.int .i64 0) ((w.alloc (.cells #[.string id, .int .i64 st, .int .i64 si, .int .i64 us] 24)).alloc (.cells #[.string ⟨#[]⟩, .int .i64 0, .int .i64 0, .int .i64 0] 24)) := ⟨0, st, si, us, rfl, by omega, by simp, B3, B6, hB⟩
  have HST := Lib.hid hst
  clear hst B3 B6 hB
  go_enter Tryd.func20, Tryd.ntmps20
  go_wp2_with fail
  go_loopw [13] (PlayRel l id now (playI id now l st si us 0) w) (fun i _ => n - (intOf i).toNat)
  case atStart => exact HST.out
  case round =>
    clear HST
    obtain ⟨k, s1, i1, u1, rfl, hk, hR, B3, B6, hB⟩ := hrel
    have HR := Lib.hid hR
    clear hR
    by_cases hlt : k < n
    · obtain ⟨b1, o1, rfl, hb1, hc1⟩ := HL.out k hlt
      replace hc1 : wr.cell? ⟨b1, o1 + k, none⟩ = some (.int .i64 (l.getD k 0)) := (hB.cell (p := ⟨b1, o1 + k, none⟩) hb1).trans hc1
      have hs := hB.size
      have HS : Hid (∀ W, Tab W → _) := fun W kT => rstep_any id s1 i1 u1 (l.getD k 0) now W HI.out kT
      have HID := Lib.hid (stepV_id id s1 i1 u1 (l.getD k 0) now)
      replace HR : Hid (_ = _) := (playI_step id now l k (by rw [HN.out]; exact hlt) s1 i1 u1 k).symm.trans HR.out
      generalize l.getD k 0 = ak at *
      generalize stepV id s1 i1 u1 ak now = T at *
      obtain ⟨id', s', i', u', e'⟩ := T
      simp only at HS HR HID
      obtain ⟨i0, i1x, i2, i3⟩ := B3.icells4
      have ic : ∀ i : Idx wr, i.at.cell? ⟨b1, o1 + k, none⟩ = some (.int .i64 ak) := fun i => (i.below.cell (p := ⟨b1, o1 + k, none⟩) (Nat.lt_of_lt_of_le hb1 hs)).trans hc1
      have iT : ∀ i : Idx wr, Tab i.at := fun i => (Hid.out HT0 |>.next hB).next i.below
      have HIT := Lib.hid iT
      clear iT
      go_upto_region 4 with fail
      refine wp_region_own 10 (by kernel_rfl) (by kernel_rfl) ?_
      simp only [List.take_succ_cons, List.take_zero, List.drop_succ_cons, List.drop_zero]
      iterate 10 (refine wpCalm_step (fun K hK => ?_); go_simp; first | (refine hK _ ?_; clear hK K) | (apply Exists.intro; refine ⟨fun ni => ?_, hK _ ?_⟩; (go_at_call 12; exact HS.out _ (HIT.out ni)); clear hK K))
      refine wpCalm_nil ?_
      clear i0 i1x i2 i3 ic hc1
      refine wpOwn_step (fun w2 hb2 K hK => ?_)
      go_simp
      refine ⟨below_box hb2 _, hK _ _ ?_⟩
      clear hK K
      have hg2 := hb2.size
      have z3 := B3.lt
      have z6 := B6.lt
      refine wpOwn_step (fun w3 hb3 K hK => ?_)
      have G := (Box.new w2 24 #[.string ⟨#[]⟩, .int .i64 0, .int .i64 0, .int .i64 0]).next hb3
      replace hb2 := below_step (below_box hb2 _) hb3
      clear hb3
      obtain ⟨q0, q1, q2, q3⟩ := G.cells4
      obtain ⟨f0, f1, f2, f3⟩ := G.frozen4
      go_simp
      clear q0 q1 q2 q3 f0 f1 f2 f3
      refine ⟨below_set4 hb2 hg2 _ _ _ _, hK _ _ ?_⟩
      clear hK K
      refine wpOwn_step (fun w4 hb4 K hK => ?_)
      go_simp
      replace G := (G.set4 (v0 := .string id') (v1 := .int .i64 s') (v2 := .int .i64 i') (v3 := .int .i64 u')).next hb4
      replace hb2 := below_step (below_set4 hb2 hg2 _ _ _ _) hb4
      clear hb4
      refine ⟨hb2, hK _ _ ?_⟩
      clear hK K
      refine wpOwn_nil (fun w5 hb5 => ?_)
      replace G := G.next hb5
      replace hb2 := below_step hb2 hb5
      clear hb5
      replace B3 := B3.next hb2
      replace B6 := B6.next hb2
      replace hB := below_step hB hb2
      clear hb2
      by_cases he : e' = 0
      · subst he
        rw [if_pos rfl] at HR
        obtain rfl := HID.out rfl
        obtain ⟨p0, p1, p2, p3⟩ := B3.cells4
        obtain ⟨f0, f1, f2, f3⟩ := B3.frozen4
        obtain ⟨q0, q1, q2, q3⟩ := G.cells4
        go_wp2
        go_roundw
        case rel => exact ⟨k + 1, s', i', u', by go_num, by have := HN.out; omega, HR.out, B3.set4, B6.far4 (by omega) _ _ _ _, below_set4 hB (Nat.le_refl _) _ _ _ _⟩
        case measure => simp [intOf]; omega
      · rw [if_neg he] at HR
        have he0 : (e' != 0) = true := by simpa using he
        obtain ⟨p0, p1, p2, p3⟩ := B3.cells4
        obtain ⟨q0, q1, q2, q3⟩ := B6.cells4
        obtain ⟨g0, g1, g2, g3⟩ := B6.frozen4
        have z := B6.lt
        go_wp2
        refine bodyPost_ret (v := .tuple #[.agg #[.string id, .int .i64 s1, .int .i64 i1, .int .i64 u1], .int .i64 k]) ?_ rfl ⟨?_, ?_⟩
        · simp [results, Tryd.results20, go_sem, *]
        · rw [← HR.out]
        · exact below_set4 hB (by simp) _ _ _ _
    · have hkn : (n : Int) ≤ k := by omega
      have hkn' : k = n := by have := HN.out; omega
      replace HR : Hid (_ = _) := (playI_end id now l k (by rw [HN.out]; omega) s1 i1 u1 k).symm.trans HR.out
      subst hkn'
      obtain ⟨p0, p1, p2, p3⟩ := B3.cells4
      obtain ⟨q0, q1, q2, q3⟩ := B6.cells4
      obtain ⟨g0, g1, g2, g3⟩ := B6.frozen4
      have z := B6.lt
      go_wp2
      refine bodyPost_ret (v := .tuple #[.agg #[.string id, .int .i64 s1, .int .i64 i1, .int .i64 u1], .int .i64 k]) ?_ rfl ⟨?_, ?_⟩
      · simp [results, Tryd.results20, go_sem, *]
      · rw [← HR.out]
      · exact below_set4 hB (by simp) _ _ _ _
end Go.Proofs.YtfcihloebncmdaaDoor
