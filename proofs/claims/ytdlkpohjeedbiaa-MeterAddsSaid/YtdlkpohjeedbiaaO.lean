/- Contracts of Sum of layer 34 (meter) and of its reference. -/
import Derived.Test.YtdlkpohjeedbiaaN
namespace Go.Proofs.Ytdlkpohjeedbiaa
open Go.ChangeShapes Go.WideShapes Go.ChangeAt Go.RowKit
attribute [local go_sem] ownAt ownUpon mixAt mixUpon

structure U4 where
  a : Int
  b : Int
  c : Int
  d : Int
def U4.z : U4 := ⟨0, 0, 0, 0⟩
def U4.at (u : U4) (j : Nat) : Int := match j with
  | 0 => u.a
  | 1 => u.b
  | 2 => u.c
  | _ => u.d
def uCell (us : List U4) (m : Nat) : Value := .int .i64 ((us.getD (m / 4) U4.z).at (m % 4))
def sumF : List U4 → Int → Int → Int → Int → N5
  | u :: us, a, b, c, d => if (addV a b c d u.a u.b u.c u.d).e = 0 then sumF us (addV a b c d u.a u.b u.c u.d).a (addV a b c d u.a u.b u.c u.d).b (addV a b c d u.a u.b u.c u.d).c (addV a b c d u.a u.b u.c u.d).d else ⟨0, 0, 0, 0, (addV a b c d u.a u.b u.c u.d).e⟩
  | [], a, b, c, d => ⟨a, b, c, d, 0⟩
theorem sumF_step (us : List U4) (k : Nat) (h : k < us.length) (a b c d : Int) : sumF (us.drop k) a b c d =
    if (addV a b c d (us.getD k U4.z).a (us.getD k U4.z).b (us.getD k U4.z).c (us.getD k U4.z).d).e = 0 then sumF (us.drop (k + 1)) (addV a b c d (us.getD k U4.z).a (us.getD k U4.z).b (us.getD k U4.z).c (us.getD k U4.z).d).a (addV a b c d (us.getD k U4.z).a (us.getD k U4.z).b (us.getD k U4.z).c (us.getD k U4.z).d).b (addV a b c d (us.getD k U4.z).a (us.getD k U4.z).b (us.getD k U4.z).c (us.getD k U4.z).d).c (addV a b c d (us.getD k U4.z).a (us.getD k U4.z).b (us.getD k U4.z).c (us.getD k U4.z).d).d else ⟨0, 0, 0, 0, (addV a b c d (us.getD k U4.z).a (us.getD k U4.z).b (us.getD k U4.z).c (us.getD k U4.z).d).e⟩ := by
  rw [List.drop_eq_getElem_cons h, sumF]
  simp [List.getD, h]
theorem sumF_end (us : List U4) (k : Nat) (h : us.length ≤ k) (a b c d : Int) : sumF (us.drop k) a b c d = ⟨a, b, c, d, 0⟩ := by
  rw [List.drop_eq_nil_of_le h, sumF]
theorem useg {w : World} {A : Option Addr} {n : Nat} {us : List U4} (h : Seg w A (n * 4) (uCell us)) (k : Nat) (hk : k < n) : ∃ b o, A = some ⟨b, o, none⟩ ∧ b < w.heap.size ∧
    w.cell? ⟨b, o + k * 4, none⟩ = some (.int .i64 (us.getD k U4.z).a) ∧ w.cell? ⟨b, o + k * 4 + 1, none⟩ = some (.int .i64 (us.getD k U4.z).b) ∧
    w.cell? ⟨b, o + k * 4 + 2, none⟩ = some (.int .i64 (us.getD k U4.z).c) ∧ w.cell? ⟨b, o + k * 4 + 3, none⟩ = some (.int .i64 (us.getD k U4.z).d) := by
  obtain ⟨b, o, rfl, hb, h0⟩ := h (k * 4) (by omega)
  refine ⟨b, o, rfl, hb, ?_, ?_, ?_, ?_⟩
  · rw [h0, uCell, show k * 4 / 4 = k by omega, show k * 4 % 4 = 0 by omega]; rfl
  · obtain ⟨b', o', he, _, h1⟩ := h (k * 4 + 1) (by omega)
    obtain ⟨rfl, rfl⟩ : b = b' ∧ o = o' := by injection he with h; injection h with h1 h2; exact ⟨h1, h2⟩
    rw [Nat.add_assoc, h1, uCell, show (k * 4 + 1) / 4 = k by omega, show (k * 4 + 1) % 4 = 1 by omega]; rfl
  · obtain ⟨b', o', he, _, h1⟩ := h (k * 4 + 2) (by omega)
    obtain ⟨rfl, rfl⟩ : b = b' ∧ o = o' := by injection he with h; injection h with h1 h2; exact ⟨h1, h2⟩
    rw [Nat.add_assoc, h1, uCell, show (k * 4 + 2) / 4 = k by omega, show (k * 4 + 2) % 4 = 2 by omega]; rfl
  · obtain ⟨b', o', he, _, h1⟩ := h (k * 4 + 3) (by omega)
    obtain ⟨rfl, rfl⟩ : b = b' ∧ o = o' := by injection he with h; injection h with h1 h2; exact ⟨h1, h2⟩
    rw [Nat.add_assoc, h1, uCell, show (k * 4 + 3) / 4 = k by omega, show (k * 4 + 3) % 4 = 3 by omega]; rfl
def SumRel (us : List U4) (n : Nat) (R : N5) (w : World) (i : Value) (wr : World) : Prop :=
  ∃ (k : Nat) (a b c d : Int), i = .int .i64 k ∧ k ≤ n ∧ sumF (us.drop k) a b c d = R ∧ Box wr w.heap.size 33 #[.int .i64 0, .int .i64 0, .int .i64 0, .int .i64 0] ∧ Box wr (w.heap.size + 1) 33 #[.int .i64 a, .int .i64 b, .int .i64 c, .int .i64 d] ∧ Below w.heap.size w wr
set_option maxHeartbeats 4000000 in
theorem sum_any (A : Option Addr) (n cap : Nat) (us : List U4) (w : World) (hn : us.length = n) (hs : Seg w A (n * 4) (uCell us)) (hbig : n ≤ 4611686018427387904) :
    Calls Try.prog 21 #[.slice A n cap] w fun e w' => e = .returned (.tuple #[.agg #[.int .i64 (sumF us 0 0 0 0).a, .int .i64 (sumF us 0 0 0 0).b, .int .i64 (sumF us 0 0 0 0).c, .int .i64 (sumF us 0 0 0 0).d], .int .i64 (sumF us 0 0 0 0).e]) ∧ Below w.heap.size w w' := by
  have HN := Lib.hid hn
  have HS := Lib.hid hs
  clear hn hs
  go_enter Try.func21, Try.ntmps21
  go_wp2
  refine wp_forget (fun W => Box W (w.heap.size) 33 #[.int .i64 0, .int .i64 0, .int .i64 0, .int .i64 0] ∧ Box W (w.heap.size + 1) 33 #[.int .i64 0, .int .i64 0, .int .i64 0, .int .i64 0] ∧ Below w.heap.size w W)
    ⟨((Box.new w 33 #[.int .i64 0, .int .i64 0, .int .i64 0, .int .i64 0]).alloc _), (by have h := (Box.new ((w).alloc (.cells #[.int .i64 0, .int .i64 0, .int .i64 0, .int .i64 0] 33)) 33 #[.int .i64 0, .int .i64 0, .int .i64 0, .int .i64 0]); simpa only [World.size_alloc] using h), (below_box (below_box (Below.refl _ _) _) _)⟩ ?_
  rintro wx1 ⟨R, C, hB⟩
  go_loopw [11] (SumRel us n (sumF us 0 0 0 0) w) (fun i _ => n - (intOf i).toNat)
  case atStart => exact ⟨0, 0, 0, 0, 0, rfl, by omega, by simp, R, C, hB⟩
  case round =>
    clear R C hB
    obtain ⟨k, a, b, c, d, rfl, hk, hR, R, C, hB⟩ := hrel
    have HR := Lib.hid hR
    clear hR
    by_cases hlt : k < n
    · obtain ⟨b1, o1, rfl, hb1, q0, q1, q2, q3⟩ := useg HS.out k hlt
      have HT : Hid (∀ W, _) := fun W => add_any a b c d (us.getD k U4.z).a (us.getD k U4.z).b (us.getD k U4.z).c (us.getD k U4.z).d W
      replace HR : Hid (_ = _) := (sumF_step us k (by rw [HN.out]; exact hlt) a b c d).symm.trans HR.out
      generalize us.getD k U4.z = u at *
      obtain ⟨e1, e2, e3, e4⟩ := u
      simp only at q0 q1 q2 q3 HT HR
      generalize addV a b c d e1 e2 e3 e4 = T at *
      obtain ⟨r1, r2, r3, r4, e'⟩ := T
      simp only at HT HR
      have Q0 := Lib.hid q0
      have Q1 := Lib.hid q1
      have Q2 := Lib.hid q2
      have Q3 := Lib.hid q3
      clear q0 q1 q2 q3
      have cR_0 := R.cell 0 _ rfl
      have cR_1 := R.cell 1 _ rfl
      have cR_2 := R.cell 2 _ rfl
      have cR_3 := R.cell 3 _ rfl
      have lR := R.lt
      have cC_0 := C.cell 0 _ rfl
      have cC_1 := C.cell 1 _ rfl
      have cC_2 := C.cell 2 _ rfl
      have cC_3 := C.cell 3 _ rfl
      have lC := C.lt
      have q0 := (hB.cell (p := ⟨b1, o1 + k * 4, none⟩) hb1).trans Q0.out
      have q1 := (hB.cell (p := ⟨b1, o1 + k * 4 + 1, none⟩) hb1).trans Q1.out
      have q2 := (hB.cell (p := ⟨b1, o1 + k * 4 + 2, none⟩) hb1).trans Q2.out
      have q3 := (hB.cell (p := ⟨b1, o1 + k * 4 + 3, none⟩) hb1).trans Q3.out
      have zR_T := R.lt
      have zC_T := C.lt
      have zB_T := hB.size
      go_wp2_with fail
      refine (HT.out _).mono ?_
      rintro _ wx2 ⟨rfl, hb⟩
      clear cR_0 cR_1 cR_2 cR_3 lR cC_0 cC_1 cC_2 cC_3 lC q0 q1 q2 q3
      replace R := (R.alloc _).next hb
      replace C := (C.alloc _).next hb
      have T := (Box.new wr 33 #[.int .i64 e1, .int .i64 e2, .int .i64 e3, .int .i64 e4]).next hb
      replace hB := below_step (below_box hB _) hb
      clear hb
      have cR_0 := R.cell 0 _ rfl
      have cR_1 := R.cell 1 _ rfl
      have cR_2 := R.cell 2 _ rfl
      have cR_3 := R.cell 3 _ rfl
      have lR := R.lt
      have cC_0 := C.cell 0 _ rfl
      have cC_1 := C.cell 1 _ rfl
      have cC_2 := C.cell 2 _ rfl
      have cC_3 := C.cell 3 _ rfl
      have lC := C.lt
      have cT_0 := T.cell 0 _ rfl
      have cT_1 := T.cell 1 _ rfl
      have cT_2 := T.cell 2 _ rfl
      have cT_3 := T.cell 3 _ rfl
      have lT := T.lt
      have q0 := (hB.cell (p := ⟨b1, o1 + k * 4, none⟩) hb1).trans Q0.out
      have q1 := (hB.cell (p := ⟨b1, o1 + k * 4 + 1, none⟩) hb1).trans Q1.out
      have q2 := (hB.cell (p := ⟨b1, o1 + k * 4 + 2, none⟩) hb1).trans Q2.out
      have q3 := (hB.cell (p := ⟨b1, o1 + k * 4 + 3, none⟩) hb1).trans Q3.out
      have zR_N := R.lt
      have zC_N := C.lt
      have zT_N := T.lt
      have zB_N := hB.size
      go_upto_region 6 with fail
      clear cR_0 cR_1 cR_2 cR_3 lR cC_0 cC_1 cC_2 cC_3 lC cT_0 cT_1 cT_2 cT_3 lT q0 q1 q2 q3
      have zR := R.lt
      have zC := C.lt
      have zT := T.lt
      refine wp_forget (fun W => Box W w.heap.size 33 #[.int .i64 0, .int .i64 0, .int .i64 0, .int .i64 0] ∧ Box W (w.heap.size + 1) 33 #[.int .i64 a, .int .i64 b, .int .i64 c, .int .i64 d] ∧ Box W wr.heap.size 33 #[.int .i64 e1, .int .i64 e2, .int .i64 e3, .int .i64 e4] ∧ Box W (wx2.heap.size) 33 #[.int .i64 r1, .int .i64 r2, .int .i64 r3, .int .i64 r4] ∧ Below w.heap.size w W)
        ⟨(R.alloc _), (C.alloc _), (T.alloc _), (Box.new wx2 33 #[.int .i64 r1, .int .i64 r2, .int .i64 r3, .int .i64 r4]), (below_box hB _)⟩ ?_
      clear R C T hB
      rintro wx3 ⟨R, C, T, N, hB⟩
      by_cases he : e' = 0
      · subst he
        rw [if_pos rfl] at HR
        have h0 : ((0 : Int) != 0) = false := rfl
        have cR_0 := R.cell 0 _ rfl
        have cR_1 := R.cell 1 _ rfl
        have cR_2 := R.cell 2 _ rfl
        have cR_3 := R.cell 3 _ rfl
        have lR := R.lt
        have cC_0 := C.cell 0 _ rfl
        have cC_1 := C.cell 1 _ rfl
        have cC_2 := C.cell 2 _ rfl
        have cC_3 := C.cell 3 _ rfl
        have fC_0 := C.frozen 0
        have fC_1 := C.frozen 1
        have fC_2 := C.frozen 2
        have fC_3 := C.frozen 3
        have lC := C.lt
        have cT_0 := T.cell 0 _ rfl
        have cT_1 := T.cell 1 _ rfl
        have cT_2 := T.cell 2 _ rfl
        have cT_3 := T.cell 3 _ rfl
        have lT := T.lt
        have cN_0 := N.cell 0 _ rfl
        have cN_1 := N.cell 1 _ rfl
        have cN_2 := N.cell 2 _ rfl
        have cN_3 := N.cell 3 _ rfl
        have lN := N.lt
        go_upto_region 9 with fail
        clear cR_0 cR_1 cR_2 cR_3 lR cC_0 cC_1 cC_2 cC_3 fC_0 fC_1 fC_2 fC_3 lC cT_0 cT_1 cT_2 cT_3 lT cN_0 cN_1 cN_2 cN_3 lN
        replace R := ((((R.far (p := ⟨w.heap.size + 1, 0, none⟩) (by first | omega | (simp only []; omega)) (.int .i64 r1)).far (p := ⟨w.heap.size + 1, 1, none⟩) (by first | omega | (simp only []; omega)) (.int .i64 r2)).far (p := ⟨w.heap.size + 1, 2, none⟩) (by first | omega | (simp only []; omega)) (.int .i64 r3)).far (p := ⟨w.heap.size + 1, 3, none⟩) (by first | omega | (simp only []; omega)) (.int .i64 r4))
        replace C : Box _ _ _ #[.int .i64 r1, .int .i64 r2, .int .i64 r3, .int .i64 r4] := ((((C.set 0 (.int .i64 r1)).set 1 (.int .i64 r2)).set 2 (.int .i64 r3)).set 3 (.int .i64 r4)).eq_ (by simp)
        replace T := ((((T.far (p := ⟨w.heap.size + 1, 0, none⟩) (by first | omega | (simp only []; omega)) (.int .i64 r1)).far (p := ⟨w.heap.size + 1, 1, none⟩) (by first | omega | (simp only []; omega)) (.int .i64 r2)).far (p := ⟨w.heap.size + 1, 2, none⟩) (by first | omega | (simp only []; omega)) (.int .i64 r3)).far (p := ⟨w.heap.size + 1, 3, none⟩) (by first | omega | (simp only []; omega)) (.int .i64 r4))
        replace N := ((((N.far (p := ⟨w.heap.size + 1, 0, none⟩) (by first | omega | (simp only []; omega)) (.int .i64 r1)).far (p := ⟨w.heap.size + 1, 1, none⟩) (by first | omega | (simp only []; omega)) (.int .i64 r2)).far (p := ⟨w.heap.size + 1, 2, none⟩) (by first | omega | (simp only []; omega)) (.int .i64 r3)).far (p := ⟨w.heap.size + 1, 3, none⟩) (by first | omega | (simp only []; omega)) (.int .i64 r4))
        replace hB := ((((hB.setCell (p := ⟨w.heap.size + 1, 0, none⟩) (by first | omega | (simp only []; omega)) (.int .i64 r1)).setCell (p := ⟨w.heap.size + 1, 1, none⟩) (by first | omega | (simp only []; omega)) (.int .i64 r2)).setCell (p := ⟨w.heap.size + 1, 2, none⟩) (by first | omega | (simp only []; omega)) (.int .i64 r3)).setCell (p := ⟨w.heap.size + 1, 3, none⟩) (by first | omega | (simp only []; omega)) (.int .i64 r4))
        go_wp2
        go_roundw
        case rel => exact ⟨k + 1, r1, r2, r3, r4, by go_num, by omega, HR.out, R, C, hB⟩
        case measure => simp [intOf]; omega
      · rw [if_neg he] at HR
        have h0 : (e' != 0) = true := bne_iff_ne.2 he
        have cR_0 := R.cell 0 _ rfl
        have cR_1 := R.cell 1 _ rfl
        have cR_2 := R.cell 2 _ rfl
        have cR_3 := R.cell 3 _ rfl
        have fR_0 := R.frozen 0
        have fR_1 := R.frozen 1
        have fR_2 := R.frozen 2
        have fR_3 := R.frozen 3
        have lR := R.lt
        have cC_0 := C.cell 0 _ rfl
        have cC_1 := C.cell 1 _ rfl
        have cC_2 := C.cell 2 _ rfl
        have cC_3 := C.cell 3 _ rfl
        have lC := C.lt
        have cT_0 := T.cell 0 _ rfl
        have cT_1 := T.cell 1 _ rfl
        have cT_2 := T.cell 2 _ rfl
        have cT_3 := T.cell 3 _ rfl
        have lT := T.lt
        have cN_0 := N.cell 0 _ rfl
        have cN_1 := N.cell 1 _ rfl
        have cN_2 := N.cell 2 _ rfl
        have cN_3 := N.cell 3 _ rfl
        have lN := N.lt
        go_wp2
        refine bodyPost_ret (v := .tuple #[.agg #[.int .i64 0, .int .i64 0, .int .i64 0, .int .i64 0], .int .i64 e']) ?_ rfl ⟨by rw [← HR.out], below_set4 hB (by omega) _ _ _ _⟩
        simp [results, Try.results21, go_sem, cR_0, cR_1, cR_2, cR_3]
    · have hkn : (n : Int) ≤ k := by omega
      replace HR : Hid (_ = _) := (sumF_end us k (by rw [HN.out]; omega) a b c d).symm.trans HR.out
      have cR_0 := R.cell 0 _ rfl
      have cR_1 := R.cell 1 _ rfl
      have cR_2 := R.cell 2 _ rfl
      have cR_3 := R.cell 3 _ rfl
      have fR_0 := R.frozen 0
      have fR_1 := R.frozen 1
      have fR_2 := R.frozen 2
      have fR_3 := R.frozen 3
      have lR := R.lt
      have cC_0 := C.cell 0 _ rfl
      have cC_1 := C.cell 1 _ rfl
      have cC_2 := C.cell 2 _ rfl
      have cC_3 := C.cell 3 _ rfl
      have lC := C.lt
      go_wp2
      refine bodyPost_ret (v := .tuple #[.agg #[.int .i64 a, .int .i64 b, .int .i64 c, .int .i64 d], .int .i64 0]) ?_ rfl ⟨by rw [← HR.out], below_set4 hB (by omega) _ _ _ _⟩
      simp [results, Try.results21, go_sem, cR_0, cR_1, cR_2, cR_3]
set_option maxHeartbeats 4000000 in
theorem rsum_any (A : Option Addr) (n cap : Nat) (us : List U4) (w : World) (hn : us.length = n) (hs : Seg w A (n * 4) (uCell us)) (hbig : n ≤ 4611686018427387904) :
    Calls Try.prog 22 #[.slice A n cap] w fun e w' => e = .returned (.tuple #[.agg #[.int .i64 (sumF us 0 0 0 0).a, .int .i64 (sumF us 0 0 0 0).b, .int .i64 (sumF us 0 0 0 0).c, .int .i64 (sumF us 0 0 0 0).d], .int .i64 (sumF us 0 0 0 0).e]) ∧ Below w.heap.size w w' := by
  have HN := Lib.hid hn
  have HS := Lib.hid hs
  clear hn hs
  go_enter Try.func22, Try.ntmps22
  go_wp2
  refine wp_forget (fun W => Box W (w.heap.size) 33 #[.int .i64 0, .int .i64 0, .int .i64 0, .int .i64 0] ∧ Box W (w.heap.size + 1) 33 #[.int .i64 0, .int .i64 0, .int .i64 0, .int .i64 0] ∧ Below w.heap.size w W)
    ⟨((Box.new w 33 #[.int .i64 0, .int .i64 0, .int .i64 0, .int .i64 0]).alloc _), (by have h := (Box.new ((w).alloc (.cells #[.int .i64 0, .int .i64 0, .int .i64 0, .int .i64 0] 33)) 33 #[.int .i64 0, .int .i64 0, .int .i64 0, .int .i64 0]); simpa only [World.size_alloc] using h), (below_box (below_box (Below.refl _ _) _) _)⟩ ?_
  rintro wx1 ⟨R, C, hB⟩
  go_loopw [11] (SumRel us n (sumF us 0 0 0 0) w) (fun i _ => n - (intOf i).toNat)
  case atStart => exact ⟨0, 0, 0, 0, 0, rfl, by omega, by simp, R, C, hB⟩
  case round =>
    clear R C hB
    obtain ⟨k, a, b, c, d, rfl, hk, hR, R, C, hB⟩ := hrel
    have HR := Lib.hid hR
    clear hR
    by_cases hlt : k < n
    · obtain ⟨b1, o1, rfl, hb1, q0, q1, q2, q3⟩ := useg HS.out k hlt
      have HT : Hid (∀ W, _) := fun W => radd_any a b c d (us.getD k U4.z).a (us.getD k U4.z).b (us.getD k U4.z).c (us.getD k U4.z).d W
      replace HR : Hid (_ = _) := (sumF_step us k (by rw [HN.out]; exact hlt) a b c d).symm.trans HR.out
      generalize us.getD k U4.z = u at *
      obtain ⟨e1, e2, e3, e4⟩ := u
      simp only at q0 q1 q2 q3 HT HR
      generalize addV a b c d e1 e2 e3 e4 = T at *
      obtain ⟨r1, r2, r3, r4, e'⟩ := T
      simp only at HT HR
      have Q0 := Lib.hid q0
      have Q1 := Lib.hid q1
      have Q2 := Lib.hid q2
      have Q3 := Lib.hid q3
      clear q0 q1 q2 q3
      have hs := hB.size
      have j0 : ∀ i : Idx wr, i.at.cell? ⟨b1, o1 + k * 4, none⟩ = some (.int .i64 e1) := fun i => (i.below.cell (p := ⟨b1, o1 + k * 4, none⟩) (Nat.lt_of_lt_of_le hb1 hs)).trans ((hB.cell (p := ⟨b1, o1 + k * 4, none⟩) hb1).trans Q0.out)
      have j1 : ∀ i : Idx wr, i.at.cell? ⟨b1, o1 + k * 4 + 1, none⟩ = some (.int .i64 e2) := fun i => (i.below.cell (p := ⟨b1, o1 + k * 4 + 1, none⟩) (Nat.lt_of_lt_of_le hb1 hs)).trans ((hB.cell (p := ⟨b1, o1 + k * 4 + 1, none⟩) hb1).trans Q1.out)
      have j2 : ∀ i : Idx wr, i.at.cell? ⟨b1, o1 + k * 4 + 2, none⟩ = some (.int .i64 e3) := fun i => (i.below.cell (p := ⟨b1, o1 + k * 4 + 2, none⟩) (Nat.lt_of_lt_of_le hb1 hs)).trans ((hB.cell (p := ⟨b1, o1 + k * 4 + 2, none⟩) hb1).trans Q2.out)
      have j3 : ∀ i : Idx wr, i.at.cell? ⟨b1, o1 + k * 4 + 3, none⟩ = some (.int .i64 e4) := fun i => (i.below.cell (p := ⟨b1, o1 + k * 4 + 3, none⟩) (Nat.lt_of_lt_of_le hb1 hs)).trans ((hB.cell (p := ⟨b1, o1 + k * 4 + 3, none⟩) hb1).trans Q3.out)
      have iR_0 : ∀ i : Idx wr, _ := fun i => (R.idx i).cell 0 _ rfl
      have iR_1 : ∀ i : Idx wr, _ := fun i => (R.idx i).cell 1 _ rfl
      have iR_2 : ∀ i : Idx wr, _ := fun i => (R.idx i).cell 2 _ rfl
      have iR_3 : ∀ i : Idx wr, _ := fun i => (R.idx i).cell 3 _ rfl
      have iC_0 : ∀ i : Idx wr, _ := fun i => (C.idx i).cell 0 _ rfl
      have iC_1 : ∀ i : Idx wr, _ := fun i => (C.idx i).cell 1 _ rfl
      have iC_2 : ∀ i : Idx wr, _ := fun i => (C.idx i).cell 2 _ rfl
      have iC_3 : ∀ i : Idx wr, _ := fun i => (C.idx i).cell 3 _ rfl
      go_upto_region 5 with fail
      refine wp_region_mix [0, 0, 0, 0, 0, 0, 1, 1, 1, 3, 2, 2] (by kernel_rfl) (by kernel_rfl) ?_
      iterate 5 (refine wpMix_calm (fun K hK => ?_); go_simp; refine hK _ ?_; clear hK K)
      refine wpMix_calm (fun K hK => ?_)
      go_simp
      apply Exists.intro
      refine ⟨fun _ => ?_, hK _ ?_⟩
      go_at_call 20
      exact (HT.out _)
      clear hK K
      iterate 3 (refine wpMix_pure (fun K hK => ?_); go_simp; refine hK _ ?_; clear hK K)
      clear j0 j1 j2 j3
      clear iR_0 iR_1 iR_2 iR_3 iC_0 iC_1 iC_2 iC_3
      refine wpMix_grow (fun wx2 hb K hK => ?_)
      have hbk := hb
      replace R := R.next hb
      replace C := C.next hb
      replace hB := below_step hB hb
      clear hb
      have cR_0 := R.cell 0 _ rfl
      have cR_1 := R.cell 1 _ rfl
      have cR_2 := R.cell 2 _ rfl
      have cR_3 := R.cell 3 _ rfl
      have lR := R.lt
      have cC_0 := C.cell 0 _ rfl
      have cC_1 := C.cell 1 _ rfl
      have cC_2 := C.cell 2 _ rfl
      have cC_3 := C.cell 3 _ rfl
      have lC := C.lt
      go_simp
      refine ⟨below_box hbk _, hK _ _ ?_⟩
      clear hK K hbk
      clear cR_0 cR_1 cR_2 cR_3 lR cC_0 cC_1 cC_2 cC_3 lC
      have zR_N := R.lt
      have zC_N := C.lt
      have zB_N := hB.size
      refine wpMix_own (fun wx3 hb K hK => ?_)
      replace R := (R.alloc _).next hb
      replace C := (C.alloc _).next hb
      have N := (Box.new wx2 33 #[.int .i64 0, .int .i64 0, .int .i64 0, .int .i64 0]).next hb
      replace hB := below_step (below_box hB _) hb
      clear hb
      have cR_0 := R.cell 0 _ rfl
      have cR_1 := R.cell 1 _ rfl
      have cR_2 := R.cell 2 _ rfl
      have cR_3 := R.cell 3 _ rfl
      have lR := R.lt
      have cC_0 := C.cell 0 _ rfl
      have cC_1 := C.cell 1 _ rfl
      have cC_2 := C.cell 2 _ rfl
      have cC_3 := C.cell 3 _ rfl
      have lC := C.lt
      have cN_0 := N.cell 0 _ rfl
      have cN_1 := N.cell 1 _ rfl
      have cN_2 := N.cell 2 _ rfl
      have cN_3 := N.cell 3 _ rfl
      have fN_0 := N.frozen 0
      have fN_1 := N.frozen 1
      have fN_2 := N.frozen 2
      have fN_3 := N.frozen 3
      have lN := N.lt
      go_simp
      refine hK _ _ ?_
      clear hK K
      clear cR_0 cR_1 cR_2 cR_3 lR cC_0 cC_1 cC_2 cC_3 lC cN_0 cN_1 cN_2 cN_3 fN_0 fN_1 fN_2 fN_3 lN
      replace R := ((((R.far (p := ⟨wx2.heap.size, 0, none⟩) (by first | omega | (simp only []; omega)) (.int .i64 r1)).far (p := ⟨wx2.heap.size, 1, none⟩) (by first | omega | (simp only []; omega)) (.int .i64 r2)).far (p := ⟨wx2.heap.size, 2, none⟩) (by first | omega | (simp only []; omega)) (.int .i64 r3)).far (p := ⟨wx2.heap.size, 3, none⟩) (by first | omega | (simp only []; omega)) (.int .i64 r4))
      replace C := ((((C.far (p := ⟨wx2.heap.size, 0, none⟩) (by first | omega | (simp only []; omega)) (.int .i64 r1)).far (p := ⟨wx2.heap.size, 1, none⟩) (by first | omega | (simp only []; omega)) (.int .i64 r2)).far (p := ⟨wx2.heap.size, 2, none⟩) (by first | omega | (simp only []; omega)) (.int .i64 r3)).far (p := ⟨wx2.heap.size, 3, none⟩) (by first | omega | (simp only []; omega)) (.int .i64 r4))
      replace N : Box _ _ _ #[.int .i64 r1, .int .i64 r2, .int .i64 r3, .int .i64 r4] := ((((N.set 0 (.int .i64 r1)).set 1 (.int .i64 r2)).set 2 (.int .i64 r3)).set 3 (.int .i64 r4)).eq_ (by simp)
      replace hB := ((((hB.setCell (p := ⟨wx2.heap.size, 0, none⟩) (by first | omega | (simp only []; omega)) (.int .i64 r1)).setCell (p := ⟨wx2.heap.size, 1, none⟩) (by first | omega | (simp only []; omega)) (.int .i64 r2)).setCell (p := ⟨wx2.heap.size, 2, none⟩) (by first | omega | (simp only []; omega)) (.int .i64 r3)).setCell (p := ⟨wx2.heap.size, 3, none⟩) (by first | omega | (simp only []; omega)) (.int .i64 r4))
      refine wpMix_own (fun wx4 hb K hK => ?_)
      replace R := R.next hb
      replace C := C.next hb
      replace N := N.next hb
      replace hB := below_step hB hb
      clear hb
      go_simp
      refine hK _ _ ?_
      clear hK K
      refine wpMix_nil (fun wx5 hb => ?_)
      replace R := R.next hb
      replace C := C.next hb
      replace N := N.next hb
      replace hB := below_step hB hb
      clear hb
      by_cases he : e' = 0
      · subst he
        rw [if_pos rfl] at HR
        have h0 : ((0 : Int) != 0) = false := rfl
        have cR_0 := R.cell 0 _ rfl
        have cR_1 := R.cell 1 _ rfl
        have cR_2 := R.cell 2 _ rfl
        have cR_3 := R.cell 3 _ rfl
        have lR := R.lt
        have cC_0 := C.cell 0 _ rfl
        have cC_1 := C.cell 1 _ rfl
        have cC_2 := C.cell 2 _ rfl
        have cC_3 := C.cell 3 _ rfl
        have fC_0 := C.frozen 0
        have fC_1 := C.frozen 1
        have fC_2 := C.frozen 2
        have fC_3 := C.frozen 3
        have lC := C.lt
        have cN_0 := N.cell 0 _ rfl
        have cN_1 := N.cell 1 _ rfl
        have cN_2 := N.cell 2 _ rfl
        have cN_3 := N.cell 3 _ rfl
        have lN := N.lt
        go_upto_region 9 with fail
        clear cR_0 cR_1 cR_2 cR_3 lR cC_0 cC_1 cC_2 cC_3 fC_0 fC_1 fC_2 fC_3 lC cN_0 cN_1 cN_2 cN_3 lN
        replace R := ((((R.far (p := ⟨w.heap.size + 1, 0, none⟩) (by first | omega | (simp only []; omega)) (.int .i64 r1)).far (p := ⟨w.heap.size + 1, 1, none⟩) (by first | omega | (simp only []; omega)) (.int .i64 r2)).far (p := ⟨w.heap.size + 1, 2, none⟩) (by first | omega | (simp only []; omega)) (.int .i64 r3)).far (p := ⟨w.heap.size + 1, 3, none⟩) (by first | omega | (simp only []; omega)) (.int .i64 r4))
        replace C : Box _ _ _ #[.int .i64 r1, .int .i64 r2, .int .i64 r3, .int .i64 r4] := ((((C.set 0 (.int .i64 r1)).set 1 (.int .i64 r2)).set 2 (.int .i64 r3)).set 3 (.int .i64 r4)).eq_ (by simp)
        replace N := ((((N.far (p := ⟨w.heap.size + 1, 0, none⟩) (by first | omega | (simp only []; omega)) (.int .i64 r1)).far (p := ⟨w.heap.size + 1, 1, none⟩) (by first | omega | (simp only []; omega)) (.int .i64 r2)).far (p := ⟨w.heap.size + 1, 2, none⟩) (by first | omega | (simp only []; omega)) (.int .i64 r3)).far (p := ⟨w.heap.size + 1, 3, none⟩) (by first | omega | (simp only []; omega)) (.int .i64 r4))
        replace hB := ((((hB.setCell (p := ⟨w.heap.size + 1, 0, none⟩) (by first | omega | (simp only []; omega)) (.int .i64 r1)).setCell (p := ⟨w.heap.size + 1, 1, none⟩) (by first | omega | (simp only []; omega)) (.int .i64 r2)).setCell (p := ⟨w.heap.size + 1, 2, none⟩) (by first | omega | (simp only []; omega)) (.int .i64 r3)).setCell (p := ⟨w.heap.size + 1, 3, none⟩) (by first | omega | (simp only []; omega)) (.int .i64 r4))
        go_wp2
        go_roundw
        case rel => exact ⟨k + 1, r1, r2, r3, r4, by go_num, by omega, HR.out, R, C, hB⟩
        case measure => simp [intOf]; omega
      · rw [if_neg he] at HR
        have h0 : (e' != 0) = true := bne_iff_ne.2 he
        have cR_0 := R.cell 0 _ rfl
        have cR_1 := R.cell 1 _ rfl
        have cR_2 := R.cell 2 _ rfl
        have cR_3 := R.cell 3 _ rfl
        have fR_0 := R.frozen 0
        have fR_1 := R.frozen 1
        have fR_2 := R.frozen 2
        have fR_3 := R.frozen 3
        have lR := R.lt
        have cC_0 := C.cell 0 _ rfl
        have cC_1 := C.cell 1 _ rfl
        have cC_2 := C.cell 2 _ rfl
        have cC_3 := C.cell 3 _ rfl
        have lC := C.lt
        have cN_0 := N.cell 0 _ rfl
        have cN_1 := N.cell 1 _ rfl
        have cN_2 := N.cell 2 _ rfl
        have cN_3 := N.cell 3 _ rfl
        have lN := N.lt
        go_wp2
        refine bodyPost_ret (v := .tuple #[.agg #[.int .i64 0, .int .i64 0, .int .i64 0, .int .i64 0], .int .i64 e']) ?_ rfl ⟨by rw [← HR.out], below_set4 hB (by omega) _ _ _ _⟩
        simp [results, Try.results22, go_sem, cR_0, cR_1, cR_2, cR_3]
    · have hkn : (n : Int) ≤ k := by omega
      replace HR : Hid (_ = _) := (sumF_end us k (by rw [HN.out]; omega) a b c d).symm.trans HR.out
      have cR_0 := R.cell 0 _ rfl
      have cR_1 := R.cell 1 _ rfl
      have cR_2 := R.cell 2 _ rfl
      have cR_3 := R.cell 3 _ rfl
      have fR_0 := R.frozen 0
      have fR_1 := R.frozen 1
      have fR_2 := R.frozen 2
      have fR_3 := R.frozen 3
      have lR := R.lt
      have cC_0 := C.cell 0 _ rfl
      have cC_1 := C.cell 1 _ rfl
      have cC_2 := C.cell 2 _ rfl
      have cC_3 := C.cell 3 _ rfl
      have lC := C.lt
      go_wp2
      refine bodyPost_ret (v := .tuple #[.agg #[.int .i64 a, .int .i64 b, .int .i64 c, .int .i64 d], .int .i64 0]) ?_ rfl ⟨by rw [← HR.out], below_set4 hB (by omega) _ _ _ _⟩
      simp [results, Try.results22, go_sem, cR_0, cR_1, cR_2, cR_3]

end Go.Proofs.Ytdlkpohjeedbiaa
