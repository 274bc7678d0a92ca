/- The parts of units of layer 53 (price): the inner function split. -/
import Derived.Test.YtdmffbbobagloaaE
namespace Go.Proofs.Ytdmffbbobagloaa
open Go.ChangeShapes Go.WideShapes Go.ChangeAt Go.RowKit
attribute [local go_sem] ownAt ownUpon mixAt mixUpon

def SplRel (fi fu iv : Int) (A : Option Addr) (n cap : Nat) (ts : List T2) (units : Int) (w : World) (i b : Value) (wr : World) : Prop :=
  ∃ (k : Nat) (x : Int), i = .int .i64 k ∧ b = .int .i64 x ∧ k ≤ n ∧ (k < n → x = befI ts k) ∧ Box wr w.heap.size 24 #[.int .i64 fi, .int .i64 fu, .int .i64 iv, .slice A n cap] ∧ Box wr (w.heap.size + 1) 47 #[.int .i64 0, .int .i64 0, .int .i64 0, .int .i64 0, .int .i64 0, .int .i64 0, .int .i64 0, .int .i64 0] ∧ Box wr (w.heap.size + 2) 47 (partArr ts units k) ∧ Below w.heap.size w wr
set_option maxHeartbeats 4000000 in
theorem split_any (fi fu iv : Int) (A : Option Addr) (n cap : Nat) (ts : List T2) (units : Int) (w : World) (hn : ts.length = n) (hs : Seg w A (n * 2) (tCell ts)) (hg : chkL ts 0 = 0) (h1 : 1 ≤ n) (h2 : n ≤ 8) (h3 : 0 ≤ units) (h4 : units ≤ 1000000000000) :
    Calls Try.prog 23 #[.agg #[.int .i64 fi, .int .i64 fu, .int .i64 iv, .slice A n cap], .int .i64 units] w fun e w' => e = .returned (.agg #[.int .i64 (pI ts units n 0), .int .i64 (pI ts units n 1), .int .i64 (pI ts units n 2), .int .i64 (pI ts units n 3), .int .i64 (pI ts units n 4), .int .i64 (pI ts units n 5), .int .i64 (pI ts units n 6), .int .i64 (pI ts units n 7)]) ∧ Below w.heap.size w w' := by
  have HN := Lib.hid hn
  have HS := Lib.hid hs
  have HG := Lib.hid hg
  clear hn hs hg
  go_enter Try.func23, Try.ntmps23
  go_wp2
  refine wp_forget (fun W => Box W (w.heap.size) 24 #[.int .i64 fi, .int .i64 fu, .int .i64 iv, .slice A n cap] ∧ Box W (w.heap.size + 1) 47 #[.int .i64 0, .int .i64 0, .int .i64 0, .int .i64 0, .int .i64 0, .int .i64 0, .int .i64 0, .int .i64 0] ∧ Box W (w.heap.size + 2) 47 #[.int .i64 0, .int .i64 0, .int .i64 0, .int .i64 0, .int .i64 0, .int .i64 0, .int .i64 0, .int .i64 0] ∧ Below w.heap.size w W)
    ⟨(((Box.new w 24 #[.int .i64 fi, .int .i64 fu, .int .i64 iv, .slice A n cap]).alloc (.cells #[.int .i64 0, .int .i64 0, .int .i64 0, .int .i64 0, .int .i64 0, .int .i64 0, .int .i64 0, .int .i64 0] 47)).alloc (.cells #[.int .i64 0, .int .i64 0, .int .i64 0, .int .i64 0, .int .i64 0, .int .i64 0, .int .i64 0, .int .i64 0] 47)), (by have h := ((Box.new ((w).alloc (.cells #[.int .i64 fi, .int .i64 fu, .int .i64 iv, .slice A n cap] 24)) 47 #[.int .i64 0, .int .i64 0, .int .i64 0, .int .i64 0, .int .i64 0, .int .i64 0, .int .i64 0, .int .i64 0]).alloc (.cells #[.int .i64 0, .int .i64 0, .int .i64 0, .int .i64 0, .int .i64 0, .int .i64 0, .int .i64 0, .int .i64 0] 47)); simpa only [World.size_alloc] using h), (by have h := (Box.new (((w).alloc (.cells #[.int .i64 fi, .int .i64 fu, .int .i64 iv, .slice A n cap] 24)).alloc (.cells #[.int .i64 0, .int .i64 0, .int .i64 0, .int .i64 0, .int .i64 0, .int .i64 0, .int .i64 0, .int .i64 0] 47)) 47 #[.int .i64 0, .int .i64 0, .int .i64 0, .int .i64 0, .int .i64 0, .int .i64 0, .int .i64 0, .int .i64 0]); simpa only [World.size_alloc] using h), (below_box (below_box (below_box (Below.refl _ _) _) _) _)⟩ ?_
  rintro wx1 ⟨P, R, O, hB⟩
  have cP_0 := P.cell 0 _ rfl
  have cP_1 := P.cell 1 _ rfl
  have cP_2 := P.cell 2 _ rfl
  have cP_3 := P.cell 3 _ rfl
  have lP := P.lt
  have cR_0 := R.cell 0 _ rfl
  have cR_1 := R.cell 1 _ rfl
  have cR_2 := R.cell 2 _ rfl
  have cR_3 := R.cell 3 _ rfl
  have cR_4 := R.cell 4 _ rfl
  have cR_5 := R.cell 5 _ rfl
  have cR_6 := R.cell 6 _ rfl
  have cR_7 := R.cell 7 _ rfl
  have lR := R.lt
  have cO_0 := O.cell 0 _ rfl
  have cO_1 := O.cell 1 _ rfl
  have cO_2 := O.cell 2 _ rfl
  have cO_3 := O.cell 3 _ rfl
  have cO_4 := O.cell 4 _ rfl
  have cO_5 := O.cell 5 _ rfl
  have cO_6 := O.cell 6 _ rfl
  have cO_7 := O.cell 7 _ rfl
  have lO := O.lt
  go_loopw [13, 6] (SplRel fi fu iv A n cap ts units w) (fun i _ _ => n - (intOf i).toNat)
  case atStart => exact ⟨0, 0, rfl, rfl, by omega, fun _ => rfl, P, R, by rw [partArr_zero]; exact O, hB⟩
  case round =>
    clear cP_0 cP_1 cP_2 cP_3 lP cR_0 cR_1 cR_2 cR_3 cR_4 cR_5 cR_6 cR_7 lR cO_0 cO_1 cO_2 cO_3 cO_4 cO_5 cO_6 cO_7 lO P R O hB
    obtain ⟨k, x, rfl, rfl, hk, hx, P, R, O, hB⟩ := hrel
    by_cases hlt : k < n
    · obtain rfl := hx hlt
      obtain ⟨b1, o1, rfl, hb1, q0, q1⟩ := tseg HS.out k hlt
      have Q0 := Lib.hid q0
      have Q1 := Lib.hid q1
      clear q0 q1 hx
      obtain ⟨v0, v1⟩ := bef_nn ts HG.out k (by rw [HN.out]; exact hlt)
      have TK := Lib.hid (tier_ok ts HG.out k (by rw [HN.out]; exact hlt))
      obtain ⟨p0, p1⟩ := part_bd ts HG.out units h3 k (by rw [HN.out]; exact hlt)
      have PL := Lib.hid (part_last ts HG.out units h3 k)
      have PM := Lib.hid (part_mid ts HG.out units h3 k (by rw [HN.out]; exact hlt))
      have cO := O.cell k _ (partArr_get ts units k k (by omega))
      have fO := O.frozen k
      have zO := O.lt
      rw [HN.out] at PL PM
      have K1 := Lib.hid TK.out.last
      have K2 := Lib.hid TK.out.u0
      have K3 := Lib.hid TK.out.u1
      have K4 := Lib.hid TK.out.ord
      have KE : Hid ((ts.getD k T2.z).u = befI ts (k + 1)) := Lib.hid rfl
      rw [HN.out] at K1 K2 K3 K4
      clear TK
      generalize ts.getD k T2.z = t at *
      obtain ⟨u, m⟩ := t
      simp only at Q0 Q1 PM K1 K2 K3 K4 KE
      have cP_0 := P.cell 0 _ rfl
      have cP_1 := P.cell 1 _ rfl
      have cP_2 := P.cell 2 _ rfl
      have cP_3 := P.cell 3 _ rfl
      have lP := P.lt
      have lR := R.lt
      have q0 := (hB.cell (p := ⟨b1, o1 + k * 2, none⟩) hb1).trans Q0.out
      have q1 := (hB.cell (p := ⟨b1, o1 + k * 2 + 1, none⟩) hb1).trans Q1.out
      have zP_T := P.lt
      have zR_T := R.lt
      have zB_T := hB.size
      by_cases hl : k + 1 = n
      · have hl2 : ((k : Int) == n - 1) = true := beq_iff_eq.2 (by omega)
        obtain rfl := K1.out hl
        replace PL := Lib.hid (PL.out hl)
        clear PM K1 K2 K3 K4
        have hl3 := Lib.hid hl
        clear hl
        go_upto_region 10 with fail
        clear cP_0 cP_1 cP_2 cP_3 lP lR q0 q1
        refine wp_forget (fun W => Box W w.heap.size 24 #[.int .i64 fi, .int .i64 fu, .int .i64 iv, .slice (some ⟨b1, o1, none⟩) n cap] ∧ Box W (w.heap.size + 1) 47 #[.int .i64 0, .int .i64 0, .int .i64 0, .int .i64 0, .int .i64 0, .int .i64 0, .int .i64 0, .int .i64 0] ∧ Box W (w.heap.size + 2) 47 (partArr ts units (k + 1)) ∧ Box W wr.heap.size 43 #[.int .i64 0, .int .i64 m] ∧ Below w.heap.size w W)
          ⟨(P.far (p := ⟨w.heap.size + 2, k, none⟩) (by first | omega | (simp only []; omega)) _).alloc _, (R.far (p := ⟨w.heap.size + 2, k, none⟩) (by first | omega | (simp only []; omega)) _).alloc _, ((O.set k _).eq_ (partArr_set ts units _ k (by omega) (by rw [PL.out]; first | omega | (split <;> omega)))).alloc _, box_new_set _ _ _ _ _, below_box (hB.setCell (p := ⟨w.heap.size + 2, k, none⟩) (by first | omega | (simp only []; omega)) _) _⟩ ?_
        clear P R O hB cO fO
        rintro wx30 ⟨P, R, O, T, hB⟩
        have cP_0 := P.cell 0 _ rfl
        have cP_1 := P.cell 1 _ rfl
        have cP_2 := P.cell 2 _ rfl
        have cP_3 := P.cell 3 _ rfl
        have lP := P.lt
        have lR := R.lt
        have cT_0 := T.cell 0 _ rfl
        have cT_1 := T.cell 1 _ rfl
        have lT := T.lt
        go_wp2
        go_roundw
        case rel => exact ⟨k + 1, _, by go_num, rfl, by omega, fun g => absurd g (by have := hl3.out; omega), P, R, O, hB⟩
        case measure => simp [intOf]; omega
      · have hl2 : ((k : Int) == n - 1) = false := beq_eq_false_iff_ne.2 (by omega)
        replace PM := Lib.hid (PM.out hl)
        have u0 := K2.out hl
        have u1 := K3.out hl
        have u2 := K4.out hl
        have hl3 := Lib.hid hl
        clear hl PL K1 K2 K3 K4
        by_cases hmu : u < units
        · skip
          go_upto_region 10 with fail
          clear cP_0 cP_1 cP_2 cP_3 lP lR q0 q1
          refine wp_forget (fun W => Box W w.heap.size 24 #[.int .i64 fi, .int .i64 fu, .int .i64 iv, .slice (some ⟨b1, o1, none⟩) n cap] ∧ Box W (w.heap.size + 1) 47 #[.int .i64 0, .int .i64 0, .int .i64 0, .int .i64 0, .int .i64 0, .int .i64 0, .int .i64 0, .int .i64 0] ∧ Box W (w.heap.size + 2) 47 (partArr ts units (k + 1)) ∧ Box W wr.heap.size 43 #[.int .i64 u, .int .i64 m] ∧ Below w.heap.size w W)
            ⟨(P.far (p := ⟨w.heap.size + 2, k, none⟩) (by first | omega | (simp only []; omega)) _).alloc _, (R.far (p := ⟨w.heap.size + 2, k, none⟩) (by first | omega | (simp only []; omega)) _).alloc _, ((O.set k _).eq_ (partArr_set ts units _ k (by omega) (by rw [PM.out]; first | omega | (split <;> omega)))).alloc _, box_new_set _ _ _ _ _, below_box (hB.setCell (p := ⟨w.heap.size + 2, k, none⟩) (by first | omega | (simp only []; omega)) _) _⟩ ?_
          clear P R O hB cO fO
          rintro wx30 ⟨P, R, O, T, hB⟩
          have cP_0 := P.cell 0 _ rfl
          have cP_1 := P.cell 1 _ rfl
          have cP_2 := P.cell 2 _ rfl
          have cP_3 := P.cell 3 _ rfl
          have lP := P.lt
          have lR := R.lt
          have cT_0 := T.cell 0 _ rfl
          have cT_1 := T.cell 1 _ rfl
          have lT := T.lt
          go_wp2
          go_roundw
          case rel => exact ⟨k + 1, _, by go_num, rfl, by omega, fun _ => KE.out, P, R, O, hB⟩
          case measure => simp [intOf]; omega
        · skip
          go_upto_region 10 with fail
          clear cP_0 cP_1 cP_2 cP_3 lP lR q0 q1
          refine wp_forget (fun W => Box W w.heap.size 24 #[.int .i64 fi, .int .i64 fu, .int .i64 iv, .slice (some ⟨b1, o1, none⟩) n cap] ∧ Box W (w.heap.size + 1) 47 #[.int .i64 0, .int .i64 0, .int .i64 0, .int .i64 0, .int .i64 0, .int .i64 0, .int .i64 0, .int .i64 0] ∧ Box W (w.heap.size + 2) 47 (partArr ts units (k + 1)) ∧ Box W wr.heap.size 43 #[.int .i64 u, .int .i64 m] ∧ Below w.heap.size w W)
            ⟨(P.far (p := ⟨w.heap.size + 2, k, none⟩) (by first | omega | (simp only []; omega)) _).alloc _, (R.far (p := ⟨w.heap.size + 2, k, none⟩) (by first | omega | (simp only []; omega)) _).alloc _, ((O.set k _).eq_ (partArr_set ts units _ k (by omega) (by rw [PM.out]; first | omega | (split <;> omega)))).alloc _, box_new_set _ _ _ _ _, below_box (hB.setCell (p := ⟨w.heap.size + 2, k, none⟩) (by first | omega | (simp only []; omega)) _) _⟩ ?_
          clear P R O hB cO fO
          rintro wx30 ⟨P, R, O, T, hB⟩
          have cP_0 := P.cell 0 _ rfl
          have cP_1 := P.cell 1 _ rfl
          have cP_2 := P.cell 2 _ rfl
          have cP_3 := P.cell 3 _ rfl
          have lP := P.lt
          have lR := R.lt
          have cT_0 := T.cell 0 _ rfl
          have cT_1 := T.cell 1 _ rfl
          have lT := T.lt
          go_wp2
          go_roundw
          case rel => exact ⟨k + 1, _, by go_num, rfl, by omega, fun _ => KE.out, P, R, O, hB⟩
          case measure => simp [intOf]; omega
    · obtain rfl : k = n := by omega
      have O2 : Box wr (w.heap.size + 2) 47 #[.int .i64 (pI ts units k 0), .int .i64 (pI ts units k 1), .int .i64 (pI ts units k 2), .int .i64 (pI ts units k 3), .int .i64 (pI ts units k 4), .int .i64 (pI ts units k 5), .int .i64 (pI ts units k 6), .int .i64 (pI ts units k 7)] := O
      clear O
      have cP_0 := P.cell 0 _ rfl
      have cP_1 := P.cell 1 _ rfl
      have cP_2 := P.cell 2 _ rfl
      have cP_3 := P.cell 3 _ rfl
      have lP := P.lt
      have cR_0 := R.cell 0 _ rfl
      have cR_1 := R.cell 1 _ rfl
      have cR_2 := R.cell 2 _ rfl
      have cR_3 := R.cell 3 _ rfl
      have cR_4 := R.cell 4 _ rfl
      have cR_5 := R.cell 5 _ rfl
      have cR_6 := R.cell 6 _ rfl
      have cR_7 := R.cell 7 _ rfl
      have fR_0 := R.frozen 0
      have fR_1 := R.frozen 1
      have fR_2 := R.frozen 2
      have fR_3 := R.frozen 3
      have fR_4 := R.frozen 4
      have fR_5 := R.frozen 5
      have fR_6 := R.frozen 6
      have fR_7 := R.frozen 7
      have lR := R.lt
      have cO2_0 := O2.cell 0 _ rfl
      have cO2_1 := O2.cell 1 _ rfl
      have cO2_2 := O2.cell 2 _ rfl
      have cO2_3 := O2.cell 3 _ rfl
      have cO2_4 := O2.cell 4 _ rfl
      have cO2_5 := O2.cell 5 _ rfl
      have cO2_6 := O2.cell 6 _ rfl
      have cO2_7 := O2.cell 7 _ rfl
      have lO2 := O2.lt
      go_wp2
      refine bodyPost_ret (v := .agg #[.int .i64 (pI ts units k 0), .int .i64 (pI ts units k 1), .int .i64 (pI ts units k 2), .int .i64 (pI ts units k 3), .int .i64 (pI ts units k 4), .int .i64 (pI ts units k 5), .int .i64 (pI ts units k 6), .int .i64 (pI ts units k 7)]) ?_ (by with_reducible rfl) ⟨(by with_reducible rfl), ?_⟩
      · simp [results, Try.results23, go_sem, cR_0, cR_1, cR_2, cR_3, cR_4, cR_5, cR_6, cR_7]
      · repeat (first | (with_reducible exact hB) | refine Below.setCell ?_ (by first | omega | (simp only []; omega)) _)

end Go.Proofs.Ytdmffbbobagloaa
