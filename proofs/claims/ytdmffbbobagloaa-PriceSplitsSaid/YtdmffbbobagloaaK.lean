/- Split of the reference of layer 53 (price). -/
import Derived.Test.YtdmffbbobagloaaI
namespace Go.Proofs.Ytdmffbbobagloaa
open Go.ChangeShapes Go.WideShapes Go.ChangeAt Go.RowKit
attribute [local go_sem] ownAt ownUpon mixAt mixUpon

theorem partL_snoc (ts : List T2) (units : Int) (k : Nat) : (partL ts units k).map (Value.int .i64) ++ [.int .i64 (partV ts units k)] = (partL ts units (k + 1)).map (Value.int .i64) := by simp [partL, List.range_succ]
theorem ownsRow_base {w : World} {base base' : Nat} {e : TypeId} {size : Nat} {v : Value} {n : Nat} {xs : List Value} (h : w.ownsRow base e size v n xs) (hb : base' ≤ base) : w.ownsRow base' e size v n xs := by
  refine ⟨h.1, ?_⟩
  rcases h.2 with h0 | ⟨g, cap, cur, h1, h2, h3⟩
  · exact .inl h0
  · exact .inr ⟨g, cap, cur, h1, by omega, h3⟩
theorem Box.grown {w w' : World} {b : Nat} {t : TypeId} {cs : Array Value} {row : Option Nat} (h : Box w b t cs) (hg : w.grownBy w' row) (hne : some b ≠ row) : Box w' b t cs := (hg.block b h.lt hne).trans h
theorem own_cell (w : World) (E : Int) : ∀ j u, [Value.int .i64 E][j]? = some u → (w.alloc (.cells #[.int .i64 E] 3)).cell? ((⟨w.heap.size, 0, none⟩ : Addr).add j) = some u := by
  intro j u hu
  rcases j with _ | j
  · obtain rfl : Value.int .i64 E = u := by simpa using hu
    exact (Box.new w 3 #[.int .i64 E]).cell 0 _ rfl
  · simp at hu
set_option maxHeartbeats 1000000 in
theorem rspl_0 (fi fu iv : Int) (A : Option Addr) (n cap : Nat) (ts : List T2) (units x : Int) (w : World) (hs : Hid (Seg w A (n * 2) (tCell ts))) (HC : Hid (∀ W, Seg W A (n * 2) (tCell ts) → Calls Try.prog 16 #[.agg #[.int .i64 fi, .int .i64 fu, .int .i64 iv, .slice A n cap]] W fun e w' => e = .returned (.int .i64 x) ∧ Below W.heap.size W w')) (hx : (x != 0) = true) : Calls Try.prog 12 #[.agg #[.int .i64 fi, .int .i64 fu, .int .i64 iv, .slice A n cap], .int .i64 units] w fun e w' => e = .returned (.tuple #[.slice none 0 0, .int .i64 x]) ∧ Below w.heap.size w w' := by
  go_enter Try.func12, Try.ntmps12
  go_wp2_with fail
  refine (HC.out _ (hs.out.next (below_box (Below.refl _ _) _))).mono ?_
  rintro _ wx1 ⟨rfl, hb⟩
  have P := (Box.new w 24 #[.int .i64 fi, .int .i64 fu, .int .i64 iv, .slice A n cap]).next hb
  have hB := below_step (below_box (Below.refl _ w) _) hb
  clear hb
  have cP_0 := P.cell 0 _ rfl
  have cP_1 := P.cell 1 _ rfl
  have cP_2 := P.cell 2 _ rfl
  have cP_3 := P.cell 3 _ rfl
  have lP := P.lt
  go_wp2
  refine bodyPost_ret (v := .tuple #[.slice none 0 0, .int .i64 x]) ?_ (by with_reducible rfl) ⟨(by with_reducible rfl), hB⟩
  simp [results, Try.results12, go_sem]
set_option maxHeartbeats 1000000 in
theorem rspl_1 (fi fu iv : Int) (A : Option Addr) (n cap : Nat) (ts : List T2) (units : Int) (w : World) (hs : Hid (Seg w A (n * 2) (tCell ts))) (HC : Hid (∀ W, Seg W A (n * 2) (tCell ts) → Calls Try.prog 16 #[.agg #[.int .i64 fi, .int .i64 fu, .int .i64 iv, .slice A n cap]] W fun e w' => e = .returned (.int .i64 0) ∧ Below W.heap.size W w')) (h : units < 0) : Calls Try.prog 12 #[.agg #[.int .i64 fi, .int .i64 fu, .int .i64 iv, .slice A n cap], .int .i64 units] w fun e w' => e = .returned (.tuple #[.slice none 0 0, .int .i64 2]) ∧ Below w.heap.size w w' := by
  go_enter Try.func12, Try.ntmps12
  go_wp2_with fail
  refine (HC.out _ (hs.out.next (below_box (Below.refl _ _) _))).mono ?_
  rintro _ wx1 ⟨rfl, hb⟩
  have P := (Box.new w 24 #[.int .i64 fi, .int .i64 fu, .int .i64 iv, .slice A n cap]).next hb
  have hB := below_step (below_box (Below.refl _ w) _) hb
  clear hb
  have cP_0 := P.cell 0 _ rfl
  have cP_1 := P.cell 1 _ rfl
  have cP_2 := P.cell 2 _ rfl
  have cP_3 := P.cell 3 _ rfl
  have lP := P.lt
  go_wp2
  refine bodyPost_ret (v := .tuple #[.slice none 0 0, .int .i64 2]) ?_ (by with_reducible rfl) ⟨(by with_reducible rfl), hB⟩
  simp [results, Try.results12, go_sem]
set_option maxHeartbeats 1000000 in
theorem rspl_2 (fi fu iv : Int) (A : Option Addr) (n cap : Nat) (ts : List T2) (units : Int) (w : World) (hs : Hid (Seg w A (n * 2) (tCell ts))) (HC : Hid (∀ W, Seg W A (n * 2) (tCell ts) → Calls Try.prog 16 #[.agg #[.int .i64 fi, .int .i64 fu, .int .i64 iv, .slice A n cap]] W fun e w' => e = .returned (.int .i64 0) ∧ Below W.heap.size W w')) (h : 0 ≤ units) (h2 : 1000000000000 < units) : Calls Try.prog 12 #[.agg #[.int .i64 fi, .int .i64 fu, .int .i64 iv, .slice A n cap], .int .i64 units] w fun e w' => e = .returned (.tuple #[.slice none 0 0, .int .i64 2]) ∧ Below w.heap.size w w' := by
  go_enter Try.func12, Try.ntmps12
  go_wp2_with fail
  refine (HC.out _ (hs.out.next (below_box (Below.refl _ _) _))).mono ?_
  rintro _ wx1 ⟨rfl, hb⟩
  have P := (Box.new w 24 #[.int .i64 fi, .int .i64 fu, .int .i64 iv, .slice A n cap]).next hb
  have hB := below_step (below_box (Below.refl _ w) _) hb
  clear hb
  have cP_0 := P.cell 0 _ rfl
  have cP_1 := P.cell 1 _ rfl
  have cP_2 := P.cell 2 _ rfl
  have cP_3 := P.cell 3 _ rfl
  have lP := P.lt
  go_wp2_with fail
  refine (v01_no _ _ (by omega)).mono ?_
  rintro _ wy2 ⟨rfl, rfl⟩
  go_wp2
  refine bodyPost_ret (v := .tuple #[.slice none 0 0, .int .i64 2]) ?_ (by with_reducible rfl) ⟨(by with_reducible rfl), hB⟩
  simp [results, Try.results12, go_sem]
def RSplRel (fi fu iv : Int) (A : Option Addr) (n cap : Nat) (ts : List T2) (units : Int) (w : World) (i v f : Value) (wr : World) : Prop :=
  ∃ k : Nat, i = .int .i64 k ∧ f = .int .i64 (cutI ts units k) ∧ k ≤ n ∧ Box wr w.heap.size 24 #[.int .i64 fi, .int .i64 fu, .int .i64 iv, .slice A n cap] ∧ wr.ownsRow (w.heap.size + 1) 3 1 v k ((partL ts units k).map (Value.int .i64)) ∧ Below w.heap.size w wr
set_option maxHeartbeats 4000000 in
theorem rspl_3 (fi fu iv : Int) (A : Option Addr) (n cap : Nat) (ts : List T2) (units : Int) (w : World) (hn : ts.length = n) (hs : Hid (Seg w A (n * 2) (tCell ts))) (hg : chkL ts 0 = 0) (HC : Hid (∀ W, Seg W A (n * 2) (tCell ts) → Calls Try.prog 16 #[.agg #[.int .i64 fi, .int .i64 fu, .int .i64 iv, .slice A n cap]] W fun e w' => e = .returned (.int .i64 0) ∧ Below W.heap.size W w')) (h3 : 0 ≤ units) (h4 : units ≤ 1000000000000) (h1 : 1 ≤ n) (h2 : n ≤ 8) : Calls Try.prog 12 #[.agg #[.int .i64 fi, .int .i64 fu, .int .i64 iv, .slice A n cap], .int .i64 units] w (LOut w (partL ts units n) 0) := by
  go_enter Try.func12, Try.ntmps12
  go_wp2_with fail
  refine (HC.out _ (hs.out.next (below_box (Below.refl _ _) _))).mono ?_
  rintro _ wx1 ⟨rfl, hb⟩
  have P := (Box.new w 24 #[.int .i64 fi, .int .i64 fu, .int .i64 iv, .slice A n cap]).next hb
  have hB := below_step (below_box (Below.refl _ w) _) hb
  clear hb
  have cP_0 := P.cell 0 _ rfl
  have cP_1 := P.cell 1 _ rfl
  have cP_2 := P.cell 2 _ rfl
  have cP_3 := P.cell 3 _ rfl
  have lP := P.lt
  go_wp2_with fail
  refine (v01_yes _ _ (by omega) h4).mono ?_
  rintro _ wy2 ⟨rfl, rfl⟩
  go_wp2
  clear cP_0 cP_1 cP_2 cP_3 lP
  refine wp_forget (fun W => Box W w.heap.size 24 #[.int .i64 fi, .int .i64 fu, .int .i64 iv, .slice A n cap] ∧ Below w.heap.size w W)
    ⟨P, hB⟩ ?_
  clear P hB
  rintro wx3 ⟨P, hB⟩
  have cP_0 := P.cell 0 _ rfl
  have cP_1 := P.cell 1 _ rfl
  have cP_2 := P.cell 2 _ rfl
  have cP_3 := P.cell 3 _ rfl
  have lP := P.lt
  obtain ⟨i0, hi, hz0, hz1, hz2⟩ := info_parts info3
  have HI := Lib.hid hi
  have HN := Lib.hid hn
  have HG := Lib.hid hg
  clear hi hn hg HC
  go_loopw [26, 7, 8] (RSplRel fi fu iv A n cap ts units w) (fun i _ _ _ => n - (intOf i).toNat)
  case atStart => exact ⟨0, rfl, by rw [cut_zero], by omega, P, World.ownsRow_nil _ _ _ _, hB⟩
  case round =>
    clear cP_0 cP_1 cP_2 cP_3 lP P hB
    obtain ⟨k, rfl, rfl, hk, P, hown, hB⟩ := hrel
    have HO := Lib.hid hown
    clear hown
    by_cases hlt : k < n
    · obtain ⟨b1, o1, rfl, hb1, q0, q1⟩ := tseg hs.out k hlt
      have Q0 := Lib.hid q0
      clear q0 q1
      have TK := Lib.hid (tier_ok ts HG.out k (by rw [HN.out]; exact hlt))
      obtain ⟨p0, p1⟩ := part_bd ts HG.out units h3 k (by rw [HN.out]; exact hlt)
      obtain ⟨d0, d1, d2⟩ := cut_bd ts HG.out units h3 k (by rw [HN.out]; exact hlt)
      have PE : partV ts units k = cutI ts units (k + 1) - cutI ts units k := rfl
      have K1 := Lib.hid TK.out.last
      have K2 := Lib.hid TK.out.u0
      have K3 := Lib.hid TK.out.u1
      have C1 := Lib.hid (cut_last ts units k)
      have C2 := Lib.hid (cut_mid ts units k)
      rw [HN.out] at K1 K2 K3 C1 C2
      clear TK
      generalize ts.getD k T2.z = t at *
      obtain ⟨u, m⟩ := t
      simp only at Q0 K1 K2 K3 C2
      have SN := Lib.hid (partL_snoc ts units k)
      generalize cutI ts units k = c at *
      generalize hc' : cutI ts units (k + 1) = c' at *
      have HC' := Lib.hid hc'
      clear hc'
      have cP_0 := P.cell 0 _ rfl
      have cP_1 := P.cell 1 _ rfl
      have cP_2 := P.cell 2 _ rfl
      have cP_3 := P.cell 3 _ rfl
      have lP := P.lt
      have q0 := (hB.cell (p := ⟨b1, o1 + k * 2, none⟩) hb1).trans Q0.out
      by_cases hl : k + 1 = n
      · obtain rfl := K1.out hl
        have e := C1.out hl
        obtain rfl : units = c' := e.symm
        clear K1 K2 K3 C1 C2 hl
        by_cases hlt2 : c < units
        · have q9 := hlt2
          have hlP := P.lt
          go_wp2_with (at_builtin; go_loud (refine wpList_append_own _ rfl (.tmp 45) (.tmp 50) 31 rfl (w.heap.size + 1) 3 i0 (.int .i64 0) 1 8 Try.underlying31 HI.out hz0 hz1 hz2 rfl (by decide) _ _ _ rfl (HO.out.alloc _) ⟨wr.heap.size, 0, none⟩ 1 1 [.int .i64 (units - c)] rfl rfl (own_cell wr _) ?c2 ?c3 ?c4 ?c5 ?_))
          case c2 => first | (simp [Value.oneCell']; done) | (intro u hu; simp at hu; subst hu; rfl)
          case c3 => unfold maxLen; omega
          case c4 => omega
          case c5 => first | (have hq := hB.size; simp only [World.size_alloc]; omega) | omega
          intro v' w5 hown' hgrow _
          rw [show ((units - c) : Int) = partV ts units k by have := PE; omega, SN.out] at hown'
          have HO' := Lib.hid hown'
          have hrow : ∀ j, u7.ownBlock = some j → w.heap.size + 1 ≤ j := fun j hj => (World.ownsRow.lt HO.out j hj).1
          have P' := (P.alloc (.cells #[Value.int .i64 (units - c)] 3)).grown hgrow (fun h => by have := hrow _ h.symm; omega)
          have hB' := (below_box hB (.cells #[Value.int .i64 (units - c)] 3)).trans (grown_below hgrow (fun j hj => by have := hrow j hj; omega) (by simp; omega))
          clear hown' hgrow HO P hB
          clear cP_0 cP_1 cP_2 cP_3 lP q0
          go_wp2
          go_roundw
          case rel => exact ⟨k + 1, by go_num, by rw [HC'.out], by omega, P', HO'.out, hB'⟩
          case measure => simp [intOf]; omega
        · obtain rfl : units = c := by omega
          have hlP := P.lt
          go_wp2_with (at_builtin; go_loud (refine wpList_append_own _ rfl (.tmp 45) (.tmp 50) 31 rfl (w.heap.size + 1) 3 i0 (.int .i64 0) 1 8 Try.underlying31 HI.out hz0 hz1 hz2 rfl (by decide) _ _ _ rfl (HO.out.alloc _) ⟨wr.heap.size, 0, none⟩ 1 1 [.int .i64 0] rfl rfl (own_cell wr _) ?c2 ?c3 ?c4 ?c5 ?_))
          case c2 => first | (simp [Value.oneCell']; done) | (intro u hu; simp at hu; subst hu; rfl)
          case c3 => unfold maxLen; omega
          case c4 => omega
          case c5 => first | (have hq := hB.size; simp only [World.size_alloc]; omega) | omega
          intro v' w5 hown' hgrow _
          rw [show (0 : Int) = partV ts units k by have := PE; omega, SN.out] at hown'
          have HO' := Lib.hid hown'
          have hrow : ∀ j, u7.ownBlock = some j → w.heap.size + 1 ≤ j := fun j hj => (World.ownsRow.lt HO.out j hj).1
          have P' := (P.alloc (.cells #[Value.int .i64 0] 3)).grown hgrow (fun h => by have := hrow _ h.symm; omega)
          have hB' := (below_box hB (.cells #[Value.int .i64 0] 3)).trans (grown_below hgrow (fun j hj => by have := hrow j hj; omega) (by simp; omega))
          clear hown' hgrow HO P hB
          clear cP_0 cP_1 cP_2 cP_3 lP q0
          go_wp2
          go_roundw
          case rel => exact ⟨k + 1, by go_num, by rw [HC'.out], by omega, P', HO'.out, hB'⟩
          case measure => simp [intOf]; omega
      · have u0 := K2.out hl
        have u1 := K3.out hl
        have e := C2.out hl
        have hz : (u != 0) = true := bne_iff_ne.2 (by omega)
        clear K1 K2 K3 C1 C2
        by_cases hmu : u < units
        · obtain rfl : u = c' := by omega
          clear e
          by_cases hlt2 : c < u
          · have q9 := hlt2
            have hlP := P.lt
            go_wp2_with (at_builtin; go_loud (refine wpList_append_own _ rfl (.tmp 45) (.tmp 50) 31 rfl (w.heap.size + 1) 3 i0 (.int .i64 0) 1 8 Try.underlying31 HI.out hz0 hz1 hz2 rfl (by decide) _ _ _ rfl (HO.out.alloc _) ⟨wr.heap.size, 0, none⟩ 1 1 [.int .i64 (u - c)] rfl rfl (own_cell wr _) ?c2 ?c3 ?c4 ?c5 ?_))
            case c2 => first | (simp [Value.oneCell']; done) | (intro u hu; simp at hu; subst hu; rfl)
            case c3 => unfold maxLen; omega
            case c4 => omega
            case c5 => first | (have hq := hB.size; simp only [World.size_alloc]; omega) | omega
            intro v' w5 hown' hgrow _
            rw [show ((u - c) : Int) = partV ts units k by have := PE; omega, SN.out] at hown'
            have HO' := Lib.hid hown'
            have hrow : ∀ j, u7.ownBlock = some j → w.heap.size + 1 ≤ j := fun j hj => (World.ownsRow.lt HO.out j hj).1
            have P' := (P.alloc (.cells #[Value.int .i64 (u - c)] 3)).grown hgrow (fun h => by have := hrow _ h.symm; omega)
            have hB' := (below_box hB (.cells #[Value.int .i64 (u - c)] 3)).trans (grown_below hgrow (fun j hj => by have := hrow j hj; omega) (by simp; omega))
            clear hown' hgrow HO P hB
            clear cP_0 cP_1 cP_2 cP_3 lP q0
            go_wp2
            go_roundw
            case rel => exact ⟨k + 1, by go_num, by rw [HC'.out], by omega, P', HO'.out, hB'⟩
            case measure => simp [intOf]; omega
          · obtain rfl : u = c := by omega
            have hlP := P.lt
            go_wp2_with (at_builtin; go_loud (refine wpList_append_own _ rfl (.tmp 45) (.tmp 50) 31 rfl (w.heap.size + 1) 3 i0 (.int .i64 0) 1 8 Try.underlying31 HI.out hz0 hz1 hz2 rfl (by decide) _ _ _ rfl (HO.out.alloc _) ⟨wr.heap.size, 0, none⟩ 1 1 [.int .i64 0] rfl rfl (own_cell wr _) ?c2 ?c3 ?c4 ?c5 ?_))
            case c2 => first | (simp [Value.oneCell']; done) | (intro u hu; simp at hu; subst hu; rfl)
            case c3 => unfold maxLen; omega
            case c4 => omega
            case c5 => first | (have hq := hB.size; simp only [World.size_alloc]; omega) | omega
            intro v' w5 hown' hgrow _
            rw [show (0 : Int) = partV ts units k by have := PE; omega, SN.out] at hown'
            have HO' := Lib.hid hown'
            have hrow : ∀ j, u7.ownBlock = some j → w.heap.size + 1 ≤ j := fun j hj => (World.ownsRow.lt HO.out j hj).1
            have P' := (P.alloc (.cells #[Value.int .i64 0] 3)).grown hgrow (fun h => by have := hrow _ h.symm; omega)
            have hB' := (below_box hB (.cells #[Value.int .i64 0] 3)).trans (grown_below hgrow (fun j hj => by have := hrow j hj; omega) (by simp; omega))
            clear hown' hgrow HO P hB
            clear cP_0 cP_1 cP_2 cP_3 lP q0
            go_wp2
            go_roundw
            case rel => exact ⟨k + 1, by go_num, by rw [HC'.out], by omega, P', HO'.out, hB'⟩
            case measure => simp [intOf]; omega
        · obtain rfl : units = c' := by omega
          clear e
          by_cases hlt2 : c < units
          · have q9 := hlt2
            have hlP := P.lt
            go_wp2_with (at_builtin; go_loud (refine wpList_append_own _ rfl (.tmp 45) (.tmp 50) 31 rfl (w.heap.size + 1) 3 i0 (.int .i64 0) 1 8 Try.underlying31 HI.out hz0 hz1 hz2 rfl (by decide) _ _ _ rfl (HO.out.alloc _) ⟨wr.heap.size, 0, none⟩ 1 1 [.int .i64 (units - c)] rfl rfl (own_cell wr _) ?c2 ?c3 ?c4 ?c5 ?_))
            case c2 => first | (simp [Value.oneCell']; done) | (intro u hu; simp at hu; subst hu; rfl)
            case c3 => unfold maxLen; omega
            case c4 => omega
            case c5 => first | (have hq := hB.size; simp only [World.size_alloc]; omega) | omega
            intro v' w5 hown' hgrow _
            rw [show ((units - c) : Int) = partV ts units k by have := PE; omega, SN.out] at hown'
            have HO' := Lib.hid hown'
            have hrow : ∀ j, u7.ownBlock = some j → w.heap.size + 1 ≤ j := fun j hj => (World.ownsRow.lt HO.out j hj).1
            have P' := (P.alloc (.cells #[Value.int .i64 (units - c)] 3)).grown hgrow (fun h => by have := hrow _ h.symm; omega)
            have hB' := (below_box hB (.cells #[Value.int .i64 (units - c)] 3)).trans (grown_below hgrow (fun j hj => by have := hrow j hj; omega) (by simp; omega))
            clear hown' hgrow HO P hB
            clear cP_0 cP_1 cP_2 cP_3 lP q0
            go_wp2
            go_roundw
            case rel => exact ⟨k + 1, by go_num, by rw [HC'.out], by omega, P', HO'.out, hB'⟩
            case measure => simp [intOf]; omega
          · obtain rfl : units = c := by omega
            have hlP := P.lt
            go_wp2_with (at_builtin; go_loud (refine wpList_append_own _ rfl (.tmp 45) (.tmp 50) 31 rfl (w.heap.size + 1) 3 i0 (.int .i64 0) 1 8 Try.underlying31 HI.out hz0 hz1 hz2 rfl (by decide) _ _ _ rfl (HO.out.alloc _) ⟨wr.heap.size, 0, none⟩ 1 1 [.int .i64 0] rfl rfl (own_cell wr _) ?c2 ?c3 ?c4 ?c5 ?_))
            case c2 => first | (simp [Value.oneCell']; done) | (intro u hu; simp at hu; subst hu; rfl)
            case c3 => unfold maxLen; omega
            case c4 => omega
            case c5 => first | (have hq := hB.size; simp only [World.size_alloc]; omega) | omega
            intro v' w5 hown' hgrow _
            rw [show (0 : Int) = partV ts units k by have := PE; omega, SN.out] at hown'
            have HO' := Lib.hid hown'
            have hrow : ∀ j, u7.ownBlock = some j → w.heap.size + 1 ≤ j := fun j hj => (World.ownsRow.lt HO.out j hj).1
            have P' := (P.alloc (.cells #[Value.int .i64 0] 3)).grown hgrow (fun h => by have := hrow _ h.symm; omega)
            have hB' := (below_box hB (.cells #[Value.int .i64 0] 3)).trans (grown_below hgrow (fun j hj => by have := hrow j hj; omega) (by simp; omega))
            clear hown' hgrow HO P hB
            clear cP_0 cP_1 cP_2 cP_3 lP q0
            go_wp2
            go_roundw
            case rel => exact ⟨k + 1, by go_num, by rw [HC'.out], by omega, P', HO'.out, hB'⟩
            case measure => simp [intOf]; omega
    · obtain rfl : k = n := by omega
      have cP_0 := P.cell 0 _ rfl
      have cP_1 := P.cell 1 _ rfl
      have cP_2 := P.cell 2 _ rfl
      have cP_3 := P.cell 3 _ rfl
      have lP := P.lt
      go_wp2
      go_ret2
      exact ⟨_, rfl, by rw [partL_len]; exact ownsRow_base HO.out (by omega), hB⟩

end Go.Proofs.Ytdmffbbobagloaa
