/- The methods on a disk with blocks beside it; texts; the examples (awake). -/
import Derived.Test.YtjcojgblnbhejaaWG
namespace Go.Proofs.Ytjcojgblnbhejaa
open Go.ChangeShapes Go.WideShapes Go.ChangeAt Go.RowKit

section
variable {w0 w : World} {g lg : Nat} {s s' : DS} {X : List Aside} {er : Int}
theorem lg_append (t : List UInt8) (h : AtX w0 w g s X) (hm : lgX lg g ∈ X) (hf : Fit s) (hv : appendV s t = (er, s')) : Calls Try.prog 12 #[.pointer (some ⟨lg, 0, none⟩), .string (bs t)] w fun e w' => e = .returned (.int .i64 er) ∧ AtX w0 w' g s' X :=
  atx_left h fun F d => by
    have := append_any w lg g F s (bs t) (h.box _ hm) d hf
    rwa [bs_back, hv] at this
theorem lg_sync (h : AtX w0 w g s X) (hm : lgX lg g ∈ X) (hf : Fit s) (hv : syncV s = (er, s')) : Calls Try.prog 17 #[.pointer (some ⟨lg, 0, none⟩)] w fun e w' => e = .returned (.int .i64 er) ∧ AtX w0 w' g s' X :=
  atx_left h fun F d => by
    have := wsync_any w lg g F s (h.box _ hm) d hf
    rwa [hv] at this
theorem lg_compact (t : List UInt8) (h : AtX w0 w g s X) (hm : lgX lg g ∈ X) (hf : Fit s) (hv : compactV s t = (er, s')) : Calls Try.prog 15 #[.pointer (some ⟨lg, 0, none⟩), .string (bs t)] w fun e w' => e = .returned (.int .i64 er) ∧ AtX w0 w' g s' X :=
  atx_left h fun F d => by
    have := compact_any w lg g F s (bs t) (h.box _ hm) d hf
    rwa [bs_back, hv] at this
theorem lg_records (h : AtX w0 w g s X) (hm : lgX lg g ∈ X) (hf : Fit s) (hz : 1 ≤ s.sz) : Calls Try.prog 14 #[.pointer (some ⟨lg, 0, none⟩)] w fun e w' => ∃ v Y, e = .returned v ∧ AtX w0 w' g s (Y ++ X) ∧ Held Y v (recs s) := by
  obtain ⟨F, d, _⟩ := h.disk
  exact (records_any w lg g F s (h.box _ hm) d hf hz).mono fun e w' ⟨⟨v, h1, h2⟩, hb⟩ => by
    obtain ⟨Y, k1, k2⟩ := h.held hb h2
    exact ⟨v, Y, h1, k1, k2⟩
theorem AtX.strs {Y : List Aside} {v : Value} {l : List (List UInt8)} (h : AtX w0 w g s X) (k : Held Y v l) (hs : ∀ x ∈ Y, x ∈ X) : Strs w v l := k w fun x hx => h.box x (hs x hx)
theorem lg_durable (h : AtX w0 w g s X) (hm : lgX lg g ∈ X) (hf : Fit s) (hz : 1 ≤ s.sz) : Calls Try.prog 16 #[.pointer (some ⟨lg, 0, none⟩)] w fun e w' => e = .returned (.int .i64 (durs s).length) ∧ AtX w0 w' g s X ∧ Below w.heap.size w w' := by
  obtain ⟨F, d, _⟩ := h.disk
  exact (durable_any w lg g F s (h.box _ hm) d hf hz).mono fun e w' ⟨h1, hb⟩ => ⟨h1, h.up hb, hb⟩
theorem dk_write (t : List UInt8) (h : AtX w0 w g s X) (hf : Fit s) (hv : writeV s t = (er, s')) : Calls Try.prog 23 #[.pointer (some ⟨g, 0, none⟩), .string (bs t)] w fun e w' => e = .returned (.int .i64 er) ∧ AtX w0 w' g s' X :=
  atx_left h fun F d => by
    have := write_any w g F (bs t) s d hf
    rwa [bs_back, hv] at this
theorem dk_sync (h : AtX w0 w g s X) (hf : Fit s) (hv : syncV s = (er, s')) : Calls Try.prog 24 #[.pointer (some ⟨g, 0, none⟩)] w fun e w' => e = .returned (.int .i64 er) ∧ AtX w0 w' g s' X :=
  atx_left h fun F d => by have := sync_any w g F s d hf; rwa [hv] at this
theorem dk_crash (k : Int) (h : AtX w0 w g s X) (hf : Fit s) (hv : crashV s k = (er, s')) : Calls Try.prog 21 #[.pointer (some ⟨g, 0, none⟩), .int .i64 k] w fun e w' => e = .returned (.int .i64 er) ∧ AtX w0 w' g s' X :=
  atx_left h fun F d => by have := crash_any w g F k s d hf; rwa [hv] at this
theorem dk_restart (h : AtX w0 w g s X) (hv : restartV s = (er, s')) : Calls Try.prog 22 #[.pointer (some ⟨g, 0, none⟩)] w fun e w' => e = .returned (.int .i64 er) ∧ AtX w0 w' g s' X :=
  atx_left h fun F d => by have := restart_any w g F s d; rwa [hv] at this
theorem dk_contents (h : AtX w0 w g s X) (hf : Fit s) : Calls Try.prog 25 #[.pointer (some ⟨g, 0, none⟩)] w fun e w' => e = .returned (.string (bs (contV s))) ∧ AtX w0 w' g s X ∧ Below w.heap.size w w' := by
  obtain ⟨F, d, _⟩ := h.disk
  exact (Contents_any w g F s d hf).mono fun e w' ⟨h1, hb⟩ => ⟨h1, h.up hb, hb⟩
end
theorem dk_new {w0 w : World} (sz : Int) (hb : Below w0.heap.size w0 w) (h1 : 1 ≤ sz) (h2 : sz ≤ 262144) : Calls Try.prog 9 #[.int .i64 sz] w fun e w' => ∃ g, e = .returned (.tuple #[.pointer (some ⟨g, 0, none⟩), .int .i64 0]) ∧ AtX w0 w' g ⟨sz, [], [], false, [], false⟩ [] :=
  (newDisk_yes sz w h1 h2).mono fun e w' ⟨he, hw⟩ => by
    subst hw
    exact ⟨_, he, ⟨_, DiskAt.new w sz, fun b hb' => by (simp only [List.mem_singleton] at hb'; subst hb'; exact hb.size), (fun x hx => by cases hx)⟩, below_box hb _, (fun x hx => by cases hx), (fun x hx => by cases hx), List.nodup_nil⟩
theorem strs_new2 (w : World) (a b : List UInt8) : Strs (w.alloc (.cells #[.string (bs a), .string (bs b)] 9)) (.slice (some ⟨w.heap.size, 0, none⟩) 2 2) [a, b] := by
  refine ⟨_, 2, rfl, fun k hk => ⟨w.heap.size, 0, rfl, (by simp), ?_⟩, (fun h => by cases h), Nat.le_refl _⟩
  have hb := Box.new w 9 #[.string (bs a), .string (bs b)]
  match k, hk with
  | 0, _ => exact hb.cell 0 _ rfl
  | 1, _ => exact hb.cell 1 _ rfl
theorem strs_new1 (w : World) (a : List UInt8) : Strs (w.alloc (.cells #[.string (bs a)] 9)) (.slice (some ⟨w.heap.size, 0, none⟩) 1 1) [a] := by
  refine ⟨_, 1, rfl, fun k hk => ⟨w.heap.size, 0, rfl, (by simp), ?_⟩, (fun h => by cases h), Nat.le_refl _⟩
  have hb := Box.new w 9 #[.string (bs a)]
  match k, hk with
  | 0, _ => exact hb.cell 0 _ rfl
theorem strs_new3 (w : World) (a b c : List UInt8) : Strs (w.alloc (.cells #[.string (bs a), .string (bs b), .string (bs c)] 9)) (.slice (some ⟨w.heap.size, 0, none⟩) 3 3) [a, b, c] := by
  refine ⟨_, 3, rfl, fun k hk => ⟨w.heap.size, 0, rfl, (by simp), ?_⟩, (fun h => by cases h), Nat.le_refl _⟩
  have hb := Box.new w 9 #[.string (bs a), .string (bs b), .string (bs c)]
  match k, hk with
  | 0, _ => exact hb.cell 0 _ rfl
  | 1, _ => exact hb.cell 1 _ rfl
  | 2, _ => exact hb.cell 2 _ rfl
/-- The records of an example: after three appends, a sync between them, a crash of three bytes. -/
theorem ex_last : (splitV (joinL [[97], [98]] ++ (joinL [[99]]).take 3)).1 = [[97], [98]] := by
  rw [split_app _ _ (by decide), split_torn [[99]] 3 (by decide)]
  rfl
set_option maxRecDepth 100000 in
set_option maxHeartbeats 4000000 in
theorem awake_any (w : World) : Calls Try.prog 11 #[] w fun e w' => e = .returned (.bool true) ∧ Below w.heap.size w w' := by
  obtain ⟨s1, e1, H1, z1⟩ := (Holds.made 1000 (by decide) (by decide)).append [97] (by decide) (by decide)
  obtain ⟨s2, e2, H2, z2⟩ := H1.append [98] (by decide) (by rw [z1]; decide)
  obtain ⟨s3, e3, H3, z3⟩ := H2.sync
  obtain ⟨s4, e4, H4, z4⟩ := H3.append [99] (by decide) (by rw [z3, z2, z1]; decide)
  simp only [List.nil_append, List.cons_append] at H1 H2 H3 H4
  have e5 := H4.crash 3 (by decide)
  have e6 := restart_yes s4.sz (joinL [[97], [98]] ++ (joinL [[99]]).take (3 : Int).toNat) (by rw [z4, z3, z2, z1]; decide)
  have f5 := crash_fit H4.fit e5
  have f6 := restart_fit f5.1 e6
  have z6 : 1 ≤ (⟨s4.sz, joinL [[97], [98]] ++ (joinL [[99]]).take (3 : Int).toNat, [], false, [], false⟩ : DS).sz := H4.sz
  have r6 := recs_opened _ f6.1 z6 rfl
  have c6 : cont ⟨s4.sz, joinL [[97], [98]] ++ (joinL [[99]]).take (3 : Int).toNat, [], false, [], false⟩ = joinL [[97], [98]] ++ (joinL [[99]]).take 3 := by
    unfold cont
    simp
  rw [c6, ex_last] at r6
  have f7 := opened_fit _ f6.1 rfl
  have hz7 : 1 ≤ (opened ⟨s4.sz, joinL [[97], [98]] ++ (joinL [[99]]).take (3 : Int).toNat, [], false, [], false⟩).sz := by rw [f7.2.1]; exact z6
  have HA := Lib.hid (And.intro H1 (And.intro e1 (And.intro H2 (And.intro e2 (And.intro H3 (And.intro e3 (And.intro H4 e4)))))))
  have d6 : (⟨s4.sz, joinL [[97], [98]] ++ (joinL [[99]]).take (3 : Int).toNat, [], false, [], false⟩ : DS).down = false := rfl
  have HE := Lib.hid (And.intro e5 (And.intro f5.1 (And.intro e6 (And.intro f6.1 (And.intro z6 d6)))))
  have HR := Lib.hid (And.intro r6 (And.intro f7.1 hz7))
  clear d6 e1 H1 z1 e2 H2 z2 e3 H3 z3 e4 H4 z4 e5 e6 f5 f6 z6 r6 c6 f7 hz7
  generalize (⟨s4.sz, joinL [[97], [98]] ++ (joinL [[99]]).take (3 : Int).toNat, [], false, [], true⟩ : DS) = s5 at *
  generalize (⟨s4.sz, joinL [[97], [98]] ++ (joinL [[99]]).take (3 : Int).toNat, [], false, [], false⟩ : DS) = s6 at *
  have H0 := Lib.hid (Holds.made 1000 (by decide) (by decide))
  go_enter Try.func11, Try.ntmps11
  go_wp2_with fail
  refine (dk_new (w0 := w) 1000 (Below.refl _ _) (by decide) (by decide)).mono ?_
  rintro _ w1 ⟨g, rfl, h1⟩
  go_wp2_with fail
  refine (atx_open h1 H0.out.fit H0.out.sz H0.out.down).mono ?_
  clear h1
  rintro _ w2 ⟨lg, rfl, h2⟩
  rw [H0.out.opened] at h2
  have hm : lgX lg g ∈ [lgX lg g] := List.mem_singleton.2 rfl
  have HM := Lib.hid hm
  clear hm
  go_wp2_with fail
  refine (lg_append [97] h2 HM.out H0.out.fit HA.out.2.1).mono ?_
  clear h2
  rintro _ w3 ⟨rfl, h3⟩
  go_wp2_with fail
  refine (lg_append [98] h3 HM.out HA.out.1.fit HA.out.2.2.2.1).mono ?_
  clear h3
  rintro _ w4 ⟨rfl, h4⟩
  go_wp2_with fail
  refine (lg_sync h4 HM.out HA.out.2.2.1.fit HA.out.2.2.2.2.2.1).mono ?_
  clear h4
  rintro _ w5 ⟨rfl, h5⟩
  go_wp2_with fail
  refine (lg_append [99] h5 HM.out HA.out.2.2.2.2.1.fit HA.out.2.2.2.2.2.2.2).mono ?_
  clear h5
  rintro _ w6 ⟨rfl, h6⟩
  go_wp2_with fail
  refine (lg_records h6 HM.out HA.out.2.2.2.2.2.2.1.fit HA.out.2.2.2.2.2.2.1.sz).mono ?_
  clear h6
  rintro _ w7 ⟨v7, Y, rfl, h7, hs7⟩
  rw [HA.out.2.2.2.2.2.2.1.recs] at hs7
  have HM2 := Lib.hid (show lgX lg g ∈ Y ++ [lgX lg g] from List.mem_append_right _ HM.out)
  go_wp2_with fail
  refine (lg_durable h7 HM2.out HA.out.2.2.2.2.2.2.1.fit HA.out.2.2.2.2.2.2.1.sz).mono ?_
  clear h7
  rintro _ w8 ⟨rfl, h8, _⟩
  rw [HA.out.2.2.2.2.2.2.1.durs]
  go_wp2_with fail
  refine (dk_crash 3 h8 HA.out.2.2.2.2.2.2.1.fit HE.out.1).mono ?_
  clear h8
  rintro _ w9 ⟨rfl, h9⟩
  go_wp2_with fail
  refine (dk_restart h9 HE.out.2.2.1).mono ?_
  clear h9
  rintro _ w10 ⟨rfl, h10⟩
  go_wp2_with fail
  refine (atx_open h10 HE.out.2.2.2.1 HE.out.2.2.2.2.1 HE.out.2.2.2.2.2).mono ?_
  clear h10
  rintro _ w11 ⟨lg2, rfl, h11⟩
  have HM3 := Lib.hid (show lgX lg2 g ∈ lgX lg2 g :: (Y ++ [lgX lg g]) from List.mem_cons_self)
  have hst := h11.strs hs7 (fun x hx => List.mem_cons_of_mem _ (List.mem_append_left _ hx))
  go_wp2_with fail
  have hb12 := below_box (Below.refl w11.heap.size w11) (.cells #[.string (bs [97]), .string (bs [98]), .string (bs [99])] 9)
  refine (same_any _ _ _ [[97], [98], [99]] _ (hst.up hb12) (strs_new3 w11 [97] [98] [99]) (by decide)).mono ?_
  rintro _ w13 ⟨rfl, hb13⟩
  have h13 := (h11.up hb12).up hb13
  clear h11 hst hb12 hb13
  rw [show decide ([[97], [98]] ++ [[99]] = [[97], [98], ([99] : List UInt8)]) = true by decide]
  go_wp2_with fail
  refine (lg_records h13 HM3.out HR.out.2.1 HR.out.2.2).mono ?_
  clear h13
  rintro _ w14 ⟨v14, Y2, rfl, h14, hs14⟩
  rw [HR.out.1] at hs14
  have hst := h14.strs hs14 (fun x hx => List.mem_append_left _ hx)
  go_wp2_with fail
  have hb15 := below_box (Below.refl w14.heap.size w14) (.cells #[.string (bs [97]), .string (bs [98])] 9)
  refine (same_any _ _ _ [[97], [98]] _ (hst.up hb15) (strs_new2 w14 [97] [98]) (by decide)).mono ?_
  rintro _ w16 ⟨rfl, hb16⟩
  have h16 := ((h14.up hb15).up hb16).below
  clear h14 hst hb15 hb16 hs14 hs7
  rw [show decide (([[97], [98]] : List (List UInt8)) = [[97], [98]]) = true by decide]
  go_wp2
  go_ret
  exact ⟨rfl, h16⟩
end Go.Proofs.Ytjcojgblnbhejaa
