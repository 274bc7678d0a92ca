/- Contracts of layer 37 (instance): the table of actions, Legal, Check, New, Idle; and those of its reference. -/
import Derived.Test.YtfcihloebncmdaaDoorA
namespace Go.Proofs.YtfcihloebncmdaaDoor
open Go.ChangeShapes Go.WideShapes Go.ChangeAt Go.RowKit

theorem ret_int {k : IntKind} {a b : Int} (h : a = b) : Ending.returned (.int k a) = .returned (.int k b) := by rw [h]

/-- The table of the program, row by row. -/
def legT : List Int := [0, 0, 0, 0, 0, 0, 0, 0, 0, 2, 0, 0, 0, 0, 0, 5, 0, 0, 3, 0, 4, 0, 5, 5, 0, 0, 0, 2, 0, 0, 0, 5, 0, 0, 0, 0, 0, 2, 5, 5, 0, 0, 0, 0, 0, 0, 0, 0]
/-- The variable 'legal' holds its table. -/
def Tab (w : World) : Prop := 0 < w.heap.size ∧ ∀ i, i < 48 → w.cell? ⟨0, i, none⟩ = some (.int .i64 (legT.getD i 0))
theorem Tab.next {w w' : World} (h : Tab w) (hb : Below w.heap.size w w') : Tab w' :=
  ⟨Nat.lt_of_lt_of_le h.1 hb.size, fun i hi => (hb.cell (p := ⟨0, i, none⟩) h.1).trans (h.2 i hi)⟩
def nxt (s a : Int) : Int := if a = 1 ∧ s = 1 ∨ a = 3 ∧ s = 3 ∨ a = 5 ∧ s = 4 then 2 else if a = 2 ∧ s = 2 then 3 else if a = 4 ∧ s = 2 then 4 else if a = 6 ∧ (s = 2 ∨ s = 4) ∨ a = 7 ∧ 1 ≤ s ∧ s ≤ 4 then 5 else 0
theorem nxt_tab : ∀ s : Fin 6, ∀ a : Fin 8, legT.getD (s.val * 8 + a.val) 0 = nxt (s.val : Int) (a.val : Int) := by decide
theorem nxt_out (s a : Int) (h : s < 0 ∨ 5 < s ∨ a < 0 ∨ 7 < a) : nxt s a = 0 := by
  unfold nxt
  rw [if_neg (by omega), if_neg (by omega), if_neg (by omega), if_neg (by omega)]
theorem nxt_bd (s a : Int) : 0 ≤ nxt s a ∧ nxt s a ≤ 5 := by
  unfold nxt
  repeat' split
  all_goals omega

set_option maxHeartbeats 400000 in
theorem after_in (s a : Nat) (v : Int) (w : World) (hs : s < 6) (ha : a < 8) (hc : w.cell? ⟨0, s * 8 + a, none⟩ = some (.int .i64 v)) :
    Calls Tryd.prog 25 #[.int .i64 (s : Int), .int .i64 (a : Int)] w fun e w' => e = .returned (.int .i64 v) ∧ w = w' := by
  go_enter Tryd.func25, Tryd.ntmps25
  go_wp2
  go_ret
  exact ⟨rfl, rfl⟩
set_option maxHeartbeats 400000 in
theorem after_out (s a : Int) (w : World) (h : s < 0 ∨ (0 ≤ s ∧ 5 < s) ∨ (0 ≤ s ∧ s ≤ 5 ∧ a < 0) ∨ (0 ≤ s ∧ s ≤ 5 ∧ 0 ≤ a ∧ 7 < a)) :
    Calls Tryd.prog 25 #[.int .i64 s, .int .i64 a] w fun e w' => e = .returned (.int .i64 0) ∧ w = w' := by
  rcases h with h | ⟨h1, h2⟩ | ⟨h1, h2, h3⟩ | ⟨h1, h2, h3, h4⟩
  all_goals
    go_enter Tryd.func25, Tryd.ntmps25
    go_wp2
    go_ret
    exact ⟨rfl, rfl⟩
theorem after_any (s a : Int) (w : World) (hT : Tab w) : Calls Tryd.prog 25 #[.int .i64 s, .int .i64 a] w fun e w' => e = .returned (.int .i64 (nxt s a)) ∧ w = w' := by
  by_cases h : s < 0 ∨ 5 < s ∨ a < 0 ∨ 7 < a
  · rw [nxt_out s a h]
    exact after_out s a w (by omega)
  · obtain ⟨n, rfl⟩ := Int.eq_ofNat_of_zero_le (show 0 ≤ s by omega)
    obtain ⟨m, rfl⟩ := Int.eq_ofNat_of_zero_le (show 0 ≤ a by omega)
    have e := nxt_tab ⟨n, by omega⟩ ⟨m, by omega⟩
    simp only at e
    rw [← e]
    exact after_in n m _ w (by omega) (by omega) (hT.2 _ (by omega))

theorem nx_a (a : Int) : a = 1 ∨ a = 2 ∨ a = 3 ∨ a = 4 ∨ a = 5 ∨ a = 6 ∨ a = 7 ∨ (a < 1 ∨ 7 < a) := by omega
theorem nx_s (s : Int) : s = 1 ∨ s = 2 ∨ s = 3 ∨ s = 4 ∨ s < 1 ∨ 4 < s := by omega
set_option maxHeartbeats 400000 in
theorem next_1 (s : Int) (w : World) : Calls Tryd.prog 26 #[.int .i64 s, .int .i64 1] w fun e w' => e = .returned (.int .i64 (nxt s 1)) ∧ w = w' := by
  have e1 : s < 1 ∨ 4 < s → (s == 1) = false ∧ (s == 2) = false ∧ (s == 3) = false ∧ (s == 4) = false := fun h => ⟨by simp; omega, by simp; omega, by simp; omega, by simp; omega⟩
  rcases nx_s s with rfl | rfl | rfl | rfl | h | h
  · clear e1
    go_enter Tryd.func26, Tryd.ntmps26
    go_wp2
    go_ret
    exact ⟨ret_int (by first | decide | (unfold nxt; simp; done) | (unfold nxt; simp; omega)), rfl⟩
  · clear e1
    go_enter Tryd.func26, Tryd.ntmps26
    go_wp2
    go_ret
    exact ⟨ret_int (by first | decide | (unfold nxt; simp; done) | (unfold nxt; simp; omega)), rfl⟩
  · clear e1
    go_enter Tryd.func26, Tryd.ntmps26
    go_wp2
    go_ret
    exact ⟨ret_int (by first | decide | (unfold nxt; simp; done) | (unfold nxt; simp; omega)), rfl⟩
  · clear e1
    go_enter Tryd.func26, Tryd.ntmps26
    go_wp2
    go_ret
    exact ⟨ret_int (by first | decide | (unfold nxt; simp; done) | (unfold nxt; simp; omega)), rfl⟩
  all_goals
    obtain ⟨e1, e2, e3, e4⟩ := e1 (by omega)
    go_enter Tryd.func26, Tryd.ntmps26
    go_wp2
    go_ret
    exact ⟨ret_int (by first | decide | (unfold nxt; simp; done) | (unfold nxt; simp; omega)), rfl⟩
set_option maxHeartbeats 400000 in
theorem next_2 (s : Int) (w : World) : Calls Tryd.prog 26 #[.int .i64 s, .int .i64 2] w fun e w' => e = .returned (.int .i64 (nxt s 2)) ∧ w = w' := by
  have e1 : s < 1 ∨ 4 < s → (s == 1) = false ∧ (s == 2) = false ∧ (s == 3) = false ∧ (s == 4) = false := fun h => ⟨by simp; omega, by simp; omega, by simp; omega, by simp; omega⟩
  rcases nx_s s with rfl | rfl | rfl | rfl | h | h
  · clear e1
    go_enter Tryd.func26, Tryd.ntmps26
    go_wp2
    go_ret
    exact ⟨ret_int (by first | decide | (unfold nxt; simp; done) | (unfold nxt; simp; omega)), rfl⟩
  · clear e1
    go_enter Tryd.func26, Tryd.ntmps26
    go_wp2
    go_ret
    exact ⟨ret_int (by first | decide | (unfold nxt; simp; done) | (unfold nxt; simp; omega)), rfl⟩
  · clear e1
    go_enter Tryd.func26, Tryd.ntmps26
    go_wp2
    go_ret
    exact ⟨ret_int (by first | decide | (unfold nxt; simp; done) | (unfold nxt; simp; omega)), rfl⟩
  · clear e1
    go_enter Tryd.func26, Tryd.ntmps26
    go_wp2
    go_ret
    exact ⟨ret_int (by first | decide | (unfold nxt; simp; done) | (unfold nxt; simp; omega)), rfl⟩
  all_goals
    obtain ⟨e1, e2, e3, e4⟩ := e1 (by omega)
    go_enter Tryd.func26, Tryd.ntmps26
    go_wp2
    go_ret
    exact ⟨ret_int (by first | decide | (unfold nxt; simp; done) | (unfold nxt; simp; omega)), rfl⟩
set_option maxHeartbeats 400000 in
theorem next_3 (s : Int) (w : World) : Calls Tryd.prog 26 #[.int .i64 s, .int .i64 3] w fun e w' => e = .returned (.int .i64 (nxt s 3)) ∧ w = w' := by
  have e1 : s < 1 ∨ 4 < s → (s == 1) = false ∧ (s == 2) = false ∧ (s == 3) = false ∧ (s == 4) = false := fun h => ⟨by simp; omega, by simp; omega, by simp; omega, by simp; omega⟩
  rcases nx_s s with rfl | rfl | rfl | rfl | h | h
  · clear e1
    go_enter Tryd.func26, Tryd.ntmps26
    go_wp2
    go_ret
    exact ⟨ret_int (by first | decide | (unfold nxt; simp; done) | (unfold nxt; simp; omega)), rfl⟩
  · clear e1
    go_enter Tryd.func26, Tryd.ntmps26
    go_wp2
    go_ret
    exact ⟨ret_int (by first | decide | (unfold nxt; simp; done) | (unfold nxt; simp; omega)), rfl⟩
  · clear e1
    go_enter Tryd.func26, Tryd.ntmps26
    go_wp2
    go_ret
    exact ⟨ret_int (by first | decide | (unfold nxt; simp; done) | (unfold nxt; simp; omega)), rfl⟩
  · clear e1
    go_enter Tryd.func26, Tryd.ntmps26
    go_wp2
    go_ret
    exact ⟨ret_int (by first | decide | (unfold nxt; simp; done) | (unfold nxt; simp; omega)), rfl⟩
  all_goals
    obtain ⟨e1, e2, e3, e4⟩ := e1 (by omega)
    go_enter Tryd.func26, Tryd.ntmps26
    go_wp2
    go_ret
    exact ⟨ret_int (by first | decide | (unfold nxt; simp; done) | (unfold nxt; simp; omega)), rfl⟩
set_option maxHeartbeats 400000 in
theorem next_4 (s : Int) (w : World) : Calls Tryd.prog 26 #[.int .i64 s, .int .i64 4] w fun e w' => e = .returned (.int .i64 (nxt s 4)) ∧ w = w' := by
  have e1 : s < 1 ∨ 4 < s → (s == 1) = false ∧ (s == 2) = false ∧ (s == 3) = false ∧ (s == 4) = false := fun h => ⟨by simp; omega, by simp; omega, by simp; omega, by simp; omega⟩
  rcases nx_s s with rfl | rfl | rfl | rfl | h | h
  · clear e1
    go_enter Tryd.func26, Tryd.ntmps26
    go_wp2
    go_ret
    exact ⟨ret_int (by first | decide | (unfold nxt; simp; done) | (unfold nxt; simp; omega)), rfl⟩
  · clear e1
    go_enter Tryd.func26, Tryd.ntmps26
    go_wp2
    go_ret
    exact ⟨ret_int (by first | decide | (unfold nxt; simp; done) | (unfold nxt; simp; omega)), rfl⟩
  · clear e1
    go_enter Tryd.func26, Tryd.ntmps26
    go_wp2
    go_ret
    exact ⟨ret_int (by first | decide | (unfold nxt; simp; done) | (unfold nxt; simp; omega)), rfl⟩
  · clear e1
    go_enter Tryd.func26, Tryd.ntmps26
    go_wp2
    go_ret
    exact ⟨ret_int (by first | decide | (unfold nxt; simp; done) | (unfold nxt; simp; omega)), rfl⟩
  all_goals
    obtain ⟨e1, e2, e3, e4⟩ := e1 (by omega)
    go_enter Tryd.func26, Tryd.ntmps26
    go_wp2
    go_ret
    exact ⟨ret_int (by first | decide | (unfold nxt; simp; done) | (unfold nxt; simp; omega)), rfl⟩
set_option maxHeartbeats 400000 in
theorem next_5 (s : Int) (w : World) : Calls Tryd.prog 26 #[.int .i64 s, .int .i64 5] w fun e w' => e = .returned (.int .i64 (nxt s 5)) ∧ w = w' := by
  have e1 : s < 1 ∨ 4 < s → (s == 1) = false ∧ (s == 2) = false ∧ (s == 3) = false ∧ (s == 4) = false := fun h => ⟨by simp; omega, by simp; omega, by simp; omega, by simp; omega⟩
  rcases nx_s s with rfl | rfl | rfl | rfl | h | h
  · clear e1
    go_enter Tryd.func26, Tryd.ntmps26
    go_wp2
    go_ret
    exact ⟨ret_int (by first | decide | (unfold nxt; simp; done) | (unfold nxt; simp; omega)), rfl⟩
  · clear e1
    go_enter Tryd.func26, Tryd.ntmps26
    go_wp2
    go_ret
    exact ⟨ret_int (by first | decide | (unfold nxt; simp; done) | (unfold nxt; simp; omega)), rfl⟩
  · clear e1
    go_enter Tryd.func26, Tryd.ntmps26
    go_wp2
    go_ret
    exact ⟨ret_int (by first | decide | (unfold nxt; simp; done) | (unfold nxt; simp; omega)), rfl⟩
  · clear e1
    go_enter Tryd.func26, Tryd.ntmps26
    go_wp2
    go_ret
    exact ⟨ret_int (by first | decide | (unfold nxt; simp; done) | (unfold nxt; simp; omega)), rfl⟩
  all_goals
    obtain ⟨e1, e2, e3, e4⟩ := e1 (by omega)
    go_enter Tryd.func26, Tryd.ntmps26
    go_wp2
    go_ret
    exact ⟨ret_int (by first | decide | (unfold nxt; simp; done) | (unfold nxt; simp; omega)), rfl⟩
set_option maxHeartbeats 400000 in
theorem next_6 (s : Int) (w : World) : Calls Tryd.prog 26 #[.int .i64 s, .int .i64 6] w fun e w' => e = .returned (.int .i64 (nxt s 6)) ∧ w = w' := by
  have e1 : s < 1 ∨ 4 < s → (s == 1) = false ∧ (s == 2) = false ∧ (s == 3) = false ∧ (s == 4) = false := fun h => ⟨by simp; omega, by simp; omega, by simp; omega, by simp; omega⟩
  rcases nx_s s with rfl | rfl | rfl | rfl | h | h
  · clear e1
    go_enter Tryd.func26, Tryd.ntmps26
    go_wp2
    go_ret
    exact ⟨ret_int (by first | decide | (unfold nxt; simp; done) | (unfold nxt; simp; omega)), rfl⟩
  · clear e1
    go_enter Tryd.func26, Tryd.ntmps26
    go_wp2
    go_ret
    exact ⟨ret_int (by first | decide | (unfold nxt; simp; done) | (unfold nxt; simp; omega)), rfl⟩
  · clear e1
    go_enter Tryd.func26, Tryd.ntmps26
    go_wp2
    go_ret
    exact ⟨ret_int (by first | decide | (unfold nxt; simp; done) | (unfold nxt; simp; omega)), rfl⟩
  · clear e1
    go_enter Tryd.func26, Tryd.ntmps26
    go_wp2
    go_ret
    exact ⟨ret_int (by first | decide | (unfold nxt; simp; done) | (unfold nxt; simp; omega)), rfl⟩
  all_goals
    obtain ⟨e1, e2, e3, e4⟩ := e1 (by omega)
    go_enter Tryd.func26, Tryd.ntmps26
    go_wp2
    go_ret
    exact ⟨ret_int (by first | decide | (unfold nxt; simp; done) | (unfold nxt; simp; omega)), rfl⟩
set_option maxHeartbeats 400000 in
theorem next_7 (s : Int) (w : World) : Calls Tryd.prog 26 #[.int .i64 s, .int .i64 7] w fun e w' => e = .returned (.int .i64 (nxt s 7)) ∧ w = w' := by
  have e1 : s < 1 ∨ 4 < s → (s == 1) = false ∧ (s == 2) = false ∧ (s == 3) = false ∧ (s == 4) = false := fun h => ⟨by simp; omega, by simp; omega, by simp; omega, by simp; omega⟩
  rcases nx_s s with rfl | rfl | rfl | rfl | h | h
  · clear e1
    go_enter Tryd.func26, Tryd.ntmps26
    go_wp2
    go_ret
    exact ⟨ret_int (by first | decide | (unfold nxt; simp; done) | (unfold nxt; simp; omega)), rfl⟩
  · clear e1
    go_enter Tryd.func26, Tryd.ntmps26
    go_wp2
    go_ret
    exact ⟨ret_int (by first | decide | (unfold nxt; simp; done) | (unfold nxt; simp; omega)), rfl⟩
  · clear e1
    go_enter Tryd.func26, Tryd.ntmps26
    go_wp2
    go_ret
    exact ⟨ret_int (by first | decide | (unfold nxt; simp; done) | (unfold nxt; simp; omega)), rfl⟩
  · clear e1
    go_enter Tryd.func26, Tryd.ntmps26
    go_wp2
    go_ret
    exact ⟨ret_int (by first | decide | (unfold nxt; simp; done) | (unfold nxt; simp; omega)), rfl⟩
  all_goals
    obtain ⟨e1, e2, e3, e4⟩ := e1 (by omega)
    go_enter Tryd.func26, Tryd.ntmps26
    go_wp2
    go_ret
    exact ⟨ret_int (by first | decide | (unfold nxt; simp; done) | (unfold nxt; simp; omega)), rfl⟩
set_option maxHeartbeats 400000 in
theorem next_o (s a : Int) (w : World) (h : a < 1 ∨ 7 < a) : Calls Tryd.prog 26 #[.int .i64 s, .int .i64 a] w fun e w' => e = .returned (.int .i64 (nxt s a)) ∧ w = w' := by
  have hn : nxt s a = 0 := by
    unfold nxt
    rw [if_neg (by omega), if_neg (by omega), if_neg (by omega), if_neg (by omega)]
  rw [hn]
  clear hn
  rcases h with h | h
  all_goals
    go_enter Tryd.func26, Tryd.ntmps26
    go_wp2
    go_ret
    exact ⟨rfl, rfl⟩
theorem next_any (s a : Int) (w : World) : Calls Tryd.prog 26 #[.int .i64 s, .int .i64 a] w fun e w' => e = .returned (.int .i64 (nxt s a)) ∧ w = w' := by
  rcases nx_a a with rfl | rfl | rfl | rfl | rfl | rfl | rfl | h
  · exact next_1 s w
  · exact next_2 s w
  · exact next_3 s w
  · exact next_4 s w
  · exact next_5 s w
  · exact next_6 s w
  · exact next_7 s w
  · exact next_o s a w h

def legB (s a : Int) : Bool := nxt s a != 0
set_option maxHeartbeats 400000 in
theorem legal_any (s a : Int) (w : World) (hT : Tab w) : Calls Tryd.prog 17 #[.int .i64 s, .int .i64 a] w fun e w' => e = .returned (.bool (legB s a)) ∧ w = w' := by
  have H : Hid (Calls _ _ _ _ _) := after_any s a w hT
  unfold legB
  generalize nxt s a = v at *
  clear hT
  go_enter Tryd.func17, Tryd.ntmps17
  go_wp2_with (go_at_call 25; refine H.out.mono ?_; rintro _ w' ⟨rfl, rfl⟩)
  go_ret
  exact ⟨rfl, rfl⟩
set_option maxHeartbeats 400000 in
theorem rlegal_any (s a : Int) (w : World) : Calls Tryd.prog 18 #[.int .i64 s, .int .i64 a] w fun e w' => e = .returned (.bool (legB s a)) ∧ w = w' := by
  have H : Hid (Calls _ _ _ _ _) := next_any s a w
  unfold legB
  generalize nxt s a = v at *
  go_enter Tryd.func18, Tryd.ntmps18
  go_wp2_with (go_at_call 26; refine H.out.mono ?_; rintro _ w' ⟨rfl, rfl⟩)
  go_ret
  exact ⟨rfl, rfl⟩

/-- The error of an instance. -/
def chk (id : ByteArray) (st si us : Int) : Int := if idB id then (if st < 1 ∨ 5 < st ∨ timeB si = false ∨ us < 0 ∨ 1000000000 < us then 2 else 0) else 4
theorem chk_cases (st us : Int) (b : Bool) : (st < 1) ∨ (1 ≤ st ∧ 5 < st) ∨ (1 ≤ st ∧ st ≤ 5 ∧ b = false) ∨ (1 ≤ st ∧ st ≤ 5 ∧ b = true ∧ us < 0) ∨ (1 ≤ st ∧ st ≤ 5 ∧ b = true ∧ 0 ≤ us ∧ 1000000000 < us) ∨ (1 ≤ st ∧ st ≤ 5 ∧ b = true ∧ 0 ≤ us ∧ us ≤ 1000000000) := by
  cases b <;> simp <;> omega

set_option maxHeartbeats 1000000 in
theorem check_any (id : ByteArray) (st si us : Int) (w : World) (hs : id.size ≤ maxLen) : Calls Tryd.prog 13 #[.agg #[.string id, .int .i64 st, .int .i64 si, .int .i64 us]] w fun e w' => e = .returned (.int .i64 (chk id st si us)) ∧ Below w.heap.size w w' := by
  have HI : Hid (∀ W, _) := fun W => id_any id W hs
  have HT : Hid (∀ W, _) := fun W => time_any si W
  clear hs
  unfold chk
  generalize idB id = b0 at *
  generalize timeB si = b at *
  cases b0
  · rw [if_neg (by simp)]
    go_enter Tryd.func13, Tryd.ntmps13
    go_wp2_with fail
    refine (HI.out _).mono ?_
    rintro _ w1 ⟨rfl, hb⟩
    have B := (Box.new w 24 #[.string id, .int .i64 st, .int .i64 si, .int .i64 us]).next hb
    have hB := below_step ((Below.refl _ w).alloc (Nat.le_refl _) _) hb
    clear hb
    obtain ⟨p0, p1, p2, p3⟩ := B.cells4
    go_wp2
    go_ret
    exact ⟨rfl, hB⟩
  rw [if_pos rfl]
  rcases chk_cases st us b with h | ⟨h, h1⟩ | ⟨h, h1, rfl⟩ | ⟨h, h1, rfl, h2⟩ | ⟨h, h1, rfl, h2, h3⟩ | ⟨h, h1, rfl, h2, h3⟩
  · rw [if_pos (by omega)]
    go_enter Tryd.func13, Tryd.ntmps13
    go_wp2_with fail
    refine (HI.out _).mono ?_
    rintro _ w1 ⟨rfl, hb⟩
    have B := (Box.new w 24 #[.string id, .int .i64 st, .int .i64 si, .int .i64 us]).next hb
    have hB := below_step ((Below.refl _ w).alloc (Nat.le_refl _) _) hb
    clear hb
    obtain ⟨p0, p1, p2, p3⟩ := B.cells4
    go_wp2_with (go_at_call 22; refine (HT.out _).mono ?_; rintro _ w2 ⟨rfl, rfl⟩)
    go_ret
    exact ⟨rfl, hB⟩
  · rw [if_pos (by omega)]
    go_enter Tryd.func13, Tryd.ntmps13
    go_wp2_with fail
    refine (HI.out _).mono ?_
    rintro _ w1 ⟨rfl, hb⟩
    have B := (Box.new w 24 #[.string id, .int .i64 st, .int .i64 si, .int .i64 us]).next hb
    have hB := below_step ((Below.refl _ w).alloc (Nat.le_refl _) _) hb
    clear hb
    obtain ⟨p0, p1, p2, p3⟩ := B.cells4
    go_wp2_with (go_at_call 22; refine (HT.out _).mono ?_; rintro _ w2 ⟨rfl, rfl⟩)
    go_ret
    exact ⟨rfl, hB⟩
  · rw [if_pos (by simp)]
    go_enter Tryd.func13, Tryd.ntmps13
    go_wp2_with fail
    refine (HI.out _).mono ?_
    rintro _ w1 ⟨rfl, hb⟩
    have B := (Box.new w 24 #[.string id, .int .i64 st, .int .i64 si, .int .i64 us]).next hb
    have hB := below_step ((Below.refl _ w).alloc (Nat.le_refl _) _) hb
    clear hb
    obtain ⟨p0, p1, p2, p3⟩ := B.cells4
    go_wp2_with (go_at_call 22; refine (HT.out _).mono ?_; rintro _ w2 ⟨rfl, rfl⟩)
    go_ret
    exact ⟨rfl, hB⟩
  · rw [if_pos (by omega)]
    go_enter Tryd.func13, Tryd.ntmps13
    go_wp2_with fail
    refine (HI.out _).mono ?_
    rintro _ w1 ⟨rfl, hb⟩
    have B := (Box.new w 24 #[.string id, .int .i64 st, .int .i64 si, .int .i64 us]).next hb
    have hB := below_step ((Below.refl _ w).alloc (Nat.le_refl _) _) hb
    clear hb
    obtain ⟨p0, p1, p2, p3⟩ := B.cells4
    go_wp2_with (go_at_call 22; refine (HT.out _).mono ?_; rintro _ w2 ⟨rfl, rfl⟩)
    go_ret
    exact ⟨rfl, hB⟩
  · rw [if_pos (by omega)]
    go_enter Tryd.func13, Tryd.ntmps13
    go_wp2_with fail
    refine (HI.out _).mono ?_
    rintro _ w1 ⟨rfl, hb⟩
    have B := (Box.new w 24 #[.string id, .int .i64 st, .int .i64 si, .int .i64 us]).next hb
    have hB := below_step ((Below.refl _ w).alloc (Nat.le_refl _) _) hb
    clear hb
    obtain ⟨p0, p1, p2, p3⟩ := B.cells4
    go_wp2_with (go_at_call 22; refine (HT.out _).mono ?_; rintro _ w2 ⟨rfl, rfl⟩)
    go_ret
    exact ⟨rfl, hB⟩
  · rw [if_neg (by simp; omega)]
    go_enter Tryd.func13, Tryd.ntmps13
    go_wp2_with fail
    refine (HI.out _).mono ?_
    rintro _ w1 ⟨rfl, hb⟩
    have B := (Box.new w 24 #[.string id, .int .i64 st, .int .i64 si, .int .i64 us]).next hb
    have hB := below_step ((Below.refl _ w).alloc (Nat.le_refl _) _) hb
    clear hb
    obtain ⟨p0, p1, p2, p3⟩ := B.cells4
    go_wp2_with (go_at_call 22; refine (HT.out _).mono ?_; rintro _ w2 ⟨rfl, rfl⟩)
    go_ret
    exact ⟨rfl, hB⟩

set_option maxHeartbeats 1000000 in
theorem rcheck_any (id : ByteArray) (st si us : Int) (w : World) (hs : id.size ≤ maxLen) : Calls Tryd.prog 14 #[.agg #[.string id, .int .i64 st, .int .i64 si, .int .i64 us]] w fun e w' => e = .returned (.int .i64 (chk id st si us)) ∧ Below w.heap.size w w' := by
  have HI : Hid (∀ W, _) := fun W => rid_any id W hs
  have HT : Hid (∀ W, _) := fun W => span_any si W
  clear hs
  unfold chk
  generalize idB id = b0 at *
  generalize timeB si = b at *
  cases b0
  · rw [if_neg (by simp)]
    go_enter Tryd.func14, Tryd.ntmps14
    go_wp2_with fail
    refine (HI.out _).mono ?_
    rintro _ w1 ⟨rfl, rfl⟩
    go_wp2
    go_ret
    exact ⟨rfl, (Below.refl _ w).alloc (Nat.le_refl _) _⟩
  rw [if_pos rfl]
  rcases chk_cases st us b with h | ⟨h, h1⟩ | ⟨h, h1, rfl⟩ | ⟨h, h1, rfl, h2⟩ | ⟨h, h1, rfl, h2, h3⟩ | ⟨h, h1, rfl, h2, h3⟩
  · rw [if_pos (by omega)]
    go_enter Tryd.func14, Tryd.ntmps14
    go_wp2_with fail
    refine (HI.out _).mono ?_
    rintro _ w1 ⟨rfl, rfl⟩
    go_wp2_with (go_at_call 24; refine (HT.out _).mono ?_; rintro _ w2 ⟨rfl, rfl⟩)
    go_ret
    exact ⟨rfl, (Below.refl _ w).alloc (Nat.le_refl _) _⟩
  · rw [if_pos (by omega)]
    go_enter Tryd.func14, Tryd.ntmps14
    go_wp2_with fail
    refine (HI.out _).mono ?_
    rintro _ w1 ⟨rfl, rfl⟩
    go_wp2_with (go_at_call 24; refine (HT.out _).mono ?_; rintro _ w2 ⟨rfl, rfl⟩)
    go_ret
    exact ⟨rfl, (Below.refl _ w).alloc (Nat.le_refl _) _⟩
  · rw [if_pos (by simp)]
    go_enter Tryd.func14, Tryd.ntmps14
    go_wp2_with fail
    refine (HI.out _).mono ?_
    rintro _ w1 ⟨rfl, rfl⟩
    go_wp2_with (go_at_call 24; refine (HT.out _).mono ?_; rintro _ w2 ⟨rfl, rfl⟩)
    go_ret
    exact ⟨rfl, (Below.refl _ w).alloc (Nat.le_refl _) _⟩
  · rw [if_pos (by omega)]
    go_enter Tryd.func14, Tryd.ntmps14
    go_wp2_with fail
    refine (HI.out _).mono ?_
    rintro _ w1 ⟨rfl, rfl⟩
    go_wp2_with (go_at_call 24; refine (HT.out _).mono ?_; rintro _ w2 ⟨rfl, rfl⟩)
    go_ret
    exact ⟨rfl, (Below.refl _ w).alloc (Nat.le_refl _) _⟩
  · rw [if_pos (by omega)]
    go_enter Tryd.func14, Tryd.ntmps14
    go_wp2_with fail
    refine (HI.out _).mono ?_
    rintro _ w1 ⟨rfl, rfl⟩
    go_wp2_with (go_at_call 24; refine (HT.out _).mono ?_; rintro _ w2 ⟨rfl, rfl⟩)
    go_ret
    exact ⟨rfl, (Below.refl _ w).alloc (Nat.le_refl _) _⟩
  · rw [if_neg (by simp; omega)]
    go_enter Tryd.func14, Tryd.ntmps14
    go_wp2_with fail
    refine (HI.out _).mono ?_
    rintro _ w1 ⟨rfl, rfl⟩
    go_wp2_with (go_at_call 24; refine (HT.out _).mono ?_; rintro _ w2 ⟨rfl, rfl⟩)
    go_ret
    exact ⟨rfl, (Below.refl _ w).alloc (Nat.le_refl _) _⟩

/-- An instance and an error. -/
structure IE where
  id : ByteArray
  (st si us e : Int)
def newV (id : ByteArray) (now : Int) : IE := if idB id then (if timeB now then ⟨id, 1, now, 0, 0⟩ else ⟨⟨#[]⟩, 0, 0, 0, 2⟩) else ⟨⟨#[]⟩, 0, 0, 0, 4⟩
set_option maxHeartbeats 400000 in
theorem new_0 (id : ByteArray) (now : Int) (w : World) (HI : Hid (∀ W, Calls Tryd.prog 21 #[.string id] W fun e w' => e = .returned (.bool false) ∧ Below W.heap.size W w')) :
    Calls Tryd.prog 9 #[.string id, .int .i64 now] w fun e w' => e = .returned (.tuple #[.agg #[.string ⟨#[]⟩, .int .i64 0, .int .i64 0, .int .i64 0], .int .i64 4]) ∧ Below w.heap.size w w' := by
  go_enter Tryd.func9, Tryd.ntmps9
  go_wp2_with fail
  refine (HI.out _).mono ?_
  rintro _ w1 ⟨rfl, hb⟩
  have B := (Box.new w 24 #[.string ⟨#[]⟩, .int .i64 0, .int .i64 0, .int .i64 0]).next hb
  have hB := below_step ((Below.refl _ w).alloc (Nat.le_refl _) _) hb
  clear hb
  obtain ⟨p0, p1, p2, p3⟩ := B.cells4
  obtain ⟨f0, f1, f2, f3⟩ := B.frozen4
  go_wp2
  refine bodyPost_ret (v := .tuple #[.agg #[.string ⟨#[]⟩, .int .i64 0, .int .i64 0, .int .i64 0], .int .i64 4]) (by simp [results, Tryd.results9, go_sem, *]) rfl ⟨rfl, ?_⟩
  exact below_set4 hB (Nat.le_refl _) _ _ _ _
set_option maxHeartbeats 400000 in
theorem new_1 (id : ByteArray) (now : Int) (w : World) (HI : Hid (∀ W, Calls Tryd.prog 21 #[.string id] W fun e w' => e = .returned (.bool true) ∧ Below W.heap.size W w')) (HT : Hid (∀ W, Calls Tryd.prog 22 #[.int .i64 now] W fun e w' => e = .returned (.bool false) ∧ W = w')) :
    Calls Tryd.prog 9 #[.string id, .int .i64 now] w fun e w' => e = .returned (.tuple #[.agg #[.string ⟨#[]⟩, .int .i64 0, .int .i64 0, .int .i64 0], .int .i64 2]) ∧ Below w.heap.size w w' := by
  go_enter Tryd.func9, Tryd.ntmps9
  go_wp2_with fail
  refine (HI.out _).mono ?_
  rintro _ w1 ⟨rfl, hb⟩
  have B := (Box.new w 24 #[.string ⟨#[]⟩, .int .i64 0, .int .i64 0, .int .i64 0]).next hb
  have hB := below_step ((Below.refl _ w).alloc (Nat.le_refl _) _) hb
  clear hb
  obtain ⟨p0, p1, p2, p3⟩ := B.cells4
  obtain ⟨f0, f1, f2, f3⟩ := B.frozen4
  go_wp2_with (go_at_call 22; refine (HT.out _).mono ?_; rintro _ w2 ⟨rfl, rfl⟩)
  refine bodyPost_ret (v := .tuple #[.agg #[.string ⟨#[]⟩, .int .i64 0, .int .i64 0, .int .i64 0], .int .i64 2]) (by simp [results, Tryd.results9, go_sem, *]) rfl ⟨rfl, ?_⟩
  exact below_set4 hB (Nat.le_refl _) _ _ _ _
set_option maxHeartbeats 400000 in
theorem new_2 (id : ByteArray) (now : Int) (w : World) (HI : Hid (∀ W, Calls Tryd.prog 21 #[.string id] W fun e w' => e = .returned (.bool true) ∧ Below W.heap.size W w')) (HT : Hid (∀ W, Calls Tryd.prog 22 #[.int .i64 now] W fun e w' => e = .returned (.bool true) ∧ W = w')) :
    Calls Tryd.prog 9 #[.string id, .int .i64 now] w fun e w' => e = .returned (.tuple #[.agg #[.string id, .int .i64 1, .int .i64 now, .int .i64 0], .int .i64 0]) ∧ Below w.heap.size w w' := by
  go_enter Tryd.func9, Tryd.ntmps9
  go_wp2_with fail
  refine (HI.out _).mono ?_
  rintro _ w1 ⟨rfl, hb⟩
  have B := (Box.new w 24 #[.string ⟨#[]⟩, .int .i64 0, .int .i64 0, .int .i64 0]).next hb
  have hB := below_step ((Below.refl _ w).alloc (Nat.le_refl _) _) hb
  clear hb
  obtain ⟨p0, p1, p2, p3⟩ := B.cells4
  obtain ⟨f0, f1, f2, f3⟩ := B.frozen4
  go_wp2_with (go_at_call 22; refine (HT.out _).mono ?_; rintro _ w2 ⟨rfl, rfl⟩)
  refine bodyPost_ret (v := .tuple #[.agg #[.string id, .int .i64 1, .int .i64 now, .int .i64 0], .int .i64 0]) (by simp [results, Tryd.results9, go_sem, *]) rfl ⟨rfl, ?_⟩
  exact below_set4 hB (Nat.le_refl _) _ _ _ _
theorem new_any (id : ByteArray) (now : Int) (w : World) (hs : id.size ≤ maxLen) : Calls Tryd.prog 9 #[.string id, .int .i64 now] w fun e w' => e = .returned (.tuple #[.agg #[.string (newV id now).id, .int .i64 (newV id now).st, .int .i64 (newV id now).si, .int .i64 (newV id now).us], .int .i64 (newV id now).e]) ∧ Below w.heap.size w w' := by
  have HI : Hid (∀ W, _) := fun W => id_any id W hs
  have HT : Hid (∀ W, _) := fun W => time_any now W
  unfold newV
  generalize idB id = b0 at *
  generalize timeB now = b at *
  cases b0
  · exact new_0 id now w HI
  · cases b
    · exact new_1 id now w HI HT
    · exact new_2 id now w HI HT
set_option maxHeartbeats 400000 in
theorem rnew_0 (id : ByteArray) (now : Int) (w : World) (HI : Hid (∀ W, Calls Tryd.prog 23 #[.string id] W fun e w' => e = .returned (.bool false) ∧ W = w')) :
    Calls Tryd.prog 10 #[.string id, .int .i64 now] w fun e w' => e = .returned (.tuple #[.agg #[.string ⟨#[]⟩, .int .i64 0, .int .i64 0, .int .i64 0], .int .i64 4]) ∧ Below w.heap.size w w' := by
  go_enter Tryd.func10, Tryd.ntmps10
  go_wp2_with fail
  refine (HI.out _).mono ?_
  rintro _ w1 ⟨rfl, rfl⟩
  go_wp2
  refine bodyPost_ret (v := .tuple #[.agg #[.string ⟨#[]⟩, .int .i64 0, .int .i64 0, .int .i64 0], .int .i64 4]) (by simp [results, Tryd.results10, go_sem]) rfl ⟨rfl, ?_⟩
  exact (Below.refl _ w).alloc (Nat.le_refl _) _
set_option maxHeartbeats 400000 in
theorem rnew_1 (id : ByteArray) (now : Int) (w : World) (HI : Hid (∀ W, Calls Tryd.prog 23 #[.string id] W fun e w' => e = .returned (.bool true) ∧ W = w')) (HT : Hid (∀ W, Calls Tryd.prog 24 #[.int .i64 now] W fun e w' => e = .returned (.bool false) ∧ W = w')) :
    Calls Tryd.prog 10 #[.string id, .int .i64 now] w fun e w' => e = .returned (.tuple #[.agg #[.string ⟨#[]⟩, .int .i64 0, .int .i64 0, .int .i64 0], .int .i64 2]) ∧ Below w.heap.size w w' := by
  go_enter Tryd.func10, Tryd.ntmps10
  go_wp2_with fail
  refine (HI.out _).mono ?_
  rintro _ w1 ⟨rfl, rfl⟩
  go_wp2_with (go_at_call 24; refine (HT.out _).mono ?_; rintro _ w2 ⟨rfl, rfl⟩)
  refine bodyPost_ret (v := .tuple #[.agg #[.string ⟨#[]⟩, .int .i64 0, .int .i64 0, .int .i64 0], .int .i64 2]) (by simp [results, Tryd.results10, go_sem]) rfl ⟨rfl, ?_⟩
  exact (Below.refl _ w).alloc (Nat.le_refl _) _
set_option maxHeartbeats 400000 in
theorem rnew_2 (id : ByteArray) (now : Int) (w : World) (HI : Hid (∀ W, Calls Tryd.prog 23 #[.string id] W fun e w' => e = .returned (.bool true) ∧ W = w')) (HT : Hid (∀ W, Calls Tryd.prog 24 #[.int .i64 now] W fun e w' => e = .returned (.bool true) ∧ W = w')) :
    Calls Tryd.prog 10 #[.string id, .int .i64 now] w fun e w' => e = .returned (.tuple #[.agg #[.string id, .int .i64 1, .int .i64 now, .int .i64 0], .int .i64 0]) ∧ Below w.heap.size w w' := by
  go_enter Tryd.func10, Tryd.ntmps10
  go_wp2_with fail
  refine (HI.out _).mono ?_
  rintro _ w1 ⟨rfl, rfl⟩
  go_wp2_with (go_at_call 24; refine (HT.out _).mono ?_; rintro _ w2 ⟨rfl, rfl⟩)
  refine bodyPost_ret (v := .tuple #[.agg #[.string id, .int .i64 1, .int .i64 now, .int .i64 0], .int .i64 0]) (by simp [results, Tryd.results10, go_sem]) rfl ⟨rfl, ?_⟩
  exact (Below.refl _ w).alloc (Nat.le_refl _) _
theorem rnew_any (id : ByteArray) (now : Int) (w : World) (hs : id.size ≤ maxLen) : Calls Tryd.prog 10 #[.string id, .int .i64 now] w fun e w' => e = .returned (.tuple #[.agg #[.string (newV id now).id, .int .i64 (newV id now).st, .int .i64 (newV id now).si, .int .i64 (newV id now).us], .int .i64 (newV id now).e]) ∧ Below w.heap.size w w' := by
  have HI : Hid (∀ W, _) := fun W => rid_any id W hs
  have HT : Hid (∀ W, _) := fun W => span_any now W
  unfold newV
  generalize idB id = b0 at *
  generalize timeB now = b at *
  cases b0
  · exact rnew_0 id now w HI
  · cases b
    · exact rnew_1 id now w HI HT
    · exact rnew_2 id now w HI HT
end Go.Proofs.YtfcihloebncmdaaDoor
