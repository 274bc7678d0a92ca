/- A disk of the program in memory, and the contracts of New, ready, Down, Synced and Restart. -/
import Derived.Test.YtjcojgblnbhejaaY
import Derived.Lib.AppendStr
import Derived.Laws.CopyOwn
namespace Go.Proofs.Ytjcojgblnbhejaa
open Go.ChangeShapes Go.WideShapes Go.ChangeAt Go.RowKit

/-- Bytes as cells. -/
def u8s (xs : List UInt8) : List Value := xs.map fun b => .int .u8 (b.toNat : Int)
theorem u8s_len (xs : List UInt8) : (u8s xs).length = xs.length := by simp [u8s]
theorem u8s_app (xs ys : List UInt8) : u8s (xs ++ ys) = u8s xs ++ u8s ys := by simp [u8s]
/-- The slice value v holds just these bytes, in a block of its own (or is nil). -/
def Row (w : World) (v : Value) (xs : List UInt8) : Prop := w.ownsRow 0 5 1 v xs.length (u8s xs)

/-- Only blocks of the list F, and new ones, have turned. -/
structure Only (F : List Nat) (w w' : World) : Prop where
  os : w'.os = w.os
  tape : w'.tape = w.tape
  output : w'.output = w.output
  size : w.heap.size ≤ w'.heap.size
  block : ∀ k, k < w.heap.size → k ∉ F → w'.heap[k]? = w.heap[k]?
theorem Only.refl (F : List Nat) (w : World) : Only F w w := ⟨rfl, rfl, rfl, Nat.le_refl _, fun _ _ _ => rfl⟩
theorem Only.of_up {F : List Nat} {w w' : World} (h : Below w.heap.size w w') : Only F w w' := ⟨h.os, h.tape, h.output, h.size, fun k hk _ => h.block k hk⟩
theorem Only.trans {F F' : List Nat} {a b c : World} (h : Only F a b) (k : Only F' b c) (hF : ∀ x ∈ F', x ∈ F ∨ a.heap.size ≤ x) : Only F a c :=
  ⟨k.os.trans h.os, k.tape.trans h.tape, k.output.trans h.output, Nat.le_trans h.size k.size, fun i hi hn =>
    (k.block i (Nat.lt_of_lt_of_le hi h.size) (fun hm => by rcases hF i hm with h1 | h1; exact hn h1; omega)).trans (h.block i hi hn)⟩
theorem Only.up {F : List Nat} {a b c : World} (h : Only F a b) (k : Below b.heap.size b c) : Only F a c := h.trans (Only.of_up (F := []) k) (fun x hx => by cases hx)
theorem Only.below {F : List Nat} {w w' : World} {B : Nat} (h : Only F w w') (hB : ∀ x ∈ F, B ≤ x) (hs : B ≤ w.heap.size) : Below B w w' :=
  ⟨h.os, h.tape, h.output, h.size, fun k hk => h.block k (by omega) (fun hm => by have := hB k hm; omega)⟩
theorem Only.set {F : List Nat} {a w : World} (h : Only F a w) {p : Addr} (hp : p.block ∈ F ∨ a.heap.size ≤ p.block) (u : Value) : Only F a (w.setCell p u) :=
  ⟨h.os, h.tape, h.output, by simpa [World.setCell] using h.size, fun k hk hn => (Below.heap_setCell w p u k (fun e => by
    rcases hp with hp | hp
    · exact hn (e ▸ hp)
    · omega)).trans (h.block k hk hn)⟩
theorem Box.only {F : List Nat} {w w' : World} {b : Nat} {t : TypeId} {cs : Array Value} (h : Box w b t cs) (ho : Only F w w') (hb : b ∉ F) : Box w' b t cs := (ho.block b h.lt hb).trans h

theorem Row.block {w : World} {v : Value} {xs : List UInt8} (h : Row w v xs) {b : Nat} (hb : v.ownBlock = some b) : b < w.heap.size ∧ ∃ cur, Box w b 5 cur := by
  rcases h.2 with ⟨rfl, _⟩ | ⟨g, cap, cur, rfl, _, hh, _⟩
  · simp [Value.ownBlock] at hb
  · obtain rfl : g = b := by simpa [Value.ownBlock] using hb
    exact ⟨(Array.getElem?_eq_some_iff.1 hh).1, cur, hh⟩
theorem Row.same {w w' : World} {v : Value} {xs : List UInt8} (h : Row w v xs) (hk : ∀ b, v.ownBlock = some b → w'.heap[b]? = w.heap[b]?) : Row w' v xs := by
  refine ⟨h.1, ?_⟩
  rcases h.2 with ⟨rfl, h0⟩ | ⟨g, cap, cur, rfl, hg, hh, r⟩
  · exact .inl ⟨rfl, h0⟩
  · exact .inr ⟨g, cap, cur, rfl, hg, (hk g rfl).trans hh, r⟩
theorem Row.up {w w' : World} {v : Value} {xs : List UInt8} (h : Row w v xs) (hb : Below w.heap.size w w') : Row w' v xs := h.same fun b hb' => hb.block b (h.block hb').1
theorem Row.far {w w' : World} {v : Value} {xs : List UInt8} {F : List Nat} (h : Row w v xs) (ho : Only F w w') (hF : ∀ b, v.ownBlock = some b → b ∉ F) : Row w' v xs := h.same fun b hb' => ho.block b (h.block hb').1 (hF b hb')
theorem Row.nil (w : World) : Row w (.slice none 0 0) [] := ⟨by simp [u8s], .inl ⟨rfl, rfl⟩⟩
theorem Row.ne {w : World} {v : Value} {xs : List UInt8} {g : Nat} {t : TypeId} {cs : Array Value} (h : Row w v xs) (hg : Box w g t cs) (ht : t ≠ 5) : v.ownBlock ≠ some g := by
  intro hb
  obtain ⟨_, cur, hc⟩ := h.block hb
  unfold Box at hc hg
  rw [hc] at hg
  injection hg with hg
  injection hg with _ he
  exact ht he.symm
theorem Row.form {w : World} {v : Value} {xs : List UInt8} (h : Row w v xs) : ∃ a cap, v = .slice a xs.length cap ∧ (∀ b, v.ownBlock = some b → a = some ⟨b, 0, none⟩) ∧ (a = none → xs.length = 0) ∧ (∀ x, a = some x → v.ownBlock = some x.block) := by
  rcases h.2 with ⟨rfl, h0⟩ | ⟨g, cap, cur, rfl, _, _, _⟩
  · exact ⟨none, 0, by rw [h0], by simp [Value.ownBlock], fun _ => h0, by simp⟩
  · exact ⟨_, cap, rfl, fun b hb => by simp [Value.ownBlock] at hb; rw [hb], by simp, fun x hx => by cases hx; rfl⟩

/-- A row whose mark lies behind it (what a string made into bytes leaves). -/
def RowF (w : World) (v : Value) (xs : List UInt8) : Prop :=
  ∃ g cap cur, v = .slice (some ⟨g, 0, none⟩) xs.length cap ∧ w.heap[g]? = some (.cells cur 5 (cur.size, cur.size + 1)) ∧ xs.length ≤ cap ∧ cap ≤ maxLen ∧ cur.size = cap ∧ cur.toList.take xs.length = u8s xs
def RowM (w : World) (v : Value) (xs : List UInt8) : Prop := Row w v xs ∨ RowF w v xs
theorem RowM.block {w : World} {v : Value} {xs : List UInt8} (h : RowM w v xs) {b : Nat} (hb : v.ownBlock = some b) : b < w.heap.size ∧ ∃ cur fz, w.heap[b]? = some (.cells cur 5 fz) := by
  rcases h with h | ⟨g, cap, cur, rfl, hh, _⟩
  · obtain ⟨h1, cur, h2⟩ := h.block hb
    exact ⟨h1, cur, _, h2⟩
  · obtain rfl : g = b := by simpa [Value.ownBlock] using hb
    exact ⟨(Array.getElem?_eq_some_iff.1 hh).1, cur, _, hh⟩
theorem RowM.same {w w' : World} {v : Value} {xs : List UInt8} (h : RowM w v xs) (hk : ∀ b, v.ownBlock = some b → w'.heap[b]? = w.heap[b]?) : RowM w' v xs := by
  rcases h with h | ⟨g, cap, cur, rfl, hh, r⟩
  · exact .inl (h.same hk)
  · exact .inr ⟨g, cap, cur, rfl, (hk g rfl).trans hh, r⟩
theorem RowM.up {w w' : World} {v : Value} {xs : List UInt8} (h : RowM w v xs) (hb : Below w.heap.size w w') : RowM w' v xs := h.same fun b hb' => hb.block b (h.block hb').1
theorem RowM.far {w w' : World} {v : Value} {xs : List UInt8} {F : List Nat} (h : RowM w v xs) (ho : Only F w w') (hF : ∀ b, v.ownBlock = some b → b ∉ F) : RowM w' v xs := h.same fun b hb' => ho.block b (h.block hb').1 (hF b hb')
theorem RowM.ne {w : World} {v : Value} {xs : List UInt8} {g : Nat} {t : TypeId} {cs : Array Value} (h : RowM w v xs) (hg : Box w g t cs) (ht : t ≠ 5) : v.ownBlock ≠ some g := by
  intro hb
  obtain ⟨_, cur, fz, hc⟩ := h.block hb
  unfold Box at hg
  rw [hc] at hg
  injection hg with hg
  injection hg with _ he
  exact ht he.symm

/-- The state of a disk. -/
structure DS where
  sz : Int
  (dur app : List UInt8)
  rep : Bool
  fre : List UInt8
  down : Bool
/-- A disk lies behind block g; its blocks are among F. -/
def DiskAt (w : World) (g : Nat) (F : List Nat) (s : DS) : Prop :=
  ∃ dv av fv, Box w g 61 #[.int .i64 s.sz, dv, av, .bool s.rep, fv, .bool s.down] ∧ Row w dv s.dur ∧ Row w av s.app ∧ RowM w fv s.fre ∧ g ∈ F ∧
    (∀ b, dv.ownBlock = some b → b ∈ F) ∧ (∀ b, av.ownBlock = some b → b ∈ F) ∧ (∀ b, fv.ownBlock = some b → b ∈ F) ∧
    (∀ b, dv.ownBlock = some b → av.ownBlock ≠ some b ∧ fv.ownBlock ≠ some b) ∧ (∀ b, av.ownBlock = some b → fv.ownBlock ≠ some b) ∧ ∀ b ∈ F, b < w.heap.size
theorem DiskAt.up {w w' : World} {g : Nat} {F : List Nat} {s : DS} (h : DiskAt w g F s) (hb : Below w.heap.size w w') : DiskAt w' g F s := by
  obtain ⟨dv, av, fv, h1, h2, h3, h4, h5, h6, h7, h8, h9, h10, h11⟩ := h
  exact ⟨dv, av, fv, h1.next hb, h2.up hb, h3.up hb, h4.up hb, h5, h6, h7, h8, h9, h10, fun b hb' => Nat.lt_of_lt_of_le (h11 b hb') hb.size⟩
theorem DiskAt.far {w w' : World} {g : Nat} {F F' : List Nat} {s : DS} (h : DiskAt w g F s) (ho : Only F' w w') (hd : ∀ b ∈ F, b ∉ F') : DiskAt w' g F s := by
  obtain ⟨dv, av, fv, h1, h2, h3, h4, h5, h6, h7, h8, h9, h10, h11⟩ := h
  exact ⟨dv, av, fv, h1.only ho (hd g h5), h2.far ho (fun b hb => hd b (h6 b hb)), h3.far ho (fun b hb => hd b (h7 b hb)), h4.far ho (fun b hb => hd b (h8 b hb)), h5, h6, h7, h8, h9, h10, fun b hb' => Nat.lt_of_lt_of_le (h11 b hb') ho.size⟩

/-- What a method that changes the disk leaves. -/
def Left (w : World) (g : Nat) (F : List Nat) (er : Int) (s : DS) (e : Ending) (w' : World) : Prop :=
  e = .returned (.int .i64 er) ∧ ∃ F', DiskAt w' g F' s ∧ Only F w w' ∧ ∀ b ∈ F', b ∈ F ∨ w.heap.size ≤ b

theorem newDisk_yes (sz : Int) (w : World) (h1 : 1 ≤ sz) (h2 : sz ≤ 262144) : Calls Try.prog 9 #[.int .i64 sz] w fun e w' =>
    e = .returned (.tuple #[.pointer (some ⟨w.heap.size, 0, none⟩), .int .i64 0]) ∧ w' = w.alloc (.cells #[.int .i64 sz, .slice none 0 0, .slice none 0 0, .bool false, .slice none 0 0, .bool false] 61) := by
  go_enter Try.func9, Try.ntmps9
  go_wp2
  go_ret2
  exact ⟨rfl, rfl⟩
theorem newDisk_no (sz : Int) (w : World) (h : sz < 1 ∨ (1 ≤ sz ∧ 262144 < sz)) : Calls Try.prog 9 #[.int .i64 sz] w fun e w' => e = .returned (.tuple #[.pointer none, .int .i64 2]) ∧ w = w' := by
  rcases h with h | ⟨h1, h2⟩
  all_goals
    go_enter Try.func9, Try.ntmps9
    go_wp2
    go_ret2
    exact ⟨rfl, rfl⟩
theorem DiskAt.new (w : World) (sz : Int) : DiskAt (w.alloc (.cells #[.int .i64 sz, .slice none 0 0, .slice none 0 0, .bool false, .slice none 0 0, .bool false] 61)) w.heap.size [w.heap.size] ⟨sz, [], [], false, [], false⟩ :=
  ⟨_, _, _, Box.new w 61 _, Row.nil _, Row.nil _, .inl (Row.nil _), by simp, by simp [Value.ownBlock], by simp [Value.ownBlock], by simp [Value.ownBlock], by simp [Value.ownBlock], by simp [Value.ownBlock], by simp⟩

def rdy (s : DS) : Int := if s.sz = 0 then 10 else if s.down then 22 else 0
theorem ready_nil (w : World) : Calls Try.prog 43 #[.pointer none] w fun e w' => e = .returned (.int .i64 10) ∧ w = w' := by
  go_enter Try.func43, Try.ntmps43
  go_wp2
  go_ret
  exact ⟨rfl, rfl⟩
theorem ready_box (w : World) (g : Nat) (sz : Int) (dv av fv : Value) (rep down : Bool) (hb : Box w g 61 #[.int .i64 sz, dv, av, .bool rep, fv, .bool down]) : Calls Try.prog 43 #[.pointer (some ⟨g, 0, none⟩)] w fun e w' => e = .returned (.int .i64 (if sz = 0 then 10 else if down then 22 else 0)) ∧ w = w' := by
  have c0 := hb.cell 0 _ rfl
  have c5 := hb.cell 5 _ rfl
  clear hb
  by_cases h0 : sz = 0
  · rw [if_pos h0]
    have e0 : (sz == 0) = true := by simpa using h0
    clear h0
    go_enter Try.func43, Try.ntmps43
    go_wp2
    go_ret
    exact ⟨rfl, rfl⟩
  · rw [if_neg h0]
    have e0 : (sz == 0) = false := by simpa using h0
    clear h0
    cases down
    all_goals
      go_enter Try.func43, Try.ntmps43
      go_wp2
      go_ret
      exact ⟨rfl, rfl⟩
theorem ready_any (w : World) (g : Nat) (F : List Nat) (s : DS) (h : DiskAt w g F s) : Calls Try.prog 43 #[.pointer (some ⟨g, 0, none⟩)] w fun e w' => e = .returned (.int .i64 (rdy s)) ∧ w = w' := by
  obtain ⟨dv, av, fv, hb, _⟩ := h
  exact ready_box w g s.sz dv av fv s.rep s.down hb

theorem down_nil (w : World) : Calls Try.prog 36 #[.pointer none] w fun e w' => e = .returned (.bool false) ∧ w = w' := by
  go_enter Try.func36, Try.ntmps36
  go_wp2_with (go_at_call 43; refine (ready_nil _).mono ?_; rintro _ _ ⟨rfl, rfl⟩)
  go_ret
  exact ⟨rfl, rfl⟩
theorem down_any (w : World) (g : Nat) (F : List Nat) (s : DS) (h : DiskAt w g F s) : Calls Try.prog 36 #[.pointer (some ⟨g, 0, none⟩)] w fun e w' => e = .returned (.bool (rdy s == 22)) ∧ w = w' := by
  have H := Lib.hid (ready_any w g F s h)
  clear h
  generalize rdy s = r at *
  go_enter Try.func36, Try.ntmps36
  go_wp2_with (go_at_call 43; refine H.out.mono ?_; rintro _ _ ⟨rfl, rfl⟩)
  go_ret
  exact ⟨rfl, rfl⟩
theorem synced_nil (w : World) : Calls Try.prog 40 #[.pointer none] w fun e w' => e = .returned (.int .i64 0) ∧ w = w' := by
  go_enter Try.func40, Try.ntmps40
  go_wp2_with (go_at_call 43; refine (ready_nil _).mono ?_; rintro _ _ ⟨rfl, rfl⟩)
  go_ret
  exact ⟨rfl, rfl⟩
theorem synced_any (w : World) (g : Nat) (F : List Nat) (s : DS) (h : DiskAt w g F s) : Calls Try.prog 40 #[.pointer (some ⟨g, 0, none⟩)] w fun e w' => e = .returned (.int .i64 (if s.sz = 0 then 0 else s.dur.length)) ∧ w = w' := by
  have H := Lib.hid (ready_any w g F s h)
  obtain ⟨dv, av, fv, hb, hd, _⟩ := h
  have c1 := hb.cell 1 _ rfl
  clear hb
  obtain ⟨a, cap, rfl, _⟩ := hd.form
  clear hd
  by_cases h0 : s.sz = 0
  · rw [if_pos h0]
    have hr : rdy s = 10 := by simp [rdy, h0]
    rw [hr] at H
    clear h0 hr
    go_enter Try.func40, Try.ntmps40
    go_wp2_with (go_at_call 43; refine H.out.mono ?_; rintro _ _ ⟨rfl, rfl⟩)
    go_ret
    exact ⟨rfl, rfl⟩
  · rw [if_neg h0]
    have hr : (rdy s == 10) = false := by unfold rdy; rw [if_neg h0]; cases s.down <;> simp
    clear h0
    generalize rdy s = r at *
    go_enter Try.func40, Try.ntmps40
    go_wp2_with (go_at_call 43; refine H.out.mono ?_; rintro _ _ ⟨rfl, rfl⟩)
    go_ret
    exact ⟨rfl, rfl⟩

theorem DiskAt.left_same {w : World} {g : Nat} {F : List Nat} {s : DS} (h : DiskAt w g F s) (er : Int) : Left w g F er s (.returned (.int .i64 er)) w := ⟨rfl, F, h, Only.refl _ _, fun _ hb => .inl hb⟩
/-- One flag is set. -/
theorem DiskAt.setDown {w : World} {g : Nat} {F : List Nat} {s : DS} (h : DiskAt w g F s) (b : Bool) : DiskAt (w.setCell ⟨g, 5, none⟩ (.bool b)) g F { s with down := b } := by
  obtain ⟨dv, av, fv, h1, h2, h3, h4, h5, h6, h7, h8, h9, h10, h11⟩ := h
  have far : ∀ (v : Value) (xs : List UInt8), Row w v xs → Row (w.setCell ⟨g, 5, none⟩ (.bool b)) v xs := fun v xs hr => hr.same fun k hk => Below.heap_setCell w _ _ k (fun e => hr.ne h1 (by decide) (by rw [hk, e]))
  exact ⟨dv, av, fv, (h1.set 5 (.bool b)).eq_ (by simp), far _ _ h2, far _ _ h3, h4.same (fun k hk => Below.heap_setCell w _ _ k (fun e => h4.ne h1 (by decide) (by rw [hk, e]))), h5, h6, h7, h8, h9, h10, fun k hk => by simpa [World.setCell] using h11 k hk⟩
theorem restart_nil (w : World) : Calls Try.prog 22 #[.pointer none] w fun e w' => e = .returned (.int .i64 10) ∧ w = w' := by
  go_enter Try.func22, Try.ntmps22
  go_wp2_with (go_at_call 43; refine (ready_nil _).mono ?_; rintro _ _ ⟨rfl, rfl⟩)
  go_ret
  exact ⟨rfl, rfl⟩
def restartV (s : DS) : Int × DS := if rdy s = 22 then (0, { s with down := false }) else (10, s)
theorem restart_any (w : World) (g : Nat) (F : List Nat) (s : DS) (h : DiskAt w g F s) : Calls Try.prog 22 #[.pointer (some ⟨g, 0, none⟩)] w (Left w g F (restartV s).1 (restartV s).2) := by
  have H := Lib.hid (ready_any w g F s h)
  unfold restartV
  by_cases h0 : rdy s = 22
  · rw [if_pos h0]
    rw [h0] at H
    clear h0
    have HD := Lib.hid h
    obtain ⟨dv, av, fv, hb, _⟩ := h
    have c5 := hb.cell 5 _ rfl
    have f5 := hb.frozen 5
    clear hb
    go_enter Try.func22, Try.ntmps22
    go_wp2_with (go_at_call 43; refine H.out.mono ?_; rintro _ _ ⟨rfl, rfl⟩)
    go_ret
    exact ⟨rfl, F, HD.out.setDown false, (Only.refl _ _).set (.inl (by obtain ⟨_, _, _, _, _, _, _, k, _⟩ := HD.out; exact k)) _, fun _ hb => .inl hb⟩
  · rw [if_neg h0]
    have hr : (rdy s != 22) = true := by simpa using h0
    clear h0
    have HD := Lib.hid h
    clear h
    generalize rdy s = r at *
    go_enter Try.func22, Try.ntmps22
    go_wp2_with (go_at_call 43; refine H.out.mono ?_; rintro _ _ ⟨rfl, rfl⟩)
    go_ret
    exact HD.out.left_same 10
end Go.Proofs.Ytjcojgblnbhejaa
