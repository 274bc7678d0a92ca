/- The disk's contents. -/
import Derived.Test.YtjcojgblnbhejaaDB
import Derived.StillTailTactics
import Derived.Laws.MakeOwn
import Derived.Deep.OwnRows
namespace Go.Proofs.Ytjcojgblnbhejaa
open Go.ChangeShapes Go.WideShapes Go.ChangeAt Go.RowKit

def bytesAt (xs : List UInt8) (k : Nat) : Value := .int .u8 ((xs.getD k 0).toNat : Int)
theorem segCells_bytes (xs : List UInt8) : segCells (bytesAt xs) xs.length = u8s xs := by
  apply List.ext_getElem?
  intro k
  by_cases hk : k < xs.length
  · simp [segCells, bytesAt, u8s, hk]
  · simp [segCells, u8s, hk]
/-- What contents returns. -/
def Copied (w : World) (xs : List UInt8) (e : Ending) (w' : World) : Prop := ∃ v, e = .returned v ∧ Row w' v xs ∧ Below w.heap.size w w' ∧ ∀ b, v.ownBlock = some b → w.heap.size ≤ b
theorem own_row {w : World} {base : Nat} {v : Value} {xs : List UInt8} (h : w.ownsRow base 5 1 v xs.length (u8s xs)) : Row w v xs ∧ ∀ b, v.ownBlock = some b → base ≤ b := by
  refine ⟨⟨h.1, ?_⟩, ?_⟩
  · rcases h.2 with h0 | ⟨g, cap, cur, rfl, _, r⟩
    · exact .inl h0
    · exact .inr ⟨g, cap, cur, rfl, Nat.zero_le _, r⟩
  · rcases h.2 with ⟨rfl, _⟩ | ⟨g, cap, cur, rfl, hg, r⟩
    · simp [Value.ownBlock]
    · intro b hb
      simp [Value.ownBlock] at hb
      omega
theorem below_grown {w w' : World} (h : w.grownBy w' none) : Below w.heap.size w w' := ⟨h.os, h.tape, h.output, h.size, fun k hk => h.block k hk (by simp)⟩
theorem contents_rep (w : World) (g : Nat) (sz : Int) (dv av fv : Value) (down : Bool) (xs : List UInt8) (hb : Box w g 61 #[.int .i64 sz, dv, av, .bool true, fv, .bool down]) (hf : RowM w fv xs) (hl : xs.length ≤ 262144) : Calls Try.prog 44 #[.pointer (some ⟨g, 0, none⟩)] w (Copied w xs) := by
  obtain ⟨A, cap, rfl, hn, _, hs, _⟩ := hf.cells
  have c3 := hb.cell 3 _ rfl
  have c4 := hb.cell 4 _ rfl
  clear hb
  obtain ⟨i, hi, hz, hs1, hby⟩ := info_parts IU
  have HI := Lib.hid hi
  clear hi
  have HS := Lib.hid hs
  clear hs hf
  go_enter Try.func44, Try.ntmps44
  go_wp2_with (at_builtin; refine wpList_append_seg _ rfl (.const (.slice none 0 0)) (.tmp 12) _ rfl w.heap.size 5 i (.int .u8 0) 1 1 Try.underlying59 HI.out hz hs1 hby rfl (by decide) (.slice none 0 0) 0 [] rfl ⟨rfl, .inl ⟨rfl, rfl⟩⟩ A xs.length cap (bytesAt xs) rfl (by rw [Nat.mul_one]; exact HS.out) (fun _ _ => rfl) (by unfold maxLen; omega) (by omega) (Nat.le_refl _) hn ?_; intro v' w' ho hg _)
  go_ret
  rw [Nat.zero_add, List.nil_append, Nat.mul_one, segCells_bytes] at ho
  obtain ⟨h1, h2⟩ := own_row ho
  exact ⟨_, rfl, h1, below_grown hg, h2⟩
theorem drew_below (w : World) : Below w.heap.size w w.drew := ⟨rfl, rfl, rfl, Nat.le_refl _, fun _ _ => rfl⟩
theorem u8s_get {xs : List UInt8} {k : Nat} {u : Value} (h : (u8s xs)[k]? = some u) : k < xs.length ∧ u = bytesAt xs k := by
  have hk : k < xs.length := by
    rcases Nat.lt_or_ge k xs.length with h' | h'
    · exact h'
    · rw [List.getElem?_eq_none (by rw [u8s_len]; exact h')] at h; cases h
  refine ⟨hk, ?_⟩
  simp [u8s, hk] at h
  rw [← h]
  simp [bytesAt, hk]
theorem seg_src {w : World} {A : Option Addr} {xs : List UInt8} (hs : Seg w A xs.length (bytesAt xs)) (h0 : 0 < xs.length) : ∃ ad, A = some ad ∧ ∀ j u, (u8s xs)[j]? = some u → w.cell? (ad.add j) = some u := by
  obtain ⟨b, off, hA, _, _⟩ := hs 0 h0
  refine ⟨_, hA, fun j u hu => ?_⟩
  obtain ⟨hj, rfl⟩ := u8s_get hu
  obtain ⟨b', off', hA', _, hc⟩ := hs j hj
  rw [hA] at hA'
  obtain ⟨rfl, rfl⟩ : b = b' ∧ off = off' := by injection hA' with h; injection h with h1 h2; exact ⟨h1, h2⟩
  rw [← hc, Go.WideShapes.add_plain]
theorem u8s_one {xs : List UInt8} : ∀ v ∈ u8s xs, v.oneCell' = true := by
  intro v hv
  simp only [u8s, List.mem_map] at hv
  obtain ⟨b, _, rfl⟩ := hv
  rfl
theorem contents_plain (w : World) (g : Nat) (sz : Int) (dv av fv : Value) (down : Bool) (xs ys : List UInt8) (hb : Box w g 61 #[.int .i64 sz, dv, av, .bool false, fv, .bool down]) (hd : Row w dv xs) (ha : Row w av ys) (hl : xs.length + ys.length ≤ 262144) : Calls Try.prog 44 #[.pointer (some ⟨g, 0, none⟩)] w (Copied w (xs ++ ys)) := by
  obtain ⟨A, cap, rfl, hn, _, hs, _⟩ := RowM.cells (.inl hd)
  obtain ⟨B, cap', rfl, hn', _, hs', _⟩ := RowM.cells (.inl ha)
  have c1 := hb.cell 1 _ rfl
  have c2 := hb.cell 2 _ rfl
  have c3 := hb.cell 3 _ rfl
  obtain ⟨i, hi, hz, hs1, hby⟩ := info_parts IU
  have HI := Lib.hid hi
  clear hi
  have HB := Lib.hid hb
  have HS : Hid (Seg w A xs.length (bytesAt xs)) := Lib.hid hs
  have HS' : Hid (Seg w B ys.length (bytesAt ys)) := Lib.hid hs'
  clear hs hs' hd ha hb
  have hwr : IntKind.i64.wrap ((xs.length : Int) + (ys.length : Int)) = ((xs.length + ys.length : Nat) : Int) := by rw [IntKind.wrap_i64]; omega
  generalize hn0 : xs.length + ys.length = n at *
  go_enter Try.func44, Try.ntmps44
  go_upto_region 3 with fail
  go_still_tail 11, (by kernel_rfl)
  change wpList _ _ _ _ _ w.drew
  have hB := drew_below w
  generalize w.drew = w2 at *
  clear c1 c2 c3
  have hsz : (Try.prog.info? 5).map (·.size) = some 1 := by rw [HI.out]; simp [hs1]
  have HZ := Lib.hid hsz
  clear hsz
  go_upto_region 4 with (at_make; go_loud (refine wpList_make_row _ rfl (.tmp 24) (.tmp 24) _ rfl 5 i (.int .u8 0) Try.underlying59 HI.out hz hs1 rfl .i64 .i64 n rfl rfl (by rw [hby]; omega) (by omega) ?_))
  have h3 : Box (w2.alloc (.cells (madeCells #[.int .u8 0] n) 5)) w2.heap.size 5 (List.replicate n (Value.int .u8 0)).toArray := by
    have := Box.new w2 5 (madeCells #[.int .u8 0] n)
    rw [← toList_madeCells_one, Array.toArray_toList]
    exact this
  have hB3 : Below w.heap.size w (w2.alloc (.cells (madeCells #[.int .u8 0] n) 5)) := below_box hB _
  have hle : w.heap.size ≤ w2.heap.size := hB.size
  generalize w2.alloc (.cells (madeCells #[.int .u8 0] n) 5) = w3 at *
  generalize w2.heap.size = g3 at *
  clear hB
  have H3 := Lib.hid h3
  clear h3
  have c1 := (HB.out.next hB3).cell 1 _ rfl
  have hs3 : Hid (Seg w3 A xs.length (bytesAt xs)) := Lib.hid (HS.out.next hB3)
  have hxn : xs.length ≤ n := by omega
  have hm1 : (u8s xs).length = Nat.min xs.length n := by rw [u8s_len]; exact (Nat.min_eq_left hxn).symm
  go_upto_region 5 with (refine wpList_copy_splice rfl (.tmp 26) (.tmp 30) 59 59 rfl 5 Try.underlying59 HZ.out (some ⟨g3, 0, none⟩) A n n xs.length cap rfl rfl g3 0 (List.replicate n (Value.int .u8 0)) 5 H3.out (u8s xs) hm1 (fun h0 => ⟨rfl, seg_src hs3.out (by rwa [u8s_len] at h0)⟩) (by rw [u8s_len, List.length_replicate]; omega) u8s_one w.heap.size w hB3 hle ?_; intro w4 hg4 hB4)
  clear c1 hs3 H3 hB3
  have hul : (u8s xs).length = xs.length := u8s_len xs
  generalize (u8s xs).length = xl at *
  subst hul
  have c2 := (HB.out.next hB4).cell 2 _ rfl
  have HL := Lib.hid hl
  clear hl hwr hm1
  go_still_tail 7, (by kernel_rfl)
  change wpList _ _ _ _ _ w4.drew
  clear c2
  have hB5 : Below w.heap.size w w4.drew := below_step hB4 (drew_below w4)
  have hg5 : Hid (w4.drew.heap[g3]? = some (.cells (splice (List.replicate n (Value.int .u8 0)) 0 (u8s xs)).toArray 5 (0, 0))) := hg4
  generalize w4.drew = w5 at *
  clear hB4 hg4
  have hs5 : Hid (Seg w5 B ys.length (bytesAt ys)) := Lib.hid (HS'.out.next hB5)
  have hm2 : (u8s ys).length = Nat.min ys.length (n - xs.length) := by rw [u8s_len]; exact (Nat.min_eq_left (by omega)).symm
  have hln : (splice (List.replicate n (Value.int .u8 0)) 0 (u8s xs)).length = n := by rw [length_splice _ _ _ (by simp [u8s_len, hxn]), List.length_replicate]
  refine wpList_copy_splice rfl (.tmp 34) (.tmp 38) 59 59 rfl 5 Try.underlying59 HZ.out _ B (n - xs.length) (n - xs.length) ys.length cap' rfl rfl g3 xs.length _ 5 hg5.out (u8s ys) hm2 (fun h0 => ⟨if_neg (by rw [u8s_len] at h0; omega), seg_src hs5.out (by rwa [u8s_len] at h0)⟩) (by rw [u8s_len, hln]; omega) u8s_one w.heap.size w hB5 hle ?_
  intro w6 hg6 hB6
  clear hs5 hg5 hB5 hm2 hln
  generalize (if n = xs.length then some (⟨g3, 0, none⟩ : Addr) else some ⟨g3, xs.length, none⟩) = dp
  go_wp2
  go_ret
  have hcat : splice (splice (List.replicate n (Value.int .u8 0)) 0 (u8s xs)) xs.length (u8s ys) = u8s (xs ++ ys) := by
    have e1 : splice (List.replicate n (Value.int .u8 0)) 0 (u8s xs) = u8s xs ++ (List.replicate n (Value.int .u8 0)).drop xs.length := by simp [splice, u8s_len]
    rw [e1, u8s_app]
    unfold splice
    rw [List.take_left' (u8s_len xs), List.drop_eq_nil_of_le (by simp [u8s_len]; omega), List.append_nil]
  have hlx : (xs ++ ys).length = n := by rw [List.length_append]; omega
  have hL := HL.out
  refine ⟨_, rfl, ⟨by rw [u8s_len, Nat.mul_one], .inr ⟨g3, n, _, by rw [hlx]; rfl, Nat.zero_le _, hg6.out, by omega, by unfold maxLen; omega, ?_, ?_⟩⟩, hB6, ?_⟩
  · rw [hcat, List.size_toArray, u8s_len]; omega
  · rw [hcat, Nat.mul_one, ← u8s_len (xs ++ ys)]
    exact List.take_length
  · intro b hb
    simp [Value.ownBlock] at hb
    omega
end Go.Proofs.Ytjcojgblnbhejaa
