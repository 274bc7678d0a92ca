/- Rows of bytes: a string appended, a slice appended, a string made into bytes and back. -/
import Derived.Test.YtjcojgblnbhejaaDA
import Derived.Laws.IdiomStrings
import Derived.Laws.BytesArg
namespace Go.Proofs.Ytjcojgblnbhejaa
open Go.ChangeShapes Go.WideShapes Go.ChangeAt Go.RowKit

theorem IU : (Try.prog.info? 5).map (fun i => (i.zero, i.size, i.bytes)) = some (some (.int .u8 0), 1, 1) := by kernel_rfl

/-- Stores into a row whose mark lies behind it. -/
theorem run_storeCells_mark (P : Program) (g o : Nat) (t : TypeId) (m : Nat) : ∀ (vs : List Value) (i : Nat) (cur : Array Value) (w : World), w.heap[g]? = some (.cells cur t (m, m + 1)) → cur.size ≤ m → o + i + vs.length ≤ cur.size → (∀ v ∈ vs, v.oneCell' = true) →
    (storeCells ⟨g, o, none⟩ vs i).run P w = .ok () (w.setRow g (cur.toList.take (o + i) ++ vs ++ cur.toList.drop (o + i + vs.length)).toArray)
  | [], i, cur, w, hg, _, _, _ => by
    simp only [storeCells, List.append_nil, List.length_nil, Nat.add_zero, List.take_append_drop, Array.toArray_toList]
    rw [setRow_self w g cur t (m, m + 1) hg]
    rfl
  | v :: rest, i, cur, w, hg, hm, hl, h1 => by
    have hi : o + i < cur.size := by simp at hl; omega
    have hadd : (⟨g, o, none⟩ : Addr).add i = ⟨g, o + i, none⟩ := by unfold Addr.add; split <;> simp_all
    have hcell : w.cell? ⟨g, o + i, none⟩ = some cur[o + i] := by simp [World.cell?, hg, hi]
    have hfro : w.frozen? ⟨g, o + i, none⟩ = false := by
      simp only [World.frozen?, hg, Bool.and_eq_false_iff, decide_eq_false_iff_not]
      left
      omega
    have hst : (store ((⟨g, o, none⟩ : Addr).add i) v).run P w = .ok () (w.setRow g (cur.setIfInBounds (o + i) v)) := by
      rw [hadd, run_store P w _ v _ (h1 v (by simp)), hcell]
      simp [hfro, setCell_eq_setRow w g (o + i) cur t (m, m + 1) v hg]
    have ih := run_storeCells_mark P g o t m rest (i + 1) (cur.setIfInBounds (o + i) v) (w.setRow g (cur.setIfInBounds (o + i) v)) (setRow_heap w g cur _ t _ hg) (by simpa using hm) (by simp at hl ⊢; omega) (fun x hx => h1 x (by simp [hx]))
    simp only [storeCells, Sem.run_bind, hst, Result.andThen_ok, ih, setRow_setRow]
    congr 3
    have e := list_seg_step cur.toList (o + i) v rest (by simp at hl ⊢; omega)
    simpa [Array.toList_setIfInBounds, Nat.add_assoc] using e

theorem strCells_u8s (s : ByteArray) : Lib.strCells s = u8s s.data.toList := rfl
theorem size_toList (s : ByteArray) : s.data.toList.length = s.size := by simp

/-- Where the bytes lie. -/
theorem RowM.cells {w : World} {v : Value} {xs : List UInt8} (h : RowM w v xs) : ∃ a cap, v = .slice a xs.length cap ∧ (a = none → xs.length = 0) ∧ xs.length ≤ cap ∧ Seg w a xs.length (fun k => .int .u8 ((xs.getD k 0).toNat : Int)) ∧ (∀ x, a = some x → x.off = 0 ∧ x.spot = none ∧ v.ownBlock = some x.block) := by
  have key : ∀ (g cap : Nat) (cur : Array Value) (fz : Nat × Nat), w.heap[g]? = some (.cells cur 5 fz) → cur.toList.take xs.length = u8s xs → Seg w (some ⟨g, 0, none⟩) xs.length (fun k => .int .u8 ((xs.getD k 0).toNat : Int)) := by
    intro g cap cur fz hh ht k hk
    refine ⟨g, 0, rfl, (Array.getElem?_eq_some_iff.1 hh).1, ?_⟩
    rw [Nat.zero_add, cell_of_row w g k cur 5 fz hh]
    have h3 := congrArg (·[k]?) ht
    simp only [List.getElem?_take, if_pos hk, u8s, List.getElem?_map] at h3
    rw [show cur[k]? = cur.toList[k]? by simp, h3]
    simp [List.getD, hk]
  rcases h with h | ⟨g, cap, cur, rfl, hh, h1, h2, h3, h4⟩
  · rcases h.2 with ⟨rfl, h0⟩ | ⟨g, cap, cur, rfl, _, hh, hn, hc, hsz, ht⟩
    · exact ⟨none, 0, by rw [h0], fun _ => h0, by omega, fun k hk => absurd hk (by omega), by simp⟩
    · exact ⟨_, cap, rfl, by simp, hn, key g cap cur _ hh (by simpa using ht), fun x hx => by cases hx; exact ⟨rfl, rfl, rfl⟩⟩
  · exact ⟨_, cap, rfl, by simp, h1, key g cap cur _ hh h4, fun x hx => by cases hx; exact ⟨rfl, rfl, rfl⟩⟩

/-- A string is appended to a row. -/
theorem run_append_text (w : World) (ty : TypeId) (v : Value) (xs : List UInt8) (h : RowM w v xs) (s : ByteArray) (hb : xs.length + s.size ≤ 1048576) :
    ∃ v' w', (Builtin.append_ #[59, 9] ty #[v, .string s]).run Try.prog w = .ok v' w' ∧ RowM w' v' (xs ++ s.data.toList) ∧ w.grownBy w' v.ownBlock ∧ (v'.ownBlock = v.ownBlock ∨ v'.ownBlock = some w.heap.size) ∧ (Row w v xs → Row w' v' (xs ++ s.data.toList)) := by
  obtain ⟨i, hi, hz, hs1, hby⟩ := info_parts IU
  have hlen : (xs ++ s.data.toList).length = xs.length + s.size := by rw [List.length_append, size_toList]
  have hml : xs.length + s.size ≤ maxLen := by unfold maxLen; omega
  -- a row that is there, with room or without
  have grow : ∀ (g cap : Nat) (fz : Nat × Nat) (cur : Array Value), w.heap[g]? = some (.cells cur 5 fz) → cur.toList.take xs.length = u8s xs → cap < xs.length + s.size → ∃ v' w', (Builtin.append_ #[59, 9] ty #[.slice (some ⟨g, 0, none⟩) xs.length cap, .string s]).run Try.prog w = .ok v' w' ∧ Row w' v' (xs ++ s.data.toList) ∧ w.grownBy w' (some g) ∧ v'.ownBlock = some w.heap.size := by
    intro g cap fz cur hh ht hg
    have holds : ∀ j u, (u8s xs)[j]? = some u → w.cell? ((⟨g, 0, none⟩ : Addr).add j) = some u := by
      intro j u hu
      have hadd : (⟨g, 0, none⟩ : Addr).add j = ⟨g, j, none⟩ := by unfold Addr.add; split <;> simp_all
      rw [hadd, cell_of_row w g j cur 5 fz hh]
      rw [← ht, List.getElem?_take] at hu
      split at hu
      · simpa using hu
      · cases hu
    have hr := Lib.run_append_grow_string (P := Try.prog) w 59 9 ty 5 i (.int .u8 0) Try.underlying59 Try.underlying9 hi hz ⟨g, 0, none⟩ xs.length cap (u8s xs) (by rw [hs1, u8s_len, Nat.mul_one]) holds s hg (by omega) (by rw [hby]; exact growslice_fits (by omega) (by omega))
    have hge := grownCap_ge w (xs.length + s.size) cap 5
    have hcm2 : grownCap w (xs.length + s.size) cap 5 ≤ maxLen := grownCap_le_maxLen w (xs.length + s.size) cap 5 hml
    refine ⟨_, _, hr, ⟨by rw [u8s_len, Nat.mul_one], .inr ⟨w.heap.size, _, _, by rw [hlen], Nat.zero_le _, heap_alloc_new w.drew _, by rw [hlen]; exact hge, hcm2, ?_, ?_⟩⟩, ⟨rfl, rfl, rfl, by simp, fun k hk _ => Below.heap_alloc w.drew _ k hk⟩, rfl⟩
    · have hz1 : (Value.int IntKind.u8 0).cells.size = 1 := rfl
      simp only [Array.size_append, List.size_toArray, size_zeroCells, hz1, u8s_len, Lib.strCells_length]
      omega
    · simp only [Array.toList_append, List.append_assoc]
      rw [← List.append_assoc, Nat.mul_one, strCells_u8s, ← u8s_app, show (xs ++ s.data.toList).length = (u8s (xs ++ s.data.toList)).length by rw [u8s_len]]
      exact List.take_left
  have room : ∀ (cap : Nat) (cur : Array Value), cur.size = cap → cur.toList.take xs.length = u8s xs → xs.length + s.size ≤ cap →
      (cur.toList.take xs.length ++ Lib.strCells s ++ cur.toList.drop (xs.length + s.size)).toArray.size = cap ∧ ((cur.toList.take xs.length ++ Lib.strCells s ++ cur.toList.drop (xs.length + s.size)).toArray).toList.take (xs ++ s.data.toList).length = u8s (xs ++ s.data.toList) := by
    intro cap cur hsz ht hfit
    constructor
    · simp only [List.size_toArray, List.length_append, List.length_take, List.length_drop, Array.length_toList, Lib.strCells_length]
      omega
    · rw [ht, strCells_u8s, ← u8s_app, show (xs ++ s.data.toList).length = (u8s (xs ++ s.data.toList)).length by rw [u8s_len]]
      exact List.take_left
  rcases h with h | ⟨g, cap, cur, rfl, hh, h1, h2, h3, h4⟩
  · rcases h.2 with ⟨rfl, h0⟩ | ⟨g, cap, cur, rfl, _, hh, hn, hc, hsz, ht⟩
    · obtain rfl : xs = [] := List.eq_nil_of_length_eq_zero h0
      by_cases hs0 : s.size = 0
      · have hsl : s.data.toList = [] := List.eq_nil_of_length_eq_zero (by rw [size_toList]; exact hs0)
        have hr : (Builtin.append_ #[59, 9] ty #[.slice none 0 0, .string s]).run Try.prog w = .ok (.slice none 0 0) w := by
          simp [Builtin.append_, run_underlying Try.underlying59, run_underlying Try.underlying9, sizeOf, typeInfo, hi, Builtin.lenOf, hs0, Builtin.firstCells]
        refine ⟨_, _, hr, .inl ?_, World.grownBy.refl w _, .inl rfl, fun _ => ?_⟩ <;> (rw [hsl]; exact Row.nil w)
      · have hr := run_append_nil_string (P := Try.prog) w 59 9 ty 5 i (.int .u8 0) Try.underlying59 Try.underlying9 hi hz s (by omega) (by omega) (by rw [hby]; omega)
        have hge := grownCap_ge w s.size 0 5
        have hcm2 : grownCap w s.size 0 5 ≤ maxLen := grownCap_le_maxLen w s.size 0 5 (by omega)
        have hrow : Row (w.drew.alloc (.cells (s.data.map (fun b => Value.int .u8 b.toNat) ++ Builtin.zeroCells (Value.int .u8 0).cells (grownCap w s.size 0 5 - s.size)) 5)) (.slice (some ⟨w.heap.size, 0, none⟩) s.size (grownCap w s.size 0 5)) ([] ++ s.data.toList) := by
          rw [List.nil_append]
          refine ⟨by rw [u8s_len, Nat.mul_one], .inr ⟨w.heap.size, _, _, by rw [size_toList], Nat.zero_le _, heap_alloc_new w.drew _, by rw [size_toList]; exact hge, hcm2, ?_, ?_⟩⟩
          · have hz1 : (Value.int IntKind.u8 0).cells.size = 1 := rfl
            have hsd : s.data.size = s.size := rfl
            simp only [Array.size_append, Array.size_map, size_zeroCells, hz1, hsd]
            omega
          · rw [Nat.mul_one, Array.toList_append, Array.toList_map, show s.data.toList.length = (List.map (fun b : UInt8 => Value.int .u8 (b.toNat : Int)) s.data.toList).length by simp]
            exact List.take_left
        exact ⟨_, _, hr, .inl hrow, ⟨rfl, rfl, rfl, by simp, fun k hk _ => Below.heap_alloc w.drew _ k hk⟩, .inr rfl, fun _ => hrow⟩
    · by_cases hroom : xs.length + s.size ≤ cap
      · have hsz' : cur.size = cap := by simpa using hsz
        have ht' : cur.toList.take xs.length = u8s xs := by simpa using ht
        have hr := Lib.run_append_room_string (P := Try.prog) w 59 9 ty 5 i Try.underlying59 Try.underlying9 hi hs1 g xs.length cap cur hh s hroom (by omega)
        obtain ⟨q1, q2⟩ := room cap cur hsz' ht' hroom
        have hrow : Row (w.setRow g (cur.toList.take xs.length ++ Lib.strCells s ++ cur.toList.drop (xs.length + s.size)).toArray) (.slice (some ⟨g, 0, none⟩) (xs.length + s.size) cap) (xs ++ s.data.toList) :=
          ⟨by rw [u8s_len, Nat.mul_one], .inr ⟨g, cap, _, by rw [hlen], Nat.zero_le _, setRow_heap w g cur _ 5 _ hh, by rw [hlen]; exact hroom, hc, by rw [Nat.mul_one]; exact q1, by rw [Nat.mul_one]; exact q2⟩⟩
        exact ⟨_, _, hr, .inl hrow, ⟨rfl, rfl, rfl, by simp, fun k _ hk => setRow_other w g k _ (fun e => hk (by simp [Value.ownBlock, e]))⟩, .inl rfl, fun _ => hrow⟩
      · obtain ⟨v', w', k1, k2, k3, k4⟩ := grow g cap _ cur hh (by simpa using ht) (by omega)
        exact ⟨v', w', k1, .inl k2, k3, .inr k4, fun _ => k2⟩
  · by_cases hroom : xs.length + s.size ≤ cap
    · have hf := Lib.run_firstCells_string (P := Try.prog) w 1 s
      have hst := run_storeCells_mark Try.prog g xs.length 5 cur.size (Lib.strCells s) 0 cur w hh (Nat.le_refl _) (by rw [Lib.strCells_length]; omega) (Lib.strCells_oneCell s)
      simp only [Nat.add_zero, Lib.strCells_length] at hst
      have hr : (Builtin.append_ #[59, 9] ty #[.slice (some ⟨g, 0, none⟩) xs.length cap, .string s]).run Try.prog w = .ok (.slice (some ⟨g, 0, none⟩) (xs.length + s.size) cap) (w.setRow g (cur.toList.take xs.length ++ Lib.strCells s ++ cur.toList.drop (xs.length + s.size)).toArray) := by
        simp [Builtin.append_, run_underlying Try.underlying59, run_underlying Try.underlying9, sizeOf, typeInfo, hi, hs1, Builtin.lenOf, hroom, hf, Addr.add_lit, hst]
      obtain ⟨q1, q2⟩ := room cap cur h3 h4 hroom
      refine ⟨_, _, hr, .inr ⟨g, cap, _, by rw [hlen], ?_, by rw [hlen]; exact hroom, h2, q1, q2⟩, ⟨rfl, rfl, rfl, by simp, fun k _ hk => setRow_other w g k _ (fun e => hk (by simp [Value.ownBlock, e]))⟩, .inl rfl, ?_⟩
      · rw [q1, ← h3]
        exact setRow_heap w g cur _ 5 _ hh
      · intro hR
        rcases hR.2 with ⟨hv, _⟩ | ⟨g', cap', cur', hv, _, hh', _⟩
        · cases hv
        · have hgg : g = g' := by injection hv with hv _ _; injection hv with hv; injection hv
          subst hgg
          rw [hh] at hh'
          injection hh' with hh'
          injection hh' with _ _ hm
          have := congrArg Prod.snd hm
          simp at this
    · obtain ⟨v', w', k1, k2, k3, k4⟩ := grow g cap _ cur hh h4 (by omega)
      exact ⟨v', w', k1, .inl k2, k3, .inr k4, fun _ => k2⟩
end Go.Proofs.Ytjcojgblnbhejaa
