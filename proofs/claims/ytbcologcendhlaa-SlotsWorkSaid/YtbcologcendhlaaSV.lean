/- The reference's slots in memory; reserve and user: the walks. -/
import Derived.Test.YtbcologcendhlaaSS
namespace Go.Proofs.Ytbcologcendhlaa
open Go.ChangeShapes Go.WideShapes Go.ChangeAt Go.RowKit

structure RefS (w : World) (r : Nat) (A2 : Option Addr) (c2 : Nat) (v3 : Value) (st : SS) : Prop where
  box : Box w r 56 #[.bool true, .int .i64 st.total, .slice A2 st.R.length c2, v3]
  res : Seg w A2 (st.R.length * 2) (rCell st.R)
  own : w.ownsRow 0 59 2 v3 st.U.length (rV st.U)
theorem RefS.up {w w' : World} {r : Nat} {A2 : Option Addr} {c2 : Nat} {v3 : Value} {st : SS} (h : RefS w r A2 c2 v3 st) (hb : Below w.heap.size w w') : RefS w' r A2 c2 v3 st := ⟨h.box.next hb, h.res.next hb, own_up h.own hb⟩
def idx : KL → Key → Option Nat
  | [], _ => none
  | (x, _) :: l, s => if x = s then some 0 else (idx l s).map (· + 1)
def idxI (l : KL) (s : Key) : Int := match idx l s with
  | some i => i
  | none => -1
theorem idx_none {l : KL} {s : Key} (h : idx l s = none) : look l s = none ∧ ∀ d, bump l s d = l ++ [(s, d)] := by
  induction l with
  | nil => exact ⟨rfl, fun d => rfl⟩
  | cons p l ih =>
    obtain ⟨x, c⟩ := p
    rw [idx] at h
    split at h
    · cases h
    · next hx =>
      have h2 : idx l s = none := by
        cases hi : idx l s with
        | none => rfl
        | some i => rw [hi] at h; cases h
      obtain ⟨h3, h4⟩ := ih h2
      refine ⟨by rw [look, if_neg hx]; exact h3, fun d => ?_⟩
      rw [bump, if_neg hx, h4]
      rfl
theorem idx_some {l : KL} {s : Key} {i : Nat} (h : idx l s = some i) : i < l.length ∧ l.getD i ([], 0) = (s, cnt l s) ∧ look l s = some (cnt l s) ∧ ∀ d, bump l s d = l.set i (s, cnt l s + d) := by
  induction l generalizing i with
  | nil => cases h
  | cons p l ih =>
    obtain ⟨x, c⟩ := p
    rw [idx] at h
    split at h
    · next hx =>
      obtain rfl := Option.some.inj h
      subst hx
      have hc : cnt ((x, c) :: l) x = c := by unfold cnt; rw [look, if_pos rfl]; rfl
      refine ⟨by simp, ?_, ?_, fun d => ?_⟩
      · rw [hc]; rfl
      · rw [hc, look, if_pos rfl]
      · rw [hc, bump, if_pos rfl]; rfl
    · next hx =>
      cases hi : idx l s with
      | none => rw [hi] at h; cases h
      | some j =>
        rw [hi] at h
        obtain rfl := Option.some.inj h
        obtain ⟨h1, h2, h3, h4⟩ := ih hi
        have hc : cnt ((x, c) :: l) s = cnt l s := by unfold cnt; rw [look, if_neg hx]
        refine ⟨by simp only [List.length_cons]; omega, ?_, ?_, fun d => ?_⟩
        · rw [hc]; exact h2
        · rw [hc, look, if_neg hx]; exact h3
        · rw [hc, bump, if_neg hx, h4]; rfl
theorem idx_drop (l : KL) (s : Key) (k : Nat) (hk : k < l.length) (h : idx l s = (idx (l.drop k) s).map (· + k)) :
    ((l.getD k ([], 0)).1 = s → idx l s = some k) ∧ ((l.getD k ([], 0)).1 ≠ s → idx l s = (idx (l.drop (k + 1)) s).map (· + (k + 1))) := by
  rw [drop_getD l k hk] at h
  generalize l.getD k ([], 0) = e at *
  obtain ⟨x, c⟩ := e
  rw [idx] at h
  refine ⟨fun hx => ?_, fun hx => ?_⟩
  · rw [h, if_pos hx]
    simp
  · rw [h, if_neg hx, Option.map_map]
    congr 1
    funext j
    show j + 1 + k = j + (k + 1)
    omega
def IdxRel (l : KL) (s : Key) (w : World) (i : Value) (wr : World) : Prop := ∃ k : Nat, i = .int .i64 k ∧ k ≤ l.length ∧ w = wr ∧ idx l s = (idx (l.drop k) s).map (· + k)
theorem rres_any (w : World) (r : Nat) (A2 : Option Addr) (c2 : Nat) (v3 : Value) (st : SS) (s : Key) (h : RefS w r A2 c2 v3 st) (hm : (st.R.length : Int) ≤ 1000000) : Calls Try.prog 32 #[.pointer (some ⟨r, 0, none⟩), .string (bs s)] w fun e w' => e = .returned (.int .i64 (idxI st.R s)) ∧ w = w' := by
  have HSG := Lib.hid h.res
  have c2 := h.box.cell 2 _ rfl
  clear h
  go_enter Try.func32, Try.ntmps32
  go_wp2
  go_loopw [11] (IdxRel st.R s w) (fun i _ => st.R.length - (intOf i).toNat)
  case atStart => exact ⟨0, rfl, by omega, rfl, by rw [List.drop_zero]; cases idx st.R s <;> rfl⟩
  case round =>
  obtain ⟨k, rfl, hk, rfl, hv⟩ := hrel
  by_cases hlt : k < st.R.length
  · obtain ⟨b1, o1, rfl, hb1, q0, _⟩ := rseg HSG.out k hlt
    obtain ⟨hv1, hv2⟩ := idx_drop st.R s k hlt hv
    generalize (st.R.getD k ([], 0)).1 = x at *
    by_cases hx : x = s
    · have hr : idxI st.R s = k := by unfold idxI; rw [hv1 hx]
      subst hx
      have HQ := Lib.hid hr
      clear hv hv1 hv2 hr
      go_wp2
      go_ret
      rw [HQ.out]
      exact ⟨rfl, rfl⟩
    · have hne : ((bs x).toList == (bs s).toList) = false := by rw [bs_same]; exact decide_eq_false hx
      have HV := Lib.hid (hv2 hx)
      clear hv hv1 hv2 hx
      go_wp2
      go_roundw
      case rel => exact ⟨k + 1, by go_num, by omega, rfl, HV.out⟩
      case measure => simp [intOf]; omega
  · obtain rfl : k = st.R.length := by omega
    have hr : idxI st.R s = -1 := by unfold idxI; rw [hv, List.drop_length]; rfl
    have HQ := Lib.hid hr
    clear hv hr
    go_wp2
    go_ret
    rw [HQ.out]
    exact ⟨rfl, rfl⟩
theorem ruser_any (w : World) (r : Nat) (A2 : Option Addr) (c2 : Nat) (v3 : Value) (st : SS) (s : Key) (h : RefS w r A2 c2 v3 st) (hm : (st.U.length : Int) ≤ 1000000) : Calls Try.prog 30 #[.pointer (some ⟨r, 0, none⟩), .string (bs s)] w fun e w' => e = .returned (.int .i64 (idxI st.U s)) ∧ w = w' := by
  obtain ⟨A3, c3, rfl, hs3, _, _⟩ := own_seg h.own (fun j hj => rV_get _ j hj)
  have HSG := Lib.hid hs3
  have c3 := h.box.cell 3 _ rfl
  clear h hs3
  go_enter Try.func30, Try.ntmps30
  go_wp2
  go_loopw [11] (IdxRel st.U s w) (fun i _ => st.U.length - (intOf i).toNat)
  case atStart => exact ⟨0, rfl, by omega, rfl, by rw [List.drop_zero]; cases idx st.U s <;> rfl⟩
  case round =>
  obtain ⟨k, rfl, hk, rfl, hv⟩ := hrel
  by_cases hlt : k < st.U.length
  · obtain ⟨b1, o1, rfl, hb1, q0, _⟩ := rseg HSG.out k hlt
    obtain ⟨hv1, hv2⟩ := idx_drop st.U s k hlt hv
    generalize (st.U.getD k ([], 0)).1 = x at *
    by_cases hx : x = s
    · have hr : idxI st.U s = k := by unfold idxI; rw [hv1 hx]
      subst hx
      have HQ := Lib.hid hr
      clear hv hv1 hv2 hr
      go_wp2
      go_ret
      rw [HQ.out]
      exact ⟨rfl, rfl⟩
    · have hne : ((bs x).toList == (bs s).toList) = false := by rw [bs_same]; exact decide_eq_false hx
      have HV := Lib.hid (hv2 hx)
      clear hv hv1 hv2 hx
      go_wp2
      go_roundw
      case rel => exact ⟨k + 1, by go_num, by omega, rfl, HV.out⟩
      case measure => simp [intOf]; omega
  · obtain rfl : k = st.U.length := by omega
    have hr : idxI st.U s = -1 := by unfold idxI; rw [hv, List.drop_length]; rfl
    have HQ := Lib.hid hr
    clear hv hr
    go_wp2
    go_ret
    rw [HQ.out]
    exact ⟨rfl, rfl⟩
end Go.Proofs.Ytbcologcendhlaa
