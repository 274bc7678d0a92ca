/- Contents, Write, Sync, Replace, Crash. -/
import Derived.Test.YtjcojgblnbhejaaDC
namespace Go.Proofs.Ytjcojgblnbhejaa
open Go.ChangeShapes Go.WideShapes Go.ChangeAt Go.RowKit
attribute [local go_sem] ownAt ownUpon

structure Fit (s : DS) : Prop where
  lo : 0 ≤ s.sz
  hi : s.sz ≤ 262144
  two : ((s.dur.length + s.app.length : Nat) : Int) ≤ s.sz
  one : (s.fre.length : Int) ≤ s.sz
def cont (s : DS) : List UInt8 := if s.rep then s.fre else s.dur ++ s.app
theorem contents_any (w : World) (g : Nat) (F : List Nat) (s : DS) (h : DiskAt w g F s) (hf : Fit s) : Calls Try.prog 44 #[.pointer (some ⟨g, 0, none⟩)] w (Copied w (cont s)) := by
  obtain ⟨dv, av, fv, h1, h2, h3, h4, _⟩ := h
  obtain ⟨f1, f2, f3, f4⟩ := hf
  unfold cont
  obtain ⟨sz, dur, app, rep, fre, down⟩ := s
  cases rep
  · exact contents_plain w g sz dv av fv down dur app h1 h2 h3 (by simp only at f2 f3; omega)
  · exact contents_rep w g sz dv av fv down fre h1 h4 (by simp only at f2 f4; omega)
theorem row_string {w : World} {v : Value} {xs : List UInt8} (h : Row w v xs) : (convert 59 9 v).run Try.prog w = .ok (.string ⟨xs.toArray⟩) w := by
  obtain ⟨a, cap, rfl, hn, _, hs, _⟩ := RowM.cells (.inl h)
  rcases a with _ | ad
  · obtain rfl : xs = [] := List.eq_nil_of_length_eq_zero (hn rfl)
    exact run_convert_bytes_nil w 59 5 Try.underlying59 Try.underlying5 _ _ _ Try.underlying9
  · refine run_convert_bytes_back w 59 9 5 ad cap xs Try.underlying59 Try.underlying5 Try.underlying9 fun j hj => ?_
    obtain ⟨b, off, hA, _, hc⟩ := hs j hj
    obtain rfl := Option.some.inj hA
    rw [Go.WideShapes.add_plain, hc]
    simp [hj]
theorem contents_nil (w : World) : Calls Try.prog 25 #[.pointer none] w fun e w' => e = .returned (.string ByteArray.empty) ∧ w = w' := by
  go_enter Try.func25, Try.ntmps25
  go_wp2_with (go_at_call 43; refine (ready_nil _).mono ?_; rintro _ _ ⟨rfl, rfl⟩)
  go_ret
  exact ⟨rfl, rfl⟩
def contV (s : DS) : List UInt8 := if rdy s = 0 then cont s else []
theorem Contents_any (w : World) (g : Nat) (F : List Nat) (s : DS) (h : DiskAt w g F s) (hf : Fit s) : Calls Try.prog 25 #[.pointer (some ⟨g, 0, none⟩)] w fun e w' => e = .returned (.string ⟨(contV s).toArray⟩) ∧ Below w.heap.size w w' := by
  have H := Lib.hid (ready_any w g F s h)
  have HC := Lib.hid (contents_any w g F s h hf)
  clear h hf
  unfold contV
  by_cases h0 : rdy s = 0
  · rw [if_pos h0]
    rw [h0] at H
    clear h0
    generalize cont s = xs at *
    go_enter Try.func25, Try.ntmps25
    go_wp2_with (first
      | (go_at_call 43; refine H.out.mono ?_; rintro _ _ ⟨rfl, rfl⟩)
      | (go_at_call 44; refine HC.out.mono ?_; rintro _ w1 ⟨v, rfl, hr, hB, _⟩; have hc := row_string hr; clear hr))
    go_ret
    exact ⟨rfl, hB⟩
  · rw [if_neg h0]
    have e0 : (rdy s != 0) = true := by simpa using h0
    clear h0
    generalize rdy s = r at *
    go_enter Try.func25, Try.ntmps25
    go_wp2_with (go_at_call 43; refine H.out.mono ?_; rintro _ _ ⟨rfl, rfl⟩)
    go_ret
    exact ⟨rfl, Below.refl _ _⟩
end Go.Proofs.Ytjcojgblnbhejaa
