/- What a disk holds under a log: records that are durable, and records behind them; in plain words. -/
import Derived.Test.YtjcojgblnbhejaaWF
namespace Go.Proofs.Ytjcojgblnbhejaa

theorem joinL_app (a b : List (List UInt8)) : joinL (a ++ b) = joinL a ++ joinL b := by simp [joinL]
theorem joinL_one (b : List UInt8) : joinL [b] = sealL b := by simp [joinL]
theorem joinL_ge (l : List (List UInt8)) : l.length ≤ (joinL l).length := by
  induction l with
  | nil => exact Nat.le_refl _
  | cons b l ih =>
    have hj : joinL (b :: l) = sealL b ++ joinL l := by simp [joinL]
    rw [hj, List.length_append, sealL_len, List.length_cons]
    omega
theorem split_count (s : List UInt8) : (splitV s).1.length ≤ s.length := by
  obtain ⟨_, h2, _⟩ := split_parts s
  have h3 := joinL_ge (splitV s).1
  have := split_le s
  omega
theorem recs_count (s : DS) (hf : Fit s) : (recs s).length ≤ 262144 := Nat.le_trans (split_count _) (contV_len s hf)
theorem write_fit {s s' : DS} {t : List UInt8} {er : Int} (hf : Fit s) (h : writeV s t = (er, s')) : Fit s' ∧ s'.sz = s.sz := by
  have := doV_fit s 0 t 0 hf
  rw [show doV s 0 t 0 = writeV s t by rfl, h] at this
  exact this
theorem sync_fit {s s' : DS} {er : Int} (hf : Fit s) (h : syncV s = (er, s')) : Fit s' ∧ s'.sz = s.sz := by
  have := doV_fit s 1 [] 0 hf
  rw [show doV s 1 [] 0 = syncV s by rfl, h] at this
  exact this
theorem crash_fit {s s' : DS} {er k : Int} (hf : Fit s) (h : crashV s k = (er, s')) : Fit s' ∧ s'.sz = s.sz := by
  have := doV_fit s 3 [] k hf
  rw [show doV s 3 [] k = crashV s k by rfl, h] at this
  exact this
theorem restart_fit {s s' : DS} {er : Int} (hf : Fit s) (h : restartV s = (er, s')) : Fit s' ∧ s'.sz = s.sz := by
  have := doV_fit s 4 [] 0 hf
  rw [show doV s 4 [] 0 = restartV s by rfl, h] at this
  exact this
theorem append_fit {s s' : DS} {t : List UInt8} {er : Int} (hf : Fit s) (h : appendV s t = (er, s')) : Fit s' ∧ s'.sz = s.sz := by
  unfold appendV at h
  split at h
  · exact write_fit hf h
  · injection h with _ h
    subst h
    exact ⟨hf, rfl⟩
theorem replace_fit {s : DS} {t : List UInt8} (hf : Fit s) : Fit (replaceV s t).2 ∧ (replaceV s t).2.sz = s.sz := by
  have := doV_fit s 2 t 0 hf
  rwa [show doV s 2 t 0 = replaceV s t by rfl] at this
theorem repl_fit {s s' : DS} {t : List UInt8} {er : Int} (hf : Fit s) (h : replV s t = (er, s')) : Fit s' ∧ s'.sz = s.sz := by
  obtain ⟨h1, h2⟩ := replace_fit (t := t) hf
  unfold replV at h
  split at h
  · obtain ⟨h3, h4⟩ := sync_fit h1 h
    exact ⟨h3, h4.trans h2⟩
  · rw [h] at h1 h2
    exact ⟨h1, h2⟩
theorem compact_fit {s s' : DS} {t : List UInt8} {er : Int} (hf : Fit s) (h : compactV s t = (er, s')) : Fit s' ∧ s'.sz = s.sz := by
  unfold compactV at h
  split at h
  · exact repl_fit hf h
  · injection h with _ h
    subst h
    exact ⟨hf, rfl⟩
/- what stays up -/
theorem write_down {s s' : DS} {t : List UInt8} {er : Int} (h : writeV s t = (er, s')) : s'.down = s.down := by
  unfold writeV at h
  split at h
  · split at h
    · split at h <;> (injection h with _ h; subst h; rfl)
    · injection h with _ h; subst h; rfl
  · injection h with _ h; subst h; rfl
theorem sync_down {s s' : DS} {er : Int} (h : syncV s = (er, s')) : s'.down = s.down := by
  unfold syncV at h
  split at h <;> (injection h with _ h; subst h; rfl)
theorem replace_down (s : DS) (t : List UInt8) : (replaceV s t).2.down = s.down := by
  unfold replaceV
  split
  · split <;> rfl
  · rfl
theorem repl_down {s s' : DS} {t : List UInt8} {er : Int} (h : replV s t = (er, s')) : s'.down = s.down := by
  have h1 := replace_down s t
  unfold replV at h
  split at h
  · exact (sync_down h).trans h1
  · rw [h] at h1
    exact h1
theorem append_down {s s' : DS} {t : List UInt8} {er : Int} (h : appendV s t = (er, s')) : s'.down = s.down := by
  unfold appendV at h
  split at h
  · exact write_down h
  · injection h with _ h; subst h; rfl
theorem compact_down {s s' : DS} {t : List UInt8} {er : Int} (h : compactV s t = (er, s')) : s'.down = s.down := by
  unfold compactV at h
  split at h
  · exact repl_down h
  · injection h with _ h; subst h; rfl

/-- The disk is up, holds the records d durably and the records a behind them. -/
structure Holds (s : DS) (d a : List (List UInt8)) : Prop where
  rep : s.rep = false
  down : s.down = false
  dur : s.dur = joinL d
  app : s.app = joinL a
  len : ∀ b ∈ d ++ a, b.length ≤ 262136
  sz : 1 ≤ s.sz
  fit : Fit s
theorem Holds.cont {s : DS} {d a : List (List UInt8)} (h : Holds s d a) : cont s = joinL (d ++ a) := by
  unfold Go.Proofs.Ytjcojgblnbhejaa.cont
  rw [h.rep, h.dur, h.app, joinL_app]
  rfl
theorem Holds.contV {s : DS} {d a : List (List UInt8)} (h : Holds s d a) : contV s = joinL (d ++ a) := by
  rw [contV_up s h.sz h.down, h.cont]
theorem Holds.recs {s : DS} {d a : List (List UInt8)} (h : Holds s d a) : recs s = d ++ a := by
  unfold Go.Proofs.Ytjcojgblnbhejaa.recs
  rw [h.contV, split_join _ h.len]
theorem Holds.durs {s : DS} {d a : List (List UInt8)} (h : Holds s d a) : durs s = d := by
  unfold Go.Proofs.Ytjcojgblnbhejaa.durs
  rw [h.contV, h.dur, joinL_app, List.take_left' rfl, split_join _ (fun b hb => h.len b (List.mem_append_left _ hb))]
theorem Holds.opened {s : DS} {d a : List (List UInt8)} (h : Holds s d a) : opened s = s := by
  refine if_neg ?_
  rw [h.cont, split_join _ h.len]
  exact Nat.lt_irrefl _
theorem Holds.made (sz : Int) (h1 : 1 ≤ sz) (h2 : sz ≤ 262144) : Holds ⟨sz, [], [], false, [], false⟩ [] [] :=
  ⟨rfl, rfl, rfl, rfl, (fun b hb => by cases hb), h1, ⟨by show 0 ≤ sz; omega, h2, by show ((0 + 0 : Nat) : Int) ≤ sz; omega, by show ((0 : Nat) : Int) ≤ sz; omega⟩⟩
theorem Holds.append {s : DS} {d a : List (List UInt8)} (h : Holds s d a) (b : List UInt8) (hb : b.length ≤ 262136) (hl : (((joinL (d ++ a)).length + 8 + b.length : Nat) : Int) ≤ s.sz) : ∃ s', appendV s b = (0, s') ∧ Holds s' d (a ++ [b]) ∧ s'.sz = s.sz := by
  have h1 : sealV b = (sealL b, 0) := if_pos hb
  have h2 : appendV s b = writeV s (sealL b) := by
    unfold appendV
    rw [h1, if_pos rfl]
  have h3 : writeV s (sealL b) = (0, { s with app := s.app ++ sealL b }) := by
    unfold writeV
    rw [if_pos (rdy_up s h.sz h.down), if_pos (show (((Go.Proofs.Ytjcojgblnbhejaa.cont s).length : Int) + ((sealL b).length : Int) ≤ s.sz) by rw [h.cont, sealL_len]; omega), h.rep, if_neg (by decide)]
  refine ⟨_, h2.trans h3, ⟨h.rep, h.down, h.dur, ?_, ?_, h.sz, (write_fit h.fit h3).1⟩, rfl⟩
  · show s.app ++ sealL b = joinL (a ++ [b])
    rw [h.app, joinL_app, joinL_one]
  · intro x hx
    rw [← List.append_assoc] at hx
    rcases List.mem_append.1 hx with hx | hx
    · exact h.len x hx
    · rw [List.mem_singleton.1 hx]; exact hb
/-- An append that succeeds or not. -/
theorem Holds.appends {s : DS} {d a : List (List UInt8)} (h : Holds s d a) (b : List UInt8) : ∃ er s' a', appendV s b = (er, s') ∧ Holds s' d a' := by
  by_cases hb : b.length ≤ 262136
  · by_cases hl : (((joinL (d ++ a)).length + 8 + b.length : Nat) : Int) ≤ s.sz
    · obtain ⟨s', h1, h2, _⟩ := h.append b hb hl
      exact ⟨_, _, _, h1, h2⟩
    · refine ⟨3, s, a, ?_, h⟩
      have h1 : sealV b = (sealL b, 0) := if_pos hb
      unfold appendV
      rw [h1, if_pos rfl]
      unfold writeV
      rw [if_pos (rdy_up s h.sz h.down), if_neg (show ¬ (((Go.Proofs.Ytjcojgblnbhejaa.cont s).length : Int) + ((sealL b).length : Int) ≤ s.sz) by rw [h.cont, sealL_len]; omega)]
  · have h1 : sealV b = ([], 3) := if_neg hb
    refine ⟨3, s, a, ?_, h⟩
    unfold appendV
    rw [h1, if_neg (by decide)]
theorem Holds.sync {s : DS} {d a : List (List UInt8)} (h : Holds s d a) : ∃ s', syncV s = (0, s') ∧ Holds s' (d ++ a) [] ∧ s'.sz = s.sz := by
  have h3 : syncV s = (0, ⟨s.sz, Go.Proofs.Ytjcojgblnbhejaa.cont s, [], false, [], s.down⟩) := by
    unfold syncV
    rw [if_pos (rdy_up s h.sz h.down)]
  exact ⟨_, h3, ⟨rfl, h.down, h.cont, rfl, (fun x hx => h.len x (by rwa [List.append_nil] at hx)), h.sz, (sync_fit h.fit h3).1⟩, rfl⟩
theorem Holds.compact {s : DS} {d a : List (List UInt8)} (h : Holds s d a) (b : List UInt8) (hb : b.length ≤ 262136) (hl : ((8 + b.length : Nat) : Int) ≤ s.sz) : ∃ s', compactV s b = (0, s') ∧ Holds s' [b] [] ∧ s'.sz = s.sz := by
  have h1 : sealV b = (sealL b, 0) := if_pos hb
  have h3 := replV_yes s (sealL b) h.sz h.down (by rw [sealL_len]; exact hl)
  have h2 : compactV s b = replV s (sealL b) := by
    unfold compactV
    rw [h1, if_pos rfl]
  exact ⟨_, h2.trans h3, ⟨rfl, h.down, (joinL_one b).symm, rfl, (fun x hx => by
    have hx' : x = b := by simpa using hx
    rw [hx']
    exact hb), h.sz, (repl_fit h.fit h3).1⟩, rfl⟩
theorem Holds.crash {s : DS} {d a : List (List UInt8)} (h : Holds s d a) (k : Int) (hk : 0 ≤ k) : crashV s k = (0, ⟨s.sz, joinL d ++ (joinL a).take k.toNat, [], false, [], true⟩) := by
  unfold crashV
  rw [if_pos (rdy_up s h.sz h.down), if_neg (by omega), h.dur, h.app]
theorem restart_yes (sz : Int) (x : List UInt8) (hz : 1 ≤ sz) : restartV ⟨sz, x, [], false, [], true⟩ = (0, ⟨sz, x, [], false, [], false⟩) := by
  unfold restartV
  rw [if_pos (by
    unfold rdy
    rw [if_neg (by show ¬ sz = 0; omega)]
    rfl)]
theorem recs_opened (s : DS) (hf : Fit s) (hz : 1 ≤ s.sz) (hd : s.down = false) : recs (opened s) = (splitV (cont s)).1 := by
  obtain ⟨_, h2, h3⟩ := opened_fit s hf hd
  unfold recs
  rw [contV_up _ (by omega) h3, opened_cont, split_again]
theorem opened_again (s : DS) : opened (opened s) = opened s := by
  refine if_neg ?_
  rw [opened_cont, split_again, List.length_take]
  omega
/-- What a crash, a restart and Open leave of the records. -/
theorem crashed (d a : List (List UInt8)) (k : Nat) (h : ∀ b ∈ d ++ a, b.length ≤ 262136) : ∃ a' m, a = a' ++ m ∧ (splitV (joinL d ++ (joinL a).take k)).1 = d ++ a' := by
  obtain ⟨m, hm⟩ := split_pre ((joinL a).take k) ((joinL a).drop k)
  rw [List.take_append_drop, split_join a (fun b hb => h b (List.mem_append_right _ hb))] at hm
  refine ⟨_, m, hm, ?_⟩
  rw [split_app d _ (fun b hb => h b (List.mem_append_left _ hb))]
end Go.Proofs.Ytjcojgblnbhejaa
