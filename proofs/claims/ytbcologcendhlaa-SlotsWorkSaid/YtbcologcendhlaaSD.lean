/- Slots in memory and in plain words: what a state is, what is good about it; New of the program. -/
import Derived.Test.YtbcologcendhlaaSC
namespace Go.Proofs.Ytbcologcendhlaa
open Go.ChangeShapes Go.WideShapes Go.ChangeAt Go.RowKit
open Go.Maps (Keyed)

/-- Only blocks of the list F, and new ones, have turned. -/
structure Only (F : List Nat) (w w' : World) : Prop where
  os : w'.os = w.os
  tape : w'.tape = w.tape
  output : w'.output = w.output
  size : w.heap.size ≤ w'.heap.size
  block : ∀ k, k < w.heap.size → k ∉ F → w'.heap[k]? = w.heap[k]?
theorem Only.refl (F : List Nat) (w : World) : Only F w w := ⟨rfl, rfl, rfl, Nat.le_refl _, fun _ _ _ => rfl⟩
theorem Only.of_up {F : List Nat} {w w' : World} (h : Below w.heap.size w w') : Only F w w' := ⟨h.os, h.tape, h.output, h.size, fun k hk _ => h.block k hk⟩
theorem Only.trans {F F' : List Nat} {a b c : World} (h : Only F a b) (k : Only F' b c) (hF : ∀ x ∈ F', x ∈ F ∨ a.heap.size ≤ x) : Only F a c :=
  ⟨k.os.trans h.os, k.tape.trans h.tape, k.output.trans h.output, Nat.le_trans h.size k.size, fun i hi hn =>
    (k.block i (Nat.lt_of_lt_of_le hi h.size) (fun hm => by rcases hF i hm with h1 | h1; exact hn h1; omega)).trans (h.block i hi hn)⟩
theorem Only.below {F : List Nat} {w w' : World} {B : Nat} (h : Only F w w') (hB : ∀ x ∈ F, B ≤ x) (hs : B ≤ w.heap.size) : Below B w w' :=
  ⟨h.os, h.tape, h.output, h.size, fun k hk => h.block k (by omega) (fun hm => by have := hB k hm; omega)⟩
theorem Only.set {F : List Nat} {a w : World} (h : Only F a w) {p : Addr} (hp : p.block ∈ F ∨ a.heap.size ≤ p.block) (u : Value) : Only F a (w.setCell p u) :=
  ⟨h.os, h.tape, h.output, by simpa [World.setCell] using h.size, fun k hk hn => (Below.heap_setCell w p u k (fun e => by
    rcases hp with hp | hp
    · exact hn (e ▸ hp)
    · omega)).trans (h.block k hk hn)⟩
theorem Box.only {F : List Nat} {w w' : World} {b : Nat} {t : TypeId} {cs : Array Value} (h : Box w b t cs) (ho : Only F w w') (hb : b ∉ F) : Box w' b t cs := (ho.block b h.lt hb).trans h
theorem only_grown {F : List Nat} {w w' : World} {row : Option Nat} (hg : w.grownBy w' row) (h : ∀ b, row = some b → b ∈ F) : Only F w w' :=
  ⟨hg.os, hg.tape, hg.output, hg.size, fun k hk hn => hg.block k hk (fun e => hn (h k e.symm))⟩
theorem MapA.only {w w' : World} {F : List Nat} {b N : Nat} {f : Key → Option Int} (h : MapA w b N f) (ho : Only F w w') (hb : b ∉ F) : MapA w' b N f := by
  obtain ⟨D, ⟨es, clock, h1, h2⟩, h3⟩ := h
  exact ⟨D, ⟨es, clock, (ho.block b (Array.getElem?_eq_some_iff.1 h1).1 hb).trans h1, h2⟩, h3⟩

structure SS where
  total : Int
  (R U : KL)
def all : Key → Bool := fun _ => true
def useM (U : KL) (s : Key) : Option Int := match look U s with
  | some c => if c = 0 then none else some c
  | none => none
theorem useM_getD (U : KL) (s : Key) : (useM U s).getD 0 = cnt U s := by
  unfold useM cnt
  cases look U s with
  | none => rfl
  | some c =>
    simp only
    split
    · next h => rw [h]; rfl
    · rfl
/-- Slots lie in block p; what is reserved lies in block br, what is used in block bu. -/
def SlotsAt (w : World) (p br bu N : Nat) (st : SS) : Prop :=
  Box w p 53 #[.int .i64 st.total, .int .i64 (st.total - wsum all st.R), .map (some br), .map (some bu)] ∧ MapA w br 32 (look st.R) ∧ MapA w bu N (useM st.U) ∧ br ≠ bu
theorem SlotsAt.up {w w' : World} {p br bu N : Nat} {st : SS} (h : SlotsAt w p br bu N st) (hb : Below w.heap.size w w') : SlotsAt w' p br bu N st := ⟨h.1.next hb, h.2.1.up hb, h.2.2.1.up hb, h.2.2.2⟩
theorem SlotsAt.only {w w' : World} {F : List Nat} {p br bu N : Nat} {st : SS} (h : SlotsAt w p br bu N st) (ho : Only F w w') (h1 : p ∉ F) (h2 : br ∉ F) (h3 : bu ∉ F) : SlotsAt w' p br bu N st := ⟨h.1.only ho h1, h.2.1.only ho h2, h.2.2.1.only ho h3, h.2.2.2⟩
theorem SlotsAt.ne {w : World} {p br bu N : Nat} {st : SS} (h : SlotsAt w p br bu N st) : p ≠ br ∧ p ≠ bu := by
  obtain ⟨h1, ⟨_, ⟨_, _, h2, _⟩, _⟩, ⟨_, ⟨_, _, h3, _⟩, _⟩, _⟩ := h
  unfold Box at h1
  constructor
  · rintro rfl
    rw [h1] at h2
    cases h2
  · rintro rfl
    rw [h1] at h3
    cases h3
structure Conf (total least : Int) (R : KL) : Prop where
  t0 : 0 ≤ total
  t1 : total ≤ 1000000000
  l0 : 0 ≤ least
  l1 : least ≤ total
  len : R.length ≤ 32
  nd : (keys R).Nodup
  ok : ∀ p ∈ R, nameV p.1 = true ∧ 0 ≤ p.2 ∧ p.2 ≤ total
  sum : least + wsum all R ≤ total
theorem chk_ok (total : Int) (R : KL) (sum : Int) (seen : List Key) (h : chk total sum seen R = 0) : (∀ p ∈ R, nameV p.1 = true ∧ 0 ≤ p.2 ∧ p.2 ≤ total ∧ p.1 ∉ seen) ∧ (keys R).Nodup ∧ sum + wsum all R ≤ total := by
  induction R generalizing sum seen with
  | nil =>
    rw [chk] at h
    split at h
    · cases h
    · refine ⟨(fun p hp => by cases hp), List.nodup_nil, ?_⟩
      show sum + 0 ≤ total
      omega
  | cons p R ih =>
    obtain ⟨x, c⟩ := p
    rw [chk] at h
    split at h
    · cases h
    · next h1 =>
      split at h
      · cases h
      · next h2 =>
        split at h
        · cases h
        · next h3 =>
          obtain ⟨k1, k2, k3⟩ := ih _ _ h
          refine ⟨fun p hp => ?_, ?_, ?_⟩
          · rcases List.mem_cons.1 hp with rfl | hp
            · exact ⟨by simpa using h1, by omega, by omega, h2⟩
            · obtain ⟨a1, a2, a3, a4⟩ := k1 p hp
              exact ⟨a1, a2, a3, fun hm => a4 (List.mem_append_left _ hm)⟩
          · simp only [keys, List.map_cons, List.nodup_cons]
            refine ⟨fun hm => ?_, k2⟩
            obtain ⟨p, hp, he⟩ := List.mem_map.1 hm
            exact (k1 p hp).2.2.2 (List.mem_append_right _ (List.mem_singleton.2 he))
          · rw [wsum]
            show sum + ((if true = true then c else 0) + wsum all R) ≤ total
            rw [if_pos rfl]
            omega
theorem check_ok {total least : Int} {R : KL} (h : checkV total least R = 0) : Conf total least R := by
  unfold checkV at h
  split at h
  · cases h
  · next h1 =>
    split at h
    · cases h
    · next h2 =>
      obtain ⟨k1, k2, k3⟩ := chk_ok total R least [] h
      exact ⟨by omega, by omega, by omega, by omega, by omega, k2, fun p hp => ⟨(k1 p hp).1, (k1 p hp).2.1, (k1 p hp).2.2.1⟩, k3⟩
theorem look_snoc {l : KL} {x : Key} {c : Int} (hx : x ∉ keys l) (s : Key) : look (l ++ [(x, c)]) s = if s = x then some c else look l s := by
  induction l with
  | nil =>
    simp only [List.nil_append, look]
    by_cases h : s = x
    · rw [if_pos h, if_pos h.symm]
    · rw [if_neg h, if_neg (fun e => h e.symm)]
  | cons p l ih =>
    obtain ⟨y, d⟩ := p
    simp only [keys, List.map_cons, List.mem_cons, not_or] at hx
    rw [List.cons_append, look, look, ih hx.2]
    by_cases h : y = s
    · rw [if_pos h, if_pos h, if_neg (fun e => hx.1 (e.symm.trans h.symm))]
    · rw [if_neg h, if_neg h]
theorem wsum_snoc (q : Key → Bool) (l : KL) (x : Key) (c : Int) : wsum q (l ++ [(x, c)]) = wsum q l + (if q x then c else 0) := by
  induction l with
  | nil => simp [wsum]
  | cons p l ih =>
    obtain ⟨y, d⟩ := p
    rw [List.cons_append, wsum, wsum, ih]
    omega
/-- What is good about a state. -/
structure Good (least : Int) (st : SS) : Prop where
  conf : Conf st.total least st.R
  un : (keys st.U).Nodup
  uc : ∀ p ∈ st.U, nameV p.1 = true ∧ 0 ≤ p.2
  ur : ∀ s n, look st.R s = some n → cnt st.U s ≤ n
  us : wsum (fun s => (look st.R s).isNone) st.U ≤ st.total - wsum all st.R
theorem Good.made {total least : Int} {R : KL} (h : Conf total least R) : Good least ⟨total, R, []⟩ := by
  refine ⟨h, List.nodup_nil, (fun p hp => by cases hp), fun s n hs => ?_, ?_⟩
  · have := (h.ok _ (look_mem hs)).2.1
    exact this
  · have h1 := h.sum
    have h2 := h.l0
    show (0 : Int) ≤ total - wsum all R
    omega
theorem reserved_le {R U : KL} (hn : (keys R).Nodup) (hu : (keys U).Nodup) (h : ∀ s n, look R s = some n → cnt U s ≤ n) : wsum (fun s => (look R s).isSome) U ≤ wsum all R := by
  induction R with
  | nil =>
    rw [wsum_none (fun _ _ _ => rfl)]
    exact Int.le_refl _
  | cons p R ih =>
    obtain ⟨x, n⟩ := p
    simp only [keys, List.map_cons, List.nodup_cons] at hn
    have hx : look R x = none := look_none hn.1
    have h1 := ih hn.2 (fun s m hs => h s m (by
      have hne : x ≠ s := by
        rintro rfl
        rw [hx] at hs
        cases hs
      rw [look, if_neg hne]
      exact hs))
    have h2 := wsum_add (q := fun s => (look R s).isSome) (r := fun s => (look ((x, n) :: R) s).isSome) hu (s := x) (by rw [hx]; rfl) (fun y hy => by
      rw [look, if_neg (fun e => hy e.symm)])
    have h3 := h x n (by rw [look, if_pos rfl])
    rw [h2, show (look ((x, n) :: R) x).isSome = true by rw [look, if_pos rfl]; rfl, if_pos rfl, wsum]
    show _ ≤ (if true = true then n else 0) + wsum all R
    rw [if_pos rfl]
    omega
theorem Good.total_le {least : Int} {st : SS} (h : Good least st) : wsum all st.U ≤ st.total := by
  have h1 := wsum_split (fun s => (look st.R s).isNone) (fun s => (look st.R s).isSome) st.U (fun p _ => by
    cases look st.R p.1 <;> rfl)
  have h2 := reserved_le h.conf.nd h.un h.ur
  have h3 := h.us
  unfold all at *
  omega
theorem Good.cnt_nonneg {least : Int} {st : SS} (h : Good least st) (s : Key) : 0 ≤ cnt st.U s := by
  unfold cnt
  cases hl : look st.U s with
  | none => exact Int.le_refl _
  | some c => exact (h.uc _ (look_mem hl)).2
theorem Good.nonneg {least : Int} {st : SS} (h : Good least st) : ∀ p ∈ st.U, 0 ≤ p.2 := fun p hp => (h.uc p hp).2
theorem Good.cnt_le {least : Int} {st : SS} (h : Good least st) (s : Key) : cnt st.U s ≤ wsum all st.U := by
  have h1 := wsum_add (q := fun _ => false) (r := fun t => decide (t = s)) h.un (s := s) rfl (fun x hx => by simp [hx])
  rw [wsum_none (q := fun _ => false) (fun _ _ _ => rfl)] at h1
  have h2 := wsum_le (q := fun t => decide (t = s)) (r := all) h.nonneg (fun _ _ => rfl)
  simp at h1
  omega
end Go.Proofs.Ytbcologcendhlaa
