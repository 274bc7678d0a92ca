/- The program's table of shifted bytes, and its checksum. -/
import Derived.Test.YtjcojgblnbhejaaQ
import Derived.Deep.MidRow
namespace Go.Proofs.Ytjcojgblnbhejaa
open Go.ChangeShapes Go.WideShapes Go.ChangeAt Go.RowKit

def tabArr (k : Nat) : Array Value := ((List.range 256).map fun i => Value.int .u32 ((if i < k then shN 8 i else 0 : Nat) : Int)).toArray
theorem tabArr_get (k j : Nat) (h : j < 256) : (tabArr k)[j]? = some (.int .u32 ((if j < k then shN 8 j else 0 : Nat) : Int)) := by
  simp [tabArr, h]
theorem tabArr_set (k : Nat) (h : k < 256) : (tabArr k).setIfInBounds k (.int .u32 ((shN 8 k : Nat) : Int)) = tabArr (k + 1) := by
  apply Array.ext_getElem?
  intro j
  rw [Array.getElem?_setIfInBounds]
  by_cases hj : j < 256
  · by_cases e : k = j
    · subst e
      rw [if_pos rfl, if_pos (by simp [tabArr, hj]), tabArr_get _ _ hj, if_pos (by omega)]
    · rw [if_neg e, tabArr_get _ _ hj, tabArr_get _ _ hj]
      by_cases h2 : j < k
      · rw [if_pos h2, if_pos (by omega)]
      · rw [if_neg h2, if_neg (by omega)]
  · rw [if_neg (by omega)]
    simp [tabArr, hj]
theorem tab_zero : (Try.prog.info? 77).map (fun i => (i.zero, i.size)) = some (some (.agg (tabArr 0)), 256) := by kernel_rfl
theorem results_cell {P : Program} {fn : Func} {tmps : Array Value} {a t : Nat} {p : Addr} {v : Value} {w : World} (hf : fn.results = #[.cell a t]) (hp : tmps.getD a undef = .pointer (some p)) (hl : (loadVar t p).run P w = .ok v w) : (results fn tmps).run P w = .ok v w := by
  simp only [Array.getD_eq_getD_getElem?] at hp
  simp [results, hf, hp, hl, asAddr]
theorem below_setCells {B b : Nat} {a : World} : ∀ (vs : List Value) (o : Nat) (w : World), Below B a w → B ≤ b → Below B a (w.setCells b o vs)
  | [], _, _, h, _ => h
  | v :: vs, o, _w, h, hb => below_setCells vs (o + 1) _ (h.setCell (p := ⟨b, o, none⟩) hb v) hb
theorem tab_size : (Try.prog.info? 77).map (·.size) = some 256 := by kernel_rfl
theorem tab_zero_run (w : World) : (zeroValue 77).run Try.prog w = .ok (.agg (tabArr 0)) w := by
  have h := tab_zero
  cases hi : Try.prog.info? 77 with
  | none => rw [hi] at h; cases h
  | some i =>
    rw [hi] at h
    simp only [Option.map_some, Option.some.injEq, Prod.mk.injEq] at h
    simp [zeroValue, typeInfo, hi, h.1]
def TabRel (w : World) (i : Value) (wr : World) : Prop := ∃ k : Nat, i = .int .i64 k ∧ k ≤ 256 ∧ Box wr w.heap.size 77 (tabArr 0) ∧ Box wr (w.heap.size + 1) 77 (tabArr k) ∧ Below w.heap.size w wr
set_option maxHeartbeats 1000000 in
theorem table_any (w : World) : Calls Try.prog 61 #[] w fun e w' => e = .returned (.agg (tabArr 256)) ∧ Below w.heap.size w w' := by
  have hz := tab_zero_run w
  have HT := Lib.hid (And.intro Try.underlying77 tab_size)
  have hz2 := tab_zero_run (w.alloc (.cells (tabArr 0) 77))
  go_enter Try.func61, Try.ntmps61
  go_upto_region 2 with fail
  clear hz hz2
  refine wp_forget (fun W => Box W w.heap.size 77 (tabArr 0) ∧ Box W (w.heap.size + 1) 77 (tabArr 0) ∧ Below w.heap.size w W)
    ⟨(Box.new w _ _).alloc _, by have h := Box.new (w.alloc (.cells (tabArr 0) 77)) 77 (tabArr 0); simpa only [World.size_alloc] using h, below_box (below_box (Below.refl _ _) _) _⟩ ?_
  rintro w1 ⟨R, O, hB⟩
  go_wp2
  go_loopw [5] (TabRel w) (fun i _ => 256 - (intOf i).toNat)
  case atStart => exact ⟨0, rfl, by omega, R, O, hB⟩
  case round =>
    clear R O hB
    obtain ⟨k, rfl, hk, R, O, hB⟩ := hrel
    by_cases hlt : k < 256
    · have hk2 : (k : Int) < 256 := by omega
      have lO := O.lt
      go_wp2
      go_loopw [10, 3] (ShRel k wr) (fun i _ _ => 8 - (intOf i).toNat)
      case atStart => exact ⟨0, k, rfl, rfl, by omega, by omega, rfl, rfl⟩
      case round =>
        obtain ⟨j, v, rfl, rfl, hv, hj, hsh, rfl⟩ := hrel
        by_cases hj8 : j < 8
        · have hand := u32_and_nat v 1 (by omega) (by decide)
          rw [nat_mask1] at hand
          have hn : shN (8 - (j + 1)) (sh v) = shN 8 k := by rw [← hsh, show 8 - j = (8 - (j + 1)) + 1 by omega]; rfl
          have hvl := sh_lt v (by omega)
          have hj2 : (j : Int) < 8 := by omega
          have hv2 : (v : Int) / 2 = ((v / 2 : Nat) : Int) := by omega
          by_cases ho : v % 2 = 1
          · have h1 : bits BinOp.and IntKind.u32 (v : Int) 1 = 1 := by rw [ho] at hand; exact hand
            have hxp : bits BinOp.xor IntKind.u32 ((v : Int) / 2) 3988292384 = ((v / 2 ^^^ poly : Nat) : Int) := by rw [hv2]; exact u32_xor_nat (v / 2) 3988292384 (by omega) (by decide)
            have hsv : sh v = v / 2 ^^^ poly := if_pos ho
            rw [hsv] at hn hvl
            have HXP := Lib.hid hxp
            clear hand ho hv2 hsv hxp
            go_wp2
            go_roundw
            case rel => exact ⟨j + 1, v / 2 ^^^ poly, by go_num, congrArg (Value.int .u32) HXP.out, hvl, by omega, hn, rfl⟩
            case measure => simp [intOf]; omega
          · have h1 : bits BinOp.and IntKind.u32 (v : Int) 1 = 0 := by rw [show v % 2 = 0 by omega] at hand; exact hand
            have hsv : sh v = v / 2 := if_neg ho
            rw [hsv] at hn hvl
            have HV2 := Lib.hid hv2
            clear hand ho hv2 hsv
            go_wp2
            go_roundw
            case rel => exact ⟨j + 1, v / 2, by go_num, congrArg (Value.int .u32) HV2.out, hvl, by omega, hn, rfl⟩
            case measure => simp [intOf]; omega
        · obtain rfl : j = 8 := by omega
          simp only [Nat.sub_self, shN] at hsh
          subst hsh
          have cO := O.cell k _ (tabArr_get k k hlt)
          have fO := O.frozen k
          have HS := Lib.hid (tabArr_set k hlt)
          go_wp2
          go_roundw
          case rel => exact ⟨k + 1, by go_num, by omega, R.far (by simp only []; omega) _, (O.set k _).eq_ HS.out, hB.setCell (by simp only []; omega) _⟩
          case measure => simp [intOf]; omega
    · obtain rfl : k = 256 := by omega
      have lO := O.lt
      have lR := R.lt
      go_upto_region 15 with fail
      obtain ⟨hu, hi⟩ := HT.out
      have hsz : (tabArr 256).size = 256 := by simp [tabArr]
      have hrg : wr.rangeAt (w.heap.size + 1) 0 (tabArr 256).toList := fun j v hv => by rw [Nat.zero_add]; exact O.cell j v (by rw [← hv]; simp)
      have hth : wr.there w.heap.size 0 (tabArr 256).size := fun j hj => by
        rw [Nat.zero_add]
        exact ⟨by rw [R.cell j _ (tabArr_get 0 j (by omega))]; rfl, R.frozen j⟩
      have h1 : (tabArr 256).all (·.oneCell') = true := by
        apply Array.all_eq_true_iff_forall_mem.2
        intro v hv
        simp only [tabArr, List.mem_toArray, List.mem_map] at hv
        obtain ⟨i, _, rfl⟩ := hv
        rfl
      refine wp_region_list ?_
      refine wpList_load_mid rfl 77 (.tmp 1) rfl (w.heap.size + 1) 0 rfl (tabArr 256).toList _ hrg hu rfl (by rw [hi]; simp [hsz]) ?_
      refine wpList_store_mid rfl 77 (.tmp 0) (.tmp 25) rfl w.heap.size 0 (tabArr 256) rfl (by rfl) hth (by rw [hi, hsz]) h1 ?_
      refine wpList_nil ?_
      have hlen : (tabArr 256).toList.length = 256 := by simp [hsz]
      have hth' : wr.there w.heap.size 0 (tabArr 256).toList.length := by rw [hlen, ← hsz]; exact hth
      have hrg2 := World.rangeAt_setCells_same wr w.heap.size 0 (tabArr 256).toList hth'
      have hld := run_loadVar_mid (P := Try.prog) (wr.setCells w.heap.size 0 (tabArr 256).toList) w.heap.size 0 77 (tabArr 256).toList _ hrg2 hu rfl (by rw [hi, hlen])
      simp only [Exit.then]
      rename_i hK
      refine hK _ _ (wp_ret ?_)
      refine bodyPost_ret (v := .agg (tabArr 256)) ?_ rfl ⟨rfl, ?_⟩
      · rw [Array.toArray_toList] at hld
        exact results_cell (a := 0) (t := 77) rfl rfl hld
      · exact below_setCells _ _ _ hB (Nat.le_refl _)
end Go.Proofs.Ytjcojgblnbhejaa
