/- tableauref00: WideLongs, SpareLongs, EqLongs. tableauref00: WideInts, SpareInts, EqInts. Lists of texts in memory. No program's function in sight. Packs: their content; which one may be written, and run. No program's function in sight. Packs in memory: effects, kinds, packs as rows of cells. No program's function in sight. tableauref00: WideEffect, SpareEffect, EqEffect. tableauref00: WideEffects, SpareEffects, EqEffects. tableauref00: WideKind, SpareKind, EqKind. tableauref00: WideKinds, SpareKinds, EqKinds. -/
import Derived.Deep.RegionHeld3
import Derived.Deep.QuietTactic
import Derived.BigQuiet
import Derived.Test.YtabpheanbomibaaGreatDoorAll
import Derived.Test.YtabpheanbomibaaGreatDoorSmall
import Derived.Test.YtabpheanbomibaaGreatDoorWideB
import Derived.Test.YtabpheanbomibaaGreatDoorWideS
import Derived.Test.YtabpheanbomibaaGreatDoorWidths
namespace Go.Proofs.YtabpheanbomibaaGreatDoor
open Go.RowKit
set_option linter.unusedVariables false

theorem info_longsw : (Tryz.prog.info? 2).map (fun i => (i.zero, i.size, i.bytes)) = some (some (.int .i64 0), 1, 8) := by kernel_rfl
def longVs (l : List Int) : List Value := l.map (Value.int .i64)
def markL (i : Nat) : Int := numV 9 (i : Int)
/-- What stands in the wide list behind so many of its bytes. -/
def wideL (l : List Int) : List Int := l ++ (List.range 64).map fun j => markL (l.length + j)
theorem wideL_len (l : List Int) : (wideL l).length = l.length + 64 := by simp [wideL]
theorem wideL_left {l : List Int} {i : Nat} (h : i < l.length) : (wideL l)[i]? = l[i]? := List.getElem?_append_left h
theorem wideL_right {l : List Int} {i : Nat} (h : l.length ≤ i) (h2 : i < l.length + 64) : (wideL l)[i]? = some (markL i) := by
  unfold wideL
  rw [List.getElem?_append_right h, List.getElem?_map, List.getElem?_range (by omega)]
  show some (markL (l.length + (i - l.length))) = _
  congr 2
  omega
theorem made_longs (K : Nat) : madeCells #[Value.int .i64 0] K = (longVs (List.replicate K 0)).toArray := by
  have := toList_madeCells_one (.int .i64 0) K
  rw [← Array.toArray_toList (xs := madeCells #[Value.int .i64 0] K), this]
  simp [longVs]
theorem longs_set {l : List Int} {i : Nat} {v : Int} {K : Nat} (h : i < K) (hl : K ≤ l.length) (hv : l[i]? = some v) : ((longVs (l.take i ++ List.replicate (K - i) 0)).toArray).setIfInBounds i (.int .i64 v) = (longVs (l.take (i + 1) ++ List.replicate (K - (i + 1)) 0)).toArray := by
  unfold longVs
  rw [List.setIfInBounds_toArray]
  congr 1
  obtain ⟨d, hd⟩ : ∃ d, K - i = d + 1 := ⟨K - i - 1, by omega⟩
  rw [hd, show K - (i + 1) = d by omega, List.replicate_succ, List.map_append, List.map_cons, List.set_append_right _ _ (by simp; omega), List.length_map, List.length_take, show i - min i l.length = 0 by omega, List.take_add_one, hv]
  simp

set_option maxRecDepth 100000 in
set_option maxHeartbeats 4000000 in
theorem wideLongs_any (A : Option Addr) (l : List Int) (c : Nat) (w : World) (hl : l.length ≤ 16777216) (hb : IntsAt w A l) :
    Calls Tryz.prog 66 #[.slice A l.length c] w fun e w' => e = .returned (.slice (some ⟨w.heap.size, 0, none⟩) l.length (l.length + 64)) ∧ Blk w' w.heap.size 2 (longVs (wideL l)).toArray ∧ Below w.heap.size w w' := by
  obtain ⟨n, hn⟩ : ∃ n, l.length = n := ⟨_, rfl⟩
  have hcell : ∀ i x, l[i]? = some x → ∃ b off, A = some ⟨b, off, none⟩ ∧ b < w.heap.size ∧ w.cell? ⟨b, off + i, none⟩ = some (.int .i64 x) := hb
  have hlen := wideL_len l
  have hleft := fun i (h : i < l.length) => wideL_left (l := l) h
  have hright := fun i (h : l.length ≤ i) (h2 : i < l.length + 64) => wideL_right (l := l) h h2
  obtain ⟨W, hW⟩ : ∃ W, W = wideL l := ⟨_, rfl⟩
  rw [← hW] at hlen ⊢
  simp only [← hW] at hleft hright
  simp only [hn] at hlen hleft hright
  rw [hn] at hl ⊢
  have hmk : ∀ wx, (Instr.makeSlice 71 (.int .i64 ((n : Int) + 64)) (.int .i64 ((n : Int) + 64))).run Tryz.prog wx = .ok (.slice (some ⟨wx.heap.size, 0, none⟩) (n + 64) (n + 64)) (wx.alloc (.cells (longVs (W.take 0 ++ List.replicate (n + 64 - 0) 0)).toArray 2)) := by
    intro wx
    have h := run_make_row' (P := Tryz.prog) 71 2 (.int .i64 0) 8 Tryz.underlying71 info_longsw rfl .i64 .i64 (n + 64) (by omega) (by omega) wx
    simp only [made_longs] at h
    exact h
  have HC := Lib.hid hcell
  have HN := Lib.hid hn
  have HLE := Lib.hid hlen
  have HL := Lib.hid hleft
  have HRT := Lib.hid hright
  have HKB := Lib.hid (Blk.new w 2 (longVs (W.take 0 ++ List.replicate (n + 64 - 0) 0)).toArray)
  have HB0 := Lib.hid (show Below w.heap.size w (w.alloc (.cells (longVs (W.take 0 ++ List.replicate (n + 64 - 0) 0)).toArray 2)) from (Below.refl _ _).alloc (Nat.le_refl _) _)
  clear hcell hn hlen hleft hright hW hb
  go_enter Tryz.func66, Tryz.ntmps66
  go_wp2_with fail
  go_loopw [4] (fun iv wr => ∃ i : Nat, i ≤ n + 64 ∧ iv = .int .i64 i ∧ Blk wr w.heap.size 2 (longVs (W.take i ++ List.replicate (n + 64 - i) 0)).toArray ∧ Below w.heap.size w wr) (fun iv _ => n + 64 - (intOf iv).toNat)
  case atStart => exact ⟨0, by omega, rfl, HKB.out, HB0.out⟩
  case round =>
    obtain ⟨i, hi, rfl, hkb, hbel⟩ := hrel
    by_cases hlt : i < n + 64
    · have hcz : wr.cell? ⟨w.heap.size, i, none⟩ = some (.int .i64 0) := by
        rw [hkb.cell i]
        unfold longVs
        rw [List.getElem?_toArray, List.getElem?_map, List.getElem?_append_right (by rw [List.length_take]; omega), List.length_take, List.getElem?_replicate, if_pos (by rw [HLE.out]; omega)]
        rfl
      have hcf := hkb.frozen i
      have hii : (i : Int) < n + 64 := by omega
      have HK := Lib.hid hkb
      have HB := Lib.hid hbel
      clear hkb hbel
      by_cases hin : i < n
      · obtain ⟨x, hx⟩ : ∃ x, l[i]? = some x := ⟨_, List.getElem?_eq_getElem (by rw [HN.out]; exact hin)⟩
        obtain ⟨b, off, rfl, hbl, hc⟩ := HC.out i x hx
        have hcw : wr.cell? ⟨b, off + i, none⟩ = some (.int .i64 x) := (HB.out.cell (p := ⟨b, _, none⟩) hbl).trans hc
        have hWi : W[i]? = some x := by rw [HL.out i hin, hx]
        have HWI := Lib.hid hWi
        clear hx hWi hc
        go_wp2_with fail
        go_roundw
        case rel =>
          have hs := HK.out.set_ i (.int .i64 x)
          rw [longs_set hlt (by rw [HLE.out]; exact Nat.le_refl _) HWI.out] at hs
          exact ⟨i + 1, by omega, by go_num, hs, HB.out.setCell (p := ⟨w.heap.size, i, none⟩) (Nat.le_refl _) _⟩
        case measure => (simp [intOf]; try omega)
      · have hWi : W[i]? = some (markL i) := HRT.out i (by omega) (by omega)
        have HWI := Lib.hid hWi
        clear hWi
        have hge : (n : Int) ≤ i := by omega
        have hmark : numV 9 (i : Int) = markL i := rfl
        go_wp2_with fail
        refine (num_any 9 (i : Int) _ (by omega) (by omega) (by omega) (by omega)).mono ?_
        rintro e w5 ⟨rfl, rfl⟩
        go_wp2_with fail
        go_roundw
        case rel =>
          have hs := HK.out.set_ i (.int .i64 (markL i))
          rw [longs_set hlt (by rw [HLE.out]; exact Nat.le_refl _) HWI.out] at hs
          exact ⟨i + 1, by omega, by go_num, hs, HB.out.setCell (p := ⟨w.heap.size, i, none⟩) (Nat.le_refl _) _⟩
        case measure => (simp [intOf]; try omega)
    · obtain rfl : i = n + 64 := by omega
      have HK := Lib.hid hkb
      have HB := Lib.hid hbel
      have hfull : W.take (n + 64) ++ List.replicate (n + 64 - (n + 64)) 0 = W := by rw [List.take_of_length_le (by rw [HLE.out]; exact Nat.le_refl _)]; simp
      have HF := Lib.hid hfull
      clear hkb hbel hfull
      go_wp2_with fail
      go_ret
      have h := HK.out
      rw [HF.out] at h
      exact ⟨rfl, h, HB.out⟩

set_option maxRecDepth 100000 in
set_option maxHeartbeats 4000000 in
theorem spareLongs_any (b : Nat) (l : List Int) (w : World) (hl : l.length ≤ 16777216) (hk : Blk w b 2 (longVs (wideL l)).toArray) :
    Calls Tryz.prog 74 #[.slice (some ⟨b, 0, none⟩) l.length (l.length + 64)] w fun e w' => e = .returned (.bool true) ∧ w = w' := by
  obtain ⟨n, hn⟩ : ∃ n, l.length = n := ⟨_, rfl⟩
  have hcell : ∀ i, n ≤ i → i < n + 64 → w.cell? ⟨b, i, none⟩ = some (.int .i64 (markL i)) := by
    intro i h1 h2
    rw [hk.cell i]
    unfold longVs
    rw [List.getElem?_toArray, List.getElem?_map, wideL_right (by omega) (by omega)]
    rfl
  rw [hn] at hl ⊢
  have HC := Lib.hid hcell
  clear hcell hk hn
  go_enter Tryz.func74, Tryz.ntmps74
  go_wp2_with fail
  go_loop [4, 5] (fun iv _ => ∃ i : Nat, n ≤ i ∧ i ≤ n + 64 ∧ iv = .int .i64 i) (fun iv _ => n + 64 - (intOf iv).toNat)
  case atStart => exact ⟨n, by omega, by omega, rfl⟩
  case round =>
    obtain ⟨i, hi0, hi, rfl⟩ := hrel
    by_cases hlt : i < n + 64
    · have hc := HC.out i hi0 hlt
      have hii : (i : Int) < n + 64 := by omega
      have hmark : numV 9 (i : Int) = markL i := rfl
      have hself : (numV 9 (i : Int) == numV 9 (i : Int)) = true := by simp
      have hself2 : (markL i == numV 9 (i : Int)) = true := by simp [markL]
      go_wp2_with fail
      refine (num_any 9 (i : Int) _ (by omega) (by omega) (by omega) (by omega)).mono ?_
      rintro e w5 ⟨rfl, rfl⟩
      go_wp2_with fail
      go_round
      case rel => exact ⟨i + 1, by omega, by omega, by go_num⟩
      case measure => (simp [intOf]; try omega)
    · obtain rfl : i = n + 64 := by omega
      go_wp2_with fail
      go_ret
      exact ⟨rfl, rfl⟩

set_option maxRecDepth 100000 in
set_option maxHeartbeats 4000000 in
theorem eqLongs_same (A B : Option Addr) (l : List Int) (c d : Nat) (w : World) (hl : l.length ≤ 16777216) (ha : IntsAt w A l) (hb : IntsAt w B l) :
    Calls Tryz.prog 71 #[.slice A l.length c, .slice B l.length d] w fun e w' => e = .returned (.bool true) ∧ Below w.heap.size w w' := by
  obtain ⟨n, hn⟩ : ∃ n, l.length = n := ⟨_, rfl⟩
  have hac : ∀ i x, l[i]? = some x → ∃ b off, A = some ⟨b, off, none⟩ ∧ b < w.heap.size ∧ w.cell? ⟨b, off + i, none⟩ = some (.int .i64 x) := ha
  have hbc : ∀ i x, l[i]? = some x → ∃ b off, B = some ⟨b, off, none⟩ ∧ b < w.heap.size ∧ w.cell? ⟨b, off + i, none⟩ = some (.int .i64 x) := hb
  rw [hn] at hl ⊢
  have HA := Lib.hid hac
  have HB := Lib.hid hbc
  have HN := Lib.hid hn
  clear hac hbc ha hb hn
  go_enter Tryz.func71, Tryz.ntmps71
  go_wp2_with fail
  go_loopw [5] (fun iv wr => ∃ i : Nat, i ≤ n ∧ iv = .int .i64 i ∧ Below w.heap.size w wr) (fun iv _ => n - (intOf iv).toNat)
  case atStart => exact ⟨0, by omega, rfl, Below.refl _ _⟩
  case round =>
    obtain ⟨i, hi, rfl, hbel⟩ := hrel
    have HBE := Lib.hid hbel
    by_cases hlt : i < n
    · obtain ⟨x, hx⟩ : ∃ x, l[i]? = some x := ⟨_, List.getElem?_eq_getElem (by rw [HN.out]; exact hlt)⟩
      obtain ⟨b1, o1, rfl, h1, hc1⟩ := HA.out i x hx
      obtain ⟨b2, o2, rfl, h2, hc2⟩ := HB.out i x hx
      have hd1 : wr.cell? ⟨b1, o1 + i, none⟩ = some (.int .i64 x) := (hbel.cell (p := ⟨b1, _, none⟩) h1).trans hc1
      have hd2 : wr.cell? ⟨b2, o2 + i, none⟩ = some (.int .i64 x) := (hbel.cell (p := ⟨b2, _, none⟩) h2).trans hc2
      have hii : (i : Int) < n := by omega
      clear hx hc1 hc2 hbel
      go_wp2_with fail
      refine wp_region_text (by kernel_rfl) (by kernel_rfl) ?_
      go_wp2_with fail
      refine Only.normal ?_
      go_wp2_with fail
      go_roundw
      case rel => exact ⟨i + 1, by omega, by go_num, HBE.out.drew⟩
      case measure => (simp [intOf]; try omega)
    · clear hbel
      go_wp2_with fail
      go_ret
      exact ⟨rfl, HBE.out⟩
/-- A wide list's block, as a list. -/
theorem longsAt_wide {w : World} {b : Nat} {l : List Int} (hk : Blk w b 2 (longVs (wideL l)).toArray) : IntsAt w (some ⟨b, 0, none⟩) l :=
  fun k x hx => ⟨b, 0, rfl, hk.lt, by
    have hkl := (List.getElem?_eq_some_iff.1 hx).1
    rw [Nat.zero_add, hk.cell k]
    unfold longVs
    rw [List.getElem?_toArray, List.getElem?_map, wideL_left hkl, hx]
    rfl⟩
end Go.Proofs.YtabpheanbomibaaGreatDoor
namespace Go.Proofs.YtabpheanbomibaaGreatDoor
open Go.RowKit
set_option linter.unusedVariables false

theorem info_intsw : (Tryz.prog.info? 3).map (fun i => (i.zero, i.size, i.bytes)) = some (some (.int .i64 0), 1, 8) := by kernel_rfl
set_option maxRecDepth 100000 in
set_option maxHeartbeats 4000000 in
theorem wideInts_any (A : Option Addr) (l : List Int) (c : Nat) (w : World) (hl : l.length ≤ 16777216) (hb : IntsAt w A l) :
    Calls Tryz.prog 126 #[.slice A l.length c] w fun e w' => e = .returned (.slice (some ⟨w.heap.size, 0, none⟩) l.length (l.length + 64)) ∧ Blk w' w.heap.size 3 (longVs (wideL l)).toArray ∧ Below w.heap.size w w' := by
  obtain ⟨n, hn⟩ : ∃ n, l.length = n := ⟨_, rfl⟩
  have hcell : ∀ i x, l[i]? = some x → ∃ b off, A = some ⟨b, off, none⟩ ∧ b < w.heap.size ∧ w.cell? ⟨b, off + i, none⟩ = some (.int .i64 x) := hb
  have hlen := wideL_len l
  have hleft := fun i (h : i < l.length) => wideL_left (l := l) h
  have hright := fun i (h : l.length ≤ i) (h2 : i < l.length + 64) => wideL_right (l := l) h h2
  obtain ⟨W, hW⟩ : ∃ W, W = wideL l := ⟨_, rfl⟩
  rw [← hW] at hlen ⊢
  simp only [← hW] at hleft hright
  simp only [hn] at hlen hleft hright
  rw [hn] at hl ⊢
  have hmk : ∀ wx, (Instr.makeSlice 107 (.int .i64 ((n : Int) + 64)) (.int .i64 ((n : Int) + 64))).run Tryz.prog wx = .ok (.slice (some ⟨wx.heap.size, 0, none⟩) (n + 64) (n + 64)) (wx.alloc (.cells (longVs (W.take 0 ++ List.replicate (n + 64 - 0) 0)).toArray 3)) := by
    intro wx
    have h := run_make_row' (P := Tryz.prog) 107 3 (.int .i64 0) 8 Tryz.underlying107 info_intsw rfl .i64 .i64 (n + 64) (by omega) (by omega) wx
    simp only [made_longs] at h
    exact h
  have HC := Lib.hid hcell
  have HN := Lib.hid hn
  have HLE := Lib.hid hlen
  have HL := Lib.hid hleft
  have HRT := Lib.hid hright
  have HKB := Lib.hid (Blk.new w 3 (longVs (W.take 0 ++ List.replicate (n + 64 - 0) 0)).toArray)
  have HB0 := Lib.hid (show Below w.heap.size w (w.alloc (.cells (longVs (W.take 0 ++ List.replicate (n + 64 - 0) 0)).toArray 3)) from (Below.refl _ _).alloc (Nat.le_refl _) _)
  clear hcell hn hlen hleft hright hW hb
  go_enter Tryz.func126, Tryz.ntmps126
  go_wp2_with fail
  go_loopw [4] (fun iv wr => ∃ i : Nat, i ≤ n + 64 ∧ iv = .int .i64 i ∧ Blk wr w.heap.size 3 (longVs (W.take i ++ List.replicate (n + 64 - i) 0)).toArray ∧ Below w.heap.size w wr) (fun iv _ => n + 64 - (intOf iv).toNat)
  case atStart => exact ⟨0, by omega, rfl, HKB.out, HB0.out⟩
  case round =>
    obtain ⟨i, hi, rfl, hkb, hbel⟩ := hrel
    by_cases hlt : i < n + 64
    · have hcz : wr.cell? ⟨w.heap.size, i, none⟩ = some (.int .i64 0) := by
        rw [hkb.cell i]
        unfold longVs
        rw [List.getElem?_toArray, List.getElem?_map, List.getElem?_append_right (by rw [List.length_take]; omega), List.length_take, List.getElem?_replicate, if_pos (by rw [HLE.out]; omega)]
        rfl
      have hcf := hkb.frozen i
      have hii : (i : Int) < n + 64 := by omega
      have HK := Lib.hid hkb
      have HB := Lib.hid hbel
      clear hkb hbel
      by_cases hin : i < n
      · obtain ⟨x, hx⟩ : ∃ x, l[i]? = some x := ⟨_, List.getElem?_eq_getElem (by rw [HN.out]; exact hin)⟩
        obtain ⟨b, off, rfl, hbl, hc⟩ := HC.out i x hx
        have hcw : wr.cell? ⟨b, off + i, none⟩ = some (.int .i64 x) := (HB.out.cell (p := ⟨b, _, none⟩) hbl).trans hc
        have hWi : W[i]? = some x := by rw [HL.out i hin, hx]
        have HWI := Lib.hid hWi
        clear hx hWi hc
        go_wp2_with fail
        go_roundw
        case rel =>
          have hs := HK.out.set_ i (.int .i64 x)
          rw [longs_set hlt (by rw [HLE.out]; exact Nat.le_refl _) HWI.out] at hs
          exact ⟨i + 1, by omega, by go_num, hs, HB.out.setCell (p := ⟨w.heap.size, i, none⟩) (Nat.le_refl _) _⟩
        case measure => (simp [intOf]; try omega)
      · have hWi : W[i]? = some (markL i) := HRT.out i (by omega) (by omega)
        have HWI := Lib.hid hWi
        clear hWi
        have hge : (n : Int) ≤ i := by omega
        have hmark : numV 9 (i : Int) = markL i := rfl
        go_wp2_with fail
        refine (num_any 9 (i : Int) _ (by omega) (by omega) (by omega) (by omega)).mono ?_
        rintro e w5 ⟨rfl, rfl⟩
        go_wp2_with fail
        go_roundw
        case rel =>
          have hs := HK.out.set_ i (.int .i64 (markL i))
          rw [longs_set hlt (by rw [HLE.out]; exact Nat.le_refl _) HWI.out] at hs
          exact ⟨i + 1, by omega, by go_num, hs, HB.out.setCell (p := ⟨w.heap.size, i, none⟩) (Nat.le_refl _) _⟩
        case measure => (simp [intOf]; try omega)
    · obtain rfl : i = n + 64 := by omega
      have HK := Lib.hid hkb
      have HB := Lib.hid hbel
      have hfull : W.take (n + 64) ++ List.replicate (n + 64 - (n + 64)) 0 = W := by rw [List.take_of_length_le (by rw [HLE.out]; exact Nat.le_refl _)]; simp
      have HF := Lib.hid hfull
      clear hkb hbel hfull
      go_wp2_with fail
      go_ret
      have h := HK.out
      rw [HF.out] at h
      exact ⟨rfl, h, HB.out⟩

set_option maxRecDepth 100000 in
set_option maxHeartbeats 4000000 in
theorem spareInts_any (b : Nat) (l : List Int) (w : World) (hl : l.length ≤ 16777216) (hk : Blk w b 3 (longVs (wideL l)).toArray) :
    Calls Tryz.prog 134 #[.slice (some ⟨b, 0, none⟩) l.length (l.length + 64)] w fun e w' => e = .returned (.bool true) ∧ w = w' := by
  obtain ⟨n, hn⟩ : ∃ n, l.length = n := ⟨_, rfl⟩
  have hcell : ∀ i, n ≤ i → i < n + 64 → w.cell? ⟨b, i, none⟩ = some (.int .i64 (markL i)) := by
    intro i h1 h2
    rw [hk.cell i]
    unfold longVs
    rw [List.getElem?_toArray, List.getElem?_map, wideL_right (by omega) (by omega)]
    rfl
  rw [hn] at hl ⊢
  have HC := Lib.hid hcell
  clear hcell hk hn
  go_enter Tryz.func134, Tryz.ntmps134
  go_wp2_with fail
  go_loop [4, 5] (fun iv _ => ∃ i : Nat, n ≤ i ∧ i ≤ n + 64 ∧ iv = .int .i64 i) (fun iv _ => n + 64 - (intOf iv).toNat)
  case atStart => exact ⟨n, by omega, by omega, rfl⟩
  case round =>
    obtain ⟨i, hi0, hi, rfl⟩ := hrel
    by_cases hlt : i < n + 64
    · have hc := HC.out i hi0 hlt
      have hii : (i : Int) < n + 64 := by omega
      have hmark : numV 9 (i : Int) = markL i := rfl
      have hself : (numV 9 (i : Int) == numV 9 (i : Int)) = true := by simp
      have hself2 : (markL i == numV 9 (i : Int)) = true := by simp [markL]
      go_wp2_with fail
      refine (num_any 9 (i : Int) _ (by omega) (by omega) (by omega) (by omega)).mono ?_
      rintro e w5 ⟨rfl, rfl⟩
      go_wp2_with fail
      go_round
      case rel => exact ⟨i + 1, by omega, by omega, by go_num⟩
      case measure => (simp [intOf]; try omega)
    · obtain rfl : i = n + 64 := by omega
      go_wp2_with fail
      go_ret
      exact ⟨rfl, rfl⟩

set_option maxRecDepth 100000 in
set_option maxHeartbeats 4000000 in
theorem eqInts_same (A B : Option Addr) (l : List Int) (c d : Nat) (w : World) (hl : l.length ≤ 16777216) (ha : IntsAt w A l) (hb : IntsAt w B l) :
    Calls Tryz.prog 132 #[.slice A l.length c, .slice B l.length d] w fun e w' => e = .returned (.bool true) ∧ Below w.heap.size w w' := by
  obtain ⟨n, hn⟩ : ∃ n, l.length = n := ⟨_, rfl⟩
  have hac : ∀ i x, l[i]? = some x → ∃ b off, A = some ⟨b, off, none⟩ ∧ b < w.heap.size ∧ w.cell? ⟨b, off + i, none⟩ = some (.int .i64 x) := ha
  have hbc : ∀ i x, l[i]? = some x → ∃ b off, B = some ⟨b, off, none⟩ ∧ b < w.heap.size ∧ w.cell? ⟨b, off + i, none⟩ = some (.int .i64 x) := hb
  rw [hn] at hl ⊢
  have HA := Lib.hid hac
  have HB := Lib.hid hbc
  have HN := Lib.hid hn
  clear hac hbc ha hb hn
  go_enter Tryz.func132, Tryz.ntmps132
  go_wp2_with fail
  go_loopw [5] (fun iv wr => ∃ i : Nat, i ≤ n ∧ iv = .int .i64 i ∧ Below w.heap.size w wr) (fun iv _ => n - (intOf iv).toNat)
  case atStart => exact ⟨0, by omega, rfl, Below.refl _ _⟩
  case round =>
    obtain ⟨i, hi, rfl, hbel⟩ := hrel
    have HBE := Lib.hid hbel
    by_cases hlt : i < n
    · obtain ⟨x, hx⟩ : ∃ x, l[i]? = some x := ⟨_, List.getElem?_eq_getElem (by rw [HN.out]; exact hlt)⟩
      obtain ⟨b1, o1, rfl, h1, hc1⟩ := HA.out i x hx
      obtain ⟨b2, o2, rfl, h2, hc2⟩ := HB.out i x hx
      have hd1 : wr.cell? ⟨b1, o1 + i, none⟩ = some (.int .i64 x) := (hbel.cell (p := ⟨b1, _, none⟩) h1).trans hc1
      have hd2 : wr.cell? ⟨b2, o2 + i, none⟩ = some (.int .i64 x) := (hbel.cell (p := ⟨b2, _, none⟩) h2).trans hc2
      have hii : (i : Int) < n := by omega
      clear hx hc1 hc2 hbel
      go_wp2_with fail
      refine wp_region_text (by kernel_rfl) (by kernel_rfl) ?_
      go_wp2_with fail
      refine Only.normal ?_
      go_wp2_with fail
      go_roundw
      case rel => exact ⟨i + 1, by omega, by go_num, HBE.out.drew⟩
      case measure => (simp [intOf]; try omega)
    · clear hbel
      go_wp2_with fail
      go_ret
      exact ⟨rfl, HBE.out⟩
/-- A wide list's block, as a list. -/
theorem intsAt_wide {w : World} {b : Nat} {l : List Int} (hk : Blk w b 3 (longVs (wideL l)).toArray) : IntsAt w (some ⟨b, 0, none⟩) l :=
  fun k x hx => ⟨b, 0, rfl, hk.lt, by
    have hkl := (List.getElem?_eq_some_iff.1 hx).1
    rw [Nat.zero_add, hk.cell k]
    unfold longVs
    rw [List.getElem?_toArray, List.getElem?_map, wideL_left hkl, hx]
    rfl⟩
end Go.Proofs.YtabpheanbomibaaGreatDoor
namespace Go.Proofs.YtabpheanbomibaaGreatDoor
open Go.RowKit
set_option linter.unusedVariables false

/-- A list of texts that came in. -/
def TextsAt (w : World) (A : Option Addr) (l : List ByteArray) : Prop := ∀ k x, l[k]? = some x → ∃ b off, A = some ⟨b, off, none⟩ ∧ b < w.heap.size ∧ w.cell? ⟨b, off + k, none⟩ = some (.string x)
theorem TextsAt.below {w w' : World} {A : Option Addr} {l : List ByteArray} (h : TextsAt w A l) (hb : Below w.heap.size w w') : TextsAt w' A l := by
  intro k x hk
  obtain ⟨b, off, h1, h2, h3⟩ := h k x hk
  exact ⟨b, off, h1, Nat.lt_of_lt_of_le h2 hb.size, (hb.cell (p := ⟨b, _, none⟩) h2).trans h3⟩
end Go.Proofs.YtabpheanbomibaaGreatDoor
namespace Go.Proofs.YtabpheanbomibaaGreatDoor
open Go.RowKit
set_option linter.unusedVariables false

/-- An effect, a kind, a pack: the content. -/
structure Eff where
  on : Int
  slots : List Int
  code : List Int
  bound : Int
structure Knd where
  name : Int
  cost : Int
  power : Int
  health : Int
  tags : List Int
  effs : List Eff
structure Pck where
  cards : Int
  ints : List Int
  texts : List ByteArray
  kinds : List Knd
/-- The first answer. -/
def firstS {α : Type} (f : Nat → Option α) (n : Nat) : Option α := (List.range n).findSome? f
theorem firstS_none {α : Type} {f : Nat → Option α} {n : Nat} (h : ∀ j, j < n → f j = none) : firstS f n = none := by
  unfold firstS
  rw [List.findSome?_eq_none_iff]
  intro x hx
  exact h x (List.mem_range.1 hx)
theorem firstS_some {α : Type} {f : Nat → Option α} {n i : Nat} {a : α} (hi : i < n) (h : ∀ j, j < i → f j = none) (hf : f i = some a) : firstS f n = some a := by
  unfold firstS
  obtain ⟨m, rfl⟩ : ∃ m, n = i + (m + 1) := ⟨n - i - 1, by omega⟩
  rw [List.range_add, List.findSome?_append, List.findSome?_eq_none_iff.2 (fun x hx => h x (List.mem_range.1 hx)), List.range_succ_eq_map]
  simp [hf]
/-- The number of a fault. -/
def errO (e : Option Int) : Int := e.getD 0
def orS {α : Type} (a b : Option α) : Option α := a.orElse fun _ => b
/-- A fault. -/
def flt (b : Bool) (e : Int) : Option Int := if b then some e else none
def outR (lo hi x : Int) : Bool := decide (x < lo) || decide (hi < x)
def slotsOk (l : List Int) : Bool := l.all fun s => !outR 1 6 s
def effBad (x : Eff) : Bool := outR 0 4 x.on || decide (32 < x.slots.length) || outR 0 4611686018427387904 x.bound || decide (65535 < x.code.length)
def effC (x : Eff) : Option Int := flt (effBad x || !slotsOk x.slots) 56
def tagC (n : Int) (l : List Int) (i : Nat) : Option Int := orS (flt (outR 0 (n - 1) (l.getD i 0)) 42) (flt (decide (0 < i) && decide (l.getD i 0 ≤ l.getD (i - 1) 0)) 57)
def eff0 : Eff := ⟨0, [], [], 0⟩
def knd0 : Knd := ⟨0, 0, 0, 0, [], []⟩
def kndC (n : Int) (k : Knd) : Option Int :=
  orS (flt (outR 0 (n - 1) k.name) 42) (orS (flt (outR 0 1000000000 k.cost || outR 0 1000000000 k.power || outR 0 1000000000 k.health || decide (16 < k.tags.length)) 56)
    (orS (firstS (tagC n k.tags) k.tags.length) (orS (flt (decide (8 < k.effs.length)) 56) (firstS (fun i => effC (k.effs.getD i eff0)) k.effs.length))))
def intC (l : List Int) (i : Nat) : Option Int := flt (decide (0 < i) && decide (l.getD i 0 ≤ l.getD (i - 1) 0)) 57
def textC (lt : ByteArray → ByteArray → Bool) (l : List ByteArray) (i : Nat) : Option Int := orS (flt (decide (64 < (l.getD i ⟨#[]⟩).size)) 56) (flt (decide (0 < i) && !lt (l.getD (i - 1) ⟨#[]⟩) (l.getD i ⟨#[]⟩)) 57)
def effsZ : List Eff → Int
  | [] => 0
  | x :: r => 12 + x.slots.length + x.code.length + effsZ r
def kindsZ : List Knd → Int
  | [] => 0
  | k :: r => 16 + 2 * k.tags.length + effsZ k.effs + kindsZ r
def textsZ : List ByteArray → Int
  | [] => 0
  | x :: r => 1 + x.size + textsZ r
def packZ (p : Pck) : Int := 37 + 8 * p.ints.length + textsZ p.texts + kindsZ p.kinds
def poolsC (lt : ByteArray → ByteArray → Bool) (p : Pck) : Option Int :=
  orS (flt (outR 1 256 p.cards || decide (4096 < p.ints.length)) 56) (orS (firstS (intC p.ints) p.ints.length) (orS (flt (decide (4096 < p.texts.length)) 56) (firstS (textC lt p.texts) p.texts.length)))
def checkP (lt : ByteArray → ByteArray → Bool) (p : Pck) : Option Int :=
  orS (poolsC lt p) (orS (flt (decide (256 < p.kinds.length)) 56) (orS (firstS (fun i => kndC p.texts.length (p.kinds.getD i knd0)) p.kinds.length) (flt (decide (1048576 < packZ p)) 20)))
/-- Of an effect's code: its fault. -/
def effF (p : Pck) (i n : Nat) : Option (Int × Int × Int × Int) :=
  let x := (p.kinds.getD i knd0).effs.getD n eff0
  let f := (codeV x.code x.slots p.ints.length p.texts.length).2.2
  if f.1 = 0 ∧ f.2 = 0 then none else some (f.1, f.2, (i : Int), (n : Int))
def kndF (p : Pck) (i : Nat) : Option (Int × Int × Int × Int) := firstS (effF p i) (p.kinds.getD i knd0).effs.length
def packV (lt : ByteArray → ByteArray → Bool) (p : Pck) : Int × Int × Int × Int :=
  match checkP lt p with
  | some e => (e, 0, 0, 0)
  | none => (firstS (kndF p) p.kinds.length).getD (0, 0, 0, 0)
theorem slotsOk_succ {l : List Int} {i : Nat} {x : Int} (h : l[i]? = some x) : slotsOk (l.take (i + 1)) = (slotsOk (l.take i) && !outR 1 6 x) := by
  unfold slotsOk
  rw [List.take_add_one, h, List.all_append]
  simp
theorem slotsOk_bad {l : List Int} {i : Nat} {x : Int} (h : l[i]? = some x) (hx : outR 1 6 x = true) : slotsOk l = false := by
  unfold slotsOk
  rw [List.all_eq_false]
  exact ⟨x, List.mem_of_getElem? h, by simp [hx]⟩
theorem orS_none {α : Type} {a b : Option α} (h : a = none) : orS a b = b := by subst h; rfl
theorem orS_some {α : Type} {a b : Option α} {x : α} (h : a = some x) : orS a b = some x := by subst h; rfl
theorem flt_true {b : Bool} {e : Int} (h : b = true) : flt b e = some e := by subst h; rfl
theorem flt_false {b : Bool} {e : Int} (h : b = false) : flt b e = none := by subst h; rfl
end Go.Proofs.YtabpheanbomibaaGreatDoor
namespace Go.Proofs.YtabpheanbomibaaGreatDoor
open Go.RowKit
set_option linter.unusedVariables false

/-- An effect's cells, and the lists that they lead to. -/
def EffAt (w : World) (b o : Nat) (x : Eff) : Prop := ∃ SA sc CA cc, w.cell? ⟨b, o, none⟩ = some (.int .i64 x.on) ∧ w.cell? ⟨b, o + 1, none⟩ = some (.slice SA x.slots.length sc) ∧ w.cell? ⟨b, o + 2, none⟩ = some (.slice CA x.code.length cc) ∧ w.cell? ⟨b, o + 3, none⟩ = some (.int .i64 x.bound) ∧ SmallsAt w SA x.slots ∧ BytesAt w CA x.code
theorem EffAt.below {w w' : World} {b o : Nat} {x : Eff} (h : EffAt w b o x) (hb : Below w.heap.size w w') (hl : b < w.heap.size) : EffAt w' b o x := by
  obtain ⟨SA, sc, CA, cc, h0, h1, h2, h3, h4, h5⟩ := h
  exact ⟨SA, sc, CA, cc, (hb.cell (p := ⟨b, _, none⟩) hl).trans h0, (hb.cell (p := ⟨b, _, none⟩) hl).trans h1, (hb.cell (p := ⟨b, _, none⟩) hl).trans h2, (hb.cell (p := ⟨b, _, none⟩) hl).trans h3, h4.below hb, h5.below hb⟩
def EffsAt (w : World) (A : Option Addr) (l : List Eff) : Prop := ∀ i x, l[i]? = some x → ∃ b off, A = some ⟨b, off, none⟩ ∧ b < w.heap.size ∧ EffAt w b (off + i * 4) x
theorem EffsAt.below {w w' : World} {A : Option Addr} {l : List Eff} (h : EffsAt w A l) (hb : Below w.heap.size w w') : EffsAt w' A l := by
  intro i x hx
  obtain ⟨b, off, h1, h2, h3⟩ := h i x hx
  exact ⟨b, off, h1, Nat.lt_of_lt_of_le h2 hb.size, h3.below hb h2⟩
/-- A kind's cells, and the lists that they lead to. -/
def KndAt (w : World) (b o : Nat) (x : Knd) : Prop := ∃ TA tc EA ec, w.cell? ⟨b, o, none⟩ = some (.int .i64 x.name) ∧ w.cell? ⟨b, o + 1, none⟩ = some (.int .i64 x.cost) ∧ w.cell? ⟨b, o + 2, none⟩ = some (.int .i64 x.power) ∧ w.cell? ⟨b, o + 3, none⟩ = some (.int .i64 x.health) ∧
  w.cell? ⟨b, o + 4, none⟩ = some (.slice TA x.tags.length tc) ∧ w.cell? ⟨b, o + 5, none⟩ = some (.slice EA x.effs.length ec) ∧ IntsAt w TA x.tags ∧ EffsAt w EA x.effs
theorem KndAt.below {w w' : World} {b o : Nat} {x : Knd} (h : KndAt w b o x) (hb : Below w.heap.size w w') (hl : b < w.heap.size) : KndAt w' b o x := by
  obtain ⟨TA, tc, EA, ec, h0, h1, h2, h3, h4, h5, h6, h7⟩ := h
  exact ⟨TA, tc, EA, ec, (hb.cell (p := ⟨b, _, none⟩) hl).trans h0, (hb.cell (p := ⟨b, _, none⟩) hl).trans h1, (hb.cell (p := ⟨b, _, none⟩) hl).trans h2, (hb.cell (p := ⟨b, _, none⟩) hl).trans h3, (hb.cell (p := ⟨b, _, none⟩) hl).trans h4, (hb.cell (p := ⟨b, _, none⟩) hl).trans h5, h6.below hb, h7.below hb⟩
def KndsAt (w : World) (A : Option Addr) (l : List Knd) : Prop := ∀ i x, l[i]? = some x → ∃ b off, A = some ⟨b, off, none⟩ ∧ b < w.heap.size ∧ KndAt w b (off + i * 6) x
theorem KndsAt.below {w w' : World} {A : Option Addr} {l : List Knd} (h : KndsAt w A l) (hb : Below w.heap.size w w') : KndsAt w' A l := by
  intro i x hx
  obtain ⟨b, off, h1, h2, h3⟩ := h i x hx
  exact ⟨b, off, h1, Nat.lt_of_lt_of_le h2 hb.size, h3.below hb h2⟩
/-- A pack's four values. -/
structure PckAt (w : World) (IA TA KA : Option Addr) (p : Pck) : Prop where
  ints : IntsAt w IA p.ints
  texts : TextsAt w TA p.texts
  kinds : KndsAt w KA p.kinds
theorem PckAt.below {w w' : World} {IA TA KA : Option Addr} {p : Pck} (h : PckAt w IA TA KA p) (hb : Below w.heap.size w w') : PckAt w' IA TA KA p := ⟨h.ints.below hb, h.texts.below hb, h.kinds.below hb⟩
/-- No list of a pack is long. -/
def EffSm (x : Eff) : Prop := x.slots.length ≤ 16777216 ∧ x.code.length ≤ 16777216
def KndSm (x : Knd) : Prop := x.tags.length ≤ 16777216 ∧ x.effs.length ≤ 16777216 ∧ ∀ e ∈ x.effs, EffSm e
structure PckSm (p : Pck) : Prop where
  ints : p.ints.length ≤ 16777216
  texts : p.texts.length ≤ 16777216
  size : ∀ t ∈ p.texts, t.size ≤ 16777216
  kinds : p.kinds.length ≤ 16777216
  kind : ∀ k ∈ p.kinds, KndSm k
end Go.Proofs.YtabpheanbomibaaGreatDoor
namespace Go.Proofs.YtabpheanbomibaaGreatDoor
open Go.RowKit
set_option linter.unusedVariables false

def effV (x : Eff) (SA CA : Option Addr) (sc cc : Nat) : Array Value := #[.int .i64 x.on, .slice SA x.slots.length sc, .slice CA x.code.length cc, .int .i64 x.bound]
/-- An effect whose lists have rooms of their own, from a block on. -/
def EffW (w : World) (B : Nat) (x : Eff) (b1 b2 : Nat) : Prop := B ≤ b1 ∧ B ≤ b2 ∧ Blk w b1 82 (smallVals (wideS x.slots)).toArray ∧ Blk w b2 5 (byteVals (wideB x.code)).toArray
theorem EffW.frm {w w' : World} {B C b1 b2 : Nat} {x : Eff} {T : List TypeId} (h : EffW w B x b1 b2) (hf : Frm C T w w') (h1 : 82 ∉ T) (h2 : 5 ∉ T) : EffW w' B x b1 b2 := ⟨h.1, h.2.1, hf.blk h.2.2.1 h1, hf.blk h.2.2.2 h2⟩
theorem EffW.base {w : World} {B C b1 b2 : Nat} {x : Eff} (h : EffW w B x b1 b2) (hC : C ≤ B) : EffW w C x b1 b2 := ⟨Nat.le_trans hC h.1, Nat.le_trans hC h.2.1, h.2.2⟩
theorem Blk.four {w : World} {g : Nat} {t : TypeId} {a b c d : Value} (h : Blk w g t #[a, b, c, d]) : w.cell? ⟨g, 0, none⟩ = some a ∧ w.cell? ⟨g, 1, none⟩ = some b ∧ w.cell? ⟨g, 2, none⟩ = some c ∧ w.cell? ⟨g, 3, none⟩ = some d ∧ w.frozen? ⟨g, 0, none⟩ = false ∧ w.frozen? ⟨g, 1, none⟩ = false ∧ w.frozen? ⟨g, 2, none⟩ = false ∧ w.frozen? ⟨g, 3, none⟩ = false :=
  ⟨h.cell 0, h.cell 1, h.cell 2, h.cell 3, h.frozen 0, h.frozen 1, h.frozen 2, h.frozen 3⟩
set_option maxRecDepth 100000 in
set_option maxHeartbeats 2000000 in
theorem wideEff_any (x : Eff) (SA CA : Option Addr) (sc cc : Nat) (w : World) (hx : EffSm x) (hS : SmallsAt w SA x.slots) (hC : BytesAt w CA x.code) :
    Calls Tryz.prog 150 #[.agg (effV x SA CA sc cc)] w fun e w' => ∃ b1 b2, e = .returned (.agg (effV x (some ⟨b1, 0, none⟩) (some ⟨b2, 0, none⟩) (x.slots.length + 64) (x.code.length + 64))) ∧ EffW w' w.heap.size x b1 b2 ∧ Below w.heap.size w w' := by
  obtain ⟨on, slots, code, bd⟩ := x
  obtain ⟨l1, l2⟩ := hx
  simp only [effV] at l1 l2 hS hC ⊢
  obtain ⟨B, hB⟩ : ∃ B, w.heap.size = B := ⟨_, rfl⟩
  have hcs := fun (wx : World) (h : Below B w wx) => wideSmalls_any SA slots sc wx l1 (hS.below (by rw [hB]; exact h))
  have hcb := fun (wx : World) (h : Below B w wx) => wideBytes_any CA code cc wx l2 (hC.below (by rw [hB]; exact h))
  obtain ⟨n, hn⟩ : ∃ n, slots.length = n := ⟨_, rfl⟩
  obtain ⟨m, hm⟩ : ∃ m, code.length = m := ⟨_, rfl⟩
  rw [hn] at hcs ⊢
  rw [hm] at hcb ⊢
  obtain ⟨W, hW⟩ : ∃ W, W = (w.alloc (.cells #[.int .i64 on, .slice SA n sc, .slice CA m cc, .int .i64 bd] 125)).alloc (.cells #[.int .i64 0, .slice none 0 0, .slice none 0 0, .int .i64 0] 125) := ⟨_, rfl⟩
  have hBW : Below B w W := by rw [hW, ← hB]; exact ((Below.refl _ _).alloc (Nat.le_refl _) _).alloc (by simp) _
  have hb0 : Blk W B 125 #[.int .i64 on, .slice SA n sc, .slice CA m cc, .int .i64 bd] := by rw [hW, ← hB]; exact (Blk.new _ _ _).alloc _
  have hb1 : Blk W (B + 1) 125 #[.int .i64 0, .slice none 0 0, .slice none 0 0, .int .i64 0] := by rw [hW, ← hB]; have := Blk.new (w.alloc (.cells #[.int .i64 on, .slice SA n sc, .slice CA m cc, .int .i64 bd] 125)) 125 #[.int .i64 0, .slice none 0 0, .slice none 0 0, .int .i64 0]; simpa using this
  have HW := Lib.hid hW
  have HCS := Lib.hid hcs
  have HCB := Lib.hid hcb
  have HB0 := Lib.hid hb0
  have HB1 := Lib.hid hb1
  have HBW := Lib.hid hBW
  have HB := Lib.hid hB
  clear hW hcs hcb hb0 hb1 hBW l1 l2 hS hC hn hm
  go_enter Tryz.func150, Tryz.ntmps150
  go_wp2_with fail
  rw [← HW.out]
  refine (HCS.out W HBW.out).mono ?_
  rintro e w1 ⟨rfl, hs1, hb1⟩
  obtain ⟨b1, hb1e⟩ : ∃ b1, b1 = W.heap.size := ⟨_, rfl⟩
  rw [← hb1e] at hs1 hb1 ⊢
  have hBb : B + 1 < b1 := by rw [hb1e]; exact HB1.out.lt
  have k0 := HB0.out.below hb1 (by omega)
  have k1 := HB1.out.below hb1 (by omega)
  obtain ⟨x0, x1, x2, x3, z0, z1, z2, z3⟩ := k0.four
  have q0 := k0.set_ 1 (.slice (some ⟨b1, 0, none⟩) n (n + 64))
  have q1 := k1.far (p := ⟨B, 1, none⟩) (by show B + 1 ≠ B; omega) (.slice (some ⟨b1, 0, none⟩) n (n + 64))
  have f1 : Frm B [125] w1 (w1.setCell ⟨B, 1, none⟩ (.slice (some ⟨b1, 0, none⟩) n (n + 64))) := (Frm.refl _ _ _).set_ k0 (Nat.le_refl _) (by simp) _
  have hB2 := (HBW.out.trans (hb1.mono (by omega))).trans f1.below
  have HS1 := Lib.hid (f1.blk hs1 (by decide))
  have Q0 := Lib.hid q0
  have Q1 := Lib.hid q1
  have HB2 := Lib.hid hB2
  have hz : (w1.setCell ⟨B, 1, none⟩ (.slice (some ⟨b1, 0, none⟩) n (n + 64))).heap.size = w1.heap.size := by simp [World.setCell]
  have hlt1 : b1 < w1.heap.size := hs1.lt
  have HZ := Lib.hid hz
  have HBE := Lib.hid hb1e
  clear hs1 hb1 k0 k1 q0 q1 f1 hB2 hz hb1e
  go_wp2_with fail
  refine (HCB.out _ HB2.out).mono ?_
  rintro e w2 ⟨rfl, hs2, hb2⟩
  rw [HZ.out] at hs2 hb2 ⊢
  obtain ⟨b2, hb2e⟩ : ∃ b2, b2 = w1.heap.size := ⟨_, rfl⟩
  rw [← hb2e] at hs2 hb2 ⊢
  have hb12 : b1 < b2 := by rw [hb2e]; exact hlt1
  have k0 := Q0.out.below hb2 (by omega)
  have k1 := Q1.out.below hb2 (by omega)
  clear x0 x1 x2 x3 z0 z1 z2 z3
  obtain ⟨x0, x1, x2, x3, z0, z1, z2, z3⟩ := k0.four
  obtain ⟨y0, y1, y2, y3, v0, v1, v2, v3⟩ := k1.four
  have k1' := k1.far (p := ⟨B, 2, none⟩) (by show B + 1 ≠ B; omega) (.slice (some ⟨b2, 0, none⟩) m (m + 64))
  have r0 := k1'.set_ 0 (.int .i64 on)
  have r1 := r0.set_ 1 (.slice (some ⟨b1, 0, none⟩) n (n + 64))
  have r2 := r1.set_ 2 (.slice (some ⟨b2, 0, none⟩) m (m + 64))
  have r3 := r2.set_ 3 (.int .i64 bd)
  have f2 := (((((Frm.refl B [125] w2).set_ k0 (Nat.le_refl _) (by simp) (.slice (some ⟨b2, 0, none⟩) m (m + 64)) (i := 2)).set_ k1' (by omega) (by simp) (.int .i64 on) (i := 0)).set_ r0 (by omega) (by simp) (.slice (some ⟨b1, 0, none⟩) n (n + 64)) (i := 1)).set_ r1 (by omega) (by simp) (.slice (some ⟨b2, 0, none⟩) m (m + 64)) (i := 2)).set_ r2 (by omega) (by simp) (.int .i64 bd) (i := 3)
  obtain ⟨e0, e1, e2, e3, _, _, _, _⟩ := r3.four
  have HS1' := Lib.hid (f2.blk (HS1.out.below hb2 (by omega)) (by decide))
  have HS2' := Lib.hid (f2.blk hs2 (by decide))
  have HBF := Lib.hid ((HB2.out.trans (hb2.mono (by omega))).trans f2.below)
  clear hs2 hb2 k0 k1 k1' r0 r1 r2 r3 f2 hb2e
  go_wp2_with fail
  have hle1 : B ≤ b1 := by omega
  have hle2 : B ≤ b2 := by omega
  clear x0 x1 x2 x3 z0 z1 z2 z3 y0 y1 y2 y3 v0 v1 v2 v3
  exact bodyPost_ret (v := .agg #[.int .i64 on, .slice (some ⟨b1, 0, none⟩) n (n + 64), .slice (some ⟨b2, 0, none⟩) m (m + 64), .int .i64 bd]) (by simp [results, Tryz.results150, go_sem, e0, e1, e2, e3]) rfl ⟨b1, b2, rfl, ⟨by rw [HB.out]; exact hle1, by rw [HB.out]; exact hle2, HS1'.out, HS2'.out⟩, by rw [HB.out]; exact HBF.out⟩

section
variable (x : Eff) (w : World) (hx : EffSm x)
include hx
set_option maxRecDepth 100000 in
set_option maxHeartbeats 2000000 in
theorem spareEff_any (B b1 b2 : Nat) (h : EffW w B x b1 b2) :
    Calls Tryz.prog 152 #[.agg (effV x (some ⟨b1, 0, none⟩) (some ⟨b2, 0, none⟩) (x.slots.length + 64) (x.code.length + 64))] w fun e w' => e = .returned (.bool true) ∧ Below w.heap.size w w' := by
  obtain ⟨on, slots, code, bd⟩ := x
  obtain ⟨l1, l2⟩ := hx
  obtain ⟨_, _, h1, h2⟩ := h
  simp only [effV] at l1 l2 h1 h2 ⊢
  have hb := (Below.refl w.heap.size w).alloc (Nat.le_refl _) (.cells #[.int .i64 on, .slice (some ⟨b1, 0, none⟩) slots.length (slots.length + 64), .slice (some ⟨b2, 0, none⟩) code.length (code.length + 64), .int .i64 bd] 125)
  have hs := fun (wx : World) (hb : Below w.heap.size w wx) => spareSmalls_any b1 slots wx l1 (h1.below hb h1.lt)
  have hc := fun (wx : World) (hb : Below w.heap.size w wx) => spareBytes_any b2 code wx l2 (h2.below hb h2.lt)
  obtain ⟨n, hnn⟩ : ∃ n, slots.length = n := ⟨_, rfl⟩
  obtain ⟨m, hmm⟩ : ∃ m, code.length = m := ⟨_, rfl⟩
  rw [hnn, hmm] at hb ⊢
  rw [hnn] at hs
  rw [hmm] at hc
  have HS := Lib.hid hs
  have HC := Lib.hid hc
  have HB := Lib.hid hb
  clear hs hc hb h1 h2 hnn hmm l1 l2
  go_enter Tryz.func152, Tryz.ntmps152
  go_wp2_with fail
  refine (HS.out _ HB.out).mono ?_
  rintro e w1 ⟨rfl, rfl⟩
  go_wp2_with fail
  refine (HC.out _ HB.out).mono ?_
  rintro e w2 ⟨rfl, rfl⟩
  go_wp2_with fail
  go_ret
  exact ⟨rfl, HB.out⟩

set_option maxRecDepth 100000 in
set_option maxHeartbeats 2000000 in
theorem eqEff_any (SA CA SB CB : Option Addr) (sc cc sd cd : Nat) (hS : SmallsAt w SA x.slots) (hC : BytesAt w CA x.code) (hSB : SmallsAt w SB x.slots) (hCB : BytesAt w CB x.code) :
    Calls Tryz.prog 151 #[.agg (effV x SA CA sc cc), .agg (effV x SB CB sd cd)] w fun e w' => e = .returned (.bool true) ∧ Below w.heap.size w w' := by
  obtain ⟨on, slots, code, bd⟩ := x
  obtain ⟨l1, l2⟩ := hx
  simp only [effV] at l1 l2 hS hC hSB hCB ⊢
  have hqs := fun (wx : World) (h : Below w.heap.size w wx) => eqSmalls_same SA SB slots sc sd wx l1 (hS.below h) (hSB.below h)
  have hqn := fun (wx : World) (h : Below w.heap.size w wx) => eqBytes_same CA CB code cc cd wx l2 (hC.below h) (hCB.below h)
  obtain ⟨n, hnn⟩ : ∃ n, slots.length = n := ⟨_, rfl⟩
  obtain ⟨m, hmm⟩ : ∃ m, code.length = m := ⟨_, rfl⟩
  simp only [hnn] at hqs ⊢
  simp only [hmm] at hqn ⊢
  have hb := ((Below.refl w.heap.size w).alloc (Nat.le_refl _) (.cells #[.int .i64 on, .slice SA n sc, .slice CA m cc, .int .i64 bd] 125)).alloc (by simp) (.cells #[.int .i64 on, .slice SB n sd, .slice CB m cd, .int .i64 bd] 125)
  have k0 := (Blk.new w 125 #[.int .i64 on, .slice SA n sc, .slice CA m cc, .int .i64 bd]).alloc (.cells #[.int .i64 on, .slice SB n sd, .slice CB m cd, .int .i64 bd] 125)
  have k1 := Blk.new (w.alloc (.cells #[.int .i64 on, .slice SA n sc, .slice CA m cc, .int .i64 bd] 125)) 125 #[.int .i64 on, .slice SB n sd, .slice CB m cd, .int .i64 bd]
  simp only [World.size_alloc] at k1
  have HQS := Lib.hid hqs
  have HQN := Lib.hid hqn
  have HB := Lib.hid hb
  have K0 := Lib.hid k0
  have K1 := Lib.hid k1
  have hsz : ((w.alloc (.cells #[.int .i64 on, .slice SA n sc, .slice CA m cc, .int .i64 bd] 125)).alloc (.cells #[.int .i64 on, .slice SB n sd, .slice CB m cd, .int .i64 bd] 125)).heap.size = w.heap.size + 1 + 1 := by simp
  have HZ := Lib.hid hsz
  have hob : (on != on) = false := by simp
  have hbb : (bd != bd) = false := by simp
  clear hqs hqn hb k0 k1 hsz hS hC hSB hCB hnn hmm
  go_enter Tryz.func151, Tryz.ntmps151
  go_wp2_with fail
  refine (HQS.out _ HB.out).mono ?_
  rintro e w1 ⟨rfl, hb1⟩
  have B1 := Lib.hid (HB.out.trans (hb1.mono (by rw [HZ.out]; omega)))
  have x3 := (K0.out.below hb1 (by rw [HZ.out]; omega)).cell 2
  have y3 := (K1.out.below hb1 (by rw [HZ.out]; omega)).cell 2
  clear hb1
  go_wp2_with fail
  refine (HQN.out _ B1.out).mono ?_
  rintro e w2 ⟨rfl, hb2⟩
  go_wp2_with fail
  go_ret
  exact ⟨rfl, B1.out.trans (hb2.mono B1.out.size)⟩
end
end Go.Proofs.YtabpheanbomibaaGreatDoor
namespace Go.Proofs.YtabpheanbomibaaGreatDoor
open Go.RowKit
set_option linter.unusedVariables false

theorem info_eff : (Tryz.prog.info? 125).map (fun i => (i.zero.map (fun z => z.cells.size), i.size, i.bytes)) = some (some 4, 4, 64) := by kernel_rfl
theorem bdn {B : Nat} {w w' : World} (h : Below B w w') (n : Nat) : Below B w (w'.drewN n) := ⟨h.os, h.tape, h.output, h.size, h.block⟩
theorem quiet_num {P : Program} {f : FuncId} {args : Array Value} {w : World} {n : Nat} {v : Value} (h : Calls P f args (w.drewN n) fun e w' => e = .returned v ∧ w.drewN n = w') : Calls P f args (w.drewN n) fun e w'' => e = .returned v ∧ ∃ m, w'' = w.drewN m :=
  h.mono fun _ _ ⟨he, hm⟩ => ⟨he, n, hm.symm⟩
def set4 (cs : Array Value) (p : Nat) (a b c d : Value) : Array Value := (((cs.setIfInBounds p a).setIfInBounds (p + 1) b).setIfInBounds (p + 2) c).setIfInBounds (p + 3) d
theorem set4_size (cs : Array Value) (p : Nat) (a b c d : Value) : (set4 cs p a b c d).size = cs.size := by
  unfold set4
  simp only [Array.size_setIfInBounds]
theorem set4_ne (cs : Array Value) (p q : Nat) (a b c d : Value) (h : q < p ∨ p + 4 ≤ q) : (set4 cs p a b c d)[q]? = cs[q]? := by
  unfold set4
  rw [Array.getElem?_setIfInBounds_ne (by omega), Array.getElem?_setIfInBounds_ne (by omega), Array.getElem?_setIfInBounds_ne (by omega), Array.getElem?_setIfInBounds_ne (by omega)]
theorem set4_at (cs : Array Value) (p : Nat) (a b c d : Value) (h : p + 4 ≤ cs.size) : (set4 cs p a b c d)[p]? = some a ∧ (set4 cs p a b c d)[p + 1]? = some b ∧ (set4 cs p a b c d)[p + 2]? = some c ∧ (set4 cs p a b c d)[p + 3]? = some d := by
  unfold set4
  refine ⟨?_, ?_, ?_, ?_⟩
  · rw [Array.getElem?_setIfInBounds_ne (by omega), Array.getElem?_setIfInBounds_ne (by omega), Array.getElem?_setIfInBounds_ne (by omega), Array.getElem?_setIfInBounds_self_of_lt (by omega)]
  · rw [Array.getElem?_setIfInBounds_ne (by omega), Array.getElem?_setIfInBounds_ne (by omega), Array.getElem?_setIfInBounds_self_of_lt (by simp only [Array.size_setIfInBounds]; omega)]
  · rw [Array.getElem?_setIfInBounds_ne (by omega), Array.getElem?_setIfInBounds_self_of_lt (by simp only [Array.size_setIfInBounds]; omega)]
  · rw [Array.getElem?_setIfInBounds_self_of_lt (by simp only [Array.size_setIfInBounds]; omega)]
/-- The cells of a wide effect. -/
def EffC (w : World) (B : Nat) (x : Eff) (cs : Array Value) (o : Nat) : Prop := ∃ b1 b2, cs[o]? = some (.int .i64 x.on) ∧ cs[o + 1]? = some (.slice (some ⟨b1, 0, none⟩) x.slots.length (x.slots.length + 64)) ∧ cs[o + 2]? = some (.slice (some ⟨b2, 0, none⟩) x.code.length (x.code.length + 64)) ∧ cs[o + 3]? = some (.int .i64 x.bound) ∧ EffW w B x b1 b2
/-- A block of wide effects, known up to a place. -/
structure EffBlk (w : World) (B b K : Nat) (l : List Eff) (i : Nat) (cs : Array Value) : Prop where
  blk : Blk w b 125 cs
  size : cs.size = K * 4
  one : ∀ k x, k < i → l[k]? = some x → EffC w B x cs (k * 4)
  mark : ∀ k, l.length ≤ k → k < i → cs[k * 4]? = some (.int .i64 (numV 9 k)) ∧ cs[k * 4 + 1]? = some (.slice none 0 0) ∧ cs[k * 4 + 2]? = some (.slice none 0 0) ∧ cs[k * 4 + 3]? = some (.int .i64 0)
section
variable {w w' : World} {B C b K i : Nat} {l : List Eff} {cs : Array Value} {T : List TypeId}
theorem EffC.frm {x : Eff} {o : Nat} (h : EffC w B x cs o) (hf : Frm C T w w') (h1 : 82 ∉ T) (h2 : 5 ∉ T) : EffC w' B x cs o := by
  obtain ⟨b1, b2, q0, q1, q2, q3, q4⟩ := h
  exact ⟨b1, b2, q0, q1, q2, q3, q4.frm hf h1 h2⟩
theorem EffBlk.frm (h : EffBlk w B b K l i cs) (hf : Frm C T w w') (h0 : 125 ∉ T) (h1 : 82 ∉ T) (h2 : 5 ∉ T) : EffBlk w' B b K l i cs :=
  ⟨hf.blk h.blk h0, h.size, fun k x hk hx => (h.one k x hk hx).frm hf h1 h2, h.mark⟩
theorem EffBlk.below (h : EffBlk w B b K l i cs) (hb : Below w.heap.size w w') : EffBlk w' B b K l i cs := h.frm (Frm.of_below (T := []) hb (Nat.zero_le _)) (by simp) (by simp) (by simp)
theorem EffBlk.at_ (h : EffBlk w B b K l i cs) (hk : i < K) (j : Nat) (hj : j < 4) : (∃ v, w.cell? ⟨b, i * 4 + j, none⟩ = some v) ∧ w.frozen? ⟨b, i * 4 + j, none⟩ = false :=
  ⟨⟨_, (h.blk.cell _).trans (Array.getElem?_eq_getElem (by have := h.size; omega))⟩, h.blk.frozen _⟩
def put4e (w : World) (b i : Nat) (v0 v1 v2 v3 : Value) : World := (((w.setCell ⟨b, i * 4, none⟩ v0).setCell ⟨b, i * 4 + 1, none⟩ v1).setCell ⟨b, i * 4 + 2, none⟩ v2).setCell ⟨b, i * 4 + 3, none⟩ v3
theorem EffBlk.set4 (h : EffBlk w B b K l i cs) (hb : C ≤ b) (v0 v1 v2 v3 : Value) : Blk (put4e w b i v0 v1 v2 v3) b 125 (set4 cs (i * 4) v0 v1 v2 v3) ∧ Frm C [125] w (put4e w b i v0 v1 v2 v3) := by
  have b0 := h.blk.set_ (i * 4) v0
  have b1 := b0.set_ (i * 4 + 1) v1
  have b2 := b1.set_ (i * 4 + 2) v2
  have b3 := b2.set_ (i * 4 + 3) v3
  exact ⟨b3, (((Frm.refl C [125] w).set_ h.blk hb (by simp) v0).set_ b0 hb (by simp) v1).set_ b1 hb (by simp) v2 |>.set_ b2 hb (by simp) v3⟩
theorem EffBlk.put (h : EffBlk w B b K l i cs) (hk : i < K) (hl : l.length ≤ K) (v0 v1 v2 v3 : Value) (hx : ∀ x, l[i]? = some x → ∃ b1 b2, v0 = .int .i64 x.on ∧ v1 = .slice (some ⟨b1, 0, none⟩) x.slots.length (x.slots.length + 64) ∧ v2 = .slice (some ⟨b2, 0, none⟩) x.code.length (x.code.length + 64) ∧ v3 = .int .i64 x.bound ∧ EffW w B x b1 b2)
    (hm : l.length ≤ i → v0 = .int .i64 (numV 9 i) ∧ v1 = .slice none 0 0 ∧ v2 = .slice none 0 0 ∧ v3 = .int .i64 0) : EffBlk (put4e w b i v0 v1 v2 v3) B b K l (i + 1) (Go.Proofs.YtabpheanbomibaaGreatDoor.set4 cs (i * 4) v0 v1 v2 v3) := by
  obtain ⟨hb, hf⟩ := h.set4 (C := 0) (Nat.zero_le _) v0 v1 v2 v3
  have hz := h.size
  obtain ⟨a0, a1, a2, a3⟩ := set4_at cs (i * 4) v0 v1 v2 v3 (by omega)
  refine ⟨hb, by rw [set4_size, hz], fun k x hk2 hkx => ?_, fun k hk1 hk2 => ?_⟩
  · by_cases hki : k = i
    · subst hki
      obtain ⟨b1, b2, rfl, rfl, rfl, rfl, hw⟩ := hx x hkx
      exact ⟨b1, b2, a0, a1, a2, a3, hw.frm hf (by decide) (by decide)⟩
    · obtain ⟨b1, b2, q0, q1, q2, q3, q4⟩ := (h.one k x (by omega) hkx).frm hf (by decide) (by decide)
      exact ⟨b1, b2, by rw [set4_ne _ _ _ _ _ _ _ (by omega)]; exact q0, by rw [set4_ne _ _ _ _ _ _ _ (by omega)]; exact q1, by rw [set4_ne _ _ _ _ _ _ _ (by omega)]; exact q2, by rw [set4_ne _ _ _ _ _ _ _ (by omega)]; exact q3, q4⟩
  · by_cases hki : k = i
    · subst hki
      obtain ⟨rfl, rfl, rfl, rfl⟩ := hm hk1
      exact ⟨a0, a1, a2, a3⟩
    · obtain ⟨q0, q1, q2, q3⟩ := h.mark k hk1 (by omega)
      exact ⟨by rw [set4_ne _ _ _ _ _ _ _ (by omega)]; exact q0, by rw [set4_ne _ _ _ _ _ _ _ (by omega)]; exact q1, by rw [set4_ne _ _ _ _ _ _ _ (by omega)]; exact q2, by rw [set4_ne _ _ _ _ _ _ _ (by omega)]; exact q3⟩
end
set_option maxRecDepth 100000 in
set_option maxHeartbeats 2000000 in
theorem wideEffs_any (A : Option Addr) (l : List Eff) (c : Nat) (w : World) (hl : l.length ≤ 16777216) (hs : ∀ x ∈ l, EffSm x) (hA : EffsAt w A l) :
    Calls Tryz.prog 127 #[.slice A l.length c] w fun e w' => e = .returned (.slice (some ⟨w.heap.size, 0, none⟩) l.length (l.length + 64)) ∧ (∃ cs, EffBlk w' w.heap.size w.heap.size (l.length + 64) l (l.length + 64) cs) ∧ Below w.heap.size w w' := by
  obtain ⟨n, hn⟩ : ∃ n, l.length = n := ⟨_, rfl⟩
  rw [hn] at hl ⊢
  obtain ⟨i0, hi0, h⟩ := Option.map_eq_some_iff.1 info_eff
  injection h with h1 h
  injection h with h2 h3
  obtain ⟨z0, hz0, hs0⟩ := Option.map_eq_some_iff.1 h1
  obtain ⟨CS, hCS⟩ : ∃ CS, CS = madeCells z0.cells ((n + 64) * 4) := ⟨_, rfl⟩
  have hsz : CS.size = (n + 64) * 4 := by rw [hCS, size_madeCells]
  have hmk : ∀ wx, (Instr.makeSlice 121 (.int .i64 ((n : Int) + 64)) (.int .i64 ((n : Int) + 64))).run Tryz.prog wx = .ok (.slice (some ⟨wx.heap.size, 0, none⟩) (n + 64) (n + 64)) (wx.alloc (.cells CS 125)) := by
    intro wx
    have h := run_make (P := Tryz.prog) wx 121 125 i0 z0 Tryz.underlying121 hi0 hz0 .i64 .i64 ((n : Int) + 64) ((n : Int) + 64) (by omega) (by omega) (by rw [h3]; omega) (by omega)
    rw [h2, show ((n : Int) + 64).toNat = n + 64 by omega, ← hCS] at h
    exact h
  have hwe := fun (x : Eff) (SA CA : Option Addr) (sc cc : Nat) (wx : World) => wideEff_any x SA CA sc cc wx
  simp only [effV] at hwe
  have HWE := Lib.hid hwe
  have HA := Lib.hid hA
  have HN := Lib.hid hn
  have HSM := Lib.hid hs
  have HKB := Lib.hid (show EffBlk (w.alloc (.cells CS 125)) w.heap.size w.heap.size (n + 64) l 0 CS from ⟨Blk.new w _ _, hsz, fun k x hk => absurd hk (by omega), fun k _ hk => absurd hk (by omega)⟩)
  have HB0 := Lib.hid (show Below w.heap.size w (w.alloc (.cells CS 125)) from (Below.refl _ _).alloc (Nat.le_refl _) _)
  clear hwe hA hn hs hsz hCS hi0 hz0 hs0 h1 h2 h3
  go_enter Tryz.func127, Tryz.ntmps127
  go_wp2_with fail
  go_loopw [4] (fun iv wr => ∃ (i : Nat) (cs : Array Value), i ≤ n + 64 ∧ iv = .int .i64 i ∧ EffBlk wr w.heap.size w.heap.size (n + 64) l i cs ∧ Below w.heap.size w wr) (fun iv _ => n + 64 - (intOf iv).toNat)
  case atStart => exact ⟨0, _, by omega, rfl, HKB.out, HB0.out⟩
  case round =>
    obtain ⟨i, cs, hi, rfl, hkb, hbel⟩ := hrel
    by_cases hlt : i < n + 64
    · have hii : (i : Int) < n + 64 := by omega
      have HK := Lib.hid hkb
      have HB := Lib.hid hbel
      clear hkb hbel
      by_cases hin : i < n
      · obtain ⟨x, hx⟩ : ∃ x, l[i]? = some x := ⟨_, List.getElem?_eq_getElem (by rw [HN.out]; exact hin)⟩
        obtain ⟨b, off, rfl, hbl, hxa⟩ := HA.out i x hx
        obtain ⟨SA, sc, CA, cc, c0, c1, c2, c3, hS, hC⟩ := hxa.below HB.out hbl
        have hcall := HWE.out x SA CA sc cc wr (HSM.out x (List.mem_of_getElem? hx)) hS hC
        have HX := Lib.hid hx
        have HCA := Lib.hid hcall
        clear hx hxa hS hC hcall
        go_wp2_with fail
        refine HCA.out.mono ?_
        rintro e w1 ⟨b1, b2, rfl, hw1, hb1⟩
        have hk1 := HK.out.below hb1
        have hbw := HB.out.size
        have hlt1 : w.heap.size ≤ w1.heap.size := Nat.le_trans hbw hb1.size
        obtain ⟨⟨o0, y0⟩, z0⟩ := hk1.at_ hlt 0 (by omega)
        obtain ⟨⟨o1, y1⟩, z1⟩ := hk1.at_ hlt 1 (by omega)
        obtain ⟨⟨o2, y2⟩, z2⟩ := hk1.at_ hlt 2 (by omega)
        obtain ⟨⟨o3, y3⟩, z3⟩ := hk1.at_ hlt 3 (by omega)
        rw [Nat.add_zero] at y0 z0
        have HK1 := Lib.hid hk1
        have HW1 := Lib.hid (hw1.base hbw)
        have HB1 := Lib.hid (HB.out.trans (hb1.mono hbw))
        clear hk1 hw1 hb1 c0 c1 c2 c3
        go_wp2_with fail
        go_roundw
        case rel =>
          have hp := HK1.out.put hlt (by rw [HN.out]; omega) (.int .i64 x.on) (.slice (some ⟨b1, 0, none⟩) x.slots.length (x.slots.length + 64)) (.slice (some ⟨b2, 0, none⟩) x.code.length (x.code.length + 64)) (.int .i64 x.bound) (fun x' hx' => by
            have e := Option.some.inj (HX.out.symm.trans hx')
            subst e
            exact ⟨b1, b2, rfl, rfl, rfl, rfl, HW1.out⟩) (fun h => by rw [HN.out] at h; omega)
          have hf := (HK1.out.set4 (C := w.heap.size) (Nat.le_refl _) (.int .i64 x.on) (.slice (some ⟨b1, 0, none⟩) x.slots.length (x.slots.length + 64)) (.slice (some ⟨b2, 0, none⟩) x.code.length (x.code.length + 64)) (.int .i64 x.bound)).2.below
          exact ⟨i + 1, _, by omega, by go_num, hp, HB1.out.trans hf⟩
        case measure => (simp [intOf]; try omega)
      · have hge : (n : Int) ≤ i := by omega
        obtain ⟨⟨o0, y0⟩, z0⟩ := HK.out.at_ hlt 0 (by omega)
        obtain ⟨⟨o1, y1⟩, z1⟩ := HK.out.at_ hlt 1 (by omega)
        obtain ⟨⟨o2, y2⟩, z2⟩ := HK.out.at_ hlt 2 (by omega)
        obtain ⟨⟨o3, y3⟩, z3⟩ := HK.out.at_ hlt 3 (by omega)
        rw [Nat.add_zero] at y0 z0
        go_wp2_with fail
        refine (num_any 9 (i : Int) _ (by omega) (by omega) (by omega) (by omega)).mono ?_
        rintro e w5 ⟨rfl, rfl⟩
        go_wp2_with fail
        go_roundw
        case rel =>
          have hp := HK.out.put hlt (by rw [HN.out]; omega) (.int .i64 (numV 9 i)) (.slice none 0 0) (.slice none 0 0) (.int .i64 0) (fun x' hx' => by
            have := (List.getElem?_eq_some_iff.1 hx').1
            rw [HN.out] at this
            omega) (fun _ => ⟨rfl, rfl, rfl, rfl⟩)
          have hf := (HK.out.set4 (C := w.heap.size) (Nat.le_refl _) (.int .i64 (numV 9 i)) (.slice none 0 0) (.slice none 0 0) (.int .i64 0)).2.below
          exact ⟨i + 1, _, by omega, by go_num, hp, HB.out.trans hf⟩
        case measure => (simp [intOf]; try omega)
    · obtain rfl : i = n + 64 := by omega
      have HK := Lib.hid hkb
      have HB := Lib.hid hbel
      clear hkb hbel
      go_wp2_with fail
      go_ret
      exact ⟨rfl, ⟨cs, HK.out⟩, HB.out⟩

set_option maxRecDepth 100000 in
set_option maxHeartbeats 2000000 in
theorem spareEffs_any (B b : Nat) (l : List Eff) (w : World) (cs : Array Value) (hl : l.length ≤ 16777216) (hs : ∀ x ∈ l, EffSm x) (hk : EffBlk w B b (l.length + 64) l (l.length + 64) cs) :
    Calls Tryz.prog 135 #[.slice (some ⟨b, 0, none⟩) l.length (l.length + 64)] w fun e w' => e = .returned (.bool true) ∧ Below w.heap.size w w' := by
  have hbs := hk.blk.lt
  have hsp := fun (x : Eff) (b1 b2 : Nat) (wx : World) => spareEff_any x wx
  simp only [effV] at hsp
  obtain ⟨n, hn⟩ : ∃ n, l.length = n := ⟨_, rfl⟩
  rw [hn] at hl hk ⊢
  have HK := Lib.hid hk
  have HN := Lib.hid hn
  have HSM := Lib.hid hs
  have HSP := Lib.hid hsp
  clear hk hn hs hsp
  go_enter Tryz.func135, Tryz.ntmps135
  go_wp2_with fail
  go_loopw [4] (fun iv wr => ∃ i : Nat, n ≤ i ∧ i ≤ n + 64 ∧ iv = .int .i64 i ∧ Below w.heap.size w wr) (fun iv _ => n + 64 - (intOf iv).toNat)
  case atStart => exact ⟨n, by omega, by omega, rfl, Below.refl _ _⟩
  case round =>
    obtain ⟨i, hi0, hi, rfl, hbel⟩ := hrel
    by_cases hlt : i < n + 64
    · obtain ⟨m0, m1, m2, m3⟩ := HK.out.mark i (by rw [HN.out]; exact hi0) hlt
      have hkb := (HK.out.below hbel).blk
      have c0 := (hkb.cell (i * 4)).trans m0
      have c1 := (hkb.cell (i * 4 + 1)).trans m1
      have c2 := (hkb.cell (i * 4 + 2)).trans m2
      have c3 := (hkb.cell (i * 4 + 3)).trans m3
      have hii : (i : Int) < n + 64 := by omega
      have hself : (numV 9 (i : Int) == numV 9 (i : Int)) = true := by simp
      have HB := Lib.hid hbel
      clear m0 m1 m2 m3 hkb hbel
      go_wp2_with fail
      go_quiet ((go_at_call 26; exact quiet_num (num_any 9 (i : Int) _ (by omega) (by omega) (by omega) (by omega))))
      go_wp2_with fail
      go_roundw
      case rel => exact ⟨i + 1, by omega, by omega, by go_num, bdn (HB.out.alloc HB.out.size _) _⟩
      case measure => (simp [intOf]; try omega)
    · have hge : (n : Int) + 64 ≤ i := by omega
      have HB := Lib.hid hbel
      clear hbel
      go_wp2_with fail
      go_loopw [6] (fun iv wr => ∃ i : Nat, i ≤ n ∧ iv = .int .i64 i ∧ Below w.heap.size w wr) (fun iv _ => n - (intOf iv).toNat)
      case atStart => exact ⟨0, by omega, rfl, HB.out⟩
      case round =>
        clear HB
        clear hlt hi hi0
        obtain ⟨j, hj, rfl, hbel⟩ := hrel
        by_cases hlt : j < n
        · obtain ⟨x, hx⟩ : ∃ x, l[j]? = some x := ⟨_, List.getElem?_eq_getElem (by rw [HN.out]; exact hlt)⟩
          have hkw := HK.out.below hbel
          obtain ⟨b1, b2, m0, m1, m2, m3, hw⟩ := hkw.one j x (by omega) hx
          have c0 := (hkw.blk.cell (j * 4)).trans m0
          have c1 := (hkw.blk.cell (j * 4 + 1)).trans m1
          have c2 := (hkw.blk.cell (j * 4 + 2)).trans m2
          have c3 := (hkw.blk.cell (j * 4 + 3)).trans m3
          have hcall := HSP.out x b1 b2 wr (HSM.out x (List.mem_of_getElem? hx)) B b1 b2 hw
          have hii : (j : Int) < n := by omega
          have HCA := Lib.hid hcall
          have HB := Lib.hid hbel
          clear hx hkw m0 m1 m2 m3 hw hcall hbel
          go_wp2_with fail
          refine HCA.out.mono ?_
          rintro e w1 ⟨rfl, hb1⟩
          go_wp2_with fail
          go_roundw
          case rel => exact ⟨j + 1, by omega, by go_num, HB.out.trans (hb1.mono HB.out.size)⟩
          case measure => (simp [intOf]; try omega)
        · have HB := Lib.hid hbel
          clear hbel
          go_wp2_with fail
          go_ret
          exact ⟨rfl, HB.out⟩
set_option maxRecDepth 100000 in
set_option maxHeartbeats 2000000 in
theorem eqEffs_any (A B : Option Addr) (l : List Eff) (c d : Nat) (w : World) (hl : l.length ≤ 16777216) (hs : ∀ x ∈ l, EffSm x) (ha : EffsAt w A l) (hb : EffsAt w B l) :
    Calls Tryz.prog 133 #[.slice A l.length c, .slice B l.length d] w fun e w' => e = .returned (.bool true) ∧ Below w.heap.size w w' := by
  have heq := fun (x : Eff) (SA CA SB CB : Option Addr) (sc cc sd cd : Nat) (wx : World) (hx : EffSm x) => eqEff_any x wx hx SA CA SB CB sc cc sd cd
  simp only [effV] at heq
  obtain ⟨n, hn⟩ : ∃ n, l.length = n := ⟨_, rfl⟩
  rw [hn] at hl ⊢
  have HA := Lib.hid ha
  have HB := Lib.hid hb
  have HN := Lib.hid hn
  have HSM := Lib.hid hs
  have HEQ := Lib.hid heq
  clear ha hb hn hs heq
  go_enter Tryz.func133, Tryz.ntmps133
  go_wp2_with fail
  go_loopw [5] (fun iv wr => ∃ i : Nat, i ≤ n ∧ iv = .int .i64 i ∧ Below w.heap.size w wr) (fun iv _ => n - (intOf iv).toNat)
  case atStart => exact ⟨0, by omega, rfl, Below.refl _ _⟩
  case round =>
    obtain ⟨i, hi, rfl, hbel⟩ := hrel
    have HBE := Lib.hid hbel
    by_cases hlt : i < n
    · obtain ⟨x, hx⟩ : ∃ x, l[i]? = some x := ⟨_, List.getElem?_eq_getElem (by rw [HN.out]; exact hlt)⟩
      obtain ⟨b1, o1, rfl, h1, hx1⟩ := HA.out i x hx
      obtain ⟨b2, o2, rfl, h2, hx2⟩ := HB.out i x hx
      obtain ⟨SA, sc, CA, cc, c0, c1, c2, c3, hS1, hC1⟩ := hx1.below hbel h1
      obtain ⟨SB, sd, CB, cd, d0, d1, d2, d3, hS2, hC2⟩ := hx2.below hbel h2
      have hcall := HEQ.out x SA CA SB CB sc cc sd cd wr.drew (HSM.out x (List.mem_of_getElem? hx)) (hS1.below (Below.refl _ _).drew) (hC1.below (Below.refl _ _).drew) (hS2.below (Below.refl _ _).drew) (hC2.below (Below.refl _ _).drew)
      have HCA := Lib.hid hcall
      have hii : (i : Int) < n := by omega
      clear hx hx1 hx2 hS1 hC1 hS2 hC2 hcall hbel
      go_wp2_with fail
      refine wp_region_text (by kernel_rfl) (by kernel_rfl) ?_
      go_wp2_with fail
      refine HCA.out.mono ?_
      rintro e w1 ⟨rfl, hb1⟩
      go_wp2_with fail
      refine Only.normal ?_
      go_wp2_with fail
      go_roundw
      case rel => exact ⟨i + 1, by omega, by go_num, HBE.out.trans (((Below.refl _ _).drew.trans hb1).mono HBE.out.size)⟩
      case measure => (simp [intOf]; try omega)
    · clear hbel
      go_wp2_with fail
      go_ret
      exact ⟨rfl, HBE.out⟩
/-- Wide effects are read as they were. -/
theorem effsAt_wide {w : World} {B b : Nat} {l : List Eff} {cs : Array Value} (hby : ∀ x ∈ l, ∀ y ∈ x.code, 0 ≤ y ∧ y ≤ 255) (h : EffBlk w B b (l.length + 64) l (l.length + 64) cs) : EffsAt w (some ⟨b, 0, none⟩) l := by
  intro i x hx
  have hi := (List.getElem?_eq_some_iff.1 hx).1
  obtain ⟨b1, b2, m0, m1, m2, m3, _, _, h1, h2⟩ := h.one i x (by omega) hx
  exact ⟨b, 0, rfl, h.blk.lt, some ⟨b1, 0, none⟩, _, some ⟨b2, 0, none⟩, _, by rw [Nat.zero_add]; exact (h.blk.cell _).trans m0, by rw [Nat.zero_add]; exact (h.blk.cell _).trans m1, by rw [Nat.zero_add]; exact (h.blk.cell _).trans m2, by rw [Nat.zero_add]; exact (h.blk.cell _).trans m3, smallsAt_wide h1, bytesAt_wide (hby x (List.mem_of_getElem? hx)) h2⟩
end Go.Proofs.YtabpheanbomibaaGreatDoor
namespace Go.Proofs.YtabpheanbomibaaGreatDoor
open Go.RowKit
set_option linter.unusedVariables false

theorem EffC.base {w : World} {B C o : Nat} {x : Eff} {cs : Array Value} (h : EffC w B x cs o) (hC : C ≤ B) : EffC w C x cs o := by
  obtain ⟨b1, b2, q0, q1, q2, q3, q4⟩ := h
  exact ⟨b1, b2, q0, q1, q2, q3, q4.base hC⟩
theorem EffBlk.base {w : World} {B C b K i : Nat} {l : List Eff} {cs : Array Value} (h : EffBlk w B b K l i cs) (hC : C ≤ B) : EffBlk w C b K l i cs := ⟨h.blk, h.size, fun k x hk hx => (h.one k x hk hx).base hC, h.mark⟩
def kndV (x : Knd) (TA EA : Option Addr) (tc ec : Nat) : Array Value := #[.int .i64 x.name, .int .i64 x.cost, .int .i64 x.power, .int .i64 x.health, .slice TA x.tags.length tc, .slice EA x.effs.length ec]
/-- A kind whose lists have rooms of their own, from a block on. -/
def KndW (w : World) (B : Nat) (x : Knd) (b1 b2 : Nat) : Prop := B ≤ b1 ∧ B ≤ b2 ∧ Blk w b1 3 (longVs (wideL x.tags)).toArray ∧ ∃ cs, EffBlk w B b2 (x.effs.length + 64) x.effs (x.effs.length + 64) cs
theorem KndW.frm {w w' : World} {B C b1 b2 : Nat} {x : Knd} {T : List TypeId} (h : KndW w B x b1 b2) (hf : Frm C T w w') (h0 : 3 ∉ T) (h1 : 82 ∉ T) (h2 : 5 ∉ T) (h3 : 125 ∉ T) : KndW w' B x b1 b2 := by
  obtain ⟨q1, q2, q3, cs, q4⟩ := h
  exact ⟨q1, q2, hf.blk q3 h0, cs, q4.frm hf h3 h1 h2⟩
theorem KndW.base {w : World} {B C b1 b2 : Nat} {x : Knd} (h : KndW w B x b1 b2) (hC : C ≤ B) : KndW w C x b1 b2 := by
  obtain ⟨q1, q2, q3, cs, q4⟩ := h
  exact ⟨Nat.le_trans hC q1, Nat.le_trans hC q2, q3, cs, q4.base hC⟩
theorem Blk.six {w : World} {g : Nat} {t : TypeId} {a b c d e f : Value} (h : Blk w g t #[a, b, c, d, e, f]) : (w.cell? ⟨g, 0, none⟩ = some a ∧ w.cell? ⟨g, 1, none⟩ = some b ∧ w.cell? ⟨g, 2, none⟩ = some c ∧ w.cell? ⟨g, 3, none⟩ = some d ∧ w.cell? ⟨g, 4, none⟩ = some e ∧ w.cell? ⟨g, 5, none⟩ = some f) ∧
    w.frozen? ⟨g, 0, none⟩ = false ∧ w.frozen? ⟨g, 1, none⟩ = false ∧ w.frozen? ⟨g, 2, none⟩ = false ∧ w.frozen? ⟨g, 3, none⟩ = false ∧ w.frozen? ⟨g, 4, none⟩ = false ∧ w.frozen? ⟨g, 5, none⟩ = false :=
  ⟨⟨h.cell 0, h.cell 1, h.cell 2, h.cell 3, h.cell 4, h.cell 5⟩, h.frozen 0, h.frozen 1, h.frozen 2, h.frozen 3, h.frozen 4, h.frozen 5⟩
set_option maxRecDepth 100000 in
set_option maxHeartbeats 2000000 in
theorem wideKnd_any (x : Knd) (SA CA : Option Addr) (sc cc : Nat) (w : World) (hx : KndSm x) (hS : IntsAt w SA x.tags) (hC : EffsAt w CA x.effs) :
    Calls Tryz.prog 96 #[.agg (kndV x SA CA sc cc)] w fun e w' => ∃ b1 b2, e = .returned (.agg (kndV x (some ⟨b1, 0, none⟩) (some ⟨b2, 0, none⟩) (x.tags.length + 64) (x.effs.length + 64))) ∧ KndW w' w.heap.size x b1 b2 ∧ Below w.heap.size w w' := by
  obtain ⟨nm, co, po, he, tags, effs⟩ := x
  obtain ⟨l1, l2, l3⟩ := hx
  simp only [kndV] at l1 l2 l3 hS hC ⊢
  obtain ⟨B, hB⟩ : ∃ B, w.heap.size = B := ⟨_, rfl⟩
  have hcs := fun (wx : World) (h : Below B w wx) => wideInts_any SA tags sc wx l1 (hS.below (by rw [hB]; exact h))
  have hcb := fun (wx : World) (h : Below B w wx) => wideEffs_any CA effs cc wx l2 l3 (hC.below (by rw [hB]; exact h))
  obtain ⟨n, hn⟩ : ∃ n, tags.length = n := ⟨_, rfl⟩
  obtain ⟨m, hm⟩ : ∃ m, effs.length = m := ⟨_, rfl⟩
  rw [hn] at hcs ⊢
  rw [hm] at hcb ⊢
  obtain ⟨W, hW⟩ : ∃ W, W = (w.alloc (.cells #[.int .i64 nm, .int .i64 co, .int .i64 po, .int .i64 he, .slice SA n sc, .slice CA m cc] 123)).alloc (.cells #[.int .i64 0, .int .i64 0, .int .i64 0, .int .i64 0, .slice none 0 0, .slice none 0 0] 123) := ⟨_, rfl⟩
  have hBW : Below B w W := by rw [hW, ← hB]; exact ((Below.refl _ _).alloc (Nat.le_refl _) _).alloc (by simp) _
  have hb0 : Blk W B 123 #[.int .i64 nm, .int .i64 co, .int .i64 po, .int .i64 he, .slice SA n sc, .slice CA m cc] := by rw [hW, ← hB]; exact (Blk.new _ _ _).alloc _
  have hb1 : Blk W (B + 1) 123 #[.int .i64 0, .int .i64 0, .int .i64 0, .int .i64 0, .slice none 0 0, .slice none 0 0] := by rw [hW, ← hB]; have := Blk.new (w.alloc (.cells #[.int .i64 nm, .int .i64 co, .int .i64 po, .int .i64 he, .slice SA n sc, .slice CA m cc] 123)) 123 #[.int .i64 0, .int .i64 0, .int .i64 0, .int .i64 0, .slice none 0 0, .slice none 0 0]; simpa using this
  have HW := Lib.hid hW
  have HCS := Lib.hid hcs
  have HCB := Lib.hid hcb
  have HB0 := Lib.hid hb0
  have HB1 := Lib.hid hb1
  have HBW := Lib.hid hBW
  have HB := Lib.hid hB
  have HM := Lib.hid hm
  clear hW hcs hcb hb0 hb1 hBW l1 l2 l3 hS hC hn hm
  go_enter Tryz.func96, Tryz.ntmps96
  go_wp2_with fail
  rw [← HW.out]
  refine (HCS.out W HBW.out).mono ?_
  rintro e w1 ⟨rfl, hs1, hb1⟩
  obtain ⟨b1, hb1e⟩ : ∃ b1, b1 = W.heap.size := ⟨_, rfl⟩
  rw [← hb1e] at hs1 hb1 ⊢
  have hBb : B + 1 < b1 := by rw [hb1e]; exact HB1.out.lt
  have k0 := HB0.out.below hb1 (by omega)
  have k1 := HB1.out.below hb1 (by omega)
  obtain ⟨⟨x0, x1, x2, x3, x4, x5⟩, z0, z1, z2, z3, z4, z5⟩ := k0.six
  have q0 := k0.set_ 4 (.slice (some ⟨b1, 0, none⟩) n (n + 64))
  have q1 := k1.far (p := ⟨B, 4, none⟩) (by show B + 1 ≠ B; omega) (.slice (some ⟨b1, 0, none⟩) n (n + 64))
  have f1 : Frm B [123] w1 (w1.setCell ⟨B, 4, none⟩ (.slice (some ⟨b1, 0, none⟩) n (n + 64))) := (Frm.refl _ _ _).set_ k0 (Nat.le_refl _) (by simp) _
  have hB2 := (HBW.out.trans (hb1.mono (by omega))).trans f1.below
  have HS1 := Lib.hid (f1.blk hs1 (by decide))
  have Q0 := Lib.hid q0
  have Q1 := Lib.hid q1
  have HB2 := Lib.hid hB2
  have hz : (w1.setCell ⟨B, 4, none⟩ (.slice (some ⟨b1, 0, none⟩) n (n + 64))).heap.size = w1.heap.size := by simp [World.setCell]
  have hlt1 : b1 < w1.heap.size := hs1.lt
  have HZ := Lib.hid hz
  have HBE := Lib.hid hb1e
  clear hs1 hb1 k0 k1 q0 q1 f1 hB2 hz hb1e
  go_wp2_with fail
  refine (HCB.out _ HB2.out).mono ?_
  rintro e w2 ⟨rfl, ⟨cs, hs2⟩, hb2⟩
  rw [HZ.out] at hs2 hb2 ⊢
  obtain ⟨b2, hb2e⟩ : ∃ b2, b2 = w1.heap.size := ⟨_, rfl⟩
  rw [← hb2e] at hs2 hb2 ⊢
  have hb12 : b1 < b2 := by rw [hb2e]; exact hlt1
  have k0 := Q0.out.below hb2 (by omega)
  have k1 := Q1.out.below hb2 (by omega)
  clear x0 x1 x2 x3 x4 x5 z0 z1 z2 z3 z4 z5
  obtain ⟨⟨x0, x1, x2, x3, x4, x5⟩, z0, z1, z2, z3, z4, z5⟩ := k0.six
  obtain ⟨⟨y0, y1, y2, y3, y4, y5⟩, v0, v1, v2, v3, v4, v5⟩ := k1.six
  have k1' := k1.far (p := ⟨B, 5, none⟩) (by show B + 1 ≠ B; omega) (.slice (some ⟨b2, 0, none⟩) m (m + 64))
  have r0 := k1'.set_ 0 (.int .i64 nm)
  have r1 := r0.set_ 1 (.int .i64 co)
  have r2 := r1.set_ 2 (.int .i64 po)
  have r3 := r2.set_ 3 (.int .i64 he)
  have r4 := r3.set_ 4 (.slice (some ⟨b1, 0, none⟩) n (n + 64))
  have r5 := r4.set_ 5 (.slice (some ⟨b2, 0, none⟩) m (m + 64))
  have f2 := (((((((Frm.refl B [123] w2).set_ k0 (Nat.le_refl _) (by simp) (.slice (some ⟨b2, 0, none⟩) m (m + 64)) (i := 5)).set_ k1' (by omega) (by simp) (.int .i64 nm) (i := 0)).set_ r0 (by omega) (by simp) (.int .i64 co) (i := 1)).set_ r1 (by omega) (by simp) (.int .i64 po) (i := 2)).set_ r2 (by omega) (by simp) (.int .i64 he) (i := 3)).set_ r3 (by omega) (by simp) (.slice (some ⟨b1, 0, none⟩) n (n + 64)) (i := 4)).set_ r4 (by omega) (by simp) (.slice (some ⟨b2, 0, none⟩) m (m + 64)) (i := 5)
  obtain ⟨⟨e0, e1, e2, e3, e4, e5⟩, _, _, _, _, _, _⟩ := r5.six
  have HS1' := Lib.hid (f2.blk (HS1.out.below hb2 (by omega)) (by decide))
  have hle1 : B ≤ b1 := by omega
  have hle2 : B ≤ b2 := by omega
  have HS2' := Lib.hid ((hs2.frm f2 (by decide) (by decide) (by decide)).base hle2)
  have HBF := Lib.hid ((HB2.out.trans (hb2.mono (by omega))).trans f2.below)
  clear hs2 hb2 k0 k1 k1' r0 r1 r2 r3 r4 r5 f2 hb2e
  go_wp2_with fail
  clear x0 x1 x2 x3 x4 x5 z0 z1 z2 z3 z4 z5 y0 y1 y2 y3 y4 y5 v0 v1 v2 v3 v4 v5
  exact bodyPost_ret (v := .agg #[.int .i64 nm, .int .i64 co, .int .i64 po, .int .i64 he, .slice (some ⟨b1, 0, none⟩) n (n + 64), .slice (some ⟨b2, 0, none⟩) m (m + 64)]) (by simp [results, Tryz.results96, go_sem, e0, e1, e2, e3, e4, e5]) rfl ⟨b1, b2, rfl, ⟨by rw [HB.out]; exact hle1, by rw [HB.out]; exact hle2, HS1'.out, cs, by rw [HB.out, HM.out]; exact HS2'.out⟩, by rw [HB.out]; exact HBF.out⟩

section
variable (x : Knd) (w : World) (hx : KndSm x)
include hx
set_option maxRecDepth 100000 in
set_option maxHeartbeats 2000000 in
theorem spareKnd_any (B b1 b2 : Nat) (h : KndW w B x b1 b2) :
    Calls Tryz.prog 104 #[.agg (kndV x (some ⟨b1, 0, none⟩) (some ⟨b2, 0, none⟩) (x.tags.length + 64) (x.effs.length + 64))] w fun e w' => e = .returned (.bool true) ∧ Below w.heap.size w w' := by
  obtain ⟨nm, co, po, he, tags, effs⟩ := x
  obtain ⟨l1, l2, l3⟩ := hx
  obtain ⟨_, _, h1, cs, h2⟩ := h
  simp only [kndV] at l1 l2 l3 h1 h2 ⊢
  have hb := (Below.refl w.heap.size w).alloc (Nat.le_refl _) (.cells #[.int .i64 nm, .int .i64 co, .int .i64 po, .int .i64 he, .slice (some ⟨b1, 0, none⟩) tags.length (tags.length + 64), .slice (some ⟨b2, 0, none⟩) effs.length (effs.length + 64)] 123)
  have hs := fun (wx : World) (hb : Below w.heap.size w wx) => spareInts_any b1 tags wx l1 (h1.below hb h1.lt)
  have hc := fun (wx : World) (hb : Below w.heap.size w wx) => spareEffs_any B b2 effs wx cs l2 l3 (h2.below hb)
  obtain ⟨n, hnn⟩ : ∃ n, tags.length = n := ⟨_, rfl⟩
  obtain ⟨m, hmm⟩ : ∃ m, effs.length = m := ⟨_, rfl⟩
  rw [hnn, hmm] at hb ⊢
  rw [hnn] at hs
  rw [hmm] at hc
  have HS := Lib.hid hs
  have HC := Lib.hid hc
  have HB := Lib.hid hb
  clear hs hc hb h1 h2 hnn hmm l1 l2 l3
  go_enter Tryz.func104, Tryz.ntmps104
  go_wp2_with fail
  refine (HS.out _ HB.out).mono ?_
  rintro e w1 ⟨rfl, rfl⟩
  go_wp2_with fail
  refine (HC.out _ HB.out).mono ?_
  rintro e w2 ⟨rfl, hb2⟩
  go_wp2_with fail
  go_ret
  exact ⟨rfl, HB.out.trans (hb2.mono HB.out.size)⟩

set_option maxRecDepth 100000 in
set_option maxHeartbeats 2000000 in
theorem eqKnd_any (SA CA SB CB : Option Addr) (sc cc sd cd : Nat) (hS : IntsAt w SA x.tags) (hC : EffsAt w CA x.effs) (hSB : IntsAt w SB x.tags) (hCB : EffsAt w CB x.effs) :
    Calls Tryz.prog 103 #[.agg (kndV x SA CA sc cc), .agg (kndV x SB CB sd cd)] w fun e w' => e = .returned (.bool true) ∧ Below w.heap.size w w' := by
  obtain ⟨nm, co, po, he, tags, effs⟩ := x
  obtain ⟨l1, l2, l3⟩ := hx
  simp only [kndV] at l1 l2 l3 hS hC hSB hCB ⊢
  have hqs := fun (wx : World) (h : Below w.heap.size w wx) => eqInts_same SA SB tags sc sd wx l1 (hS.below h) (hSB.below h)
  have hqn := fun (wx : World) (h : Below w.heap.size w wx) => eqEffs_any CA CB effs cc cd wx l2 l3 (hC.below h) (hCB.below h)
  obtain ⟨n, hnn⟩ : ∃ n, tags.length = n := ⟨_, rfl⟩
  obtain ⟨m, hmm⟩ : ∃ m, effs.length = m := ⟨_, rfl⟩
  simp only [hnn] at hqs ⊢
  simp only [hmm] at hqn ⊢
  have hb := ((Below.refl w.heap.size w).alloc (Nat.le_refl _) (.cells #[.int .i64 nm, .int .i64 co, .int .i64 po, .int .i64 he, .slice SA n sc, .slice CA m cc] 123)).alloc (by simp) (.cells #[.int .i64 nm, .int .i64 co, .int .i64 po, .int .i64 he, .slice SB n sd, .slice CB m cd] 123)
  have k0 := (Blk.new w 123 #[.int .i64 nm, .int .i64 co, .int .i64 po, .int .i64 he, .slice SA n sc, .slice CA m cc]).alloc (.cells #[.int .i64 nm, .int .i64 co, .int .i64 po, .int .i64 he, .slice SB n sd, .slice CB m cd] 123)
  have k1 := Blk.new (w.alloc (.cells #[.int .i64 nm, .int .i64 co, .int .i64 po, .int .i64 he, .slice SA n sc, .slice CA m cc] 123)) 123 #[.int .i64 nm, .int .i64 co, .int .i64 po, .int .i64 he, .slice SB n sd, .slice CB m cd]
  simp only [World.size_alloc] at k1
  have HQS := Lib.hid hqs
  have HQN := Lib.hid hqn
  have HB := Lib.hid hb
  have K0 := Lib.hid k0
  have K1 := Lib.hid k1
  have hsz : ((w.alloc (.cells #[.int .i64 nm, .int .i64 co, .int .i64 po, .int .i64 he, .slice SA n sc, .slice CA m cc] 123)).alloc (.cells #[.int .i64 nm, .int .i64 co, .int .i64 po, .int .i64 he, .slice SB n sd, .slice CB m cd] 123)).heap.size = w.heap.size + 1 + 1 := by simp
  have HZ := Lib.hid hsz
  have hob : (nm != nm) = false := by simp
  have hbb : (co != co) = false := by simp
  have hoc : (po != po) = false := by simp
  have hod : (he != he) = false := by simp
  clear hqs hqn hb k0 k1 hsz hS hC hSB hCB hnn hmm
  go_enter Tryz.func103, Tryz.ntmps103
  go_wp2_with fail
  refine (HQS.out _ HB.out).mono ?_
  rintro e w1 ⟨rfl, hb1⟩
  have B1 := Lib.hid (HB.out.trans (hb1.mono (by rw [HZ.out]; omega)))
  have x3 := (K0.out.below hb1 (by rw [HZ.out]; omega)).cell 5
  have y3 := (K1.out.below hb1 (by rw [HZ.out]; omega)).cell 5
  clear hb1
  go_wp2_with fail
  refine (HQN.out _ B1.out).mono ?_
  rintro e w2 ⟨rfl, hb2⟩
  go_wp2_with fail
  go_ret
  exact ⟨rfl, B1.out.trans (hb2.mono B1.out.size)⟩
end
end Go.Proofs.YtabpheanbomibaaGreatDoor
namespace Go.Proofs.YtabpheanbomibaaGreatDoor
open Go.RowKit
set_option linter.unusedVariables false

theorem info_knd : (Tryz.prog.info? 123).map (fun i => (i.zero.map (fun z => z.cells.size), i.size, i.bytes)) = some (some 6, 6, 80) := by kernel_rfl
def set6 (cs : Array Value) (p : Nat) (a b c d e f : Value) : Array Value := (((((cs.setIfInBounds p a).setIfInBounds (p + 1) b).setIfInBounds (p + 2) c).setIfInBounds (p + 3) d).setIfInBounds (p + 4) e).setIfInBounds (p + 5) f
theorem set6_size (cs : Array Value) (p : Nat) (a b c d e f : Value) : (set6 cs p a b c d e f).size = cs.size := by
  unfold set6
  simp only [Array.size_setIfInBounds]
theorem set6_ne (cs : Array Value) (p q : Nat) (a b c d e f : Value) (h : q < p ∨ p + 6 ≤ q) : (set6 cs p a b c d e f)[q]? = cs[q]? := by
  unfold set6
  rw [Array.getElem?_setIfInBounds_ne (by omega), Array.getElem?_setIfInBounds_ne (by omega), Array.getElem?_setIfInBounds_ne (by omega), Array.getElem?_setIfInBounds_ne (by omega), Array.getElem?_setIfInBounds_ne (by omega), Array.getElem?_setIfInBounds_ne (by omega)]
theorem set6_at (cs : Array Value) (p : Nat) (a b c d e f : Value) (h : p + 6 ≤ cs.size) : (set6 cs p a b c d e f)[p]? = some a ∧ (set6 cs p a b c d e f)[p + 1]? = some b ∧ (set6 cs p a b c d e f)[p + 2]? = some c ∧ (set6 cs p a b c d e f)[p + 3]? = some d ∧ (set6 cs p a b c d e f)[p + 4]? = some e ∧ (set6 cs p a b c d e f)[p + 5]? = some f := by
  unfold set6
  refine ⟨?_, ?_, ?_, ?_, ?_, ?_⟩
  · rw [Array.getElem?_setIfInBounds_ne (by omega), Array.getElem?_setIfInBounds_ne (by omega), Array.getElem?_setIfInBounds_ne (by omega), Array.getElem?_setIfInBounds_ne (by omega), Array.getElem?_setIfInBounds_ne (by omega), Array.getElem?_setIfInBounds_self_of_lt (by (try simp only [Array.size_setIfInBounds]); omega)]
  · rw [Array.getElem?_setIfInBounds_ne (by omega), Array.getElem?_setIfInBounds_ne (by omega), Array.getElem?_setIfInBounds_ne (by omega), Array.getElem?_setIfInBounds_ne (by omega), Array.getElem?_setIfInBounds_self_of_lt (by (try simp only [Array.size_setIfInBounds]); omega)]
  · rw [Array.getElem?_setIfInBounds_ne (by omega), Array.getElem?_setIfInBounds_ne (by omega), Array.getElem?_setIfInBounds_ne (by omega), Array.getElem?_setIfInBounds_self_of_lt (by (try simp only [Array.size_setIfInBounds]); omega)]
  · rw [Array.getElem?_setIfInBounds_ne (by omega), Array.getElem?_setIfInBounds_ne (by omega), Array.getElem?_setIfInBounds_self_of_lt (by (try simp only [Array.size_setIfInBounds]); omega)]
  · rw [Array.getElem?_setIfInBounds_ne (by omega), Array.getElem?_setIfInBounds_self_of_lt (by (try simp only [Array.size_setIfInBounds]); omega)]
  · rw [Array.getElem?_setIfInBounds_self_of_lt (by (try simp only [Array.size_setIfInBounds]); omega)]
/-- The cells of a wide kind. -/
def KndC (w : World) (B : Nat) (x : Knd) (cs : Array Value) (o : Nat) : Prop := ∃ b1 b2, cs[o]? = some (.int .i64 x.name) ∧ cs[o + 1]? = some (.int .i64 x.cost) ∧ cs[o + 2]? = some (.int .i64 x.power) ∧ cs[o + 3]? = some (.int .i64 x.health) ∧ cs[o + 4]? = some (.slice (some ⟨b1, 0, none⟩) x.tags.length (x.tags.length + 64)) ∧ cs[o + 5]? = some (.slice (some ⟨b2, 0, none⟩) x.effs.length (x.effs.length + 64)) ∧ KndW w B x b1 b2
/-- A block of wide kinds, known up to a place. -/
structure KndBlk (w : World) (B b K : Nat) (l : List Knd) (i : Nat) (cs : Array Value) : Prop where
  blk : Blk w b 123 cs
  size : cs.size = K * 6
  one : ∀ k x, k < i → l[k]? = some x → KndC w B x cs (k * 6)
  mark : ∀ k, l.length ≤ k → k < i → cs[k * 6]? = some (.int .i64 (numV 9 k)) ∧ cs[k * 6 + 1]? = some (.int .i64 0) ∧ cs[k * 6 + 2]? = some (.int .i64 0) ∧ cs[k * 6 + 3]? = some (.int .i64 0) ∧ cs[k * 6 + 4]? = some (.slice none 0 0) ∧ cs[k * 6 + 5]? = some (.slice none 0 0)
section
variable {w w' : World} {B C b K i : Nat} {l : List Knd} {cs : Array Value} {T : List TypeId}
theorem KndC.frm {x : Knd} {o : Nat} (h : KndC w B x cs o) (hf : Frm C T w w') (h0 : 3 ∉ T) (h1 : 82 ∉ T) (h2 : 5 ∉ T) (h3 : 125 ∉ T) : KndC w' B x cs o := by
  obtain ⟨b1, b2, q0, q1, q2, q3, q4, q5, q6⟩ := h
  exact ⟨b1, b2, q0, q1, q2, q3, q4, q5, q6.frm hf h0 h1 h2 h3⟩
theorem KndBlk.frm (h : KndBlk w B b K l i cs) (hf : Frm C T w w') (h4 : 123 ∉ T) (h0 : 3 ∉ T) (h1 : 82 ∉ T) (h2 : 5 ∉ T) (h3 : 125 ∉ T) : KndBlk w' B b K l i cs :=
  ⟨hf.blk h.blk h4, h.size, fun k x hk hx => (h.one k x hk hx).frm hf h0 h1 h2 h3, h.mark⟩
theorem KndBlk.below (h : KndBlk w B b K l i cs) (hb : Below w.heap.size w w') : KndBlk w' B b K l i cs := h.frm (Frm.of_below (T := []) hb (Nat.zero_le _)) (by simp) (by simp) (by simp) (by simp) (by simp)
theorem KndBlk.at_ (h : KndBlk w B b K l i cs) (hk : i < K) (j : Nat) (hj : j < 6) : (∃ v, w.cell? ⟨b, i * 6 + j, none⟩ = some v) ∧ w.frozen? ⟨b, i * 6 + j, none⟩ = false :=
  ⟨⟨_, (h.blk.cell _).trans (Array.getElem?_eq_getElem (by have := h.size; omega))⟩, h.blk.frozen _⟩
def put6k (w : World) (b i : Nat) (v0 v1 v2 v3 v4 v5 : Value) : World := (((((w.setCell ⟨b, i * 6, none⟩ v0).setCell ⟨b, i * 6 + 1, none⟩ v1).setCell ⟨b, i * 6 + 2, none⟩ v2).setCell ⟨b, i * 6 + 3, none⟩ v3).setCell ⟨b, i * 6 + 4, none⟩ v4).setCell ⟨b, i * 6 + 5, none⟩ v5
theorem KndBlk.set6 (h : KndBlk w B b K l i cs) (hb : C ≤ b) (v0 v1 v2 v3 v4 v5 : Value) : Blk (put6k w b i v0 v1 v2 v3 v4 v5) b 123 (set6 cs (i * 6) v0 v1 v2 v3 v4 v5) ∧ Frm C [123] w (put6k w b i v0 v1 v2 v3 v4 v5) := by
  have b0 := h.blk.set_ (i * 6) v0
  have b1 := b0.set_ (i * 6 + 1) v1
  have b2 := b1.set_ (i * 6 + 2) v2
  have b3 := b2.set_ (i * 6 + 3) v3
  have b4 := b3.set_ (i * 6 + 4) v4
  have b5 := b4.set_ (i * 6 + 5) v5
  exact ⟨b5, ((((((Frm.refl C [123] w).set_ h.blk hb (by simp) v0).set_ b0 hb (by simp) v1).set_ b1 hb (by simp) v2).set_ b2 hb (by simp) v3).set_ b3 hb (by simp) v4).set_ b4 hb (by simp) v5⟩
theorem KndBlk.put (h : KndBlk w B b K l i cs) (hk : i < K) (hl : l.length ≤ K) (v0 v1 v2 v3 v4 v5 : Value) (hx : ∀ x, l[i]? = some x → ∃ b1 b2, v0 = .int .i64 x.name ∧ v1 = .int .i64 x.cost ∧ v2 = .int .i64 x.power ∧ v3 = .int .i64 x.health ∧ v4 = .slice (some ⟨b1, 0, none⟩) x.tags.length (x.tags.length + 64) ∧ v5 = .slice (some ⟨b2, 0, none⟩) x.effs.length (x.effs.length + 64) ∧ KndW w B x b1 b2)
    (hm : l.length ≤ i → v0 = .int .i64 (numV 9 i) ∧ v1 = .int .i64 0 ∧ v2 = .int .i64 0 ∧ v3 = .int .i64 0 ∧ v4 = .slice none 0 0 ∧ v5 = .slice none 0 0) : KndBlk (put6k w b i v0 v1 v2 v3 v4 v5) B b K l (i + 1) (Go.Proofs.YtabpheanbomibaaGreatDoor.set6 cs (i * 6) v0 v1 v2 v3 v4 v5) := by
  obtain ⟨hb, hf⟩ := h.set6 (C := 0) (Nat.zero_le _) v0 v1 v2 v3 v4 v5
  have hz := h.size
  obtain ⟨a0, a1, a2, a3, a4, a5⟩ := set6_at cs (i * 6) v0 v1 v2 v3 v4 v5 (by omega)
  have hne := fun q (hq : q < i * 6 ∨ i * 6 + 6 ≤ q) => set6_ne cs (i * 6) q v0 v1 v2 v3 v4 v5 hq
  refine ⟨hb, by rw [set6_size, hz], fun k x hk2 hkx => ?_, fun k hk1 hk2 => ?_⟩
  · by_cases hki : k = i
    · subst hki
      obtain ⟨b1, b2, rfl, rfl, rfl, rfl, rfl, rfl, hw⟩ := hx x hkx
      exact ⟨b1, b2, a0, a1, a2, a3, a4, a5, hw.frm hf (by decide) (by decide) (by decide) (by decide)⟩
    · obtain ⟨b1, b2, q0, q1, q2, q3, q4, q5, q6⟩ := (h.one k x (by omega) hkx).frm hf (by decide) (by decide) (by decide) (by decide)
      exact ⟨b1, b2, by rw [hne _ (by omega)]; exact q0, by rw [hne _ (by omega)]; exact q1, by rw [hne _ (by omega)]; exact q2, by rw [hne _ (by omega)]; exact q3, by rw [hne _ (by omega)]; exact q4, by rw [hne _ (by omega)]; exact q5, q6⟩
  · by_cases hki : k = i
    · subst hki
      obtain ⟨rfl, rfl, rfl, rfl, rfl, rfl⟩ := hm hk1
      exact ⟨a0, a1, a2, a3, a4, a5⟩
    · obtain ⟨q0, q1, q2, q3, q4, q5⟩ := h.mark k hk1 (by omega)
      exact ⟨by rw [hne _ (by omega)]; exact q0, by rw [hne _ (by omega)]; exact q1, by rw [hne _ (by omega)]; exact q2, by rw [hne _ (by omega)]; exact q3, by rw [hne _ (by omega)]; exact q4, by rw [hne _ (by omega)]; exact q5⟩
end
set_option maxRecDepth 100000 in
set_option maxHeartbeats 2000000 in
theorem wideKnds_any (A : Option Addr) (l : List Knd) (c : Nat) (w : World) (hl : l.length ≤ 16777216) (hs : ∀ x ∈ l, KndSm x) (hA : KndsAt w A l) :
    Calls Tryz.prog 68 #[.slice A l.length c] w fun e w' => e = .returned (.slice (some ⟨w.heap.size, 0, none⟩) l.length (l.length + 64)) ∧ (∃ cs, KndBlk w' w.heap.size w.heap.size (l.length + 64) l (l.length + 64) cs) ∧ Below w.heap.size w w' := by
  obtain ⟨n, hn⟩ : ∃ n, l.length = n := ⟨_, rfl⟩
  rw [hn] at hl ⊢
  obtain ⟨i0, hi0, h⟩ := Option.map_eq_some_iff.1 info_knd
  injection h with h1 h
  injection h with h2 h3
  obtain ⟨z0, hz0, hs0⟩ := Option.map_eq_some_iff.1 h1
  obtain ⟨CS, hCS⟩ : ∃ CS, CS = madeCells z0.cells ((n + 64) * 6) := ⟨_, rfl⟩
  have hsz : CS.size = (n + 64) * 6 := by rw [hCS, size_madeCells]
  have hmk : ∀ wx, (Instr.makeSlice 73 (.int .i64 ((n : Int) + 64)) (.int .i64 ((n : Int) + 64))).run Tryz.prog wx = .ok (.slice (some ⟨wx.heap.size, 0, none⟩) (n + 64) (n + 64)) (wx.alloc (.cells CS 123)) := by
    intro wx
    have h := run_make (P := Tryz.prog) wx 73 123 i0 z0 Tryz.underlying73 hi0 hz0 .i64 .i64 ((n : Int) + 64) ((n : Int) + 64) (by omega) (by omega) (by rw [h3]; omega) (by omega)
    rw [h2, show ((n : Int) + 64).toNat = n + 64 by omega, ← hCS] at h
    exact h
  have hwe := fun (x : Knd) (SA CA : Option Addr) (sc cc : Nat) (wx : World) => wideKnd_any x SA CA sc cc wx
  simp only [kndV] at hwe
  have HWE := Lib.hid hwe
  have HA := Lib.hid hA
  have HN := Lib.hid hn
  have HSM := Lib.hid hs
  have HKB := Lib.hid (show KndBlk (w.alloc (.cells CS 123)) w.heap.size w.heap.size (n + 64) l 0 CS from ⟨Blk.new w _ _, hsz, fun k x hk => absurd hk (by omega), fun k _ hk => absurd hk (by omega)⟩)
  have HB0 := Lib.hid (show Below w.heap.size w (w.alloc (.cells CS 123)) from (Below.refl _ _).alloc (Nat.le_refl _) _)
  clear hwe hA hn hs hsz hCS hi0 hz0 hs0 h1 h2 h3
  go_enter Tryz.func68, Tryz.ntmps68
  go_wp2_with fail
  go_loopw [4] (fun iv wr => ∃ (i : Nat) (cs : Array Value), i ≤ n + 64 ∧ iv = .int .i64 i ∧ KndBlk wr w.heap.size w.heap.size (n + 64) l i cs ∧ Below w.heap.size w wr) (fun iv _ => n + 64 - (intOf iv).toNat)
  case atStart => exact ⟨0, _, by omega, rfl, HKB.out, HB0.out⟩
  case round =>
    obtain ⟨i, cs, hi, rfl, hkb, hbel⟩ := hrel
    by_cases hlt : i < n + 64
    · have hii : (i : Int) < n + 64 := by omega
      have HK := Lib.hid hkb
      have HB := Lib.hid hbel
      clear hkb hbel
      by_cases hin : i < n
      · obtain ⟨x, hx⟩ : ∃ x, l[i]? = some x := ⟨_, List.getElem?_eq_getElem (by rw [HN.out]; exact hin)⟩
        obtain ⟨b, off, rfl, hbl, hxa⟩ := HA.out i x hx
        obtain ⟨SA, sc, CA, cc, c0, c1, c2, c3, c4, c5, hS, hC⟩ := hxa.below HB.out hbl
        have hcall := HWE.out x SA CA sc cc wr (HSM.out x (List.mem_of_getElem? hx)) hS hC
        have HX := Lib.hid hx
        have HCA := Lib.hid hcall
        clear hx hxa hS hC hcall
        go_wp2_with fail
        refine HCA.out.mono ?_
        rintro e w1 ⟨b1, b2, rfl, hw1, hb1⟩
        have hk1 := HK.out.below hb1
        have hbw := HB.out.size
        have hlt1 : w.heap.size ≤ w1.heap.size := Nat.le_trans hbw hb1.size
        obtain ⟨⟨o0, y0⟩, z0⟩ := hk1.at_ hlt 0 (by omega)
        obtain ⟨⟨o1, y1⟩, z1⟩ := hk1.at_ hlt 1 (by omega)
        obtain ⟨⟨o2, y2⟩, z2⟩ := hk1.at_ hlt 2 (by omega)
        obtain ⟨⟨o3, y3⟩, z3⟩ := hk1.at_ hlt 3 (by omega)
        obtain ⟨⟨o4, y4⟩, z4⟩ := hk1.at_ hlt 4 (by omega)
        obtain ⟨⟨o5, y5⟩, z5⟩ := hk1.at_ hlt 5 (by omega)
        rw [Nat.add_zero] at y0 z0
        have HK1 := Lib.hid hk1
        have HW1 := Lib.hid (hw1.base hbw)
        have HB1 := Lib.hid (HB.out.trans (hb1.mono hbw))
        clear hk1 hw1 hb1 c0 c1 c2 c3 c4 c5
        go_wp2_with fail
        go_roundw
        case rel =>
          have hp := HK1.out.put hlt (by rw [HN.out]; omega) (.int .i64 x.name) (.int .i64 x.cost) (.int .i64 x.power) (.int .i64 x.health) (.slice (some ⟨b1, 0, none⟩) x.tags.length (x.tags.length + 64)) (.slice (some ⟨b2, 0, none⟩) x.effs.length (x.effs.length + 64)) (fun x' hx' => by
            have e := Option.some.inj (HX.out.symm.trans hx')
            subst e
            exact ⟨b1, b2, rfl, rfl, rfl, rfl, rfl, rfl, HW1.out⟩) (fun h => by rw [HN.out] at h; omega)
          have hf := (HK1.out.set6 (C := w.heap.size) (Nat.le_refl _) (.int .i64 x.name) (.int .i64 x.cost) (.int .i64 x.power) (.int .i64 x.health) (.slice (some ⟨b1, 0, none⟩) x.tags.length (x.tags.length + 64)) (.slice (some ⟨b2, 0, none⟩) x.effs.length (x.effs.length + 64))).2.below
          exact ⟨i + 1, _, by omega, by go_num, hp, HB1.out.trans hf⟩
        case measure => (simp [intOf]; try omega)
      · have hge : (n : Int) ≤ i := by omega
        obtain ⟨⟨o0, y0⟩, z0⟩ := HK.out.at_ hlt 0 (by omega)
        obtain ⟨⟨o1, y1⟩, z1⟩ := HK.out.at_ hlt 1 (by omega)
        obtain ⟨⟨o2, y2⟩, z2⟩ := HK.out.at_ hlt 2 (by omega)
        obtain ⟨⟨o3, y3⟩, z3⟩ := HK.out.at_ hlt 3 (by omega)
        obtain ⟨⟨o4, y4⟩, z4⟩ := HK.out.at_ hlt 4 (by omega)
        obtain ⟨⟨o5, y5⟩, z5⟩ := HK.out.at_ hlt 5 (by omega)
        rw [Nat.add_zero] at y0 z0
        go_wp2_with fail
        refine (num_any 9 (i : Int) _ (by omega) (by omega) (by omega) (by omega)).mono ?_
        rintro e w5 ⟨rfl, rfl⟩
        go_wp2_with fail
        go_roundw
        case rel =>
          have hp := HK.out.put hlt (by rw [HN.out]; omega) (.int .i64 (numV 9 i)) (.int .i64 0) (.int .i64 0) (.int .i64 0) (.slice none 0 0) (.slice none 0 0) (fun x' hx' => by
            have := (List.getElem?_eq_some_iff.1 hx').1
            rw [HN.out] at this
            omega) (fun _ => ⟨rfl, rfl, rfl, rfl, rfl, rfl⟩)
          have hf := (HK.out.set6 (C := w.heap.size) (Nat.le_refl _) (.int .i64 (numV 9 i)) (.int .i64 0) (.int .i64 0) (.int .i64 0) (.slice none 0 0) (.slice none 0 0)).2.below
          exact ⟨i + 1, _, by omega, by go_num, hp, HB.out.trans hf⟩
        case measure => (simp [intOf]; try omega)
    · obtain rfl : i = n + 64 := by omega
      have HK := Lib.hid hkb
      have HB := Lib.hid hbel
      clear hkb hbel
      go_wp2_with fail
      go_ret
      exact ⟨rfl, ⟨cs, HK.out⟩, HB.out⟩

set_option maxRecDepth 100000 in
set_option maxHeartbeats 2000000 in
theorem spareKnds_any (B b : Nat) (l : List Knd) (w : World) (cs : Array Value) (hl : l.length ≤ 16777216) (hs : ∀ x ∈ l, KndSm x) (hk : KndBlk w B b (l.length + 64) l (l.length + 64) cs) :
    Calls Tryz.prog 76 #[.slice (some ⟨b, 0, none⟩) l.length (l.length + 64)] w fun e w' => e = .returned (.bool true) ∧ Below w.heap.size w w' := by
  have hbs := hk.blk.lt
  have hsp := fun (x : Knd) (b1 b2 : Nat) (wx : World) => spareKnd_any x wx
  simp only [kndV] at hsp
  obtain ⟨n, hn⟩ : ∃ n, l.length = n := ⟨_, rfl⟩
  rw [hn] at hl hk ⊢
  have HK := Lib.hid hk
  have HN := Lib.hid hn
  have HSM := Lib.hid hs
  have HSP := Lib.hid hsp
  clear hk hn hs hsp
  go_enter Tryz.func76, Tryz.ntmps76
  go_wp2_with fail
  go_loopw [4] (fun iv wr => ∃ i : Nat, n ≤ i ∧ i ≤ n + 64 ∧ iv = .int .i64 i ∧ Below w.heap.size w wr) (fun iv _ => n + 64 - (intOf iv).toNat)
  case atStart => exact ⟨n, by omega, by omega, rfl, Below.refl _ _⟩
  case round =>
    obtain ⟨i, hi0, hi, rfl, hbel⟩ := hrel
    by_cases hlt : i < n + 64
    · obtain ⟨m0, m1, m2, m3, m4, m5⟩ := HK.out.mark i (by rw [HN.out]; exact hi0) hlt
      have hkb := (HK.out.below hbel).blk
      have c0 := (hkb.cell (i * 6)).trans m0
      have c1 := (hkb.cell (i * 6 + 1)).trans m1
      have c2 := (hkb.cell (i * 6 + 2)).trans m2
      have c3 := (hkb.cell (i * 6 + 3)).trans m3
      have c4 := (hkb.cell (i * 6 + 4)).trans m4
      have c5 := (hkb.cell (i * 6 + 5)).trans m5
      have hii : (i : Int) < n + 64 := by omega
      have hself : (numV 9 (i : Int) == numV 9 (i : Int)) = true := by simp
      have HB := Lib.hid hbel
      clear m0 m1 m2 m3 m4 m5 hkb hbel
      go_wp2_with fail
      go_quiet ((go_at_call 26; exact quiet_num (num_any 9 (i : Int) _ (by omega) (by omega) (by omega) (by omega))))
      go_wp2_with fail
      go_roundw
      case rel => exact ⟨i + 1, by omega, by omega, by go_num, bdn (HB.out.alloc HB.out.size _) _⟩
      case measure => (simp [intOf]; try omega)
    · have hge : (n : Int) + 64 ≤ i := by omega
      have HB := Lib.hid hbel
      clear hbel
      go_wp2_with fail
      go_loopw [6] (fun iv wr => ∃ i : Nat, i ≤ n ∧ iv = .int .i64 i ∧ Below w.heap.size w wr) (fun iv _ => n - (intOf iv).toNat)
      case atStart => exact ⟨0, by omega, rfl, HB.out⟩
      case round =>
        clear HB
        clear hlt hi hi0
        obtain ⟨j, hj, rfl, hbel⟩ := hrel
        by_cases hlt : j < n
        · obtain ⟨x, hx⟩ : ∃ x, l[j]? = some x := ⟨_, List.getElem?_eq_getElem (by rw [HN.out]; exact hlt)⟩
          have hkw := HK.out.below hbel
          obtain ⟨b1, b2, m0, m1, m2, m3, m4, m5, hw⟩ := hkw.one j x (by omega) hx
          have c0 := (hkw.blk.cell (j * 6)).trans m0
          have c1 := (hkw.blk.cell (j * 6 + 1)).trans m1
          have c2 := (hkw.blk.cell (j * 6 + 2)).trans m2
          have c3 := (hkw.blk.cell (j * 6 + 3)).trans m3
          have c4 := (hkw.blk.cell (j * 6 + 4)).trans m4
          have c5 := (hkw.blk.cell (j * 6 + 5)).trans m5
          have hcall := HSP.out x b1 b2 wr (HSM.out x (List.mem_of_getElem? hx)) B b1 b2 hw
          have hii : (j : Int) < n := by omega
          have HCA := Lib.hid hcall
          have HB := Lib.hid hbel
          clear hx hkw m0 m1 m2 m3 m4 m5 hw hcall hbel
          go_wp2_with fail
          refine HCA.out.mono ?_
          rintro e w1 ⟨rfl, hb1⟩
          go_wp2_with fail
          go_roundw
          case rel => exact ⟨j + 1, by omega, by go_num, HB.out.trans (hb1.mono HB.out.size)⟩
          case measure => (simp [intOf]; try omega)
        · have HB := Lib.hid hbel
          clear hbel
          go_wp2_with fail
          go_ret
          exact ⟨rfl, HB.out⟩
set_option maxRecDepth 100000 in
set_option maxHeartbeats 2000000 in
theorem eqKnds_any (A B : Option Addr) (l : List Knd) (c d : Nat) (w : World) (hl : l.length ≤ 16777216) (hs : ∀ x ∈ l, KndSm x) (ha : KndsAt w A l) (hb : KndsAt w B l) :
    Calls Tryz.prog 73 #[.slice A l.length c, .slice B l.length d] w fun e w' => e = .returned (.bool true) ∧ Below w.heap.size w w' := by
  have heq := fun (x : Knd) (SA CA SB CB : Option Addr) (sc cc sd cd : Nat) (wx : World) (hx : KndSm x) => eqKnd_any x wx hx SA CA SB CB sc cc sd cd
  simp only [kndV] at heq
  obtain ⟨n, hn⟩ : ∃ n, l.length = n := ⟨_, rfl⟩
  rw [hn] at hl ⊢
  have HA := Lib.hid ha
  have HB := Lib.hid hb
  have HN := Lib.hid hn
  have HSM := Lib.hid hs
  have HEQ := Lib.hid heq
  clear ha hb hn hs heq
  go_enter Tryz.func73, Tryz.ntmps73
  go_wp2_with fail
  go_loopw [5] (fun iv wr => ∃ i : Nat, i ≤ n ∧ iv = .int .i64 i ∧ Below w.heap.size w wr) (fun iv _ => n - (intOf iv).toNat)
  case atStart => exact ⟨0, by omega, rfl, Below.refl _ _⟩
  case round =>
    obtain ⟨i, hi, rfl, hbel⟩ := hrel
    have HBE := Lib.hid hbel
    by_cases hlt : i < n
    · obtain ⟨x, hx⟩ : ∃ x, l[i]? = some x := ⟨_, List.getElem?_eq_getElem (by rw [HN.out]; exact hlt)⟩
      obtain ⟨b1, o1, rfl, h1, hx1⟩ := HA.out i x hx
      obtain ⟨b2, o2, rfl, h2, hx2⟩ := HB.out i x hx
      obtain ⟨SA, sc, CA, cc, c0, c1, c2, c3, c4, c5, hS1, hC1⟩ := hx1.below hbel h1
      obtain ⟨SB, sd, CB, cd, d0, d1, d2, d3, d4, d5, hS2, hC2⟩ := hx2.below hbel h2
      have hcall := HEQ.out x SA CA SB CB sc cc sd cd wr.drew (HSM.out x (List.mem_of_getElem? hx)) (hS1.below (Below.refl _ _).drew) (hC1.below (Below.refl _ _).drew) (hS2.below (Below.refl _ _).drew) (hC2.below (Below.refl _ _).drew)
      have HCA := Lib.hid hcall
      have hii : (i : Int) < n := by omega
      clear hx hx1 hx2 hS1 hC1 hS2 hC2 hcall hbel
      go_wp2_with fail
      refine wp_region_text (by kernel_rfl) (by kernel_rfl) ?_
      go_wp2_with fail
      refine HCA.out.mono ?_
      rintro e w1 ⟨rfl, hb1⟩
      go_wp2_with fail
      refine Only.normal ?_
      go_wp2_with fail
      go_roundw
      case rel => exact ⟨i + 1, by omega, by go_num, HBE.out.trans (((Below.refl _ _).drew.trans hb1).mono HBE.out.size)⟩
      case measure => (simp [intOf]; try omega)
    · clear hbel
      go_wp2_with fail
      go_ret
      exact ⟨rfl, HBE.out⟩
/-- Wide kinds are read as they were. -/
theorem kndsAt_wide {w : World} {B b : Nat} {l : List Knd} {cs : Array Value} (hby : ∀ k ∈ l, ∀ x ∈ k.effs, ∀ y ∈ x.code, 0 ≤ y ∧ y ≤ 255) (h : KndBlk w B b (l.length + 64) l (l.length + 64) cs) : KndsAt w (some ⟨b, 0, none⟩) l := by
  intro i x hx
  have hi := (List.getElem?_eq_some_iff.1 hx).1
  obtain ⟨b1, b2, m0, m1, m2, m3, m4, m5, _, _, h1, ds, h2⟩ := h.one i x (by omega) hx
  exact ⟨b, 0, rfl, h.blk.lt, some ⟨b1, 0, none⟩, _, some ⟨b2, 0, none⟩, _, by rw [Nat.zero_add]; exact (h.blk.cell _).trans m0, by rw [Nat.zero_add]; exact (h.blk.cell _).trans m1, by rw [Nat.zero_add]; exact (h.blk.cell _).trans m2, by rw [Nat.zero_add]; exact (h.blk.cell _).trans m3, by rw [Nat.zero_add]; exact (h.blk.cell _).trans m4, by rw [Nat.zero_add]; exact (h.blk.cell _).trans m5, intsAt_wide h1, effsAt_wide (hby x (List.mem_of_getElem? hx)) h2⟩
end Go.Proofs.YtabpheanbomibaaGreatDoor
