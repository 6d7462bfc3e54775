/- tableauref00: num, WideSmalls, SpareSmalls, EqSmalls. -/
import Derived.Deep.OwnRows
import Derived.Test.YtabpheanbomibaaGreatDoorAll
import Derived.Test.YtabpheanbomibaaGreatDoorBits
import Derived.Test.YtabpheanbomibaaGreatDoorHeap0
namespace Go.Proofs.YtabpheanbomibaaGreatDoor
open Go.RowKit
set_option linter.unusedVariables false

theorem info_i8w : (Tryz.prog.info? 82).map (fun i => (i.zero, i.size, i.bytes)) = some (some (.int .i8 0), 1, 1) := by kernel_rfl
def smallVals (l : List Int) : List Value := l.map (Value.int .i8)
def numV (n i : Int) : Int := 1048576 * n + i + 1
theorem num_any (n i : Int) (w : World) (h0 : 0 ≤ n) (h1 : n ≤ 1000000) (h2 : 0 ≤ i) (h3 : i ≤ 1000000000) : Calls Tryz.prog 26 #[.int .i64 n, .int .i64 i] w fun e w' => e = .returned (.int .i64 (numV n i)) ∧ w = w' := by
  have e : numV n i = 1048576 * n + i + 1 := rfl
  rw [e]
  clear e
  go_enter Tryz.func26, Tryz.ntmps26
  go_wp2
  go_ret
  exact ⟨rfl, rfl⟩
def markS (i : Nat) : Int := IntKind.i8.wrap (numV 279 (7 * (i : Int)))
/-- What stands in the wide list behind so many of its bytes. -/
def wideS (l : List Int) : List Int := l ++ (List.range 64).map fun j => markS (l.length + j)
theorem wideS_len (l : List Int) : (wideS l).length = l.length + 64 := by simp [wideS]
theorem wideS_left {l : List Int} {i : Nat} (h : i < l.length) : (wideS l)[i]? = l[i]? := List.getElem?_append_left h
theorem wideS_right {l : List Int} {i : Nat} (h : l.length ≤ i) (h2 : i < l.length + 64) : (wideS l)[i]? = some (markS i) := by
  unfold wideS
  rw [List.getElem?_append_right h, List.getElem?_map, List.getElem?_range (by omega)]
  show some (markS (l.length + (i - l.length))) = _
  congr 2
  omega
theorem made_smalls (K : Nat) : madeCells #[Value.int .i8 0] K = (smallVals (List.replicate K 0)).toArray := by
  have := toList_madeCells_one (.int .i8 0) K
  rw [← Array.toArray_toList (xs := madeCells #[Value.int .i8 0] K), this]
  simp [smallVals]
theorem smalls_set {l : List Int} {i : Nat} {v : Int} {K : Nat} (h : i < K) (hl : K ≤ l.length) (hv : l[i]? = some v) : ((smallVals (l.take i ++ List.replicate (K - i) 0)).toArray).setIfInBounds i (.int .i8 v) = (smallVals (l.take (i + 1) ++ List.replicate (K - (i + 1)) 0)).toArray := by
  unfold smallVals
  rw [List.setIfInBounds_toArray]
  congr 1
  obtain ⟨d, hd⟩ : ∃ d, K - i = d + 1 := ⟨K - i - 1, by omega⟩
  rw [hd, show K - (i + 1) = d by omega, List.replicate_succ, List.map_append, List.map_cons, List.set_append_right _ _ (by simp; omega), List.length_map, List.length_take, show i - min i l.length = 0 by omega, List.take_add_one, hv]
  simp

set_option maxRecDepth 100000 in
set_option maxHeartbeats 4000000 in
theorem wideSmalls_any (A : Option Addr) (l : List Int) (c : Nat) (w : World) (hl : l.length ≤ 16777216) (hb : SmallsAt w A l) :
    Calls Tryz.prog 7 #[.slice A l.length c] w fun e w' => e = .returned (.slice (some ⟨w.heap.size, 0, none⟩) l.length (l.length + 64)) ∧ Blk w' w.heap.size 82 (smallVals (wideS l)).toArray ∧ Below w.heap.size w w' := by
  obtain ⟨n, hn⟩ : ∃ n, l.length = n := ⟨_, rfl⟩
  have hcell : ∀ i x, l[i]? = some x → ∃ b off, A = some ⟨b, off, none⟩ ∧ b < w.heap.size ∧ w.cell? ⟨b, off + i, none⟩ = some (.int .i8 x) := hb
  have hlen := wideS_len l
  have hleft := fun i (h : i < l.length) => wideS_left (l := l) h
  have hright := fun i (h : l.length ≤ i) (h2 : i < l.length + 64) => wideS_right (l := l) h h2
  obtain ⟨W, hW⟩ : ∃ W, W = wideS l := ⟨_, rfl⟩
  rw [← hW] at hlen ⊢
  simp only [← hW] at hleft hright
  simp only [hn] at hlen hleft hright
  rw [hn] at hl ⊢
  have hmk : ∀ wx, (Instr.makeSlice 23 (.int .i64 ((n : Int) + 64)) (.int .i64 ((n : Int) + 64))).run Tryz.prog wx = .ok (.slice (some ⟨wx.heap.size, 0, none⟩) (n + 64) (n + 64)) (wx.alloc (.cells (smallVals (W.take 0 ++ List.replicate (n + 64 - 0) 0)).toArray 82)) := by
    intro wx
    have h := run_make_row' (P := Tryz.prog) 23 82 (.int .i8 0) 1 Tryz.underlying23 info_i8w rfl .i64 .i64 (n + 64) (by omega) (by omega) wx
    simp only [made_smalls] at h
    exact h
  have HC := Lib.hid hcell
  have HN := Lib.hid hn
  have HLE := Lib.hid hlen
  have HL := Lib.hid hleft
  have HRT := Lib.hid hright
  have HKB := Lib.hid (Blk.new w 82 (smallVals (W.take 0 ++ List.replicate (n + 64 - 0) 0)).toArray)
  have HB0 := Lib.hid (show Below w.heap.size w (w.alloc (.cells (smallVals (W.take 0 ++ List.replicate (n + 64 - 0) 0)).toArray 82)) from (Below.refl _ _).alloc (Nat.le_refl _) _)
  clear hcell hn hlen hleft hright hW hb
  go_enter Tryz.func7, Tryz.ntmps7
  go_wp2_with fail
  go_loopw [4] (fun iv wr => ∃ i : Nat, i ≤ n + 64 ∧ iv = .int .i64 i ∧ Blk wr w.heap.size 82 (smallVals (W.take i ++ List.replicate (n + 64 - i) 0)).toArray ∧ Below w.heap.size w wr) (fun iv _ => n + 64 - (intOf iv).toNat)
  case atStart => exact ⟨0, by omega, rfl, HKB.out, HB0.out⟩
  case round =>
    obtain ⟨i, hi, rfl, hkb, hbel⟩ := hrel
    by_cases hlt : i < n + 64
    · have hcz : wr.cell? ⟨w.heap.size, i, none⟩ = some (.int .i8 0) := by
        rw [hkb.cell i]
        unfold smallVals
        rw [List.getElem?_toArray, List.getElem?_map, List.getElem?_append_right (by rw [List.length_take]; omega), List.length_take, List.getElem?_replicate, if_pos (by rw [HLE.out]; omega)]
        rfl
      have hcf := hkb.frozen i
      have hii : (i : Int) < n + 64 := by omega
      have HK := Lib.hid hkb
      have HB := Lib.hid hbel
      clear hkb hbel
      by_cases hin : i < n
      · obtain ⟨x, hx⟩ : ∃ x, l[i]? = some x := ⟨_, List.getElem?_eq_getElem (by rw [HN.out]; exact hin)⟩
        obtain ⟨b, off, rfl, hbl, hc⟩ := HC.out i x hx
        have hcw : wr.cell? ⟨b, off + i, none⟩ = some (.int .i8 x) := (HB.out.cell (p := ⟨b, _, none⟩) hbl).trans hc
        have hWi : W[i]? = some x := by rw [HL.out i hin, hx]
        have HWI := Lib.hid hWi
        clear hx hWi hc
        go_wp2_with fail
        go_roundw
        case rel =>
          have hs := HK.out.set_ i (.int .i8 x)
          rw [smalls_set hlt (by rw [HLE.out]; exact Nat.le_refl _) HWI.out] at hs
          exact ⟨i + 1, by omega, by go_num, hs, HB.out.setCell (p := ⟨w.heap.size, i, none⟩) (Nat.le_refl _) _⟩
        case measure => (simp [intOf]; try omega)
      · have hWi : W[i]? = some (markS i) := HRT.out i (by omega) (by omega)
        have HWI := Lib.hid hWi
        clear hWi
        have hge : (n : Int) ≤ i := by omega
        have hmark : IntKind.i8.wrap (numV 279 (7 * (i : Int))) = markS i := rfl
        go_wp2_with fail
        refine (num_any 279 (7 * (i : Int)) _ (by omega) (by omega) (by omega) (by omega)).mono ?_
        rintro e w5 ⟨rfl, rfl⟩
        go_wp2_with fail
        go_roundw
        case rel =>
          have hs := HK.out.set_ i (.int .i8 (markS i))
          rw [smalls_set hlt (by rw [HLE.out]; exact Nat.le_refl _) HWI.out] at hs
          exact ⟨i + 1, by omega, by go_num, hs, HB.out.setCell (p := ⟨w.heap.size, i, none⟩) (Nat.le_refl _) _⟩
        case measure => (simp [intOf]; try omega)
    · obtain rfl : i = n + 64 := by omega
      have HK := Lib.hid hkb
      have HB := Lib.hid hbel
      have hfull : W.take (n + 64) ++ List.replicate (n + 64 - (n + 64)) 0 = W := by rw [List.take_of_length_le (by rw [HLE.out]; exact Nat.le_refl _)]; simp
      have HF := Lib.hid hfull
      clear hkb hbel hfull
      go_wp2_with fail
      go_ret
      have h := HK.out
      rw [HF.out] at h
      exact ⟨rfl, h, HB.out⟩

set_option maxRecDepth 100000 in
set_option maxHeartbeats 4000000 in
theorem spareSmalls_any (b : Nat) (l : List Int) (w : World) (hl : l.length ≤ 16777216) (hk : Blk w b 82 (smallVals (wideS l)).toArray) :
    Calls Tryz.prog 14 #[.slice (some ⟨b, 0, none⟩) l.length (l.length + 64)] w fun e w' => e = .returned (.bool true) ∧ w = w' := by
  obtain ⟨n, hn⟩ : ∃ n, l.length = n := ⟨_, rfl⟩
  have hcell : ∀ i, n ≤ i → i < n + 64 → w.cell? ⟨b, i, none⟩ = some (.int .i8 (markS i)) := by
    intro i h1 h2
    rw [hk.cell i]
    unfold smallVals
    rw [List.getElem?_toArray, List.getElem?_map, wideS_right (by omega) (by omega)]
    rfl
  rw [hn] at hl ⊢
  have HC := Lib.hid hcell
  clear hcell hk hn
  go_enter Tryz.func14, Tryz.ntmps14
  go_wp2_with fail
  go_loop [4, 5] (fun iv _ => ∃ i : Nat, n ≤ i ∧ i ≤ n + 64 ∧ iv = .int .i64 i) (fun iv _ => n + 64 - (intOf iv).toNat)
  case atStart => exact ⟨n, by omega, by omega, rfl⟩
  case round =>
    obtain ⟨i, hi0, hi, rfl⟩ := hrel
    by_cases hlt : i < n + 64
    · have hc := HC.out i hi0 hlt
      have hii : (i : Int) < n + 64 := by omega
      have hmark : IntKind.i8.wrap (numV 279 (7 * (i : Int))) = markS i := rfl
      have hself : (markS i == markS i) = true := by simp
      go_wp2_with fail
      refine (num_any 279 (7 * (i : Int)) _ (by omega) (by omega) (by omega) (by omega)).mono ?_
      rintro e w5 ⟨rfl, rfl⟩
      go_wp2_with fail
      go_round
      case rel => exact ⟨i + 1, by omega, by omega, by go_num⟩
      case measure => (simp [intOf]; try omega)
    · obtain rfl : i = n + 64 := by omega
      go_wp2_with fail
      go_ret
      exact ⟨rfl, rfl⟩

set_option maxRecDepth 100000 in
set_option maxHeartbeats 4000000 in
theorem eqSmalls_same (A B : Option Addr) (l : List Int) (c d : Nat) (w : World) (hl : l.length ≤ 16777216) (ha : SmallsAt w A l) (hb : SmallsAt w B l) :
    Calls Tryz.prog 13 #[.slice A l.length c, .slice B l.length d] w fun e w' => e = .returned (.bool true) ∧ Below w.heap.size w w' := by
  obtain ⟨n, hn⟩ : ∃ n, l.length = n := ⟨_, rfl⟩
  have hac : ∀ i x, l[i]? = some x → ∃ b off, A = some ⟨b, off, none⟩ ∧ b < w.heap.size ∧ w.cell? ⟨b, off + i, none⟩ = some (.int .i8 x) := ha
  have hbc : ∀ i x, l[i]? = some x → ∃ b off, B = some ⟨b, off, none⟩ ∧ b < w.heap.size ∧ w.cell? ⟨b, off + i, none⟩ = some (.int .i8 x) := hb
  rw [hn] at hl ⊢
  have HA := Lib.hid hac
  have HB := Lib.hid hbc
  have HN := Lib.hid hn
  clear hac hbc ha hb hn
  go_enter Tryz.func13, Tryz.ntmps13
  go_wp2_with fail
  go_loopw [5] (fun iv wr => ∃ i : Nat, i ≤ n ∧ iv = .int .i64 i ∧ Below w.heap.size w wr) (fun iv _ => n - (intOf iv).toNat)
  case atStart => exact ⟨0, by omega, rfl, Below.refl _ _⟩
  case round =>
    obtain ⟨i, hi, rfl, hbel⟩ := hrel
    have HBE := Lib.hid hbel
    by_cases hlt : i < n
    · obtain ⟨x, hx⟩ : ∃ x, l[i]? = some x := ⟨_, List.getElem?_eq_getElem (by rw [HN.out]; exact hlt)⟩
      obtain ⟨b1, o1, rfl, h1, hc1⟩ := HA.out i x hx
      obtain ⟨b2, o2, rfl, h2, hc2⟩ := HB.out i x hx
      have hd1 : wr.cell? ⟨b1, o1 + i, none⟩ = some (.int .i8 x) := (hbel.cell (p := ⟨b1, _, none⟩) h1).trans hc1
      have hd2 : wr.cell? ⟨b2, o2 + i, none⟩ = some (.int .i8 x) := (hbel.cell (p := ⟨b2, _, none⟩) h2).trans hc2
      have hii : (i : Int) < n := by omega
      clear hx hc1 hc2 hbel
      go_wp2_with fail
      refine wp_region_text (by kernel_rfl) (by kernel_rfl) ?_
      go_wp2_with fail
      refine Only.normal ?_
      go_wp2_with fail
      go_roundw
      case rel => exact ⟨i + 1, by omega, by go_num, HBE.out.drew⟩
      case measure => (simp [intOf]; try omega)
    · clear hbel
      go_wp2_with fail
      go_ret
      exact ⟨rfl, HBE.out⟩
/-- A wide list's block, as a list. -/
theorem smallsAt_wide {w : World} {b : Nat} {l : List Int} (hk : Blk w b 82 (smallVals (wideS l)).toArray) : SmallsAt w (some ⟨b, 0, none⟩) l :=
  fun k x hx => ⟨b, 0, rfl, hk.lt, by
    have hkl := (List.getElem?_eq_some_iff.1 hx).1
    rw [Nat.zero_add, hk.cell k]
    unfold smallVals
    rw [List.getElem?_toArray, List.getElem?_map, wideS_left hkl, hx]
    rfl⟩
end Go.Proofs.YtabpheanbomibaaGreatDoor
