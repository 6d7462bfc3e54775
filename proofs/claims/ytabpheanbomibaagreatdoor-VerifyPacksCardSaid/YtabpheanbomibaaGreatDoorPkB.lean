/- strconv.Itoa: the shelf laid at this program (written by the kit's lay-plain.mjs, then by gen_plain.py). tableauref00: text (a mark), WideTexts, SpareTexts, EqTexts. tableauref00: SizeTexts. tableauref00: SizePack. tableauref00: WidePack, SparePack, EqPack. -/
import Derived.Shelf.Strconv.Itoa3
import Derived.Ground.NamesProg
import Derived.Test.YtabpheanbomibaaGreatDoorProg
import Derived.Lib.AppendIntMem
import Derived.Lib.ItoaLen
import Derived.Test.YtabpheanbomibaaGreatDoorBits
import Derived.Test.YtabpheanbomibaaGreatDoorPkA
import Derived.Test.YtabpheanbomibaaGreatDoorWideS
namespace Go.Proofs.YtabpheanbomibaaGreatDoor
open Go.Shelf
def itoaS_ren : Go.Shelf.Ren := ⟨fun | 171 => 125 | 243 => 149 | 246 => 154 | 283 => 155 | 284 => 156 | 285 => 157 | 286 => 158 | 129 => 121 | 317 => 159 | 318 => 160 | 319 => 161 | 320 => 162 | 337 => 163 | 338 => 164 | n => n, fun | 3 => 3 | 9 => 9 | 2 => 2 | 4 => 4 | 171 => 252 | 0 => 0 | 53 => 159 | 37 => 22 | 5 => 5 | 173 => 254 | 212 => 257 | 51 => 219 | 20 => 20 | 213 => 258 | 46 => 152 | 232 => 259 | 233 => 260 | n => n, fun | 17 => 0 | 18 => 1 | 19 => 2 | n => n⟩
theorem itoaS : Go.Proofs.LaysM.n171 Tryz.prog itoaS_ren := {
  mixed := by kernel_rfl
  f129 := Tryz.func121.trans (congrArg some (by kernel_rfl))
  f171 := Tryz.func125.trans (congrArg some (by kernel_rfl))
  f243 := Tryz.func149.trans (congrArg some (by kernel_rfl))
  f246 := Tryz.func154.trans (congrArg some (by kernel_rfl))
  f283 := Tryz.func155.trans (congrArg some (by kernel_rfl))
  f284 := Tryz.func156.trans (congrArg some (by kernel_rfl))
  f285 := Tryz.func157.trans (congrArg some (by kernel_rfl))
  f286 := Tryz.func158.trans (congrArg some (by kernel_rfl))
  f317 := Tryz.func159.trans (congrArg some (by kernel_rfl))
  f318 := Tryz.func160.trans (congrArg some (by kernel_rfl))
  f319 := Tryz.func161.trans (congrArg some (by kernel_rfl))
  f320 := Tryz.func162.trans (congrArg some (by kernel_rfl))
  f337 := Tryz.func163.trans (congrArg some (by kernel_rfl))
  f338 := Tryz.func164.trans (congrArg some (by kernel_rfl))
  t0 := Tryz.underlying0
  a0 := Tryz.isAgg0
  z0 := Tryz.sizeOf0
  v0 := Tryz.zeroValue0
  t2 := Tryz.underlying2
  a2 := Tryz.isAgg2
  z2 := Tryz.sizeOf2
  v2 := Tryz.zeroValue2
  t3 := Tryz.underlying3
  a3 := Tryz.isAgg3
  z3 := Tryz.sizeOf3
  v3 := Tryz.zeroValue3
  t4 := Tryz.underlying4
  a4 := Tryz.isAgg4
  z4 := Tryz.sizeOf4
  v4 := Tryz.zeroValue4
  t5 := Tryz.underlying5
  a5 := Tryz.isAgg5
  z5 := Tryz.sizeOf5
  v5 := Tryz.zeroValue5
  t9 := Tryz.underlying9
  a9 := Tryz.isAgg9
  z9 := Tryz.sizeOf9
  v9 := Tryz.zeroValue9
  t20 := Tryz.underlying20
  a20 := Tryz.isAgg20
  z20 := Tryz.sizeOf20
  v20 := Tryz.zeroValue20
  t37 := Tryz.underlying22
  a37 := Tryz.isAgg22
  z37 := Tryz.sizeOf22
  v37 := Tryz.zeroValue22
  t46 := Tryz.underlying152
  a46 := Tryz.isAgg152
  z46 := Tryz.sizeOf152
  v46 := Tryz.zeroValue152
  t51 := Tryz.underlying219
  a51 := Tryz.isAgg219
  z51 := Tryz.sizeOf219
  v51 := Tryz.zeroValue219
  t53 := Tryz.underlying159
  a53 := Tryz.isAgg159
  z53 := Tryz.sizeOf159
  v53 := Tryz.zeroValue159
  t171 := Tryz.underlying252
  a171 := Tryz.isAgg252
  z171 := Tryz.sizeOf252
  v171 := Tryz.zeroValue252
  t173 := Tryz.underlying254
  a173 := Tryz.isAgg254
  z173 := Tryz.sizeOf254
  v173 := Tryz.zeroValue254
  t212 := Tryz.underlying257
  a212 := Tryz.isAgg257
  z212 := Tryz.sizeOf257
  v212 := Tryz.zeroValue257
  t213 := Tryz.underlying258
  a213 := Tryz.isAgg258
  z213 := Tryz.sizeOf258
  t232 := Tryz.underlying259
  a232 := Tryz.isAgg259
  z232 := Tryz.sizeOf259
  v232 := Tryz.zeroValue259
  t233 := Tryz.underlying260
  a233 := Tryz.isAgg260
  z233 := Tryz.sizeOf260
  v233 := Tryz.zeroValue260
  g17 := by kernel_rfl
  g18 := by kernel_rfl
  g19 := by kernel_rfl
  i0 := by kernel_rfl
  i2 := by kernel_rfl
  i3 := by kernel_rfl
  i4 := by kernel_rfl
  i5 := by kernel_rfl
  i9 := by kernel_rfl
  i20 := by kernel_rfl
  i37 := by kernel_rfl
  i46 := by kernel_rfl
  i51 := by kernel_rfl
  i53 := by kernel_rfl
  i171 := by kernel_rfl
  i173 := by kernel_rfl
  i212 := by kernel_rfl
  i232 := by kernel_rfl
  i233 := by kernel_rfl
  m17 := by kernel_rfl
  m18 := by kernel_rfl
  m19 := by kernel_rfl }
end Go.Proofs.YtabpheanbomibaaGreatDoor
namespace Go.Proofs.YtabpheanbomibaaGreatDoor
open Go.RowKit
set_option linter.unusedVariables false

/-- The library's table of powers stands, whatever is done from a block on. -/
def Tab10 (w : World) (B : Nat) : Prop := Lib.TabBelow Tryz.prog B w "internal/strconv.uint64pow10" .u64 Lib.pow10Tab
theorem Tab10.on {w w' : World} {B : Nat} (h : Tab10 w B) (hb : Below B w w') : Tab10 w' B := Lib.TabBelow.on h hb
def markT (i : Nat) : ByteArray := (⟨#[33]⟩ : ByteArray) ++ ⟨(Lib.itoa (numV 9 (i : Int))).toArray⟩
set_option maxRecDepth 100000 in
set_option maxHeartbeats 1000000 in
theorem text_any (i : Nat) (w : World) (B : Nat) (hB : B ≤ w.heap.size) (ht : Tab10 w B) (hi : i ≤ 1000000000) : Calls Tryz.prog 95 #[.int .i64 9, .int .i64 i] w fun e w' => e = .returned (.string (markT i)) ∧ Below w.heap.size w w' := by
  have hit := fun (n : Int) (h0 : -9223372036854775808 ≤ n) (h1 : n ≤ 9223372036854775807) => Any.strconv_Itoa itoaS n h0 h1 w ht.here
  have HIT := Lib.hid hit
  clear hit ht
  go_enter Tryz.func95, Tryz.ntmps95
  go_wp2_with fail
  refine (num_any 9 (i : Int) _ (by omega) (by omega) (by omega) (by omega)).mono ?_
  rintro e w5 ⟨rfl, rfl⟩
  go_wp2_with fail
  refine (HIT.out (numV 9 (i : Int)) (by unfold numV; omega) (by unfold numV; omega)).mono ?_
  rintro e w6 ⟨rfl, k, os, rfl⟩
  have hbg : Below w.heap.size w (Sort.grow (w.drewN k) os) := Lib.below_grow _ _ (Nat.le_refl _) _ _
  obtain ⟨W, hW⟩ : ∃ W, W = Sort.grow (w.drewN k) os := ⟨_, rfl⟩
  obtain ⟨D, hD⟩ : ∃ D : ByteArray, D = ⟨(Lib.itoa (numV 9 (i : Int))).toArray⟩ := ⟨_, rfl⟩
  have hM : markT i = (⟨#[33]⟩ : ByteArray) ++ D := by rw [hD]; rfl
  have hDs : D.size ≤ 21 := by rw [hD]; exact (show (Lib.itoa (numV 9 (i : Int))).toArray.size ≤ 21 by rw [List.size_toArray]; exact Lib.itoa_length_le (numV 9 (i : Int)) (by unfold numV; omega) (by unfold numV; omega))
  rw [← hD, ← hW]
  rw [← hW] at hbg
  clear hD hW
  go_wp2_with fail
  go_ret
  exact ⟨by rw [hM]; rfl, hbg⟩
theorem info_textsw : (Tryz.prog.info? 9).map (fun i => (i.zero, i.size, i.bytes)) = some (some (.string ⟨#[]⟩), 1, 16) := by kernel_rfl
def textVs (l : List ByteArray) : List Value := l.map Value.string
/-- What stands in the wide list behind so many of its bytes. -/
def wideT (l : List ByteArray) : List ByteArray := l ++ (List.range 64).map fun j => markT (l.length + j)
theorem wideT_len (l : List ByteArray) : (wideT l).length = l.length + 64 := by simp [wideT]
theorem wideT_left {l : List ByteArray} {i : Nat} (h : i < l.length) : (wideT l)[i]? = l[i]? := List.getElem?_append_left h
theorem wideT_right {l : List ByteArray} {i : Nat} (h : l.length ≤ i) (h2 : i < l.length + 64) : (wideT l)[i]? = some (markT i) := by
  unfold wideT
  rw [List.getElem?_append_right h, List.getElem?_map, List.getElem?_range (by omega)]
  show some (markT (l.length + (i - l.length))) = _
  congr 2
  omega
theorem made_texts (K : Nat) : madeCells #[Value.string ⟨#[]⟩] K = (textVs (List.replicate K ⟨#[]⟩)).toArray := by
  have := toList_madeCells_one (.string ⟨#[]⟩) K
  rw [← Array.toArray_toList (xs := madeCells #[Value.string ⟨#[]⟩] K), this]
  simp [textVs]
theorem texts_set {l : List ByteArray} {i : Nat} {v : ByteArray} {K : Nat} (h : i < K) (hl : K ≤ l.length) (hv : l[i]? = some v) : ((textVs (l.take i ++ List.replicate (K - i) ⟨#[]⟩)).toArray).setIfInBounds i (.string v) = (textVs (l.take (i + 1) ++ List.replicate (K - (i + 1)) ⟨#[]⟩)).toArray := by
  unfold textVs
  rw [List.setIfInBounds_toArray]
  congr 1
  obtain ⟨d, hd⟩ : ∃ d, K - i = d + 1 := ⟨K - i - 1, by omega⟩
  rw [hd, show K - (i + 1) = d by omega, List.replicate_succ, List.map_append, List.map_cons, List.set_append_right _ _ (by simp; omega), List.length_map, List.length_take, show i - min i l.length = 0 by omega, List.take_add_one, hv]
  simp

set_option maxRecDepth 100000 in
set_option maxHeartbeats 4000000 in
theorem wideTexts_any (A : Option Addr) (l : List ByteArray) (c : Nat) (w : World) (hl : l.length ≤ 16777216) (hb : TextsAt w A l) (htb : Tab10 w w.heap.size) :
    Calls Tryz.prog 67 #[.slice A l.length c] w fun e w' => e = .returned (.slice (some ⟨w.heap.size, 0, none⟩) l.length (l.length + 64)) ∧ Blk w' w.heap.size 9 (textVs (wideT l)).toArray ∧ Below w.heap.size w w' := by
  obtain ⟨n, hn⟩ : ∃ n, l.length = n := ⟨_, rfl⟩
  have hcell : ∀ i x, l[i]? = some x → ∃ b off, A = some ⟨b, off, none⟩ ∧ b < w.heap.size ∧ w.cell? ⟨b, off + i, none⟩ = some (.string x) := hb
  have hlen := wideT_len l
  have hleft := fun i (h : i < l.length) => wideT_left (l := l) h
  have hright := fun i (h : l.length ≤ i) (h2 : i < l.length + 64) => wideT_right (l := l) h h2
  obtain ⟨W, hW⟩ : ∃ W, W = wideT l := ⟨_, rfl⟩
  rw [← hW] at hlen ⊢
  simp only [← hW] at hleft hright
  simp only [hn] at hlen hleft hright
  rw [hn] at hl ⊢
  have hmk : ∀ wx, (Instr.makeSlice 72 (.int .i64 ((n : Int) + 64)) (.int .i64 ((n : Int) + 64))).run Tryz.prog wx = .ok (.slice (some ⟨wx.heap.size, 0, none⟩) (n + 64) (n + 64)) (wx.alloc (.cells (textVs (W.take 0 ++ List.replicate (n + 64 - 0) ⟨#[]⟩)).toArray 9)) := by
    intro wx
    have h := run_make_row' (P := Tryz.prog) 72 9 (.string ⟨#[]⟩) 16 Tryz.underlying72 info_textsw rfl .i64 .i64 (n + 64) (by omega) (by omega) wx
    simp only [made_texts] at h
    exact h
  have HC := Lib.hid hcell
  have HN := Lib.hid hn
  have HLE := Lib.hid hlen
  have HL := Lib.hid hleft
  have HRT := Lib.hid hright
  have HKB := Lib.hid (Blk.new w 9 (textVs (W.take 0 ++ List.replicate (n + 64 - 0) ⟨#[]⟩)).toArray)
  have HB0 := Lib.hid (show Below w.heap.size w (w.alloc (.cells (textVs (W.take 0 ++ List.replicate (n + 64 - 0) ⟨#[]⟩)).toArray 9)) from (Below.refl _ _).alloc (Nat.le_refl _) _)
  have HTB := Lib.hid htb
  clear hcell hn hlen hleft hright hW hb htb
  go_enter Tryz.func67, Tryz.ntmps67
  go_wp2_with fail
  go_loopw [4] (fun iv wr => ∃ i : Nat, i ≤ n + 64 ∧ iv = .int .i64 i ∧ Blk wr w.heap.size 9 (textVs (W.take i ++ List.replicate (n + 64 - i) ⟨#[]⟩)).toArray ∧ Below w.heap.size w wr) (fun iv _ => n + 64 - (intOf iv).toNat)
  case atStart => exact ⟨0, by omega, rfl, HKB.out, HB0.out⟩
  case round =>
    obtain ⟨i, hi, rfl, hkb, hbel⟩ := hrel
    by_cases hlt : i < n + 64
    · have hcz : wr.cell? ⟨w.heap.size, i, none⟩ = some (.string ⟨#[]⟩) := by
        rw [hkb.cell i]
        unfold textVs
        rw [List.getElem?_toArray, List.getElem?_map, List.getElem?_append_right (by rw [List.length_take]; omega), List.length_take, List.getElem?_replicate, if_pos (by rw [HLE.out]; omega)]
        rfl
      have hcf := hkb.frozen i
      have hii : (i : Int) < n + 64 := by omega
      have HK := Lib.hid hkb
      have HB := Lib.hid hbel
      clear hkb hbel
      by_cases hin : i < n
      · obtain ⟨x, hx⟩ : ∃ x, l[i]? = some x := ⟨_, List.getElem?_eq_getElem (by rw [HN.out]; exact hin)⟩
        obtain ⟨b, off, rfl, hbl, hc⟩ := HC.out i x hx
        have hcw : wr.cell? ⟨b, off + i, none⟩ = some (.string x) := (HB.out.cell (p := ⟨b, _, none⟩) hbl).trans hc
        have hWi : W[i]? = some x := by rw [HL.out i hin, hx]
        have HWI := Lib.hid hWi
        clear hx hWi hc
        go_wp2_with fail
        go_roundw
        case rel =>
          have hs := HK.out.set_ i (.string x)
          rw [texts_set hlt (by rw [HLE.out]; exact Nat.le_refl _) HWI.out] at hs
          exact ⟨i + 1, by omega, by go_num, hs, HB.out.setCell (p := ⟨w.heap.size, i, none⟩) (Nat.le_refl _) _⟩
        case measure => (simp [intOf]; try omega)
      · have hWi : W[i]? = some (markT i) := HRT.out i (by omega) (by omega)
        have HWI := Lib.hid hWi
        clear hWi
        have hge : (n : Int) ≤ i := by omega
        go_wp2_with fail
        refine (text_any i wr w.heap.size HB.out.size (HTB.out.on HB.out) (by omega)).mono ?_
        rintro e w5 ⟨rfl, hb5⟩
        have hk5 := HK.out.below hb5 HK.out.lt
        have hcf := hk5.frozen i
        have hcz := (hk5.cell i).trans ((HK.out.cell i).symm.trans hcz)
        have HB5 := Lib.hid (HB.out.trans (hb5.mono HB.out.size))
        have HK5 := Lib.hid hk5
        clear hk5 hb5
        go_wp2_with fail
        go_roundw
        case rel =>
          have hs := HK5.out.set_ i (.string (markT i))
          rw [texts_set hlt (by rw [HLE.out]; exact Nat.le_refl _) HWI.out] at hs
          exact ⟨i + 1, by omega, by go_num, hs, HB5.out.setCell (p := ⟨w.heap.size, i, none⟩) (Nat.le_refl _) _⟩
        case measure => (simp [intOf]; try omega)
    · obtain rfl : i = n + 64 := by omega
      have HK := Lib.hid hkb
      have HB := Lib.hid hbel
      have hfull : W.take (n + 64) ++ List.replicate (n + 64 - (n + 64)) ⟨#[]⟩ = W := by rw [List.take_of_length_le (by rw [HLE.out]; exact Nat.le_refl _)]; simp
      have HF := Lib.hid hfull
      clear hkb hbel hfull
      go_wp2_with fail
      go_ret
      have h := HK.out
      rw [HF.out] at h
      exact ⟨rfl, h, HB.out⟩

set_option maxRecDepth 100000 in
set_option maxHeartbeats 4000000 in
theorem spareTexts_any (b : Nat) (l : List ByteArray) (w : World) (hl : l.length ≤ 16777216) (htb : Tab10 w w.heap.size) (hk : Blk w b 9 (textVs (wideT l)).toArray) :
    Calls Tryz.prog 75 #[.slice (some ⟨b, 0, none⟩) l.length (l.length + 64)] w fun e w' => e = .returned (.bool true) ∧ Below w.heap.size w w' := by
  obtain ⟨n, hn⟩ : ∃ n, l.length = n := ⟨_, rfl⟩
  have hcell : ∀ i, n ≤ i → i < n + 64 → w.cell? ⟨b, i, none⟩ = some (.string (markT i)) := by
    intro i h1 h2
    rw [hk.cell i]
    unfold textVs
    rw [List.getElem?_toArray, List.getElem?_map, wideT_right (by omega) (by omega)]
    rfl
  rw [hn] at hl ⊢
  have hbs := hk.lt
  have HC := Lib.hid hcell
  have HTB := Lib.hid htb
  clear hcell hk hn htb
  go_enter Tryz.func75, Tryz.ntmps75
  go_wp2_with fail
  go_loopw [4, 5] (fun iv _ wr => ∃ i : Nat, n ≤ i ∧ i ≤ n + 64 ∧ iv = .int .i64 i ∧ Below w.heap.size w wr) (fun iv _ _ => n + 64 - (intOf iv).toNat)
  case atStart => exact ⟨n, by omega, by omega, rfl, Below.refl _ _⟩
  case round =>
    obtain ⟨i, hi0, hi, rfl, hbel⟩ := hrel
    by_cases hlt : i < n + 64
    · have hc := (hbel.cell (p := ⟨b, i, none⟩) hbs).trans (HC.out i hi0 hlt)
      have hii : (i : Int) < n + 64 := by omega
      have HB := Lib.hid hbel
      clear hbel
      go_wp2_with fail
      refine (text_any i wr w.heap.size HB.out.size (HTB.out.on HB.out) (by omega)).mono ?_
      rintro e w5 ⟨rfl, hb5⟩
      have HB5 := Lib.hid (HB.out.trans (hb5.mono HB.out.size))
      clear hb5
      go_wp2_with fail
      go_roundw
      case rel => exact ⟨i + 1, by omega, by omega, by go_num, HB5.out⟩
      case measure => (simp [intOf]; try omega)
    · have hge : (n : Int) + 64 ≤ i := by omega
      have HB := Lib.hid hbel
      clear hbel
      go_wp2_with fail
      go_ret
      exact ⟨rfl, HB.out⟩

set_option maxRecDepth 100000 in
set_option maxHeartbeats 4000000 in
theorem eqTexts_same (A B : Option Addr) (l : List ByteArray) (c d : Nat) (w : World) (hl : l.length ≤ 16777216) (ha : TextsAt w A l) (hb : TextsAt w B l) :
    Calls Tryz.prog 72 #[.slice A l.length c, .slice B l.length d] w fun e w' => e = .returned (.bool true) ∧ Below w.heap.size w w' := by
  obtain ⟨n, hn⟩ : ∃ n, l.length = n := ⟨_, rfl⟩
  have hac : ∀ i x, l[i]? = some x → ∃ b off, A = some ⟨b, off, none⟩ ∧ b < w.heap.size ∧ w.cell? ⟨b, off + i, none⟩ = some (.string x) := ha
  have hbc : ∀ i x, l[i]? = some x → ∃ b off, B = some ⟨b, off, none⟩ ∧ b < w.heap.size ∧ w.cell? ⟨b, off + i, none⟩ = some (.string x) := hb
  rw [hn] at hl ⊢
  have HA := Lib.hid hac
  have HB := Lib.hid hbc
  have HN := Lib.hid hn
  clear hac hbc ha hb hn
  go_enter Tryz.func72, Tryz.ntmps72
  go_wp2_with fail
  go_loopw [5] (fun iv wr => ∃ i : Nat, i ≤ n ∧ iv = .int .i64 i ∧ Below w.heap.size w wr) (fun iv _ => n - (intOf iv).toNat)
  case atStart => exact ⟨0, by omega, rfl, Below.refl _ _⟩
  case round =>
    obtain ⟨i, hi, rfl, hbel⟩ := hrel
    have HBE := Lib.hid hbel
    by_cases hlt : i < n
    · obtain ⟨x, hx⟩ : ∃ x, l[i]? = some x := ⟨_, List.getElem?_eq_getElem (by rw [HN.out]; exact hlt)⟩
      obtain ⟨b1, o1, rfl, h1, hc1⟩ := HA.out i x hx
      obtain ⟨b2, o2, rfl, h2, hc2⟩ := HB.out i x hx
      have hd1 : wr.cell? ⟨b1, o1 + i, none⟩ = some (.string x) := (hbel.cell (p := ⟨b1, _, none⟩) h1).trans hc1
      have hd2 : wr.cell? ⟨b2, o2 + i, none⟩ = some (.string x) := (hbel.cell (p := ⟨b2, _, none⟩) h2).trans hc2
      have hii : (i : Int) < n := by omega
      clear hx hc1 hc2 hbel
      go_wp2_with fail
      refine wp_region_text (by kernel_rfl) (by kernel_rfl) ?_
      go_wp2_with fail
      refine Only.normal ?_
      go_wp2_with fail
      go_roundw
      case rel => exact ⟨i + 1, by omega, by go_num, HBE.out.drew⟩
      case measure => (simp [intOf]; try omega)
    · clear hbel
      go_wp2_with fail
      go_ret
      exact ⟨rfl, HBE.out⟩
/-- A wide list's block, as a list. -/
theorem textsAt_wide {w : World} {b : Nat} {l : List ByteArray} (hk : Blk w b 9 (textVs (wideT l)).toArray) : TextsAt w (some ⟨b, 0, none⟩) l :=
  fun k x hx => ⟨b, 0, rfl, hk.lt, by
    have hkl := (List.getElem?_eq_some_iff.1 hx).1
    rw [Nat.zero_add, hk.cell k]
    unfold textVs
    rw [List.getElem?_toArray, List.getElem?_map, wideT_left hkl, hx]
    rfl⟩
end Go.Proofs.YtabpheanbomibaaGreatDoor
namespace Go.Proofs.YtabpheanbomibaaGreatDoor
open Go.RowKit
set_option linter.unusedVariables false

/-- As many texts, and what is in them; it stops where that is past the bound. -/
def sizeX : List ByteArray → Int → Int
  | [], s => s
  | x :: r, s => if s ≤ 16777216 then sizeX r (s + (x.size : Int)) else s
theorem sizeX_ge : ∀ ts s, s ≤ sizeX ts s
  | [], s => by unfold sizeX; omega
  | x :: r, s => by
    unfold sizeX
    split
    · have := sizeX_ge r (s + (x.size : Int)); omega
    · omega
theorem dropX_at {l : List ByteArray} {j : Nat} {x : ByteArray} (h : l[j]? = some x) : l.drop j = x :: l.drop (j + 1) := by
  obtain ⟨hlt, e⟩ := List.getElem?_eq_some_iff.1 h
  rw [List.drop_eq_getElem_cons hlt, e]

set_option maxRecDepth 100000 in
set_option maxHeartbeats 800000 in
theorem sizeTexts_any (A : Option Addr) (l : List ByteArray) (c : Nat) (w : World) (hl : l.length ≤ 281474976710656) (hT : TextsAt w A l) (htx : ∀ x ∈ l, x.size ≤ 4611686018427387904) :
    Calls Tryz.prog 65 #[.slice A l.length c] w fun e w' => e = .returned (.int .i64 (sizeX l l.length)) ∧ w = w' := by
  obtain ⟨len, hlen⟩ : ∃ len, l.length = len := ⟨_, rfl⟩
  obtain ⟨R, hR⟩ : ∃ R, R = sizeX l l.length := ⟨_, rfl⟩
  rw [← hR]
  rw [hlen] at hR hl ⊢
  have hcell : ∀ i x, l[i]? = some x → ∃ b off, A = some ⟨b, off, none⟩ ∧ w.cell? ⟨b, off + i, none⟩ = some (.string x) := by
    intro i x hx
    obtain ⟨b, off, h1, h2, h3⟩ := hT i x hx
    exact ⟨b, off, h1, h3⟩
  have HR := Lib.hid hR
  have HL := Lib.hid hlen
  have HC := Lib.hid hcell
  have HTX := Lib.hid htx
  clear hR hlen hcell hT htx
  by_cases hA : len = 0
  · subst hA
    have hR0 : R = 0 := by
      have : l = [] := List.length_eq_zero_iff.1 HL.out
      rw [HR.out, this]; rfl
    have HR0 := Lib.hid hR0
    clear hR0
    go_enter Tryz.func65, Tryz.ntmps65
    go_wp2
    go_loop [3, 4] (fun s i => s = .int .i64 0 ∧ i = .int .i64 0) (fun _ _ => 0)
    case atStart => exact ⟨rfl, rfl⟩
    case round =>
      obtain ⟨rfl, rfl⟩ := hrel
      go_wp2
      go_ret
      exact ⟨ret_i64 HR0.out.symm, rfl⟩
  · obtain ⟨b2, off2, rfl, hdrop⟩ := HC.out 0 _ (List.getElem?_eq_getElem (by rw [HL.out]; omega))
    clear hdrop hA
    have hcell : ∀ i x, l[i]? = some x → w.cell? ⟨b2, off2 + i, none⟩ = some (.string x) := by
      intro i x hx
      obtain ⟨b, off, e, h⟩ := HC.out i x hx
      injection e with e
      injection e with e1 e2
      subst e1 e2
      exact h
    clear HC
    have HC := Lib.hid hcell
    clear hcell
    go_enter Tryz.func65, Tryz.ntmps65
    go_wp2
    go_loop [3, 4] (fun s i => ∃ (j : Nat) (S : Int), j ≤ len ∧ 0 ≤ S ∧ S ≤ 4611967493404098560 ∧ Hid (R = sizeX (l.drop j) S) ∧ s = .int .i64 S ∧ i = .int .i64 j) (fun _ i => len - (intOf i).toNat)
    case atStart => exact ⟨0, len, by omega, by omega, by omega, HR, rfl, rfl⟩
    case round =>
      obtain ⟨j, S, hj, hS0, hS1, H, rfl, rfl⟩ := hrel
      by_cases hjl : j < len
      · obtain ⟨x, hx⟩ : ∃ x, l[j]? = some x := ⟨_, List.getElem?_eq_getElem (by rw [HL.out]; exact hjl)⟩
        have hs : R = if S ≤ 16777216 then sizeX (l.drop (j + 1)) (S + (x.size : Int)) else S := by rw [H.out, dropX_at hx, sizeX]
        have hsz := HTX.out x (List.mem_of_getElem? hx)
        have hcj := HC.out j x hx
        have HS := Lib.hid hs
        clear hs hx
        by_cases h1 : S ≤ 16777216
        · go_wp2
          go_round
          case rel => exact ⟨j + 1, S + (x.size : Int), by omega, by omega, by omega, by rw [if_pos h1] at HS; exact HS, by go_num, by go_num⟩
          case measure => simp [intOf]; omega
        · go_wp2
          go_ret
          exact ⟨ret_i64 (by rw [HS.out, if_neg (by omega)]), rfl⟩
      · have hs : R = S := by
          rw [H.out, List.drop_of_length_le (by rw [HL.out]; omega), sizeX]
        have HS := Lib.hid hs
        clear hs
        go_wp2
        go_ret
        exact ⟨ret_i64 HS.out.symm, rfl⟩
end Go.Proofs.YtabpheanbomibaaGreatDoor
namespace Go.Proofs.YtabpheanbomibaaGreatDoor
open Go.RowKit
set_option linter.unusedVariables false

def pckV (p : Pck) (IA TA KA : Option Addr) (ic tc kc : Nat) : Array Value := #[.int .i64 p.cards, .slice IA p.ints.length ic, .slice TA p.texts.length tc, .slice KA p.kinds.length kc]
/-- What the form reads of a pack: every list is within reach. -/
def EffRe (x : Eff) : Prop := x.slots.length ≤ 140737488355328 ∧ x.code.length ≤ 140737488355328
def KndRe (x : Knd) : Prop := x.tags.length ≤ 140737488355328 ∧ x.effs.length ≤ 140737488355328 ∧ ∀ e ∈ x.effs, EffRe e
structure PckRe (p : Pck) : Prop where
  ints : p.ints.length ≤ 140737488355328
  texts : p.texts.length ≤ 140737488355328
  size : ∀ t ∈ p.texts, t.size ≤ 140737488355328
  kinds : p.kinds.length ≤ 140737488355328
  kind : ∀ k ∈ p.kinds, KndRe k
theorem sizeX_sm : ∀ (l : List ByteArray) (s : Int), sizeX l s ≤ 16777216 → s ≤ 16777216 ∧ ∀ x ∈ l, x.size ≤ 16777216 ∧ 0 ≤ s ∨ s < 0
  | [], s, h => ⟨by unfold sizeX at h; omega, fun x hx => by simp at hx⟩
  | y :: r, s, h => by
    unfold sizeX at h
    by_cases hs : s ≤ 16777216
    · rw [if_pos hs] at h
      obtain ⟨h1, h2⟩ := sizeX_sm r _ h
      refine ⟨hs, fun x hx => ?_⟩
      by_cases h0 : s < 0
      · exact .inr h0
      · rcases List.mem_cons.1 hx with rfl | hx
        · exact .inl ⟨by omega, by omega⟩
        · rcases h2 x hx with ⟨h3, _⟩ | h3
          · exact .inl ⟨h3, by omega⟩
          · exact .inl (by omega)
    · rw [if_neg hs] at h
      omega
theorem sizeX_le : ∀ (l : List ByteArray) (s : Int), (∀ x ∈ l, x.size ≤ 140737488355328) → s ≤ 140737505132544 → sizeX l s ≤ 140737505132544
  | [], s, _, h => by unfold sizeX; exact h
  | y :: r, s, hl, h => by
    unfold sizeX
    split
    · have := hl y (List.mem_cons_self ..)
      exact sizeX_le r _ (fun x hx => hl x (List.mem_cons_of_mem _ hx)) (by omega)
    · exact h
/-- So far small. -/
def SmTo (p : Pck) (i : Nat) : Prop := p.ints.length ≤ 16777216 ∧ p.texts.length ≤ 16777216 ∧ (∀ t ∈ p.texts, t.size ≤ 16777216) ∧ p.kinds.length ≤ 16777216 ∧ ∀ k x, k < i → p.kinds[k]? = some x → KndSm x
theorem SmTo.all {p : Pck} (h : SmTo p p.kinds.length) : PckSm p := by
  obtain ⟨h1, h2, h3, h4, h5⟩ := h
  refine ⟨h1, h2, h3, h4, fun x hx => ?_⟩
  obtain ⟨k, hk, rfl⟩ := List.getElem_of_mem hx
  exact h5 k _ hk (List.getElem?_eq_getElem hk)
set_option maxRecDepth 100000 in
set_option maxHeartbeats 2000000 in
theorem sizePack_any (p : Pck) (IA TA KA : Option Addr) (ic tc kc : Nat) (w : World) (hp : PckAt w IA TA KA p) (hr : PckRe p) :
    Calls Tryz.prog 20 #[.agg (pckV p IA TA KA ic tc kc)] w fun e w' => ∃ S : Int, e = .returned (.int .i64 S) ∧ (S ≤ 16777216 → PckSm p) ∧ Below w.heap.size w w' := by
  obtain ⟨P, hP⟩ : ∃ P, P = p := ⟨_, rfl⟩
  obtain ⟨cards, ints, texts, kinds⟩ := p
  obtain ⟨h1, h2, h3⟩ := hp
  obtain ⟨r1, r2, r3, r4, r5⟩ := hr
  simp only [pckV] at h1 h2 h3 r1 r2 r3 r4 r5 ⊢
  rw [← hP]
  obtain ⟨ni, hni⟩ : ∃ n, ints.length = n := ⟨_, rfl⟩
  obtain ⟨nt, hnt⟩ : ∃ n, texts.length = n := ⟨_, rfl⟩
  obtain ⟨nk, hnk⟩ : ∃ n, kinds.length = n := ⟨_, rfl⟩
  have hst := fun (wx : World) (hb : Below w.heap.size w wx) => sizeTexts_any TA texts tc wx (by omega) (h2.below hb) (fun x hx => by have := r3 x hx; omega)
  obtain ⟨X, hX⟩ : ∃ X, X = sizeX texts texts.length := ⟨_, rfl⟩
  have hx0 : 0 ≤ X := by rw [hX]; have := sizeX_ge texts texts.length; omega
  have hx1 : X ≤ 140737505132544 := by rw [hX]; exact sizeX_le _ _ r3 (by omega)
  have hx2 : X ≤ 16777216 → nt ≤ 16777216 ∧ ∀ x ∈ texts, x.size ≤ 16777216 := by
    intro h
    rw [hX] at h
    obtain ⟨q1, q2⟩ := sizeX_sm _ _ h
    refine ⟨by omega, fun x hx => ?_⟩
    rcases q2 x hx with ⟨q3, _⟩ | q3
    · exact q3
    · omega
  rw [← hX, hnt] at hst
  rw [hni] at r1 ⊢
  rw [hnt] at r2 ⊢
  rw [hnk] at r4 ⊢
  have hbase : (ni : Int) + X + nk ≤ 16777216 → SmTo P 0 := by
    intro h
    rw [hP]
    exact ⟨by show ints.length ≤ _; omega, by show texts.length ≤ _; have := hx2 (by omega); omega, (hx2 (by omega)).2, by show kinds.length ≤ _; omega, fun k x hk => absurd hk (by omega)⟩
  have HST := Lib.hid hst
  have HBA := Lib.hid hbase
  have HK := Lib.hid h3
  have HP := Lib.hid hP
  have HNK := Lib.hid hnk
  have HR5 := Lib.hid r5
  clear hst hbase h3 hP hnk r5 hX hx2 hni hnt h1 h2 r3
  go_enter Tryz.func20, Tryz.ntmps20
  have hbw := (Below.refl w.heap.size w).alloc (Nat.le_refl _) (.cells #[.int .i64 cards, .slice IA ni ic, .slice TA nt tc, .slice KA nk kc] 75)
  have hpb := Blk.new w 75 #[.int .i64 cards, .slice IA ni ic, .slice TA nt tc, .slice KA nk kc]
  have HBW := Lib.hid hbw
  have HPB := Lib.hid hpb
  clear hbw hpb
  go_wp2_with fail
  go_quiet ((go_at_call 65; exact quiet_num (HST.out _ (bdn HBW.out _))))
  go_wp2_with fail
  obtain ⟨W, hW⟩ : ∃ W, W = (w.alloc (.cells #[.int .i64 cards, .slice IA ni ic, .slice TA nt tc, .slice KA nk kc] 75)).drewN nq := ⟨_, rfl⟩
  rw [← hW]
  have hbW : Below w.heap.size w W := by rw [hW]; exact bdn HBW.out nq
  have hpW : Blk W w.heap.size 75 #[.int .i64 cards, .slice IA ni ic, .slice TA nt tc, .slice KA nk kc] := by rw [hW]; exact HPB.out.drewN nq
  have HBW2 := Lib.hid hbW
  have HPW := Lib.hid hpW
  clear HPB HBW hbW hpW hW
  go_loopw [3, 4] (fun nv iv wr => ∃ (i : Nat) (S : Int), i ≤ nk ∧ 0 ≤ S ∧ S ≤ 9007199254740992 ∧ nv = .int .i64 S ∧ iv = .int .i64 i ∧ Hid (S ≤ 16777216 → SmTo P i) ∧ Below w.heap.size w wr ∧ Blk wr w.heap.size 75 #[.int .i64 cards, .slice IA ni ic, .slice TA nt tc, .slice KA nk kc]) (fun _ iv _ => nk - (intOf iv).toNat)
  case atStart => exact ⟨0, (ni : Int) + X + nk, by omega, by omega, by omega, rfl, rfl, HBA, HBW2.out, HPW.out⟩
  case round =>
    obtain ⟨i, S, hi, hS0, hS1, rfl, rfl, HS, hbel, hpb⟩ := hrel
    obtain ⟨x0, x1, x2, x3, _, _, _, _⟩ := hpb.four
    by_cases hin : i < nk
    · by_cases hS : S ≤ 16777216
      · obtain ⟨x, hx⟩ : ∃ x, kinds[i]? = some x := ⟨_, List.getElem?_eq_getElem (by rw [HNK.out]; exact hin)⟩
        obtain ⟨b, off, rfl, hbl, hxa⟩ := HK.out i x hx
        obtain ⟨TA', tc', EA, ec, _, _, _, _, c4, c5, hI, hE⟩ := hxa
        obtain ⟨k1, k2, k3⟩ := HR5.out x (List.mem_of_getElem? hx)
        have HX := Lib.hid hx
        have HE := Lib.hid hE
        have HB := Lib.hid hbel
        have K3 := Lib.hid k3
        have HPB := Lib.hid hpb
        obtain ⟨nm, co, po, he, tags, effs⟩ := x
        simp only at c4 c5 k1 k2
        obtain ⟨ng, hng⟩ : ∃ n, tags.length = n := ⟨_, rfl⟩
        obtain ⟨ne, hne⟩ : ∃ n, effs.length = n := ⟨_, rfl⟩
        rw [hng] at c4 k1
        rw [hne] at c5 k2
        have HNG := Lib.hid hng
        have HNE := Lib.hid hne
        have C4 := Lib.hid c4
        have C5 := Lib.hid c5
        have d4 := (hbel.cell (p := ⟨b, _, none⟩) hbl).trans c4
        have d5 := (hbel.cell (p := ⟨b, _, none⟩) hbl).trans c5
        clear hx hI hE hbel k3 hpb hng hne c4 c5
        have hii : (i : Int) < nk := by omega
        go_wp2_with fail
        go_quiet (fail)
        go_wp2_with fail
        have hsm : S + ng + ne ≤ 16777216 → SmTo P i ∧ ng ≤ 16777216 ∧ ne ≤ 16777216 := fun h => ⟨HS.out (by omega), by omega, by omega⟩
        have HSM := Lib.hid hsm
        obtain ⟨W1, hW1⟩ : ∃ W1, W1 = wr.drewN nq := ⟨_, rfl⟩
        rw [← hW1]
        have HBd := Lib.hid (show Below w.heap.size w W1 by rw [hW1]; exact bdn HB.out nq)
        have HPd := Lib.hid (show Blk W1 w.heap.size 75 #[.int .i64 cards, .slice IA ni ic, .slice TA nt tc, .slice (some ⟨b, off, none⟩) nk kc] by rw [hW1]; exact HPB.out.drewN nq)
        clear hW1
        clear hsm d4 d5 x0 x1 x2 x3
        go_loopw [3, 5] (fun nv kv wr => ∃ (k : Nat) (S' : Int), k ≤ ne ∧ 0 ≤ S' ∧ S' ≤ 9007199254740992 ∧ nv = .int .i64 S' ∧ kv = .int .i64 k ∧ Hid (S' ≤ 16777216 → SmTo P i ∧ ng ≤ 16777216 ∧ ne ≤ 16777216 ∧ ∀ j e, j < k → effs[j]? = some e → EffSm e) ∧ Below w.heap.size w wr ∧ Blk wr w.heap.size 75 #[.int .i64 cards, .slice IA ni ic, .slice TA nt tc, .slice (some ⟨b, off, none⟩) nk kc]) (fun _ kv _ => ne - (intOf kv).toNat)
        case atStart => exact ⟨0, S + ng + ne, by omega, by omega, by omega, rfl, rfl, Lib.hid (fun h => ⟨(HSM.out h).1, (HSM.out h).2.1, (HSM.out h).2.2, fun j e hj => absurd hj (by omega)⟩), HBd.out, HPd.out⟩
        case round =>
          clear HBd HPd HPB HSM
          obtain ⟨k, S', hk, hT0, hT1, rfl, rfl, HT, hbel, hpb⟩ := hrel
          obtain ⟨x0, x1, x2, x3, _, _, _, _⟩ := hpb.four
          by_cases hkn : k < ne
          · by_cases hS' : S' ≤ 16777216
            · obtain ⟨e, hex⟩ : ∃ e, effs[k]? = some e := ⟨_, List.getElem?_eq_getElem (by rw [HNE.out]; exact hkn)⟩
              obtain ⟨b2, off2, rfl, hbl2, hea⟩ := HE.out k e hex
              obtain ⟨SA, sc, CA, cc, _, e1, e2, _, _, _⟩ := hea.below hbel hbl2
              obtain ⟨k4, k5⟩ := K3.out e (List.mem_of_getElem? hex)
              have d4 := (hbel.cell (p := ⟨b, _, none⟩) hbl).trans C4.out
              have d5 := (hbel.cell (p := ⟨b, _, none⟩) hbl).trans C5.out
              have HEX := Lib.hid hex
              have HB2 := Lib.hid hbel
              have HPB := Lib.hid hpb
              obtain ⟨on, slots, code, bd⟩ := e
              simp only at e1 e2 k4 k5
              obtain ⟨n1, hn1⟩ : ∃ n, slots.length = n := ⟨_, rfl⟩
              obtain ⟨n2, hn2⟩ : ∃ n, code.length = n := ⟨_, rfl⟩
              rw [hn1] at e1 k4
              rw [hn2] at e2 k5
              have HN1 := Lib.hid hn1
              have HN2 := Lib.hid hn2
              have hkk : (k : Int) < ne := by omega
              clear hex hea hbel hpb hn1 hn2
              go_wp2_with fail
              go_quiet (fail)
              go_wp2_with fail
              go_roundw
              case rel =>
                refine ⟨k + 1, S' + n1 + n2, by omega, by omega, by omega, by go_num, by go_num, Lib.hid fun h => ?_, bdn HB2.out _, HPB.out.drewN _⟩
                obtain ⟨q1, q2, q3, q4⟩ := HT.out (by omega)
                refine ⟨q1, q2, q3, fun j e hj he => ?_⟩
                by_cases hjk : j = k
                · subst hjk
                  have e := Option.some.inj (HEX.out.symm.trans he)
                  subst e
                  exact ⟨by show slots.length ≤ _; have := HN1.out; omega, by show code.length ≤ _; have := HN2.out; omega⟩
                · exact q4 j e (by omega) he
              case measure => (simp [intOf]; try omega)
            · have d4 := (hbel.cell (p := ⟨b, _, none⟩) hbl).trans C4.out
              have d5 := (hbel.cell (p := ⟨b, _, none⟩) hbl).trans C5.out
              have hkk : (k : Int) < ne := by omega
              have HB2 := Lib.hid hbel
              have HPB := Lib.hid hpb
              clear hbel hpb
              go_wp2_with fail
              exact ⟨⟨i + 1, S', by omega, hT0, hT1, rfl, by go_num, Lib.hid fun h => absurd h hS', HB2.out, HPB.out⟩, by simp [intOf]; omega⟩
          · have d4 := (hbel.cell (p := ⟨b, _, none⟩) hbl).trans C4.out
            have d5 := (hbel.cell (p := ⟨b, _, none⟩) hbl).trans C5.out
            have hkk : (ne : Int) ≤ k := by omega
            have HB2 := Lib.hid hbel
            have HPB := Lib.hid hpb
            have hnx : S' ≤ 16777216 → SmTo P (i + 1) := by
              intro h
              obtain ⟨⟨q1, q2, q3, q4, q5⟩, q6, q7, q8⟩ := HT.out h
              refine ⟨q1, q2, q3, q4, fun j y hj hy => ?_⟩
              by_cases hji : j = i
              · subst hji
                rw [HP.out] at hy
                have e := Option.some.inj (HX.out.symm.trans hy)
                subst e
                refine ⟨by show tags.length ≤ _; rw [HNG.out]; exact q6, by show effs.length ≤ _; rw [HNE.out]; exact q7, fun e he => ?_⟩
                obtain ⟨m, hm, rfl⟩ := List.getElem_of_mem he
                have hm2 : m < effs.length := hm
                exact q8 m _ (by rw [HNE.out] at hm2; omega) (List.getElem?_eq_getElem hm)
              · exact q5 j y (by omega) hy
            have HNX := Lib.hid hnx
            clear hbel hpb hnx
            go_wp2_with fail
            exact ⟨⟨i + 1, S', by omega, hT0, hT1, rfl, by go_num, HNX, HB2.out, HPB.out⟩, by simp [intOf]; omega⟩
      · have HB := Lib.hid hbel
        clear hbel hpb
        go_wp2_with fail
        go_ret
        exact ⟨S, rfl, fun h => absurd h (by omega), HB.out⟩
    · have HB := Lib.hid hbel
      have hie : i = nk := by omega
      have hge : (nk : Int) ≤ i := by omega
      have hfin : S ≤ 16777216 → PckSm P := fun h => SmTo.all (by
        have h1 := HS.out h
        rw [hie] at h1
        have e : P.kinds.length = nk := by rw [HP.out]; exact HNK.out
        rw [e]
        exact h1)
      have HFI := Lib.hid hfin
      clear hbel hpb hie hfin
      go_wp2_with fail
      go_ret
      exact ⟨S, rfl, HFI.out, HB.out⟩
end Go.Proofs.YtabpheanbomibaaGreatDoor
namespace Go.Proofs.YtabpheanbomibaaGreatDoor
open Go.RowKit
set_option linter.unusedVariables false

theorem KndC.base {w : World} {B C o : Nat} {x : Knd} {cs : Array Value} (h : KndC w B x cs o) (hC : C ≤ B) : KndC w C x cs o := by
  obtain ⟨b1, b2, q0, q1, q2, q3, q4, q5, q6⟩ := h
  exact ⟨b1, b2, q0, q1, q2, q3, q4, q5, q6.base hC⟩
theorem KndBlk.base {w : World} {B C b K i : Nat} {l : List Knd} {cs : Array Value} (h : KndBlk w B b K l i cs) (hC : C ≤ B) : KndBlk w C b K l i cs := ⟨h.blk, h.size, fun k x hk hx => (h.one k x hk hx).base hC, h.mark⟩
/-- A pack whose lists have rooms of their own. -/
def PckW (w : World) (B : Nat) (p : Pck) (b1 b2 b3 : Nat) : Prop := Blk w b1 2 (longVs (wideL p.ints)).toArray ∧ Blk w b2 9 (textVs (wideT p.texts)).toArray ∧ ∃ cs, KndBlk w B b3 (p.kinds.length + 64) p.kinds (p.kinds.length + 64) cs
theorem PckW.frm {w w' : World} {B C b1 b2 b3 : Nat} {p : Pck} {T : List TypeId} (h : PckW w B p b1 b2 b3) (hf : Frm C T w w') (h0 : 2 ∉ T) (h1 : 9 ∉ T) (h2 : 123 ∉ T) (h3 : 3 ∉ T) (h4 : 82 ∉ T) (h5 : 5 ∉ T) (h6 : 125 ∉ T) : PckW w' B p b1 b2 b3 := by
  obtain ⟨q1, q2, cs, q3⟩ := h
  exact ⟨hf.blk q1 h0, hf.blk q2 h1, cs, q3.frm hf h2 h3 h4 h5 h6⟩
theorem PckW.below {w w' : World} {B b1 b2 b3 : Nat} {p : Pck} (h : PckW w B p b1 b2 b3) (hb : Below w.heap.size w w') : PckW w' B p b1 b2 b3 := h.frm (Frm.of_below (T := []) hb (Nat.zero_le _)) (by simp) (by simp) (by simp) (by simp) (by simp) (by simp) (by simp)
/-- The bytes of a pack are bytes. -/
def PckBy (p : Pck) : Prop := ∀ k ∈ p.kinds, ∀ x ∈ k.effs, ∀ y ∈ x.code, 0 ≤ y ∧ y ≤ 255
theorem pckAt_wide {w : World} {B b1 b2 b3 : Nat} {p : Pck} (hby : PckBy p) (h : PckW w B p b1 b2 b3) : PckAt w (some ⟨b1, 0, none⟩) (some ⟨b2, 0, none⟩) (some ⟨b3, 0, none⟩) p := by
  obtain ⟨q1, q2, cs, q3⟩ := h
  exact ⟨longsAt_wide q1, textsAt_wide q2, kndsAt_wide hby q3⟩
set_option maxRecDepth 100000 in
set_option maxHeartbeats 2000000 in
theorem widePack_any (p : Pck) (IA TA KA : Option Addr) (ic tc kc : Nat) (w : World) (hp : PckAt w IA TA KA p) (hs : PckSm p) (htb : Tab10 w w.heap.size) :
    Calls Tryz.prog 21 #[.agg (pckV p IA TA KA ic tc kc)] w fun e w' => ∃ b1 b2 b3, e = .returned (.agg (pckV p (some ⟨b1, 0, none⟩) (some ⟨b2, 0, none⟩) (some ⟨b3, 0, none⟩) (p.ints.length + 64) (p.texts.length + 64) (p.kinds.length + 64))) ∧ PckW w' w.heap.size p b1 b2 b3 ∧ Below w.heap.size w w' := by
  obtain ⟨P, hP⟩ : ∃ P, P = p := ⟨_, rfl⟩
  obtain ⟨cards, ints, texts, kinds⟩ := p
  obtain ⟨h1, h2, h3⟩ := hp
  obtain ⟨r1, r2, r3, r4, r5⟩ := hs
  simp only [pckV] at h1 h2 h3 r1 r2 r3 r4 r5 ⊢
  obtain ⟨B, hB⟩ : ∃ B, w.heap.size = B := ⟨_, rfl⟩
  rw [hB] at htb
  have hc1 := fun (wx : World) (h : Below B w wx) => wideLongs_any IA ints ic wx r1 (h1.below (by rw [hB]; exact h))
  have hc2 := fun (wx : World) (h : Below B w wx) => wideTexts_any TA texts tc wx r2 (h2.below (by rw [hB]; exact h)) (by
    have h4 := htb.on h
    exact fun w' hb => h4 w' (hb.mono (by have := h.size; omega)))
  have hc3 := fun (wx : World) (h : Below B w wx) => wideKnds_any KA kinds kc wx r4 r5 (h3.below (by rw [hB]; exact h))
  obtain ⟨ni, hni⟩ : ∃ n, ints.length = n := ⟨_, rfl⟩
  obtain ⟨nt, hnt⟩ : ∃ n, texts.length = n := ⟨_, rfl⟩
  obtain ⟨nk, hnk⟩ : ∃ n, kinds.length = n := ⟨_, rfl⟩
  rw [hni] at hc1 ⊢
  rw [hnt] at hc2 ⊢
  rw [hnk] at hc3 ⊢
  obtain ⟨W, hW⟩ : ∃ W, W = (w.alloc (.cells #[.int .i64 cards, .slice IA ni ic, .slice TA nt tc, .slice KA nk kc] 75)).alloc (.cells #[.int .i64 0, .slice none 0 0, .slice none 0 0, .slice none 0 0] 75) := ⟨_, rfl⟩
  have hBW : Below B w W := by rw [hW, ← hB]; exact ((Below.refl _ _).alloc (Nat.le_refl _) _).alloc (by simp) _
  have hb0 : Blk W B 75 #[.int .i64 cards, .slice IA ni ic, .slice TA nt tc, .slice KA nk kc] := by rw [hW, ← hB]; exact (Blk.new _ _ _).alloc _
  have hb1 : Blk W (B + 1) 75 #[.int .i64 0, .slice none 0 0, .slice none 0 0, .slice none 0 0] := by rw [hW, ← hB]; have := Blk.new (w.alloc (.cells #[.int .i64 cards, .slice IA ni ic, .slice TA nt tc, .slice KA nk kc] 75)) 75 #[.int .i64 0, .slice none 0 0, .slice none 0 0, .slice none 0 0]; simpa using this
  have HW := Lib.hid hW
  have HC1 := Lib.hid hc1
  have HC2 := Lib.hid hc2
  have HC3 := Lib.hid hc3
  have HB0 := Lib.hid hb0
  have HB1 := Lib.hid hb1
  have HBW := Lib.hid hBW
  have HB := Lib.hid hB
  have HP := Lib.hid hP
  have HNK := Lib.hid hnk
  clear hW hc1 hc2 hc3 hb0 hb1 hBW r1 r2 r3 r4 r5 h1 h2 h3 hni hnt hnk hP htb
  go_enter Tryz.func21, Tryz.ntmps21
  go_wp2_with fail
  rw [← HW.out]
  refine (HC1.out W HBW.out).mono ?_
  rintro e w1 ⟨rfl, hs1, hb1⟩
  obtain ⟨b1, hb1e⟩ : ∃ b1, b1 = W.heap.size := ⟨_, rfl⟩
  rw [← hb1e] at hs1 hb1 ⊢
  have hBb : B + 1 < b1 := by rw [hb1e]; exact HB1.out.lt
  have k0 := HB0.out.below hb1 (by omega)
  have k1 := HB1.out.below hb1 (by omega)
  obtain ⟨x0, x1, x2, x3, z0, z1, z2, z3⟩ := k0.four
  have q0 := k0.set_ 1 (.slice (some ⟨b1, 0, none⟩) ni (ni + 64))
  have q1 := k1.far (p := ⟨B, 1, none⟩) (by show B + 1 ≠ B; omega) (.slice (some ⟨b1, 0, none⟩) ni (ni + 64))
  have f1 : Frm B [75] w1 (w1.setCell ⟨B, 1, none⟩ (.slice (some ⟨b1, 0, none⟩) ni (ni + 64))) := (Frm.refl _ _ _).set_ k0 (Nat.le_refl _) (by simp) _
  have hB2 := (HBW.out.trans (hb1.mono (by omega))).trans f1.below
  have HS1 := Lib.hid (f1.blk hs1 (by decide))
  have Q0 := Lib.hid q0
  have Q1 := Lib.hid q1
  have HB2 := Lib.hid hB2
  have hz : (w1.setCell ⟨B, 1, none⟩ (.slice (some ⟨b1, 0, none⟩) ni (ni + 64))).heap.size = w1.heap.size := by simp [World.setCell]
  have hlt1 : b1 < w1.heap.size := hs1.lt
  have HZ := Lib.hid hz
  clear hs1 hb1 k0 k1 q0 q1 f1 hB2 hz hb1e
  go_wp2_with fail
  refine (HC2.out _ HB2.out).mono ?_
  rintro e w2 ⟨rfl, hs2, hb2⟩
  rw [HZ.out] at hs2 hb2 ⊢
  obtain ⟨b2, hb2e⟩ : ∃ b2, b2 = w1.heap.size := ⟨_, rfl⟩
  rw [← hb2e] at hs2 hb2 ⊢
  have hb12 : b1 < b2 := by rw [hb2e]; exact hlt1
  have k0 := Q0.out.below hb2 (by omega)
  have k1 := Q1.out.below hb2 (by omega)
  clear x0 x1 x2 x3 z0 z1 z2 z3
  obtain ⟨x0, x1, x2, x3, z0, z1, z2, z3⟩ := k0.four
  have q0 := k0.set_ 2 (.slice (some ⟨b2, 0, none⟩) nt (nt + 64))
  have q1 := k1.far (p := ⟨B, 2, none⟩) (by show B + 1 ≠ B; omega) (.slice (some ⟨b2, 0, none⟩) nt (nt + 64))
  have f1 : Frm B [75] w2 (w2.setCell ⟨B, 2, none⟩ (.slice (some ⟨b2, 0, none⟩) nt (nt + 64))) := (Frm.refl _ _ _).set_ k0 (Nat.le_refl _) (by simp) _
  have hB3 := (HB2.out.trans (hb2.mono (by omega))).trans f1.below
  have HS1' := Lib.hid (f1.blk (HS1.out.below hb2 (by omega)) (by decide))
  have HS2 := Lib.hid (f1.blk hs2 (by decide))
  have Q0' := Lib.hid q0
  have Q1' := Lib.hid q1
  have HB3 := Lib.hid hB3
  have hz : (w2.setCell ⟨B, 2, none⟩ (.slice (some ⟨b2, 0, none⟩) nt (nt + 64))).heap.size = w2.heap.size := by simp [World.setCell]
  have hlt2 : b2 < w2.heap.size := hs2.lt
  have HZ2 := Lib.hid hz
  clear hs2 hb2 k0 k1 q0 q1 f1 hB3 hz hb2e HZ HS1 Q0 Q1 HB2
  go_wp2_with fail
  refine (HC3.out _ HB3.out).mono ?_
  rintro e w3 ⟨rfl, ⟨cs, hs3⟩, hb3⟩
  rw [HZ2.out] at hs3 hb3 ⊢
  obtain ⟨b3, hb3e⟩ : ∃ b3, b3 = w2.heap.size := ⟨_, rfl⟩
  rw [← hb3e] at hs3 hb3 ⊢
  have hb23 : b2 < b3 := by rw [hb3e]; exact hlt2
  have k0 := Q0'.out.below hb3 (by omega)
  have k1 := Q1'.out.below hb3 (by omega)
  clear x0 x1 x2 x3 z0 z1 z2 z3
  obtain ⟨x0, x1, x2, x3, z0, z1, z2, z3⟩ := k0.four
  obtain ⟨y0, y1, y2, y3, v0, v1, v2, v3⟩ := k1.four
  have k1' := k1.far (p := ⟨B, 3, none⟩) (by show B + 1 ≠ B; omega) (.slice (some ⟨b3, 0, none⟩) nk (nk + 64))
  have r0 := k1'.set_ 0 (.int .i64 cards)
  have r1 := r0.set_ 1 (.slice (some ⟨b1, 0, none⟩) ni (ni + 64))
  have r2 := r1.set_ 2 (.slice (some ⟨b2, 0, none⟩) nt (nt + 64))
  have r3 := r2.set_ 3 (.slice (some ⟨b3, 0, none⟩) nk (nk + 64))
  have f2 := (((((Frm.refl B [75] w3).set_ k0 (Nat.le_refl _) (by simp) (.slice (some ⟨b3, 0, none⟩) nk (nk + 64)) (i := 3)).set_ k1' (by omega) (by simp) (.int .i64 cards) (i := 0)).set_ r0 (by omega) (by simp) (.slice (some ⟨b1, 0, none⟩) ni (ni + 64)) (i := 1)).set_ r1 (by omega) (by simp) (.slice (some ⟨b2, 0, none⟩) nt (nt + 64)) (i := 2)).set_ r2 (by omega) (by simp) (.slice (some ⟨b3, 0, none⟩) nk (nk + 64)) (i := 3)
  obtain ⟨e0, e1, e2, e3, _, _, _, _⟩ := r3.four
  have hPW : PckW _ B P b1 b2 b3 := ⟨by rw [HP.out]; exact f2.blk (HS1'.out.below hb3 (by omega)) (by decide), by rw [HP.out]; exact f2.blk (HS2.out.below hb3 (by omega)) (by decide), cs, by
    rw [HP.out]
    have h4 := (hs3.frm f2 (by decide) (by decide) (by decide) (by decide) (by decide)).base (C := B) (by omega)
    show KndBlk _ B b3 (kinds.length + 64) kinds (kinds.length + 64) cs
    rw [HNK.out]
    exact h4⟩
  have HPW := Lib.hid hPW
  have HBF := Lib.hid ((HB3.out.trans (hb3.mono (by omega))).trans f2.below)
  clear hs3 hb3 k0 k1 k1' r0 r1 r2 r3 f2 hb3e hPW
  go_wp2_with fail
  clear x0 x1 x2 x3 z0 z1 z2 z3 y0 y1 y2 y3 v0 v1 v2 v3
  exact bodyPost_ret (v := .agg #[.int .i64 cards, .slice (some ⟨b1, 0, none⟩) ni (ni + 64), .slice (some ⟨b2, 0, none⟩) nt (nt + 64), .slice (some ⟨b3, 0, none⟩) nk (nk + 64)]) (by simp [results, Tryz.results21, go_sem, e0, e1, e2, e3]) rfl ⟨b1, b2, b3, rfl, by rw [HB.out, ← HP.out]; exact HPW.out, by rw [HB.out]; exact HBF.out⟩
set_option maxRecDepth 100000 in
set_option maxHeartbeats 2000000 in
theorem sparePack_any (p : Pck) (B b1 b2 b3 : Nat) (w : World) (hw : PckW w B p b1 b2 b3) (hs : PckSm p) (htb : Tab10 w w.heap.size) :
    Calls Tryz.prog 25 #[.agg (pckV p (some ⟨b1, 0, none⟩) (some ⟨b2, 0, none⟩) (some ⟨b3, 0, none⟩) (p.ints.length + 64) (p.texts.length + 64) (p.kinds.length + 64))] w fun e w' => e = .returned (.bool true) ∧ Below w.heap.size w w' := by
  obtain ⟨cards, ints, texts, kinds⟩ := p
  obtain ⟨h1, h2, cs, h3⟩ := hw
  obtain ⟨r1, r2, r3, r4, r5⟩ := hs
  simp only [pckV] at h1 h2 h3 r1 r2 r3 r4 r5 ⊢
  have hc1 := fun (wx : World) (h : Below w.heap.size w wx) => spareLongs_any b1 ints wx r1 (h1.below h h1.lt)
  have hc2 := fun (wx : World) (h : Below w.heap.size w wx) => spareTexts_any b2 texts wx r2 (by
    have h4 := htb.on h
    exact fun w' hb => h4 w' (hb.mono h.size)) (h2.below h h2.lt)
  have hc3 := fun (wx : World) (h : Below w.heap.size w wx) => spareKnds_any B b3 kinds wx cs r4 r5 (h3.below h)
  have hb := (Below.refl w.heap.size w).alloc (Nat.le_refl _) (.cells #[.int .i64 cards, .slice (some ⟨b1, 0, none⟩) ints.length (ints.length + 64), .slice (some ⟨b2, 0, none⟩) texts.length (texts.length + 64), .slice (some ⟨b3, 0, none⟩) kinds.length (kinds.length + 64)] 75)
  have hk := Blk.new w 75 #[.int .i64 cards, .slice (some ⟨b1, 0, none⟩) ints.length (ints.length + 64), .slice (some ⟨b2, 0, none⟩) texts.length (texts.length + 64), .slice (some ⟨b3, 0, none⟩) kinds.length (kinds.length + 64)]
  obtain ⟨ni, hni⟩ : ∃ n, ints.length = n := ⟨_, rfl⟩
  obtain ⟨nt, hnt⟩ : ∃ n, texts.length = n := ⟨_, rfl⟩
  obtain ⟨nk, hnk⟩ : ∃ n, kinds.length = n := ⟨_, rfl⟩
  rw [hni] at hc1
  rw [hnt] at hc2
  rw [hnk] at hc3
  rw [hni, hnt, hnk] at hb hk ⊢
  have HC1 := Lib.hid hc1
  have HC2 := Lib.hid hc2
  have HC3 := Lib.hid hc3
  have HB := Lib.hid hb
  have HK := Lib.hid hk
  clear hc1 hc2 hc3 h1 h2 h3 r1 r2 r3 r4 r5 htb hni hnt hnk hb hk
  go_enter Tryz.func25, Tryz.ntmps25
  go_wp2_with fail
  refine (HC1.out _ HB.out).mono ?_
  rintro e w1 ⟨rfl, rfl⟩
  go_wp2_with fail
  refine (HC2.out _ HB.out).mono ?_
  rintro e w2 ⟨rfl, hb2⟩
  have hk2 := HK.out.below hb2 HK.out.lt
  obtain ⟨x0, x1, x2, x3, _, _, _, _⟩ := hk2.four
  have HB2 := Lib.hid (HB.out.trans (hb2.mono (by simp)))
  clear hk2 hb2
  go_wp2_with fail
  refine (HC3.out _ HB2.out).mono ?_
  rintro e w3 ⟨rfl, hb3⟩
  go_wp2_with fail
  go_ret
  exact ⟨rfl, HB2.out.trans (hb3.mono HB2.out.size)⟩
set_option maxRecDepth 100000 in
set_option maxHeartbeats 2000000 in
theorem eqPack_any (p : Pck) (IA TA KA IB TB KB : Option Addr) (ic tc kc id td kd : Nat) (w : World) (ha : PckAt w IA TA KA p) (hb : PckAt w IB TB KB p) (hs : PckSm p) :
    Calls Tryz.prog 24 #[.agg (pckV p IA TA KA ic tc kc), .agg (pckV p IB TB KB id td kd)] w fun e w' => e = .returned (.bool true) ∧ Below w.heap.size w w' := by
  obtain ⟨cards, ints, texts, kinds⟩ := p
  obtain ⟨h1, h2, h3⟩ := ha
  obtain ⟨g1, g2, g3⟩ := hb
  obtain ⟨r1, r2, r3, r4, r5⟩ := hs
  simp only [pckV] at h1 h2 h3 g1 g2 g3 r1 r2 r3 r4 r5 ⊢
  have hc1 := fun (wx : World) (h : Below w.heap.size w wx) => eqLongs_same IA IB ints ic id wx r1 (h1.below h) (g1.below h)
  have hc2 := fun (wx : World) (h : Below w.heap.size w wx) => eqTexts_same TA TB texts tc td wx r2 (h2.below h) (g2.below h)
  have hc3 := fun (wx : World) (h : Below w.heap.size w wx) => eqKnds_any KA KB kinds kc kd wx r4 r5 (h3.below h) (g3.below h)
  obtain ⟨ni, hni⟩ : ∃ n, ints.length = n := ⟨_, rfl⟩
  obtain ⟨nt, hnt⟩ : ∃ n, texts.length = n := ⟨_, rfl⟩
  obtain ⟨nk, hnk⟩ : ∃ n, kinds.length = n := ⟨_, rfl⟩
  simp only [hni] at hc1 ⊢
  simp only [hnt] at hc2 ⊢
  simp only [hnk] at hc3 ⊢
  have hb := ((Below.refl w.heap.size w).alloc (Nat.le_refl _) (.cells #[.int .i64 cards, .slice IA ni ic, .slice TA nt tc, .slice KA nk kc] 75)).alloc (by simp) (.cells #[.int .i64 cards, .slice IB ni id, .slice TB nt td, .slice KB nk kd] 75)
  have k0 := (Blk.new w 75 #[.int .i64 cards, .slice IA ni ic, .slice TA nt tc, .slice KA nk kc]).alloc (.cells #[.int .i64 cards, .slice IB ni id, .slice TB nt td, .slice KB nk kd] 75)
  have k1 := Blk.new (w.alloc (.cells #[.int .i64 cards, .slice IA ni ic, .slice TA nt tc, .slice KA nk kc] 75)) 75 #[.int .i64 cards, .slice IB ni id, .slice TB nt td, .slice KB nk kd]
  simp only [World.size_alloc] at k1
  have hsz : ((w.alloc (.cells #[.int .i64 cards, .slice IA ni ic, .slice TA nt tc, .slice KA nk kc] 75)).alloc (.cells #[.int .i64 cards, .slice IB ni id, .slice TB nt td, .slice KB nk kd] 75)).heap.size = w.heap.size + 1 + 1 := by simp
  have HC1 := Lib.hid hc1
  have HC2 := Lib.hid hc2
  have HC3 := Lib.hid hc3
  have HB := Lib.hid hb
  have K0 := Lib.hid k0
  have K1 := Lib.hid k1
  have HZ := Lib.hid hsz
  have hob : (cards != cards) = false := by simp
  clear hc1 hc2 hc3 h1 h2 h3 g1 g2 g3 r1 r2 r3 r4 r5 hni hnt hnk hb k0 k1 hsz
  go_enter Tryz.func24, Tryz.ntmps24
  go_wp2_with fail
  refine (HC1.out _ HB.out).mono ?_
  rintro e w1 ⟨rfl, hb1⟩
  have k0 := K0.out.below hb1 (by rw [HZ.out]; omega)
  have k1 := K1.out.below hb1 (by rw [HZ.out]; omega)
  obtain ⟨x0, x1, x2, x3, _, _, _, _⟩ := k0.four
  obtain ⟨y0, y1, y2, y3, _, _, _, _⟩ := k1.four
  have B1 := Lib.hid (HB.out.trans (hb1.mono (by rw [HZ.out]; omega)))
  have K0' := Lib.hid k0
  have K1' := Lib.hid k1
  clear hb1 k0 k1
  go_wp2_with fail
  refine (HC2.out _ B1.out).mono ?_
  rintro e w2 ⟨rfl, hb2⟩
  have k0 := K0'.out.below hb2 K0'.out.lt
  have k1 := K1'.out.below hb2 K1'.out.lt
  clear x0 x1 x2 x3 y0 y1 y2 y3
  obtain ⟨x0, x1, x2, x3, _, _, _, _⟩ := k0.four
  obtain ⟨y0, y1, y2, y3, _, _, _, _⟩ := k1.four
  have B2 := Lib.hid (B1.out.trans (hb2.mono B1.out.size))
  clear hb2 k0 k1
  go_wp2_with fail
  refine (HC3.out _ B2.out).mono ?_
  rintro e w3 ⟨rfl, hb3⟩
  go_wp2_with fail
  go_ret
  exact ⟨rfl, B2.out.trans (hb3.mono B2.out.size)⟩
end Go.Proofs.YtabpheanbomibaaGreatDoor
