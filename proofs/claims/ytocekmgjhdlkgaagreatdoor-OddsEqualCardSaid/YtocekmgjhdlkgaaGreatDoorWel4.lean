/- tableauref00, at floats: num, Long, WideFloats, SpareFloats, EqFloats, CopyFloats. -/
import Derived.Test.YtocekmgjhdlkgaaGreatDoorWel3
import Derived.Test.YtocekmgjhdlkgaaGreatDoorFloatW
import Derived.Deep.OwnRows
namespace Go.Proofs.YtocekmgjhdlkgaaGreatDoor
open Go.RowKit
set_option linter.unusedVariables false

theorem info_f64 : (Tryz.prog.info? 25).map (fun i => (i.zero, i.size, i.bytes)) = some (some (.float .f64 0), 1, 8) := by kernel_rfl
theorem float_el : ElT Tryz.prog 22 25 1 8 := ⟨Tryz.underlying22, by decide, by
  obtain ⟨i0, hi, hz0, hz1, hz2⟩ := info_parts info_f64
  exact ⟨i0, _, hi, hz0, hz1, hz2, rfl⟩⟩
theorem wpList_append_run {P : Program} {w : World} {ops : Array Oper} {rest : List Oper} {o : Oper} {a : Act} {Q : Exit → Act → World → Prop} (hgd : o.guard = none) (s x : Operand) (t : TypeId)
    (ho : o.op = .call { callee := .builtin .append, args := #[s, x], argTypes := #[t, t] }) (vs vx v : Value) (W : World) (hs : a.eval s = vs) (hx : a.eval x = vx) (hr : (Builtin.append_ #[t, t] o.type #[vs, vx]).run P w = .ok v W)
    (h : wpList P ops Q rest (a.put o.dst v) W) : wpList P ops Q (o :: rest) a w := by
  refine wpList_plain hgd fun K hK => ?_
  unfold Oper.wp execOp
  simp only [ho, resolve, invoke, builtin, Sem.run_bind, Sem.run_pure, Result.andThen_ok, List.map_toArray, List.map_cons, List.map_nil, hs, hx, hr]
  exact hK _ _ h
theorem run_append_nil0 {P : Program} {w : World} (t ty e : TypeId) (i : TypeInfo) (z : Value) (ht : P.underlying t = some (.slice e)) (hi : P.info? e = some i) (hz : i.zero = some z) (A : Option Addr) (c : Nat) :
    (Builtin.append_ #[t, t] ty #[.slice none 0 0, .slice A 0 c]).run P w = .ok (.slice none 0 0) w := by
  cases A with
  | none => simp [Builtin.append_, run_underlying ht, sizeOf, typeInfo, zeroValue, hi, hz, Builtin.lenOf, Builtin.firstCells]
  | some a => simp [Builtin.append_, run_underlying ht, sizeOf, typeInfo, zeroValue, hi, hz, Builtin.lenOf, Builtin.firstCells, loadCells, loadCellsFrom]
def floatVals (l : List Nat) : List Value := l.map (Value.float .f64)
def numV (n i : Int) : Int := 1048576 * n + i + 1
theorem num_any (n i : Int) (w : World) (h0 : 0 ≤ n) (h1 : n ≤ 1000) (h2 : 0 ≤ i) (h3 : i ≤ 1000000000) : Calls Tryz.prog 14 #[.int .i64 n, .int .i64 i] w fun e w' => e = .returned (.int .i64 (numV n i)) ∧ w = w' := by
  have e : numV n i = 1048576 * n + i + 1 := rfl
  rw [e]
  clear e
  go_enter Tryz.func14, Tryz.ntmps14
  go_wp2
  go_ret
  exact ⟨rfl, rfl⟩
theorem long_any (n : Int) (w : World) : Calls Tryz.prog 5 #[.int .i64 n] w fun e w' => e = .returned (.bool (decide (16777216 < n))) ∧ w = w' := by
  go_enter Tryz.func5, Tryz.ntmps5
  go_wp2
  go_ret
  all_goals exact ⟨by simp, rfl⟩
/-- An integer's word is a number. -/
theorem ofI_read (x : Int) (hx : x.natAbs < 9007199254740992) : ∃ s k P, dbl.read (ofI x) = .number s k P := by
  by_cases hz : x = 0
  · subst hz
    have e : ofI 0 = 0 := by decide
    rw [e]
    exact ⟨_, _, _, read_zero⟩
  · obtain ⟨k, P, hc, hk, e⟩ := nearest_int (neg := decide (x < 0)) (m := x.natAbs) (by omega) hx
    have e2 : ofI x = cw (decide (x < 0)) k P := e
    exact ⟨_, _, _, by rw [e2]; exact read_cw hc⟩
theorem ofI_order (x : Int) (hx : x.natAbs < 9007199254740992) : (dbl.order (ofI x) (ofI x) == some .eq) = true := by
  obtain ⟨s, k, P, h⟩ := ofI_read x hx
  rw [order_same h h]
  rfl
def markF (i : Nat) : Nat := ofI (numV 9 (i : Int))
def wideF (l : List Nat) : List Nat := l ++ (List.range 64).map fun j => markF (l.length + j)
theorem wideF_len (l : List Nat) : (wideF l).length = l.length + 64 := by simp [wideF]
theorem wideF_left {l : List Nat} {i : Nat} (h : i < l.length) : (wideF l)[i]? = l[i]? := List.getElem?_append_left h
theorem wideF_right {l : List Nat} {i : Nat} (h : l.length ≤ i) (h2 : i < l.length + 64) : (wideF l)[i]? = some (markF i) := by
  unfold wideF
  rw [List.getElem?_append_right h, List.getElem?_map, List.getElem?_range (by omega)]
  show some (markF (l.length + (i - l.length))) = _
  congr 2
  omega
theorem made_floats (K : Nat) : madeCells #[Value.float .f64 0] K = (floatVals (List.replicate K 0)).toArray := by
  have := toList_madeCells_one (.float .f64 0) K
  rw [← Array.toArray_toList (xs := madeCells #[Value.float .f64 0] K), this]
  simp [floatVals]
theorem floats_set {l : List Nat} {i : Nat} {v : Nat} {K : Nat} (h : i < K) (hl : K ≤ l.length) (hv : l[i]? = some v) : ((floatVals (l.take i ++ List.replicate (K - i) 0)).toArray).setIfInBounds i (.float .f64 v) = (floatVals (l.take (i + 1) ++ List.replicate (K - (i + 1)) 0)).toArray := by
  unfold floatVals
  rw [List.setIfInBounds_toArray]
  congr 1
  obtain ⟨d, hd⟩ : ∃ d, K - i = d + 1 := ⟨K - i - 1, by omega⟩
  rw [hd, show K - (i + 1) = d by omega, List.replicate_succ, List.map_append, List.map_cons, List.set_append_right _ _ (by simp; omega), List.length_map, List.length_take, show i - min i l.length = 0 by omega, List.take_add_one, hv]
  simp
theorem floatsAt_blk {w : World} {b : Nat} {l m : List Nat} (hk : Blk w b 25 (floatVals m).toArray) (h : ∀ k, k < l.length → m[k]? = l[k]?) : FloatsAt w (some ⟨b, 0, none⟩) l :=
  fun k x hx => ⟨b, 0, rfl, hk.lt, by
    have hkl := (List.getElem?_eq_some_iff.1 hx).1
    rw [Nat.zero_add, hk.cell k]
    unfold floatVals
    rw [List.getElem?_toArray, List.getElem?_map, h k hkl, hx]
    rfl⟩

set_option maxRecDepth 100000 in
set_option maxHeartbeats 4000000 in
theorem wideF_any (A : Option Addr) (l : List Nat) (c : Nat) (w : World) (hl : l.length ≤ 16777216) (hb : FloatsAt w A l) :
    Calls Tryz.prog 6 #[.slice A l.length c] w fun e w' => e = .returned (.slice (some ⟨w.heap.size, 0, none⟩) l.length (l.length + 64)) ∧ Blk w' w.heap.size 25 (floatVals (wideF l)).toArray ∧ Below w.heap.size w w' := by
  obtain ⟨n, hn⟩ : ∃ n, l.length = n := ⟨_, rfl⟩
  have hcell : ∀ i x, l[i]? = some x → ∃ b off, A = some ⟨b, off, none⟩ ∧ b < w.heap.size ∧ w.cell? ⟨b, off + i, none⟩ = some (.float .f64 x) := hb
  have hlen := wideF_len l
  have hleft := fun i (h : i < l.length) => wideF_left (l := l) h
  have hright := fun i (h : l.length ≤ i) (h2 : i < l.length + 64) => wideF_right (l := l) h h2
  obtain ⟨W, hW⟩ : ∃ W, W = wideF l := ⟨_, rfl⟩
  rw [← hW] at hlen ⊢
  simp only [← hW] at hleft hright
  simp only [hn] at hlen hleft hright
  rw [hn] at hl ⊢
  have hmk : ∀ wx, (Instr.makeSlice 22 (.int .i64 ((n : Int) + 64)) (.int .i64 ((n : Int) + 64))).run Tryz.prog wx = .ok (.slice (some ⟨wx.heap.size, 0, none⟩) (n + 64) (n + 64)) (wx.alloc (.cells (floatVals (W.take 0 ++ List.replicate (n + 64 - 0) 0)).toArray 25)) := by
    intro wx
    have h := run_make_row' (P := Tryz.prog) 22 25 (.float .f64 0) 8 Tryz.underlying22 info_f64 rfl .i64 .i64 (n + 64) (by omega) (by omega) wx
    simp only [made_floats] at h
    exact h
  have HC := Lib.hid hcell
  have HN := Lib.hid hn
  have HLE := Lib.hid hlen
  have HL := Lib.hid hleft
  have HRT := Lib.hid hright
  have HKB := Lib.hid (Blk.new w 25 (floatVals (W.take 0 ++ List.replicate (n + 64 - 0) 0)).toArray)
  have HB0 := Lib.hid (show Below w.heap.size w (w.alloc (.cells (floatVals (W.take 0 ++ List.replicate (n + 64 - 0) 0)).toArray 25)) from (Below.refl _ _).alloc (Nat.le_refl _) _)
  have hsf := stF
  clear hcell hn hlen hleft hright hW hb
  go_enter Tryz.func6, Tryz.ntmps6
  go_wp2_with fail
  go_loopw [4] (fun iv wr => ∃ i : Nat, i ≤ n + 64 ∧ iv = .int .i64 i ∧ Blk wr w.heap.size 25 (floatVals (W.take i ++ List.replicate (n + 64 - i) 0)).toArray ∧ Below w.heap.size w wr) (fun iv _ => n + 64 - (intOf iv).toNat)
  case atStart => exact ⟨0, by omega, rfl, HKB.out, HB0.out⟩
  case round =>
    obtain ⟨i, hi, rfl, hkb, hbel⟩ := hrel
    by_cases hlt : i < n + 64
    · have hcz : wr.cell? ⟨w.heap.size, i, none⟩ = some (.float .f64 0) := by
        rw [hkb.cell i]
        unfold floatVals
        rw [List.getElem?_toArray, List.getElem?_map, List.getElem?_append_right (by rw [List.length_take]; omega), List.length_take, List.getElem?_replicate, if_pos (by rw [HLE.out]; omega)]
        rfl
      have hcf := hkb.frozen i
      have hii : (i : Int) < n + 64 := by omega
      have HK := Lib.hid hkb
      have HB := Lib.hid hbel
      clear hkb hbel
      by_cases hin : i < n
      · obtain ⟨x, hx⟩ : ∃ x, l[i]? = some x := ⟨_, List.getElem?_eq_getElem (by rw [HN.out]; exact hin)⟩
        obtain ⟨b, off, rfl, hbl, hc⟩ := HC.out i x hx
        have hcw : wr.cell? ⟨b, off + i, none⟩ = some (.float .f64 x) := (HB.out.cell (p := ⟨b, _, none⟩) hbl).trans hc
        have hWi : W[i]? = some x := by rw [HL.out i hin, hx]
        have HWI := Lib.hid hWi
        clear hx hWi hc
        go_wp2_with fail
        go_roundw
        case rel =>
          have hs := HK.out.set_ i (.float .f64 x)
          rw [floats_set hlt (by rw [HLE.out]; exact Nat.le_refl _) HWI.out] at hs
          exact ⟨i + 1, by omega, by go_num, hs, HB.out.setCell (p := ⟨w.heap.size, i, none⟩) (Nat.le_refl _) _⟩
        case measure => (simp [intOf]; try omega)
      · have hWi : W[i]? = some (markF i) := HRT.out i (by omega) (by omega)
        have HWI := Lib.hid hWi
        clear hWi
        have hge : (n : Int) ≤ i := by omega
        have hmark : floatOfInt .f64 (numV 9 (i : Int)) = markF i := rfl
        go_wp2_with fail
        refine (num_any 9 (i : Int) _ (by omega) (by omega) (by omega) (by omega)).mono ?_
        rintro e w5 ⟨rfl, rfl⟩
        go_wp2_with fail
        go_roundw
        case rel =>
          have hs := HK.out.set_ i (.float .f64 (markF i))
          rw [floats_set hlt (by rw [HLE.out]; exact Nat.le_refl _) HWI.out] at hs
          exact ⟨i + 1, by omega, by go_num, hs, HB.out.setCell (p := ⟨w.heap.size, i, none⟩) (Nat.le_refl _) _⟩
        case measure => (simp [intOf]; try omega)
    · obtain rfl : i = n + 64 := by omega
      have HK := Lib.hid hkb
      have HB := Lib.hid hbel
      have hfull : W.take (n + 64) ++ List.replicate (n + 64 - (n + 64)) 0 = W := by rw [List.take_of_length_le (by rw [HLE.out]; exact Nat.le_refl _)]; simp
      have HF := Lib.hid hfull
      clear hkb hbel hfull
      go_wp2_with fail
      go_ret
      have h := HK.out
      rw [HF.out] at h
      exact ⟨rfl, h, HB.out⟩

set_option maxRecDepth 100000 in
set_option maxHeartbeats 4000000 in
theorem spareF_any (b : Nat) (l : List Nat) (w : World) (hl : l.length ≤ 16777216) (hk : Blk w b 25 (floatVals (wideF l)).toArray) :
    Calls Tryz.prog 11 #[.slice (some ⟨b, 0, none⟩) l.length (l.length + 64)] w fun e w' => e = .returned (.bool true) ∧ w = w' := by
  obtain ⟨n, hn⟩ : ∃ n, l.length = n := ⟨_, rfl⟩
  have hcell : ∀ i, n ≤ i → i < n + 64 → w.cell? ⟨b, i, none⟩ = some (.float .f64 (markF i)) := by
    intro i h1 h2
    rw [hk.cell i]
    unfold floatVals
    rw [List.getElem?_toArray, List.getElem?_map, wideF_right (by omega) (by omega)]
    rfl
  rw [hn] at hl ⊢
  have HC := Lib.hid hcell
  clear hcell hk hn
  go_enter Tryz.func11, Tryz.ntmps11
  go_wp2_with fail
  go_loop [4, 5] (fun iv _ => ∃ i : Nat, n ≤ i ∧ i ≤ n + 64 ∧ iv = .int .i64 i) (fun iv _ => n + 64 - (intOf iv).toNat)
  case atStart => exact ⟨n, by omega, by omega, rfl⟩
  case round =>
    obtain ⟨i, hi0, hi, rfl⟩ := hrel
    by_cases hlt : i < n + 64
    · have hc := HC.out i hi0 hlt
      have hii : (i : Int) < n + 64 := by omega
      have hmark : floatOfInt .f64 (numV 9 (i : Int)) = markF i := rfl
      have hself : (dbl.order (markF i) (markF i) == some .eq) = true := ofI_order _ (by unfold numV; omega)
      go_wp2_with fail
      refine (num_any 9 (i : Int) _ (by omega) (by omega) (by omega) (by omega)).mono ?_
      rintro e w5 ⟨rfl, rfl⟩
      go_wp2_with fail
      go_round
      case rel => exact ⟨i + 1, by omega, by omega, by go_num⟩
      case measure => (simp [intOf]; try omega)
    · obtain rfl : i = n + 64 := by omega
      go_wp2_with fail
      go_ret
      exact ⟨rfl, rfl⟩

set_option maxRecDepth 100000 in
set_option maxHeartbeats 4000000 in
theorem eqF_same (A B : Option Addr) (l : List Nat) (c d : Nat) (w : World) (hl : l.length ≤ 100000000) (ha : FloatsAt w A l) (hb : FloatsAt w B l) :
    Calls Tryz.prog 10 #[.slice A l.length c, .slice B l.length d] w fun e w' => e = .returned (.bool true) ∧ ∃ k, w' = w.drewN k := by
  obtain ⟨n, hn⟩ : ∃ n, l.length = n := ⟨_, rfl⟩
  have hac : ∀ i x, l[i]? = some x → ∃ b off, A = some ⟨b, off, none⟩ ∧ b < w.heap.size ∧ w.cell? ⟨b, off + i, none⟩ = some (.float .f64 x) := ha
  have hbc : ∀ i x, l[i]? = some x → ∃ b off, B = some ⟨b, off, none⟩ ∧ b < w.heap.size ∧ w.cell? ⟨b, off + i, none⟩ = some (.float .f64 x) := hb
  rw [hn] at hl ⊢
  have HA := Lib.hid hac
  have HB := Lib.hid hbc
  have HN := Lib.hid hn
  clear hac hbc ha hb hn
  go_enter Tryz.func10, Tryz.ntmps10
  go_wp2_with fail
  go_loopw [5] (fun iv wr => ∃ i : Nat, i ≤ n ∧ iv = .int .i64 i ∧ ∃ j, wr = w.drewN j) (fun iv _ => n - (intOf iv).toNat)
  case atStart => exact ⟨0, by omega, rfl, 0, rfl⟩
  case round =>
    obtain ⟨i, hi, rfl, j, hw⟩ := hrel
    have HW := Lib.hid hw
    by_cases hlt : i < n
    · obtain ⟨x, hx⟩ : ∃ x, l[i]? = some x := ⟨_, List.getElem?_eq_getElem (by rw [HN.out]; exact hlt)⟩
      obtain ⟨b1, o1, rfl, h1, hc1⟩ := HA.out i x hx
      obtain ⟨b2, o2, rfl, h2, hc2⟩ := HB.out i x hx
      have hd1 : wr.cell? ⟨b1, o1 + i, none⟩ = some (.float .f64 x) := by rw [hw]; exact hc1
      have hd2 : wr.cell? ⟨b2, o2 + i, none⟩ = some (.float .f64 x) := by rw [hw]; exact hc2
      have hii : (i : Int) < n := by omega
      obtain ⟨q, hq⟩ : ∃ q, (dbl.order x x == some .eq) = q := ⟨_, rfl⟩
      have hp : (dbl.order x x != some .eq) = !q := by rw [← hq]; rfl
      clear hx hc1 hc2 hw
      cases q with
      | true =>
        replace hp : (dbl.order x x != some .eq) = false := hp
        go_wp2_with fail
        go_quiet (fail)
        go_wp2_with fail
        go_roundw
        case rel => exact ⟨i + 1, by omega, by go_num, j + nq, by rw [HW.out, World.drewN_drewN]⟩
        case measure => (simp [intOf]; try omega)
      | false =>
        replace hp : (dbl.order x x != some .eq) = true := hp
        go_wp2_with fail
        go_quiet (fail)
        go_wp2_with fail
        go_roundw
        case rel => exact ⟨i + 1, by omega, by go_num, j + nq, by rw [HW.out, World.drewN_drewN]⟩
        case measure => (simp [intOf]; try omega)
    · clear hw
      go_wp2_with fail
      go_ret
      exact ⟨rfl, j, HW.out⟩
theorem floatV_one (l : List Nat) : ∀ u ∈ floatVals l, u.oneCell' = true := by intro u hu; obtain ⟨y, _, rfl⟩ := List.mem_map.1 hu; rfl
theorem floatV_row {w : World} {A : Option Addr} {l : List Nat} (h : FloatsAt w A l) (h0 : 0 < l.length) : ∃ b off, A = some ⟨b, off, none⟩ ∧ ∀ j v, (floatVals l)[j]? = some v → w.cell? ((⟨b, off, none⟩ : Addr).add j) = some v := by
  obtain ⟨b, off, hA, _, _⟩ := h 0 _ (List.getElem?_eq_getElem h0)
  refine ⟨b, off, hA, fun j v hj => ?_⟩
  rw [floatVals, List.getElem?_map, Option.map_eq_some_iff] at hj
  obtain ⟨x, hx, rfl⟩ := hj
  obtain ⟨b2, off2, e, _, hc⟩ := h j x hx
  rw [hA] at e
  injection e with e
  injection e with e1 e2
  subst e1 e2
  rw [show (⟨b, off, none⟩ : Addr).add j = ⟨b, off + j, none⟩ by unfold Addr.add; split <;> simp_all]
  exact hc
theorem own_floatV {w : World} {S n : Nat} {v : Value} {l : List Nat} (h : w.ownsRow S 25 1 v n (floatVals l)) : ∃ (A : Option Addr) (c : Nat), v = .slice A n c ∧ FloatsAt w A l ∧ l.length = n ∧ ∀ (k x : Nat), l[k]? = some x → ∃ b, A = some ⟨b, 0, none⟩ ∧ S ≤ b := by
  have h1 := h.1
  simp only [floatVals, List.length_map, Nat.mul_one] at h1
  rcases h.2 with ⟨rfl, rfl⟩ | ⟨g, cap, cur, rfl, hg, hk, _⟩
  · have : l = [] := List.eq_nil_of_length_eq_zero h1
    subst this
    exact ⟨none, 0, rfl, fun k x hk => by simp at hk, rfl, fun k x hk => by simp at hk⟩
  · refine ⟨_, _, rfl, fun k x hx => ⟨g, 0, rfl, (h.lt g rfl).2, ?_⟩, h1, fun k x hx => ⟨g, rfl, hg⟩⟩
    have := h.cells rfl k (.float .f64 x) (by simp [floatVals, hx])
    rw [← this]
    congr 1
    unfold Addr.add
    cases k <;> simp
set_option maxRecDepth 100000 in
set_option maxHeartbeats 800000 in
theorem cpF_any (A : Option Addr) (l : List Nat) (n c : Nat) (w : World) (hn : l.length = n) (hl : n ≤ 100000000) (hS : FloatsAt w A l) :
    Calls Tryz.prog 12 #[.slice A n c] w fun e w' => ∃ v, e = .returned v ∧ w'.ownsRow w.heap.size 25 1 v n (floatVals l) ∧ Below w.heap.size w w' := by
  obtain ⟨i0, z0, hi0, hz0, hsz0, hby0, hzc0⟩ := float_el.info
  by_cases h0 : n = 0
  · subst h0
    have hn0 := List.length_eq_zero_iff.1 hn
    have hr := fun wx => run_append_nil0 (P := Tryz.prog) (w := wx) 22 22 25 i0 z0 float_el.und hi0 hz0 A c
    have HR := Lib.hid hr
    have HN := Lib.hid hn0
    clear hS hr hn hn0
    go_enter Tryz.func12, Tryz.ntmps12
    go_wp2_with (at_builtin; go_loud (refine wpList_append_run rfl _ _ 22 rfl _ _ _ _ rfl rfl (HR.out _) ?_))
    go_ret
    rw [HN.out]
    exact ⟨_, rfl, World.ownsRow_nil _ _ _ _, Below.refl _ _⟩
  · obtain ⟨b, off, rfl, hc⟩ := floatV_row hS (by omega)
    have hz : (floatVals l).length = n * 1 := by simp [floatVals, hn]
    have HC := Lib.hid hc
    have HZ := Lib.hid hz
    have hone := floatV_one l
    have HO := Lib.hid hone
    clear hS hc hz hone hn
    go_enter Tryz.func12, Tryz.ntmps12
    go_wp2_with (at_builtin; go_loud (refine wpList_append_own w rfl _ _ 22 rfl w.heap.size 25 i0 z0 1 8 float_el.und hi0 hz0 hsz0 hby0 hzc0 (by decide) _ 0 [] rfl (World.ownsRow_nil _ _ _ _) ⟨b, off, none⟩ n c (floatVals l) rfl HZ.out HC.out HO.out (by unfold maxLen; omega) (by omega) (Nat.le_refl _) ?_))
    intro v' w' h2 h3 _
    have H2 := Lib.hid h2
    have H3 := Lib.hid h3
    clear h2 h3
    go_wp2_with fail
    go_ret
    refine ⟨_, rfl, by simpa using H2.out, ?_⟩
    exact (Below.refl _ _).grown H3.out (Nat.le_refl _) (fun k hk => by simp [Value.ownBlock] at hk)
end Go.Proofs.YtocekmgjhdlkgaaGreatDoor
