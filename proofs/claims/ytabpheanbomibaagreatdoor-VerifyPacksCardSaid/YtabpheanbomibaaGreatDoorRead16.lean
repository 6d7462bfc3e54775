/- tableauref16.Read: the same as the plain reading. -/
import Derived.Test.YtabpheanbomibaaGreatDoorSize16
namespace Go.Proofs.YtabpheanbomibaaGreatDoor
open Go.RowKit
set_option linter.unusedVariables false

/-- The operands' numbers, of so many bytes each, from a place on. -/
def numsM (l : List Int) : Nat → List Int → List Int
  | _, [] => []
  | k, w :: ws => (if w = 2 then 256 * l.getD k 0 + l.getD (k + 1) 0 else l.getD k 0) :: numsM l (k + w.toNat) ws
theorem sum_pos : ∀ {l : List Int}, (∀ x ∈ l, 0 ≤ x) → 0 ≤ l.sum
  | [], _ => by simp
  | x :: r, h => by
    rw [List.sum_cons]
    have := h x (by simp)
    have := sum_pos (l := r) fun y hy => h y (by simp [hy])
    omega
theorem numsM_len (l : List Int) : ∀ ws k, (numsM l k ws).length = ws.length
  | [], _ => rfl
  | w :: ws, k => by simp [numsM, numsM_len l ws]
theorem nums_at (l : List Int) (i : Nat) {k : Int} (hk : k = 0 ∨ k = 1 ∨ k = 2 ∨ k = 3) : (numsM l (i + 1) (widthsK k)).getD 0 0 = opA k l i ∧ (numsM l (i + 1) (widthsK k)).getD 1 0 = opB k l i ∧ (numsM l (i + 1) (widthsK k)).getD 2 0 = opC k l i := by
  rcases hk with rfl | rfl | rfl | rfl
  · exact ⟨rfl, rfl, rfl⟩
  · exact ⟨rfl, rfl, rfl⟩
  · refine ⟨?_, rfl, rfl⟩
    show 256 * l.getD (i + 1) 0 + l.getD (i + 1 + 1) 0 = l.getD (i + 1) 0 * 256 + l.getD (i + 2) 0
    rw [Int.mul_comm]
  · refine ⟨rfl, rfl, ?_⟩
    show 256 * l.getD (i + 1 + 1 + 1) 0 + l.getD (i + 1 + 1 + 1 + 1) 0 = l.getD (i + 3) 0 * 256 + l.getD (i + 4) 0
    rw [Int.mul_comm]
set_option maxRecDepth 100000 in
set_option maxHeartbeats 4000000 in
theorem read16_any (A : Option Addr) (l : List Int) (cap : Nat) (at_ : Int) (w : World) (hl : l.length ≤ 1000000) (hb : BytesAt w A l) :
    Calls Tryz.prog 38 #[.slice A l.length cap, .int .i64 at_] w fun e w' => e = .returned (.tuple #[.agg (readM l at_).1.cells, .int .i64 (readM l at_).2]) ∧ Below w.heap.size w w' := by
  obtain ⟨n, hn⟩ : ∃ n, l.length = n := ⟨_, rfl⟩
  obtain ⟨W, hW⟩ : ∃ W, W = w.alloc (.cells #[.int .i64 0, .int .u8 0, .int .i64 0, .int .i64 0, .int .i64 0] 100) := ⟨_, rfl⟩
  have hBW : Below w.heap.size w W := by rw [hW]; exact (Below.refl _ _).alloc (Nat.le_refl _) _
  have hK : Blk W w.heap.size 100 #[.int .i64 0, .int .u8 0, .int .i64 0, .int .i64 0, .int .i64 0] := by rw [hW]; exact Blk.new _ _ _
  have hzW : w.heap.size < W.heap.size := by rw [hW]; simp
  obtain ⟨R, hR⟩ : ∃ R, R = readM l at_ := ⟨_, rfl⟩
  rw [← hR]
  rw [hn] at hl ⊢
  unfold readM at hR
  by_cases hout : at_ < 0 ∨ (n : Int) ≤ at_
  · rw [hn, if_pos hout] at hR
    subst hR
    have HW := Lib.hid hW
    have HB := Lib.hid hBW
    clear hW hBW hK hb hn
    by_cases h0 : at_ < 0
    · have hd : decide (at_ < 0) = true := by simp [h0]
      go_enter Tryz.func38, Tryz.ntmps38
      go_wp2_with fail
      exact bodyPost_ret (v := .tuple #[.agg #[.int .i64 0, .int .u8 0, .int .i64 0, .int .i64 0, .int .i64 0], .int .i64 1]) (by simp [results, Tryz.results38, go_sem]) rfl ⟨rfl, (Below.refl _ _).alloc (Nat.le_refl _) _⟩
    · have hd : decide (at_ < 0) = false := decide_eq_false (by omega)
      have h2 : (n : Int) ≤ at_ := by omega
      go_enter Tryz.func38, Tryz.ntmps38
      go_wp2_with fail
      exact bodyPost_ret (v := .tuple #[.agg #[.int .i64 0, .int .u8 0, .int .i64 0, .int .i64 0, .int .i64 0], .int .i64 1]) (by simp [results, Tryz.results38, go_sem]) rfl ⟨rfl, (Below.refl _ _).alloc (Nat.le_refl _) _⟩
  rw [hn, if_neg hout] at hR
  obtain ⟨i, hi⟩ := Int.eq_ofNat_of_zero_le (show 0 ≤ at_ by omega)
  subst hi
  rw [Int.toNat_natCast] at hR
  have hil : i < n := by omega
  have hgo : ∀ k, k < n → l[k]? = some (l.getD k 0) := fun k hk => by rw [List.getD_eq_getElem?_getD, List.getElem?_eq_getElem (by omega)]; rfl
  obtain ⟨b, off, rfl, hbl, hc⟩ := hb.at_ i _ (hgo i hil)
  have hcell : ∀ k, k < n → w.cell? ⟨b, off + k, none⟩ = some (.int .u8 (l.getD k 0)) ∧ 0 ≤ l.getD k 0 ∧ l.getD k 0 ≤ 255 := fun k hk => by
    obtain ⟨b2, off2, e, _, hc2⟩ := hb.at_ k _ (hgo k hk)
    injection e with e
    injection e with e1 e2
    subst e1 e2
    exact ⟨hc2, hb.byte _ (List.mem_of_getElem? (hgo k hk))⟩
  obtain ⟨op, hop⟩ : ∃ op, op = l.getD i 0 := ⟨_, rfl⟩
  rw [← hop] at hR hc
  have hiI : (i : Int) < n := by omega
  have hd : decide ((i : Int) < 0) = false := decide_eq_false (by omega)
  have hd2 : decide ((n : Int) ≤ i) = false := decide_eq_false (by omega)
  have hcW : W.cell? ⟨b, off + i, none⟩ = some (.int .u8 op) := (hBW.cell (p := ⟨b, off + i, none⟩) hbl).trans hc
  have hblW : b < W.heap.size := by omega
  have hsz := fun wx => size16_any op wx
  cases hf : formOf op with
  | none =>
    rw [hf] at hR
    simp only at hR
    subst hR
    have HF := Lib.hid hf
    have HW := Lib.hid hW
    have HB := Lib.hid hBW
    have HK := Lib.hid hK
    clear hf hW hBW hK hb hn hgo hcell hop hsz
    go_enter Tryz.func38, Tryz.ntmps38
    go_wp2_with fail
    refine (widths_none op _ HF.out).mono ?_
    rintro e w1 ⟨rfl, rfl⟩
    go_wp2_with fail
    exact bodyPost_ret (v := .tuple #[.agg #[.int .i64 0, .int .u8 0, .int .i64 0, .int .i64 0, .int .i64 0], .int .i64 40]) (by simp [results, Tryz.results38, go_sem]) rfl ⟨rfl, (Below.refl _ _).alloc (Nat.le_refl _) _⟩
  | some pk =>
    obtain ⟨nm, k⟩ := pk
    rw [hf] at hR
    simp only at hR
    have hkk := form_kind hf
    simp only at hkk
    obtain ⟨h3, hin, hsum, hs0, hs1⟩ := widthsK_in hkk
    have hsI : sizeI op = 1 + sizeK k := by unfold sizeI; rw [hf]
    simp only [hsI] at hsz
    have hws := fun wx => widths_some op nm k wx hf
    obtain ⟨hA0, hA1, hA2⟩ := nums_at l i hkk
    have hnl := numsM_len l (widthsK k) (i + 1)
    obtain ⟨ws, hw⟩ : ∃ ws, ws = widthsK k := ⟨_, rfl⟩
    obtain ⟨sk, hsk⟩ : ∃ sk, sk = sizeK k := ⟨_, rfl⟩
    obtain ⟨NS, hNS⟩ : ∃ NS, NS = numsM l (i + 1) ws := ⟨_, rfl⟩
    rw [← hsk] at hR hsum hs0 hs1
    simp only [← hsk] at hsz
    rw [← hw] at h3 hin hsum hnl hA0 hA1 hA2
    rw [← hNS] at hnl hA0 hA1 hA2
    simp only [← hw] at hws
    obtain ⟨wn, hwn⟩ : ∃ n, ws.length = n := ⟨_, rfl⟩
    rw [hwn] at h3 hnl
    simp only [hwn] at hws
    have HWS := Lib.hid hws
    have HSZ := Lib.hid hsz
    have HIN := Lib.hid hin
    have HSUM := Lib.hid hsum
    have HWN := Lib.hid hwn
    have HNS := Lib.hid hNS
    have HNL := Lib.hid hnl
    have HA := Lib.hid (And.intro hA0 (And.intro hA1 hA2))
    have HR := Lib.hid hR
    have HW := Lib.hid hW
    have HB := Lib.hid hBW
    have HK := Lib.hid hK
    have HC := Lib.hid hcell
    have HOP := Lib.hid hop
    clear hws hsz hin hsum hwn hNS hnl hA0 hA1 hA2 hR hW hBW hK hcell hop hb hn hgo hf hw hsk hsI
    go_enter Tryz.func38, Tryz.ntmps38
    go_wp2_with fail
    rw [← HW.out]
    refine (HWS.out _).mono ?_
    rintro e w1 ⟨A1, c1, rfl, hA1, hb1⟩
    have hz1 := hb1.size
    have hc1 : w1.cell? ⟨b, off + i, none⟩ = some (.int .u8 op) := (hb1.cell (p := ⟨b, off + i, none⟩) hblW).trans hcW
    have HA1 := Lib.hid hA1
    have HB1 := Lib.hid hb1
    clear hb1 hA1
    go_wp2_with fail
    refine (HSZ.out _).mono ?_
    rintro e w2 ⟨rfl, hb2⟩
    have hz2 := hb2.size
    have hB02 : Below w.heap.size w w2 := (HB.out.trans (HB1.out.mono (by omega))).trans (hb2.mono (by omega))
    have hK2 : Blk w2 w.heap.size 100 #[.int .i64 0, .int .u8 0, .int .i64 0, .int .i64 0, .int .i64 0] := (HK.out.below HB1.out hzW).below hb2 (by omega)
    have hc2 : w2.cell? ⟨b, off + i, none⟩ = some (.int .u8 op) := (hb2.cell (p := ⟨b, off + i, none⟩) (by show b < _; omega)).trans hc1
    have HA2 := Lib.hid (HA1.out.below hb2)
    have HB2 := Lib.hid hB02
    have HK2 := Lib.hid hK2
    clear hb2 hB02 hK2
    by_cases hcut : (n : Int) - i - 1 < sk
    · have hfin : R = (ins0, 41) := by rw [HR.out, if_pos hcut]
      subst hfin
      have f0 := HK2.out.frozen 0
      have f1 := HK2.out.frozen 1
      have f2 := HK2.out.frozen 2
      have f3 := HK2.out.frozen 3
      have f4 := HK2.out.frozen 4
      have e0 := HK2.out.cell 0
      have e1 := HK2.out.cell 1
      have e2 := HK2.out.cell 2
      have e3 := HK2.out.cell 3
      have e4 := HK2.out.cell 4
      have HFIN : Hid (Ending.returned (.tuple #[.agg #[.int .i64 0, .int .u8 0, .int .i64 0, .int .i64 0, .int .i64 0], .int .i64 41]) = Ending.returned (.tuple #[.agg ins0.cells, .int .i64 41])) := rfl
      go_wp2_with fail
      have s0 := HK2.out.set_ 0 (.int .i64 0)
      have s1 := s0.set_ 1 (.int .u8 0)
      have s2 := s1.set_ 2 (.int .i64 0)
      have s3 := s2.set_ 3 (.int .i64 0)
      have s4 := s3.set_ 4 (.int .i64 0)
      have c0 := s4.cell 0
      have c1 := s4.cell 1
      have c2 := s4.cell 2
      have c3 := s4.cell 3
      have c4 := s4.cell 4
      have hBB := (((((HB2.out.setCell (p := ⟨w.heap.size, 0, none⟩) (Nat.le_refl _) (.int .i64 0)).setCell (p := ⟨w.heap.size, 1, none⟩) (Nat.le_refl _) (.int .u8 0)).setCell (p := ⟨w.heap.size, 2, none⟩) (Nat.le_refl _) (.int .i64 0)).setCell (p := ⟨w.heap.size, 3, none⟩) (Nat.le_refl _) (.int .i64 0)).setCell (p := ⟨w.heap.size, 4, none⟩) (Nat.le_refl _) (.int .i64 0))
      clear s0 s1 s2 s3 s4
      exact bodyPost_ret (v := .tuple #[.agg #[.int .i64 0, .int .u8 0, .int .i64 0, .int .i64 0, .int .i64 0], .int .i64 41]) (by simp [results, Tryz.results38, go_sem, c0, c1, c2, c3, c4]) rfl ⟨HFIN.out, hBB⟩
    · have hfin : R = (⟨i, op, opA k l i, opB k l i, opC k l i⟩, 0) := by rw [HR.out, if_neg hcut]
      go_wp2_with fail
      go_loopw [8, 9, 10, 11] (fun lv kv iv _ wr => ∃ (j K : Nat) (nums : List Int), j ≤ wn ∧ nums.length = j ∧ iv = .int .i64 j ∧ kv = .int .i64 K ∧ i + 1 ≤ K ∧ K ≤ i + 1 + 2 * j ∧ Hid ((K : Int) + (ws.drop j).sum = i + 1 + sk) ∧ Hid (nums ++ numsM l K (ws.drop j) = NS) ∧
          wr.ownsRow w2.heap.size 3 1 lv j (intVals nums) ∧ Below w2.heap.size w2 wr)
        (fun _ _ iv _ _ => wn - (intOf iv).toNat)
      case atStart => exact ⟨0, i + 1, [], by omega, rfl, rfl, by go_num, by omega, by omega, by rw [List.drop_zero]; have := HSUM.out; show ((i + 1 : Nat) : Int) + _ = _; omega, by rw [List.drop_zero]; exact HNS.out.symm, World.ownsRow_nil _ _ _ _, Below.refl _ _⟩
      case round =>
        obtain ⟨j, K, nums, hj, hnl2, rfl, rfl, hK0, hK1, HS1, HN1, hown, hbr⟩ := hrel
        obtain ⟨A8, c8, rfl⟩ := own_form hown
        have HO := Lib.hid hown
        have HBR := Lib.hid hbr
        have hzr := hbr.size
        have hbr : Below w.heap.size w wr := HB2.out.trans (hbr.mono (by omega))
        clear hown
        by_cases hlt : j < wn
        · obtain ⟨x, hx⟩ : ∃ x, ws[j]? = some x := ⟨_, List.getElem?_eq_getElem (by rw [HWN.out]; exact hlt)⟩
          obtain ⟨b1, off1, rfl, hb1l, hx0⟩ := HA2.out j x hx
          have hx1 : wr.cell? ⟨b1, off1 + j, none⟩ = some (.int .i64 x) := (HBR.out.cell (p := ⟨b1, _, none⟩) hb1l).trans hx0
          have hx12 := HIN.out x (List.mem_of_getElem? hx)
          have hs2 := HS1.out
          have hn2 := HN1.out
          rw [drop_head hx, List.sum_cons] at hs2
          rw [drop_head hx, numsM] at hn2
          have hnn : 0 ≤ (ws.drop (j + 1)).sum := sum_pos fun y hy => by have := HIN.out y (List.mem_of_mem_drop hy); omega
          obtain ⟨d1, d10, d11⟩ := HC.out K (by omega)
          have d1 : wr.cell? ⟨b, off + K, none⟩ = some (.int .u8 (l.getD K 0)) := (hbr.cell (p := ⟨b, _, none⟩) hbl).trans d1
          have hKn : (K : Int) < n := by omega
          have HX0 := Lib.hid hx0
          clear hx hx0
          rcases hx12 with rfl | rfl
          · rw [if_neg (by decide)] at hn2
            have HS2 := Lib.hid hs2
            have HN2 := Lib.hid hn2
            have hs3 := hs2
            clear hs2 hn2
            obtain ⟨v, hv⟩ : ∃ v, v = l.getD K 0 := ⟨_, rfl⟩
            rw [← hv] at d1 d10 d11
            have HV := Lib.hid hv
            clear hv
            clear hbr
            go_wp2_with (at_builtin; go_loud (refine wpList_append1 int_el rfl _ _ rfl w2.heap.size wr [.int .i64 (v)] rfl _ _ _ rfl HO.out rfl rfl (by simp [Value.oneCell']) (by unfold maxLen; omega) (by omega) (by omega) ?_; intro v3 w3 hown3 hg3; obtain ⟨A7, c7, rfl⟩ := own_form hown3; have qb := Below.of_own HBR.out HO.out hg3 (Nat.le_refl _) (by omega); have q1 := (qb.cell (p := ⟨b1, off1 + j, none⟩) hb1l).trans HX0.out; have QO := Lib.hid hown3; have QB := Lib.hid qb; have hz3 := hg3.size; clear hown3 qb hg3))
            go_roundw
            case rel =>
              refine ⟨j + 1, K + 1, nums ++ [v], by omega, by simp [hnl2], by go_num, by go_num, by omega, by omega, ?_, ?_, ?_, QB.out⟩
              · have := HS2.out; show ((K + 1 : Nat) : Int) + _ = _; omega
              · have := HN2.out
                rw [List.append_assoc]
                rw [HV.out]
                exact this
              · have e : intVals (nums ++ [v]) = intVals nums ++ [.int .i64 (v)] := by simp [intVals]
                rw [e]
                exact QO.out
            case measure => (simp [intOf]; try omega)
          · rw [if_pos rfl] at hn2
            have HS2 := Lib.hid hs2
            have HN2 := Lib.hid hn2
            have hs3 := hs2
            clear hs2 hn2
            obtain ⟨v, hv⟩ : ∃ v, v = l.getD K 0 := ⟨_, rfl⟩
            rw [← hv] at d1 d10 d11
            have HV := Lib.hid hv
            clear hv
            obtain ⟨e1, e10, e11⟩ := HC.out (K + 1) (by omega)
            have e1' : wr.cell? ⟨b, off + (K + 1), none⟩ = some (.int .u8 (l.getD (K + 1) 0)) := (hbr.cell (p := ⟨b, _, none⟩) hbl).trans e1
            obtain ⟨v2, hv2⟩ : ∃ v, v = l.getD (K + 1) 0 := ⟨_, rfl⟩
            rw [← hv2] at e1' e10 e11
            have HV2 := Lib.hid hv2
            have hK1 : ((K : Int) + 1) < n := by omega
            clear e1 hv2
            clear hbr
            go_wp2_with (at_builtin; go_loud (refine wpList_append1 int_el rfl _ _ rfl w2.heap.size wr [.int .i64 (256 * v + v2)] rfl _ _ _ rfl HO.out rfl rfl (by simp [Value.oneCell']) (by unfold maxLen; omega) (by omega) (by omega) ?_; intro v3 w3 hown3 hg3; obtain ⟨A7, c7, rfl⟩ := own_form hown3; have qb := Below.of_own HBR.out HO.out hg3 (Nat.le_refl _) (by omega); have q1 := (qb.cell (p := ⟨b1, off1 + j, none⟩) hb1l).trans HX0.out; have QO := Lib.hid hown3; have QB := Lib.hid qb; have hz3 := hg3.size; clear hown3 qb hg3))
            go_roundw
            case rel =>
              refine ⟨j + 1, K + 2, nums ++ [256 * v + v2], by omega, by simp [hnl2], by go_num, by go_num, by omega, by omega, ?_, ?_, ?_, QB.out⟩
              · have := HS2.out; show ((K + 2 : Nat) : Int) + _ = _; omega
              · have := HN2.out
                rw [List.append_assoc]
                rw [HV.out, HV2.out]
                exact this
              · have e : intVals (nums ++ [256 * v + v2]) = intVals nums ++ [.int .i64 (256 * v + v2)] := by simp [intVals]
                rw [e]
                exact QO.out
            case measure => (simp [intOf]; try omega)
        · have hnums : nums = NS := by
            have := HN1.out
            rw [List.drop_of_length_le (by rw [HWN.out]; omega), numsM, List.append_nil] at this
            exact this
          subst hnums
          obtain ⟨hI8, _⟩ := own_ints HO.out
          have hins := instr_any i op A8 nums c8 wr (by omega) hI8
          rw [hnl2] at hins
          have hc1r : wr.cell? ⟨b, off + i, none⟩ = some (.int .u8 op) := (HBR.out.cell (p := ⟨b, off + i, none⟩) (by show b < _; omega)).trans hc2
          have hKr := HK2.out.below HBR.out (by omega)
          have hHI := Lib.hid hins
          have HKR := Lib.hid hKr
          have HBW := Lib.hid hbr
          clear hins hKr hbr hI8
          go_wp2_with fail
          refine hHI.out.mono ?_
          rintro e w3 ⟨rfl, hb3⟩
          have hK3 := HKR.out.below hb3 (by omega)
          have hz3 := hb3.size
          have hB3 := HBW.out.trans (hb3.mono (by omega))
          have f0 := hK3.frozen 0
          have f1 := hK3.frozen 1
          have f2 := hK3.frozen 2
          have f3 := hK3.frozen 3
          have f4 := hK3.frozen 4
          have e0 := hK3.cell 0
          have e1 := hK3.cell 1
          have e2 := hK3.cell 2
          have e3 := hK3.cell 3
          have e4 := hK3.cell 4
          obtain ⟨ha0, ha1, ha2⟩ := HA.out
          rw [ha0, ha1, ha2]
          have HFIN : Hid (Ending.returned (.tuple #[.agg #[.int .i64 i, .int .u8 op, .int .i64 (opA k l i), .int .i64 (opB k l i), .int .i64 (opC k l i)], .int .i64 0]) = Ending.returned (.tuple #[.agg R.1.cells, .int .i64 R.2])) := by rw [hfin]; rfl
          have HB3 := Lib.hid hB3
          have HK3 := Lib.hid hK3
          clear hB3 hK3 hfin ha0 ha1 ha2
          obtain ⟨va, hva⟩ : ∃ v, opA k l i = v := ⟨_, rfl⟩
          obtain ⟨vb, hvb⟩ : ∃ v, opB k l i = v := ⟨_, rfl⟩
          obtain ⟨vc, hvc⟩ : ∃ v, opC k l i = v := ⟨_, rfl⟩
          rw [hva, hvb, hvc] at HFIN ⊢
          clear hva hvb hvc
          go_wp2_with fail
          have s0 := HK3.out.set_ 0 (.int .i64 i)
          have s1 := s0.set_ 1 (.int .u8 op)
          have s2 := s1.set_ 2 (.int .i64 va)
          have s3 := s2.set_ 3 (.int .i64 vb)
          have s4 := s3.set_ 4 (.int .i64 vc)
          have c0 := s4.cell 0
          have c1 := s4.cell 1
          have c2 := s4.cell 2
          have c3 := s4.cell 3
          have c4 := s4.cell 4
          have hBB := (((((HB3.out.setCell (p := ⟨w.heap.size, 0, none⟩) (Nat.le_refl _) (.int .i64 i)).setCell (p := ⟨w.heap.size, 1, none⟩) (Nat.le_refl _) (.int .u8 op)).setCell (p := ⟨w.heap.size, 2, none⟩) (Nat.le_refl _) (.int .i64 va)).setCell (p := ⟨w.heap.size, 3, none⟩) (Nat.le_refl _) (.int .i64 vb)).setCell (p := ⟨w.heap.size, 4, none⟩) (Nat.le_refl _) (.int .i64 vc))
          clear s0 s1 s2 s3 s4
          exact bodyPost_ret (v := .tuple #[.agg #[.int .i64 i, .int .u8 op, .int .i64 va, .int .i64 vb, .int .i64 vc], .int .i64 0]) (by simp [results, Tryz.results38, go_sem, c0, c1, c2, c3, c4]) rfl ⟨HFIN.out, hBB⟩
end Go.Proofs.YtabpheanbomibaaGreatDoor
