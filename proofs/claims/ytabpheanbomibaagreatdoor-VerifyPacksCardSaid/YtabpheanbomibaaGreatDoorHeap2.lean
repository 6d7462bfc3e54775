/- rows.Heap[int]: Take. -/
import Derived.Deep.DeepFit
import Derived.Test.YtabpheanbomibaaGreatDoorHeap1
namespace Go.Proofs.YtabpheanbomibaaGreatDoor
open Go.RowKit
set_option linter.unusedVariables false

theorem own_take {w : World} {B g n c m sz : Nat} {e : TypeId} {xs : List Value} (h : w.ownsRow B e sz (.slice (some ⟨g, 0, none⟩) n c) n xs) (hm : m ≤ n) : w.ownsRow B e sz (.slice (some ⟨g, 0, none⟩) m c) m (xs.take (m * sz)) := by
  obtain ⟨h1, h2⟩ := h
  have hle : m * sz ≤ n * sz := Nat.mul_le_mul_right _ hm
  refine ⟨by rw [List.length_take]; omega, ?_⟩
  rcases h2 with ⟨h2, _⟩ | ⟨g', cap, cur, h2, h3, h4, h5, h6, h7, h8⟩
  · cases h2
  · injection h2 with h2 _ h9
    injection h2 with h2
    injection h2 with h2
    subst h2 h9
    refine .inr ⟨g, c, cur, rfl, h3, h4, by omega, h6, h7, ?_⟩
    rw [← h8, List.take_take, Nat.min_eq_left hle]
theorem own_set1 {w : World} {B g n c : Nat} {e : TypeId} {l : List HEnt} {i : Nat} {y : HEnt} (h : w.ownsRow B e 2 (.slice (some ⟨g, 0, none⟩) n c) n (entVals l)) :
    ((w.setCell ⟨g, i * 2, none⟩ (.int .i64 y.1)).setCell ⟨g, i * 2 + 1, none⟩ (.int .i64 y.2)).ownsRow B e 2 (.slice (some ⟨g, 0, none⟩) n c) n (entVals (l.set i y)) := by
  have := ((h.stored (i * 2) (.int .i64 y.1)).1.stored (i * 2 + 1) (.int .i64 y.2)).1
  rw [entVals_set]
  exact this
/-- The last one first, and cut off. -/
theorem heap_cut {w : World} {B hb g n cap : Nat} {f : Value} {came : Int} {l : List HEnt} (hn : l.length = n + 1) (hB : B ≤ hb) (hk : Blk w hb 140 #[f, .slice (some ⟨g, 0, none⟩) (n + 1) cap, .int .i64 came]) (ho : w.ownsRow B 146 2 (.slice (some ⟨g, 0, none⟩) (n + 1) cap) (n + 1) (entVals l)) :
    Blk (((w.setCell ⟨g, 0, none⟩ (.int .i64 (atH l n).1)).setCell ⟨g, 1, none⟩ (.int .i64 (atH l n).2)).setCell ⟨hb, 1, none⟩ (.slice (some ⟨g, 0, none⟩) n cap)) hb 140 #[f, .slice (some ⟨g, 0, none⟩) n cap, .int .i64 came] ∧
    (((w.setCell ⟨g, 0, none⟩ (.int .i64 (atH l n).1)).setCell ⟨g, 1, none⟩ (.int .i64 (atH l n).2)).setCell ⟨hb, 1, none⟩ (.slice (some ⟨g, 0, none⟩) n cap)).ownsRow B 146 2 (.slice (some ⟨g, 0, none⟩) n cap) n (entVals (cutH l)) ∧
    FrmH B TH w (((w.setCell ⟨g, 0, none⟩ (.int .i64 (atH l n).1)).setCell ⟨g, 1, none⟩ (.int .i64 (atH l n).2)).setCell ⟨hb, 1, none⟩ (.slice (some ⟨g, 0, none⟩) n cap)) := by
  have hne0 := own_blk_ne ho hk (by decide)
  have hne : hb ≠ g := by
    simp [Value.ownBlock] at hne0
    omega
  have a1 := ho.stored 0 (.int .i64 (atH l n).1)
  have a2 := a1.1.stored 1 (.int .i64 (atH l n).2)
  have hbB : B ≤ w.heap.size := by have := (ho.lt g rfl); omega
  have k2 := (hk.far (p := ⟨g, 0, none⟩) hne (.int .i64 (atH l n).1)).far (p := ⟨g, 1, none⟩) hne (.int .i64 (atH l n).2)
  have s1 := (FrmH.refl B TH w).grown ho a1.2 (Nat.le_refl _) hbB (by simp)
  have s2 := s1.grown a1.1 a2.2 (Nat.le_refl _) (by have := a1.2.size; omega) (by simp)
  refine ⟨k2.set_ 1 _, ?_, s2.set_ k2 hB (by simp) _⟩
  have o3 := own_setCell a2.1 (by simpa [Value.ownBlock] using fun e : g = hb => hne e.symm) (p := ⟨hb, 1, none⟩) (.slice (some ⟨g, 0, none⟩) n cap)
  have o4 := own_take o3 (Nat.le_succ n)
  have e : entVals (cutH l) = List.take (n * 2) (((entVals l).set 0 (.int .i64 (atH l n).1)).set 1 (.int .i64 (atH l n).2)) := by
    unfold cutH
    rw [hn, Nat.add_sub_cancel, entVals_take, entVals_set]
  rw [e]
  exact o4
section
variable {B hb : Nat} {l : List HEnt} {came : Int}
set_option maxRecDepth 100000 in
theorem take_none (w : World) (h : HeapAt w B hb [] came) : Calls Tryz.prog 32 #[.pointer (some ⟨hb, 0, none⟩)] w fun e w' => e = .returned (.tuple #[.int .i64 0, .bool false]) ∧ w = w' := by
  have hn := none_any w h
  obtain ⟨v, h1, h2, h3⟩ := h
  obtain ⟨A, c, rfl⟩ := own_form h3
  have c1 := h2.cell 1
  have HN := Lib.hid hn
  clear hn h2 h3
  simp only [List.length_nil] at c1
  go_enter Tryz.func32, Tryz.ntmps32
  go_wp2_with fail
  refine HN.out.mono ?_
  rintro e w' ⟨rfl, rfl⟩
  go_wp2_with fail
  go_ret2
  exact ⟨rfl, rfl⟩
set_option maxRecDepth 100000 in
set_option maxHeartbeats 4000000 in
theorem take_some (w : World) (n : Nat) (h : HeapAt w B hb l came) (hn : l.length = n + 1) (hl : n ≤ 1000000) :
    Calls Tryz.prog 32 #[.pointer (some ⟨hb, 0, none⟩)] w fun e w' => e = .returned (.tuple #[.int .i64 (atH l 0).1, .bool true]) ∧ HeapAt w' B hb (takeH l) came ∧ FrmH B TH w w' := by
  have hnn := none_any w h
  obtain ⟨v, h1, h2, h3⟩ := h
  rw [hn] at h3
  obtain ⟨g, cap, rfl, hg⟩ := h3.form (by omega)
  have c1 := h2.cell 1
  have f1 := h2.frozen 1
  obtain ⟨p1, p2⟩ := entVals_at l 0 (by omega)
  obtain ⟨q1, q2⟩ := entVals_at l n (by omega)
  have ca : w.cell? ⟨g, 0, none⟩ = some (.int .i64 (atH l 0).1) := (h3.cellAt 0 (by omega)).trans p1
  have ca1 : w.cell? ⟨g, 1, none⟩ = some (.int .i64 (atH l 0).2) := (h3.cellAt 1 (by omega)).trans p2
  have cn := (h3.cellAt (n * 2) (by omega)).trans q1
  have cn1 := (h3.cellAt (n * 2 + 1) (by omega)).trans q2
  have fa := h3.frozenAt 0
  have fa1 := h3.frozenAt 1
  have hne0 := own_blk_ne h3 h2 (by decide)
  have hne : hb ≠ g := by
    simp [Value.ownBlock] at hne0
    omega
  have hne' : g ≠ hb := fun e => hne e.symm
  clear hne0
  have hcut := heap_cut hn h1 h2 h3
  obtain ⟨xa, hxa⟩ : ∃ x, atH l 0 = x := ⟨_, rfl⟩
  obtain ⟨xn, hxn⟩ : ∃ x, atH l n = x := ⟨_, rfl⟩
  obtain ⟨R, hR⟩ : ∃ R, R = takeH l := ⟨_, rfl⟩
  obtain ⟨L, hL⟩ : ∃ L, L = cutH l := ⟨_, rfl⟩
  have hR0 : R = downH n 0 L := by rw [hR, takeH, hn, hL]; rfl
  have hL0 : L.length = n := by rw [hL, cutH_len, hn]; rfl
  rw [hxa] at ca ca1 ⊢
  rw [hxn] at cn cn1 hcut
  rw [← hL] at hcut
  rw [← hR]
  have hBw : B ≤ w.heap.size := by have := h2.lt; omega
  have hcap : n + 1 ≤ cap := by
    rcases h3.2 with ⟨e, _⟩ | ⟨g', c', cur, e, _, _, h, _⟩
    · cases e
    · injection e with _ _ e
      subst e
      exact h
  have hcap2 : cap ≤ 9223372036854775807 := by
    rcases h3.2 with ⟨e, _⟩ | ⟨g', c', cur, e, _, _, _, h, _⟩
    · cases e
    · injection e with _ _ e
      subst e
      unfold maxLen at h
      omega
  have HN := Lib.hid hnn
  have HCUT := Lib.hid hcut
  have HR := Lib.hid hR0
  have HL := Lib.hid hL0
  clear hnn h2 h3 hcut hxa hxn hR hL hR0 hL0 p1 p2 q1 q2 hg hn
  have hnI : (0 : Int) ≤ n := by omega
  have hb0 : ((n : Int) + 1 == 0) = false := by simp; omega
  go_enter Tryz.func32, Tryz.ntmps32
  go_wp2_with fail
  refine HN.out.mono ?_
  rintro e w' ⟨rfl, rfl⟩
  go_wp2_with fail
  refine wp_region_text3 (by kernel_rfl) (by kernel_rfl) ?_
  go_wp2_with fail
  refine Only.normal ?_
  go_wp2_with fail
  have hst : HeapAt _ B hb L came ∧ FrmH B TH w _ := ⟨⟨_, h1, HCUT.out.1.drew, by rw [HL.out]; exact HCUT.out.2.1.drew⟩, HCUT.out.2.2.drew⟩
  have HST := Lib.hid hst
  clear hst ca ca1 cn cn1 fa fa1 c1 f1 HCUT
  go_loopw [7, 8] (fun iv _ wr => ∃ (i f : Nat) (l' : List HEnt), iv = .int .i64 i ∧ n ≤ i + f ∧ i ≤ 2 * n ∧ Hid (l'.length = n) ∧ Hid (R = downH f i l') ∧ HeapAt wr B hb l' came ∧ FrmH B TH w wr) (fun iv _ _ => 2 * n - (intOf iv).toNat)
  case atStart => exact ⟨0, n, L, rfl, by omega, by omega, HL, HR, HST.out.1, HST.out.2⟩
  case round =>
    obtain ⟨i, f, l', rfl, hif, hin, HLn, HRi, hhi, hfi⟩ := hrel
    clear HST
    by_cases hk : n ≤ 2 * i + 1
    · have hres : R = l' := by
        rw [HRi.out]
        cases f with
        | zero => rfl
        | succ f => rw [downH, if_pos (by rw [HLn.out]; exact hk)]
      have HRES := Lib.hid hres
      have HHI := Lib.hid hhi
      have HFI := Lib.hid hfi
      clear hres hhi hfi
      have hkI : (n : Int) ≤ 2 * (i : Int) + 1 := by omega
      go_wp2_with fail
      go_ret2
      exact ⟨rfl, by rw [HRES.out]; exact HHI.out, HFI.out⟩
    · obtain ⟨f, rfl⟩ : ∃ q, f = q + 1 := ⟨f - 1, by omega⟩
      have hkI : ¬ (n : Int) ≤ 2 * (i : Int) + 1 := by omega
      have hkJ : 2 * (i : Int) + 1 < (n : Int) := by omega
      obtain ⟨K, hK⟩ : ∃ K, kidH l' i = K := ⟨_, rfl⟩
      have hKb : 2 * i + 1 ≤ K ∧ K < n := by
        rw [← hK]; unfold kidH; rw [HLn.out]
        split
        · rename_i h; omega
        · omega
      have hdn : downH (f + 1) i l' = if aheadH (atH l' K) (atH l' i) = true then downH f K (swapH l' i K) else l' := by
        rw [downH, if_neg (by rw [HLn.out]; omega), hK]
      have HDN := Lib.hid hdn
      have HK := Lib.hid hK
      have HHI := Lib.hid hhi
      have HFI := Lib.hid hfi
      clear hdn hK hhi hfi
      obtain ⟨d1, hd1⟩ : ∃ d1, decide (K = 2 * i + 2) = d1 := ⟨_, rfl⟩
      have HD1 := Lib.hid hd1
      clear hd1
      go_upto_region 12 with fail
      go_cut [71] (fun tv wx => tv = .bool d1 ∧ HeapAt wx B hb l' came ∧ FrmH B TH w wx)
      case first =>
        by_cases hc : 2 * i + 2 < n
        · have hcI : 2 * (i : Int) + 1 + 1 < (n : Int) := by omega
          have ha := ahead_any _ (2 * i + 2) (2 * i + 1) HHI.out (by rw [HLn.out]; omega) (by rw [HLn.out]; omega) (by rw [HLn.out]; omega)
          have hkd : aheadH (atH l' (2 * i + 2)) (atH l' (2 * i + 1)) = d1 := by
            rw [← HD1.out, ← HK.out]; unfold kidH; rw [HLn.out]
            cases aheadH (atH l' (2 * i + 2)) (atH l' (2 * i + 1))
            · rw [if_neg (fun h => by cases h.2)]; simp
            · rw [if_pos ⟨hc, rfl⟩]; simp
          rw [hkd] at ha
          have HA := Lib.hid ha
          clear ha hkd
          go_wp2_with fail
          go_fit HA.out
          rintro e w5 ⟨rfl, hb5⟩
          have hh5 := HHI.out.below hb5
          have hf5 := HFI.out.trans (FrmH.of_below hb5 (by have := HFI.out.size; omega))
          go_wp2_with fail
          go_meet
          exact ⟨rfl, hh5, hf5⟩
        · have hcI : decide (2 * (i : Int) + 1 + 1 < (n : Int)) = false := by simp; omega
          have hkk : d1 = false := by
            rw [← HD1.out, ← HK.out]; unfold kidH; rw [HLn.out, if_neg (fun h => hc h.1)]; simp
          subst hkk
          go_wp2_with fail
          go_meet
          exact ⟨rfl, HHI.out, HFI.out⟩
      case rest =>
      obtain ⟨rfl, hhc, hfc⟩ := hcut
      have HHJ := Lib.hid hhc
      have HFJ := Lib.hid hfc
      clear hhc hfc HHI HFI
      go_upto_if 71 with fail
      go_cut [8] (fun kv wx => kv = .int .i64 K ∧ HeapAt wx B hb l' came ∧ FrmH B TH w wx)
      case first =>
        cases d1 with
        | true =>
          have hkk : (K : Int) = 2 * (i : Int) + 1 + 1 := by have := HD1.out; simp at this; omega
          go_wp2_with fail
          go_meet
          exact ⟨by rw [hkk], HHJ.out, HFJ.out⟩
        | false =>
          have hkk : (K : Int) = 2 * (i : Int) + 1 := by
            have := HD1.out; simp at this
            have h2 := HK.out; unfold kidH at h2
            split at h2 <;> omega
          go_wp2_with fail
          go_meet
          exact ⟨by rw [hkk], HHJ.out, HFJ.out⟩
      case rest =>
        obtain ⟨rfl, hhc, hfc⟩ := hcut
        obtain ⟨hK1, hK2⟩ := hKb
        have ha := ahead_any _ K i hhc (by rw [HLn.out]; omega) (by rw [HLn.out]; omega) (by rw [HLn.out]; omega)
        obtain ⟨d, hd⟩ : ∃ d, aheadH (atH l' K) (atH l' i) = d := ⟨_, rfl⟩
        rw [hd] at ha
        have hdn2 := HDN.out
        rw [hd] at hdn2
        have HDN2 := Lib.hid hdn2
        have HA := Lib.hid ha
        have HHC := Lib.hid hhc
        have HFC := Lib.hid hfc
        clear ha hd hdn2 HDN hhc hfc HHJ HFJ
        go_wp2_with fail
        go_fit HA.out
        rintro e w5 ⟨rfl, hb5⟩
        have hh5 := HHC.out.below hb5
        have hf5 := HFC.out.trans (FrmH.of_below hb5 (by have := HFC.out.size; omega))
        have HH5 := Lib.hid hh5
        have HF5 := Lib.hid hf5
        clear hb5 hh5 hf5 HHC HFC
        cases d with
        | true =>
          obtain ⟨v5, _, hk5, ho5⟩ := HH5.out
          rw [HLn.out] at ho5
          obtain ⟨g5, cap5, rfl, hg5⟩ := ho5.form (by omega)
          obtain ⟨p1, p2⟩ := entVals_at l' i (by rw [HLn.out]; omega)
          obtain ⟨q1, q2⟩ := entVals_at l' K (by rw [HLn.out]; omega)
          have c1 := hk5.cell 1
          have ci := (ho5.cellAt (i * 2) (by omega)).trans p1
          have ci1 := (ho5.cellAt (i * 2 + 1) (by omega)).trans p2
          have ck := (ho5.cellAt (K * 2) (by omega)).trans q1
          have ck1 := (ho5.cellAt (K * 2 + 1) (by omega)).trans q2
          have fi := ho5.frozenAt (i * 2)
          have fi1 := ho5.frozenAt (i * 2 + 1)
          have fk := ho5.frozenAt (K * 2)
          have fk1 := ho5.frozenAt (K * 2 + 1)
          have hsw := heap_swap (i := i) (k := K) h1 hk5 ho5 HF5.out
          obtain ⟨xi, hxi⟩ : ∃ x, atH l' i = x := ⟨_, rfl⟩
          obtain ⟨xk, hxk⟩ : ∃ x, atH l' K = x := ⟨_, rfl⟩
          rw [hxi] at ci ci1
          rw [hxk] at ck ck1
          rw [hxi, hxk] at hsw
          have HSW := Lib.hid hsw
          have hiI : (i : Int) < n := by omega
          have hKI : (K : Int) < n := by omega
          have hik : i ≠ K := by omega
          clear p1 p2 q1 q2 hk5 ho5 hsw hxi hxk hg5 hkI hkJ
          go_wp2_with fail
          refine wp_region_text3 (by kernel_rfl) (by kernel_rfl) ?_
          go_wp2_with fail
          refine Only.normal ?_
          go_wp2_with fail
          go_roundw
          case rel =>
            refine ⟨K, f, swapH l' i K, rfl, by omega, by omega, Lib.hid (by rw [swapH_len]; exact HLn.out), Lib.hid (by rw [HRi.out, HDN2.out]; simp), ⟨_, h1, HSW.out.1.drew, ?_⟩, HSW.out.2.2.drew⟩
            rw [swapH_len, HLn.out]
            exact HSW.out.2.1.drew
          case measure => (simp [intOf]; try omega)
        | false =>
          have hres : R = l' := by rw [HRi.out, HDN2.out]; simp
          have HRES := Lib.hid hres
          clear hres
          go_wp2_with fail
          go_ret2
          exact ⟨rfl, by rw [HRES.out]; exact HH5.out, HF5.out⟩
end
end Go.Proofs.YtabpheanbomibaaGreatDoor
