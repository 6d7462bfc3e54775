/- rows.Heap[int]: Put. -/
import Derived.IntWalk
import Derived.Test.YtabpheanbomibaaGreatDoorHeap0
namespace Go.Proofs.YtabpheanbomibaaGreatDoor
open Go.RowKit
set_option linter.unusedVariables false

theorem entry_info : (Tryz.prog.info? 146).map (fun i => (i.zero.map (fun z => z.cells.size), i.size, i.bytes)) = some (some 2, 2, 16) := by kernel_rfl
theorem entry_el : ElT Tryz.prog 138 146 2 16 := ⟨Tryz.underlying138, by decide, by
  obtain ⟨i, hi, h⟩ := Option.map_eq_some_iff.1 entry_info
  injection h with h1 h
  injection h with h2 h3
  obtain ⟨z, hz, hs⟩ := Option.map_eq_some_iff.1 h1
  exact ⟨i, z, hi, hz, h2, h3, hs⟩⟩
theorem own_swap {w : World} {B g n c : Nat} {e : TypeId} {l : List HEnt} {i k : Nat} (h : w.ownsRow B e 2 (.slice (some ⟨g, 0, none⟩) n c) n (entVals l)) :
    ((((w.setCell ⟨g, i * 2, none⟩ (.int .i64 (atH l k).1)).setCell ⟨g, i * 2 + 1, none⟩ (.int .i64 (atH l k).2)).setCell ⟨g, k * 2, none⟩ (.int .i64 (atH l i).1)).setCell ⟨g, k * 2 + 1, none⟩ (.int .i64 (atH l i).2)).ownsRow B e 2 (.slice (some ⟨g, 0, none⟩) n c) n (entVals (swapH l i k)) := by
  have := ((((h.stored (i * 2) (.int .i64 (atH l k).1)).1.stored (i * 2 + 1) (.int .i64 (atH l k).2)).1.stored (k * 2) (.int .i64 (atH l i).1)).1.stored (k * 2 + 1) (.int .i64 (atH l i).2)).1
  unfold swapH
  rw [entVals_set, entVals_set]
  exact this
abbrev TH : List TypeId := [140, 146]
theorem put_mid {w w2 : World} {B hb n : Nat} {v f : Value} {came : Int} {l : List HEnt} (h2 : Blk w hb 140 #[f, v, .int .i64 came]) (h3 : w.ownsRow B 146 2 v n (entVals l)) (hg : w.drew.grownBy w2 v.ownBlock) (hB : B ≤ w.heap.size) :
    Blk w2 hb 140 #[f, v, .int .i64 came] ∧ FrmH B TH w w2 ∧ w.heap.size ≤ w2.heap.size := by
  have hk : Blk w2 hb 140 #[f, v, .int .i64 came] := h2.drew.grown hg (own_blk_ne h3.drew h2.drew (by decide)).symm
  have hf : FrmH B TH w w2 := ((FrmH.refl B TH w).drew).grown h3.drew hg (Nat.le_refl _) hB (by simp)
  exact ⟨hk, hf, hf.size⟩
theorem put_mid2 {w w2 : World} {B hb : Nat} {v A2 : _} {cp2 : Nat} {came x : Int} {l : List HEnt} (hB : B ≤ hb) (k2 : Blk w2 hb 140 #[.func (.func 29) #[] #[], v, .int .i64 came]) (o2 : w2.ownsRow B 146 2 (.slice A2 (l.length + 1) cp2) (l.length + 1) (entVals l ++ [.int .i64 x, .int .i64 came])) (f2 : FrmH B TH w w2) :
    HeapAt ((w2.setCell ⟨hb, 1, none⟩ (.slice A2 (l.length + 1) cp2)).setCell ⟨hb, 2, none⟩ (.int .i64 (came + 1))) B hb (l ++ [(x, came)]) (came + 1) ∧ FrmH B TH w ((w2.setCell ⟨hb, 1, none⟩ (.slice A2 (l.length + 1) cp2)).setCell ⟨hb, 2, none⟩ (.int .i64 (came + 1))) := by
  have k3 := k2.set_ 1 (.slice A2 (l.length + 1) cp2)
  refine ⟨⟨.slice A2 (l.length + 1) cp2, hB, k3.set_ 2 (.int .i64 (came + 1)), ?_⟩, (f2.set_ k2 hB (by simp) _).set_ k3 hB (by simp) _⟩
  rw [entVals_app, List.length_append]
  exact own_setCell (own_setCell o2 (own_blk_ne o2 k2 (by decide)) _) (own_blk_ne o2 k2 (by decide)) _
theorem heap_swap {w0 w : World} {B hb g n cap i k : Nat} {f : Value} {came : Int} {l : List HEnt} (hB : B ≤ hb) (hk : Blk w hb 140 #[f, .slice (some ⟨g, 0, none⟩) n cap, .int .i64 came]) (ho : w.ownsRow B 146 2 (.slice (some ⟨g, 0, none⟩) n cap) n (entVals l)) (hf : FrmH B TH w0 w) :
    Blk ((((w.setCell ⟨g, i * 2, none⟩ (.int .i64 (atH l k).1)).setCell ⟨g, i * 2 + 1, none⟩ (.int .i64 (atH l k).2)).setCell ⟨g, k * 2, none⟩ (.int .i64 (atH l i).1)).setCell ⟨g, k * 2 + 1, none⟩ (.int .i64 (atH l i).2)) hb 140 #[f, .slice (some ⟨g, 0, none⟩) n cap, .int .i64 came] ∧
    ((((w.setCell ⟨g, i * 2, none⟩ (.int .i64 (atH l k).1)).setCell ⟨g, i * 2 + 1, none⟩ (.int .i64 (atH l k).2)).setCell ⟨g, k * 2, none⟩ (.int .i64 (atH l i).1)).setCell ⟨g, k * 2 + 1, none⟩ (.int .i64 (atH l i).2)).ownsRow B 146 2 (.slice (some ⟨g, 0, none⟩) n cap) n (entVals (swapH l i k)) ∧
    FrmH B TH w0 ((((w.setCell ⟨g, i * 2, none⟩ (.int .i64 (atH l k).1)).setCell ⟨g, i * 2 + 1, none⟩ (.int .i64 (atH l k).2)).setCell ⟨g, k * 2, none⟩ (.int .i64 (atH l i).1)).setCell ⟨g, k * 2 + 1, none⟩ (.int .i64 (atH l i).2)) := by
  have hne : hb ≠ g := by
    have := own_blk_ne ho hk (by decide)
    simp [Value.ownBlock] at this
    omega
  have a1 := ho.stored (i * 2) (.int .i64 (atH l k).1)
  have a2 := a1.1.stored (i * 2 + 1) (.int .i64 (atH l k).2)
  have a3 := a2.1.stored (k * 2) (.int .i64 (atH l i).1)
  have a4 := a3.1.stored (k * 2 + 1) (.int .i64 (atH l i).2)
  have hz : w.heap.size ≤ w.heap.size := Nat.le_refl _
  have hb : B ≤ w.heap.size := by have := (ho.lt g rfl); omega
  refine ⟨(((hk.far (p := ⟨g, i * 2, none⟩) hne _).far (p := ⟨g, i * 2 + 1, none⟩) hne _).far (p := ⟨g, k * 2, none⟩) hne _).far (p := ⟨g, k * 2 + 1, none⟩) hne _, own_swap ho, ?_⟩
  have s1 := hf.grown ho a1.2 (Nat.le_refl _) hb (by simp)
  have s2 := s1.grown a1.1 a2.2 (Nat.le_refl _) (by have := a1.2.size; omega) (by simp)
  have s3 := s2.grown a2.1 a3.2 (Nat.le_refl _) (by have := a1.2.size; have := a2.2.size; omega) (by simp)
  exact s3.grown a3.1 a4.2 (Nat.le_refl _) (by have := a1.2.size; have := a2.2.size; have := a3.2.size; omega) (by simp)
section
variable {B hb : Nat} {l : List HEnt} {came : Int}
set_option maxRecDepth 1000000 in
set_option maxHeartbeats 1000000 in
theorem put_any (w : World) (x : Int) (xb : Nat) (h : HeapAt w B hb l came) (hx : w.cell? ⟨xb, 0, none⟩ = some (.int .i64 x)) (hxb : xb < w.heap.size) (hB : B ≤ w.heap.size) (hl : l.length ≤ 1000000) (h0 : 0 ≤ came) (hc : came ≤ 1000000000) :
    Calls Tryz.prog 31 #[.pointer (some ⟨hb, 0, none⟩), .slice (some ⟨xb, 0, none⟩) 1 1] w fun e w' => e = .returned (.bool true) ∧ HeapAt w' B hb (putH l (x, came)) (came + 1) ∧ FrmH B TH w w' := by
  have hn := none_any w h
  obtain ⟨v, h1, h2, h3⟩ := h
  have c1 := h2.cell 1
  have c2 := h2.cell 2
  have f1 := h2.frozen 1
  have f2 := h2.frozen 2
  have HN := Lib.hid hn
  have H2 := Lib.hid h2
  have H3 := Lib.hid h3
  clear hn h2 h3
  go_enter Tryz.func31, Tryz.ntmps31
  go_wp2_with fail
  refine HN.out.mono ?_
  rintro e w' ⟨rfl, rfl⟩
  go_wp2_with fail
  go_loopw [6, 7, 12] (fun _ _ iv wr => (iv = .int .i64 0 ∧ wr = w) ∨ (iv = .int .i64 1 ∧ HeapAt wr B hb (putH l (x, came)) (came + 1) ∧ FrmH B TH w wr)) (fun _ _ iv _ => 1 - (intOf iv).toNat)
  case atStart => exact .inl ⟨rfl, rfl⟩
  case round =>
    rcases hrel with ⟨rfl, rfl⟩ | ⟨rfl, hh, hf⟩
    · obtain ⟨wo, rfl⟩ : ∃ wo : World, wo = wr := ⟨_, rfl⟩
      go_wp2_with fail
      refine wp_region_text3 (by kernel_rfl) (by kernel_rfl) ?_
      have hB0 : B ≤ wo.drew.heap.size := hB
      go_wp2_with (at_builtin; go_loud (refine wpList_append1 entry_el rfl _ _ rfl B wo.drew [.int .i64 x, .int .i64 came] rfl v l.length (entVals l) rfl H3.out.drew rfl rfl (by intro u hu; simp at hu; rcases hu with rfl | rfl <;> rfl) (by unfold maxLen; omega) (by omega) hB0 ?_; intro v2 w2 ho2 hg2; obtain ⟨A2, cp2, rfl⟩ := own_form ho2; obtain ⟨hk2, hf2, hz2⟩ := put_mid H2.out H3.out hg2 hB; have O2 := Lib.hid ho2; have K2 := Lib.hid hk2; have F2 := Lib.hid hf2; have d1 := hk2.cell 1; have d2 := hk2.cell 2; have e1 := hk2.frozen 1; have e2 := hk2.frozen 2; clear ho2 hk2 hf2 hg2))
      refine Only.normal ?_
      go_wp2_with fail
      obtain ⟨hh3, hf3⟩ := put_mid2 h1 K2.out O2.out F2.out
      obtain ⟨W3, hW3⟩ : ∃ W3, W3 = (w2.setCell ⟨hb, 1, none⟩ (.slice A2 (l.length + 1) cp2)).setCell ⟨hb, 2, none⟩ (.int .i64 (came + 1)) := ⟨_, rfl⟩
      rw [← hW3] at hh3 hf3 ⊢
      obtain ⟨R, hR⟩ : ∃ R, R = putH l (x, came) := ⟨_, rfl⟩
      obtain ⟨n, hn⟩ : ∃ n, l.length = n := ⟨_, rfl⟩
      have hR0 : R = upH (n + 1) n (l ++ [(x, came)]) := by rw [hR, putH, hn]
      have hl0 : (l ++ [(x, came)]).length = n + 1 := by rw [List.length_append, hn]; rfl
      have HR := Lib.hid hR
      have HR0 := Lib.hid hR0
      have HL0 := Lib.hid hl0
      have HH3 := Lib.hid hh3
      have HF3 := Lib.hid hf3
      rw [hn] at hl ⊢
      clear hW3 hR hR0 hn hl0 hh3 hf3 K2 O2 F2 d1 d2 e1 e2 c1 c2 f1 f2 H2 H3
      go_loopw [7] (fun iv wi => ∃ (i f : Nat) (l' : List HEnt), iv = .int .i64 i ∧ i < f ∧ i < n + 1 ∧ Hid (l'.length = n + 1) ∧ Hid (R = upH f i l') ∧ HeapAt wi B hb l' (came + 1) ∧ FrmH B TH wo wi) (fun iv _ => (intOf iv).toNat)
      case atStart => exact ⟨n, n + 1, l ++ [(x, came)], rfl, by omega, by omega, HL0, HR0, HH3.out, HF3.out⟩
      case round =>
        obtain ⟨i, f, l', rfl, hif, hin, HLn, HRi, hhi, hfi⟩ := hrel
        obtain ⟨f, rfl⟩ : ∃ g, f = g + 1 := ⟨f - 1, by omega⟩
        by_cases hi0 : 0 < i
        · obtain ⟨k, hk⟩ : ∃ k, k = (i - 1) / 2 := ⟨_, rfl⟩
          have hkI : ((i : Int) - 1) / 2 = (k : Int) := by omega
          have hkJ : (((i - 1 : Nat) : Int)) / 2 = (k : Int) := by omega
          have hki : k < i := by omega
          have hiI : (0 : Int) < i := by omega
          have hi1 : (1 : Int) ≤ i := by omega
          have hk0 : i ≠ k := by omega
          have ha := ahead_any _ i k hhi (by rw [HLn.out]; omega) (by rw [HLn.out]; omega) (by rw [HLn.out]; omega)
          obtain ⟨d, hd⟩ : ∃ d, aheadH (atH l' i) (atH l' k) = d := ⟨_, rfl⟩
          rw [hd, ← hkI] at ha
          have HKI := Lib.hid hkI
          have hup : upH (f + 1) i l' = if d = true then upH f k (swapH l' i k) else l' := by
            rw [upH, ← hk, hd]
            simp [hi0]
          have HUP := Lib.hid hup
          have HA := Lib.hid ha
          have HHI := Lib.hid hhi
          have HFI := Lib.hid hfi
          have HKK := Lib.hid hk
          clear ha hup hd hhi hfi hkI hkJ hk
          go_wp2_with fail
          refine HA.out.mono ?_
          rintro e w5 ⟨rfl, hb5⟩
          have hh5 := HHI.out.below hb5
          have hf5 := HFI.out.trans (FrmH.of_below hb5 (by have := HFI.out.size; omega))
          have HH5 := Lib.hid hh5
          have HF5 := Lib.hid hf5
          clear hb5 hh5 hf5 HHI HFI
          cases d with
          | true =>
            obtain ⟨v5, _, hk5, ho5⟩ := HH5.out
            rw [HLn.out] at ho5
            obtain ⟨g, cap, rfl, hg⟩ := ho5.form (by omega)
            obtain ⟨p1, p2⟩ := entVals_at l' i (by rw [HLn.out]; omega)
            obtain ⟨q1, q2⟩ := entVals_at l' k (by rw [HLn.out]; omega)
            have c1 := hk5.cell 1
            have ci := (ho5.cellAt (i * 2) (by omega)).trans p1
            have ci1 := (ho5.cellAt (i * 2 + 1) (by omega)).trans p2
            have ck := (ho5.cellAt (k * 2) (by omega)).trans q1
            have ck1 := (ho5.cellAt (k * 2 + 1) (by omega)).trans q2
            have fi := ho5.frozenAt (i * 2)
            have fi1 := ho5.frozenAt (i * 2 + 1)
            have fk := ho5.frozenAt (k * 2)
            have fk1 := ho5.frozenAt (k * 2 + 1)
            have hsw := heap_swap (i := i) (k := k) h1 hk5 ho5 HF5.out
            obtain ⟨xi, hxi⟩ : ∃ x, atH l' i = x := ⟨_, rfl⟩
            obtain ⟨xk, hxk⟩ : ∃ x, atH l' k = x := ⟨_, rfl⟩
            rw [hxi] at ci ci1
            rw [hxk] at ck ck1
            rw [hxi, hxk] at hsw
            have HSW := Lib.hid hsw
            clear p1 p2 q1 q2 hk5 ho5 hsw hxi hxk hg
            go_wp2_with fail
            have hw1 : IntKind.i64.wrap ((i : Int) - 1) = (i : Int) - 1 := by rw [IntKind.wrap_i64]; omega
            have hw2 : IntKind.i64.wrap (((i : Int) - 1).tdiv 2) = (k : Int) := by
              rw [Int.tdiv_eq_ediv_of_nonneg (by omega), HKI.out, IntKind.wrap_i64]
              omega
            refine wp_region_known [⟨9, 66, [(7, .int .i64 i)], .int .i64 i⟩, ⟨10, 67, [(66, .int .i64 i)], .int .i64 ((i : Int) - 1)⟩, ⟨11, 68, [(67, .int .i64 ((i : Int) - 1))], .int .i64 k⟩, ⟨16, 73, [(7, .int .i64 i)], .int .i64 i⟩, ⟨17, 74, [(73, .int .i64 i)], .int .i64 ((i : Int) - 1)⟩, ⟨18, 75, [(74, .int .i64 ((i : Int) - 1))], .int .i64 k⟩] (by kernel_rfl) (by kernel_rfl) ⟨⟨rfl, trivial⟩, ⟨rfl, trivial⟩, ⟨rfl, trivial⟩, ⟨rfl, trivial⟩, ⟨rfl, trivial⟩, ⟨rfl, trivial⟩, trivial⟩ ⟨fun A w h => kn_move rfl h.1, fun A w h => kn_sub rfl h.1 rfl hw1, fun A w h => kn_quo rfl h.1 rfl (by decide) hw2, fun A w h => kn_move rfl h.1, fun A w h => kn_sub rfl h.1 rfl hw1, fun A w h => kn_quo rfl h.1 rfl (by decide) hw2, trivial⟩ (by kernel_rfl) ?_
            clear hw1 hw2
            simp only [substL, knAt, List.find?, Nat.reduceBEq, Nat.reduceAdd, putKn]
            go_wp2_with fail
            refine Only.normal ?_
            go_wp2_with fail
            go_roundw
            case rel =>
              refine ⟨k, f, swapH l' i k, by first | rfl | (rw [HKK.out]; go_num), by omega, by omega, Lib.hid (by rw [swapH_len]; exact HLn.out), Lib.hid (by rw [HRi.out, HUP.out]; simp), ⟨_, h1, HSW.out.1, ?_⟩, HSW.out.2.2.drew⟩
              rw [swapH_len, HLn.out]
              exact HSW.out.2.1.drew
            case measure => (simp [intOf]; try omega)
          | false =>
            have hres : R = l' := by rw [HRi.out, HUP.out]; rfl
            have HRES := Lib.hid hres
            clear hres
            go_wp2_with fail
            go_roundw
            case rel => exact .inr ⟨rfl, by rw [← HR.out, HRES.out]; exact HH5.out, HF5.out⟩
            case measure => (simp [intOf]; try omega)
        · obtain rfl : i = 0 := by omega
          have hres : R = l' := by rw [HRi.out, upH]; rfl
          have HRES := Lib.hid hres
          have HHI := Lib.hid hhi
          have HFI := Lib.hid hfi
          clear hres hhi hfi
          go_wp2_with fail
          go_roundw
          case rel => exact .inr ⟨rfl, by rw [← HR.out, HRES.out]; exact HHI.out, HFI.out⟩
          case measure => (simp [intOf]; try omega)
    · have HH := Lib.hid hh
      have HF := Lib.hid hf
      clear hh hf
      go_wp2_with fail
      go_ret
      exact ⟨rfl, HH.out, HF.out⟩
end
end Go.Proofs.YtabpheanbomibaaGreatDoor
