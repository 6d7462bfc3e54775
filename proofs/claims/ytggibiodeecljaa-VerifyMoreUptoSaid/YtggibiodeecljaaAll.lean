/- code.Size, code.All. -/
import Derived.Test.YtggibiodeecljaaReadAll
namespace Go.Proofs.Ytggibiodeecljaa
open Go.RowKit
set_option linter.unusedVariables false

def sizeI (op : Int) : Int := match formOf op with | none => 0 | some p => 1 + sizeK p.2

set_option maxRecDepth 100000 in
set_option maxHeartbeats 1000000 in
theorem size_none (op : Int) (w : World) (hf : formOf op = none) : Calls Try.prog 95 #[.int .u8 op] w fun e w' => e = .returned (.int .i64 0) ∧ Below w.heap.size w w' := by
  have HF := Lib.hid hf
  clear hf
  go_enter Try.func95, Try.ntmps95
  go_wp2_with fail
  refine (of_none op _ HF.out).mono ?_
  rintro e w1 ⟨rfl, hb⟩
  go_wp2_with fail
  go_ret
  exact ⟨rfl, hb.alloc hb.size _⟩
set_option maxRecDepth 100000 in
set_option maxHeartbeats 1000000 in
theorem size_some (op : Int) (nm : ByteArray) (k : Int) (w : World) (hf : formOf op = some (nm, k)) : Calls Try.prog 95 #[.int .u8 op] w fun e w' => e = .returned (.int .i64 (1 + sizeK k)) ∧ Below w.heap.size w w' := by
  have hk := form_kind hf
  simp only at hk
  have hof : ∃ F, Calls Try.prog 140 #[.int .u8 op] w fun e w' => e = .returned (.tuple #[.agg #[.string nm, .int .i64 k, .func (Fn.func F) #[] #[]], .bool true]) ∧ Below w.heap.size w w' := by
    rcases hk with rfl | rfl | rfl | rfl
    · exact ⟨_, of_some0 op nm w hf⟩
    · exact ⟨_, of_some1 op nm w hf⟩
    · exact ⟨_, of_some2 op nm w hf⟩
    · exact ⟨_, of_some3 op nm w hf⟩
  obtain ⟨rd, hof⟩ := hof
  have hsk : 0 ≤ sizeK k ∧ sizeK k ≤ 4 := by unfold sizeK; rcases hk with rfl | rfl | rfl | rfl <;> decide
  obtain ⟨sk, hs⟩ : ∃ s, s = sizeK k := ⟨_, rfl⟩
  have hsz := fun w => size_any k w
  rw [← hs] at hsk ⊢
  simp only [← hs] at hsz
  obtain ⟨h0, h1⟩ := hsk
  have HOF := Lib.hid hof
  have HSZ := Lib.hid hsz
  clear hof hsz hf hk hs
  go_enter Try.func95, Try.ntmps95
  go_wp2_with fail
  refine HOF.out.mono ?_
  rintro e w1 ⟨rfl, hb⟩
  have HB := Lib.hid hb
  clear hb
  go_wp2_with fail
  refine (HSZ.out _).mono ?_
  rintro e w2 ⟨rfl, rfl⟩
  go_wp2_with fail
  go_ret
  exact ⟨rfl, HB.out.alloc HB.out.size _⟩
theorem sizeI_any (op : Int) (w : World) : Calls Try.prog 95 #[.int .u8 op] w fun e w' => e = .returned (.int .i64 (sizeI op)) ∧ Below w.heap.size w w' := by
  unfold sizeI
  cases hf : formOf op with
  | none => exact size_none op w hf
  | some p => exact size_some op p.1 p.2 w hf
theorem sizeI_bd (op : Int) : 0 ≤ sizeI op ∧ sizeI op ≤ 5 := by
  unfold sizeI
  cases hf : formOf op with
  | none => simp only; omega
  | some p =>
    have hk := form_kind hf
    simp only
    unfold sizeK
    rcases hk with h | h | h | h <;> rw [h] <;> decide

/-- code.All: from a place on, what is read so far. -/
def allM (l : List Int) : Nat → Nat → List Ins → List Ins × Int × Int
  | 0, _, acc => (acc, 0, 0)
  | f + 1, at_, acc => if l.length ≤ at_ then (acc, 0, 0)
    else if (readM l at_).2 = 0 then allM l f (at_ + (max 1 (sizeI (readM l at_).1.op)).toNat) (acc ++ [(readM l at_).1])
    else ([], (readM l at_).2, at_)
def insVals (acc : List Ins) : List Value := acc.flatMap fun x => x.cells.toList
theorem insVals_snoc (acc : List Ins) (x : Ins) : insVals (acc ++ [x]) = insVals acc ++ x.cells.toList := by simp [insVals]
theorem infoIns : (Try.prog.info? 101).map (fun i => (i.zero, i.size, i.bytes)) = some (some (.agg #[.int .i64 0, .int .u8 0, .int .i64 0, .int .i64 0, .int .i64 0]), 5, 40) := by kernel_rfl
theorem insEl : ElT Try.prog 96 101 5 40 := ⟨Try.underlying96, by decide, by
  obtain ⟨i0, hi, hz0, hz1, hz2⟩ := info_parts infoIns
  exact ⟨i0, _, hi, hz0, hz1, hz2, rfl⟩⟩

set_option maxRecDepth 100000 in
set_option maxHeartbeats 2000000 in
theorem all_any (A : Option Addr) (l : List Int) (cap : Nat) (w : World) (hl : l.length ≤ 1000000) (hcap : l.length ≤ cap) (hb : BytesAt w A l) :
    Calls Try.prog 56 #[.slice A l.length cap] w fun e w' => ∃ v, e = .returned (.tuple #[v, .int .i64 (allM l l.length 0 []).2.1, .int .i64 (allM l l.length 0 []).2.2]) ∧
      w'.ownsRow w.heap.size 101 5 v (allM l l.length 0 []).1.length (insVals (allM l l.length 0 []).1) ∧ Below w.heap.size w w' := by
  obtain ⟨R, hR⟩ : ∃ R, R = allM l l.length 0 [] := ⟨_, rfl⟩
  rw [← hR]
  obtain ⟨n, hn⟩ : ∃ n, l.length = n := ⟨_, rfl⟩
  have hrd := fun (k : Nat) wx (hx : BytesAt wx A l) => read_any A l cap k wx hl hcap hx
  rw [hn] at hl hcap hR hrd ⊢
  have HR := Lib.hid hR
  have HN := Lib.hid hn
  have HB := Lib.hid hb
  have HRD := Lib.hid hrd
  clear hR hn hb hrd
  go_enter Try.func56, Try.ntmps56
  go_wp2_with fail
  go_loopw [5, 6, 7, 8] (fun lv iv _ _ wr => ∃ (f at_ : Nat) (acc : List Ins), n ≤ at_ + f ∧ at_ ≤ n + 10 ∧ acc.length ≤ at_ ∧ iv = .int .i64 at_ ∧ Hid (R = allM l f at_ acc) ∧ wr.ownsRow w.heap.size 101 5 lv acc.length (insVals acc) ∧ Below w.heap.size w wr)
    (fun _ iv _ _ _ => n - (intOf iv).toNat)
  case atStart => exact ⟨n, 0, [], by omega, by omega, by simp, rfl, HR, World.ownsRow_nil _ _ _ _, Below.refl _ _⟩
  case round =>
    obtain ⟨f, at_, acc, hf, hat, hacc, rfl, HR', hown, hbel⟩ := hrel
    obtain ⟨al, hal⟩ : ∃ al, acc.length = al := ⟨_, rfl⟩
    rw [hal] at hown hacc
    obtain ⟨A5, c5, rfl⟩ := own_form hown
    by_cases hlt : at_ < n
    · have hfp : ∃ f', f = f' + 1 := ⟨f - 1, by omega⟩
      obtain ⟨f', rfl⟩ := hfp
      have hbt := HB.out.below hbel
      have hR1 := HR'.out
      rw [allM, if_neg (by rw [HN.out]; omega)] at hR1
      obtain ⟨xa, xo, xA, xB, xC, er, hre⟩ : ∃ xa xo xA xB xC er, readM l at_ = (⟨xa, xo, xA, xB, xC⟩, er) := ⟨_, _, _, _, _, _, rfl⟩
      obtain ⟨x, hx⟩ : ∃ x : Ins, x = ⟨xa, xo, xA, xB, xC⟩ := ⟨_, rfl⟩
      have HX := Lib.hid hx
      rw [hre] at hR1
      simp only at hR1
      have hread := HRD.out at_ wr hbt
      rw [hre] at hread
      simp only [Ins.cells] at hread
      have hsb := sizeI_bd xo
      have hsi := fun wx => sizeI_any xo wx
      obtain ⟨si, hsi2⟩ : ∃ s, s = sizeI xo := ⟨_, rfl⟩
      rw [← hx, ← hsi2] at hR1
      rw [← hsi2] at hsb
      simp only [← hsi2] at hsi
      obtain ⟨hs0, hs1⟩ := hsb
      have HR1 := Lib.hid hR1
      have HREAD := Lib.hid hread
      have HSI := Lib.hid hsi
      have HAL := Lib.hid hal
      have HOWN := Lib.hid hown
      have HBEL := Lib.hid hbel
      clear hR1 hread hsi hsi2 hal hown hbel hbt hre hx
      by_cases her : er = 0
      · subst her
        have hnx : R = allM l f' (at_ + (max 1 si).toNat) (acc ++ [x]) := by
          have := HR1.out
          rw [if_pos rfl] at this
          exact this
        have HNX := Lib.hid hnx
        clear hnx
        go_wp2_with fail
        refine HREAD.out.mono ?_
        rintro e w1 ⟨rfl, hb1⟩
        have hown1 := ((Frm.of_below (B := 0) (T := []) hb1 (Nat.zero_le _)).own HOWN.out (by simp)).alloc (.cells #[.int .i64 xa, .int .u8 xo, .int .i64 xA, .int .i64 xB, .int .i64 xC] 101)
        have hz1 := hb1.size
        have hzw := HBEL.out.size
        have HO1 := Lib.hid hown1
        have HB1 := Lib.hid ((HBEL.out.trans (hb1.mono hzw)).alloc (by omega) (.cells #[.int .i64 xa, .int .u8 xo, .int .i64 xA, .int .i64 xB, .int .i64 xC] 101))
        clear hb1 hown1
        have hgl : ∀ g, (Value.slice A5 al c5).ownBlock = some g → g < w1.heap.size := fun g hg => by
          have h1 := (HOWN.out.lt g hg).2
          omega
        have hbx := Blk.new w1 101 #[.int .i64 xa, .int .u8 xo, .int .i64 xA, .int .i64 xB, .int .i64 xC]
        have HGL := Lib.hid hgl
        have HBX := Lib.hid hbx
        clear hgl hbx
        go_wp2_with (at_builtin; go_loud (refine wpList_append1 insEl rfl _ _ rfl w.heap.size (w1.alloc (.cells #[.int .i64 xa, .int .u8 xo, .int .i64 xA, .int .i64 xB, .int .i64 xC] 101)) [.int .i64 xa, .int .u8 xo, .int .i64 xA, .int .i64 xB, .int .i64 xC] rfl _ _ _ rfl HO1.out (by rw [World.size_alloc]; rfl) rfl (by simp [Value.oneCell']) (by unfold maxLen; omega) (by omega) (by simp; omega) ?_; intro v2 w2 hown2 hg2; have hbx2 := HBX.out.grown hg2 (by intro e; have := HGL.out _ e.symm; omega); have x1 := hbx2.cell 1; have HOWN2 := Lib.hid hown2; have HG2 := Lib.hid hg2; clear hown2 hg2 hbx2))
        refine (HSI.out _).mono ?_
        rintro e w3 ⟨rfl, hb3⟩
        have hown3 := (Frm.of_below (B := 0) (T := []) hb3 (Nat.zero_le _)).own HOWN2.out (by simp)
        have hzz : w.heap.size ≤ (w1.alloc (.cells #[.int .i64 xa, .int .u8 xo, .int .i64 xA, .int .i64 xB, .int .i64 xC] 101)).heap.size := by simp; omega
        have hbel3 := (Below.of_own HB1.out HO1.out HG2.out (Nat.le_refl _) hzz)
        have hz2 := HG2.out.size
        simp only [World.size_alloc] at hz2
        have HB3 := Lib.hid (hbel3.trans (hb3.mono (by omega)))
        have HOWN3 := Lib.hid hown3
        clear hb3 hown3 hbel3
        go_wp2_with fail
        all_goals go_roundw
        case rel =>
          have hm : (at_ : Int) + (if 1 < si then si else 1) = ((at_ + (max 1 si).toNat : Nat) : Int) := by split <;> omega
          refine ⟨f', at_ + (max 1 si).toNat, acc ++ [x], by omega, by omega, by rw [List.length_append, HAL.out]; simp; omega, by rw [hm], HNX.out, ?_, HB3.out⟩
          have e1 : (acc ++ [x]).length = al + 1 := by rw [List.length_append, HAL.out]; rfl
          rw [e1, insVals_snoc, HX.out]
          exact HOWN3.out
        case measure => (simp [intOf]; try omega)
      · have herr : (er == 0) = false := beq_false_of her
        have hfin : R = ([], er, (at_ : Int)) := by
          have := HR1.out
          rw [if_neg her] at this
          exact this
        have HFIN := Lib.hid hfin
        clear hfin her
        go_wp2_with fail
        refine HREAD.out.mono ?_
        rintro e w1 ⟨rfl, hb1⟩
        have hb2 := HBEL.out.trans (hb1.mono HBEL.out.size)
        have HB2 := Lib.hid hb2
        clear hb1 hb2
        go_wp2_with fail
        go_ret3
        refine ⟨_, by rw [HFIN.out]; rfl, ?_, HB2.out.alloc HB2.out.size _⟩
        rw [HFIN.out]
        exact World.ownsRow_nil _ _ _ _
    · have hfin : R = (acc, 0, 0) := by
        have := HR'.out
        cases f with
        | zero => exact this
        | succ f' =>
          rw [allM, if_pos (by rw [HN.out]; omega)] at this
          exact this
      have HFIN := Lib.hid hfin
      have HOWN := Lib.hid hown
      have HAL := Lib.hid hal
      have HBEL := Lib.hid hbel
      clear hfin hown hal hbel
      go_wp2_with fail
      go_ret3
      refine ⟨_, by rw [HFIN.out]; rfl, ?_, HBEL.out⟩
      rw [HFIN.out]
      simp only
      rw [HAL.out]
      exact HOWN.out
end Go.Proofs.Ytggibiodeecljaa
