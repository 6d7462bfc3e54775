/- code.Size, code.All. bound.Code of code without jumps, fields, effects and 'has'. tableaulaw18's lives: three closed answers. -/
import Derived.Test.YtggibiodeecljaaMRead
import Derived.Test.YtggibiodeecljaaMWalk
import Derived.Test.YtggibiodeecljaaMBound
namespace Go.Proofs.Ytggibiodeecljaa
open Go.RowKit
set_option linter.unusedVariables false
def sizeI (op : Int) : Int := match formOf op with | none => 0 | some p => 1 + sizeK p.2
set_option maxRecDepth 100000 in
set_option maxHeartbeats 1000000 in
theorem size_none (op : Int) (w : World) (hf : formOf op = none) : Calls Try.prog 95 #[.int .u8 op] w fun e w' => e = .returned (.int .i64 0) ∧ Below w.heap.size w w' := by
 have HF := Lh hf
 clear hf
 go_enter Try.func95, Try.ntmps95
 go_wp2_with fail
 refine (of_none op _ HF.out).mono ?_
 rintro e w1 ⟨rfl, hb⟩
 go_wp2_with fail
 go_ret
 exact ⟨rfl, hb.alloc hb.size _⟩
set_option maxRecDepth 100000 in
set_option maxHeartbeats 1000000 in
theorem size_some (op : Int) (nm : ByteArray) (k : Int) (w : World) (hf : formOf op = some (nm, k)) : Calls Try.prog 95 #[.int .u8 op] w fun e w' => e = .returned (.int .i64 (1 + sizeK k)) ∧ Below w.heap.size w w' := by
 have hk := form_kind hf
 simp only at hk
 have hof : ∃ F, Calls Try.prog 140 #[.int .u8 op] w fun e w' => e = .returned (.tuple #[.agg #[.string nm, .int .i64 k, .func (Fn.func F) #[] #[]], .bool true]) ∧ Below w.heap.size w w' := by
  rcases hk with rfl | rfl | rfl | rfl
  ·exact ⟨_, of_some0 op nm w hf⟩
  ·exact ⟨_, of_some1 op nm w hf⟩
  ·exact ⟨_, of_some2 op nm w hf⟩
  ·exact ⟨_, of_some3 op nm w hf⟩
 obtain ⟨rd, hof⟩ := hof
 have hsk : 0 ≤ sizeK k ∧ sizeK k ≤ 4 := by unfold sizeK; rcases hk with rfl | rfl | rfl | rfl <;> decide
 obtain ⟨sk, hs⟩ : ∃ s, s = sizeK k := ⟨_, rfl⟩
 have hsz := fun w => size_any k w
 rw [← hs] at hsk ⊢
 simp only [← hs] at hsz
 obtain ⟨h0, h1⟩ := hsk
 have HOF := Lh hof
 have HSZ := Lh hsz
 clear hof hsz hf hk hs
 go_enter Try.func95, Try.ntmps95
 go_wp2_with fail
 refine HOF.out.mono ?_
 rintro e w1 ⟨rfl, hb⟩
 have HB := Lh hb
 clear hb
 go_wp2_with fail
 refine (HSZ.out _).mono ?_
 rintro e w2 ⟨rfl, rfl⟩
 go_wp2_with fail
 go_ret
 exact ⟨rfl, HB.out.alloc HB.out.size _⟩
theorem sizeI_any (op : Int) (w : World) : Calls Try.prog 95 #[.int .u8 op] w fun e w' => e = .returned (.int .i64 (sizeI op)) ∧ Below w.heap.size w w' := by
 unfold sizeI
 cases hf : formOf op with
 | none => exact size_none op w hf
 | some p => exact size_some op p.1 p.2 w hf
theorem sizeI_bd (op : Int) : 0 ≤ sizeI op ∧ sizeI op ≤ 5 := by
 unfold sizeI
 cases hf : formOf op with
 | none => simp only; omega
 | some p =>
  have hk := form_kind hf
  simp only
  unfold sizeK
  rcases hk with h | h | h | h <;> rw [h] <;> decide
/-- code.All: from a place on, what is read so far. -/
def allM (l : List Int) : Nat → Nat → List Ins → List Ins × Int × Int
 | 0, _, acc => (acc, 0, 0)
 | f + 1, at_, acc => if l.length ≤ at_ then (acc, 0, 0)
  else if (readM l at_).2 = 0 then allM l f (at_ + (max 1 (sizeI (readM l at_).1.op)).toNat) (acc ++ [(readM l at_).1])
  else ([], (readM l at_).2, at_)
def insVals (acc : List Ins) : List Value := acc.flatMap fun x => x.cells.toList
theorem insVals_snoc (acc : List Ins) (x : Ins) : insVals (acc ++ [x]) = insVals acc ++ x.cells.toList := by simp [insVals]
theorem infoIns : (Try.prog.info? 101).map (fun i => (i.zero, i.size, i.bytes)) = some (some (.agg #[.int .i64 0, .int .u8 0, .int .i64 0, .int .i64 0, .int .i64 0]), 5, 40) := by kernel_rfl
theorem insEl : ElT Try.prog 96 101 5 40 := ⟨Try.underlying96, by decide, by
 obtain ⟨i0, hi, hz0, hz1, hz2⟩ := info_parts infoIns
 exact ⟨i0, _, hi, hz0, hz1, hz2, rfl⟩⟩
set_option maxRecDepth 100000 in
set_option maxHeartbeats 2000000 in
theorem all_any (A : Option Addr) (l : List Int) (cap : Nat) (w : World) (hl : l.length ≤ 1000000) (hcap : l.length ≤ cap) (hb : BytesAt w A l) :
  Calls Try.prog 56 #[.slice A l.length cap] w fun e w' => ∃ v, e = .returned (.tuple #[v, .int .i64 (allM l l.length 0 []).2.1, .int .i64 (allM l l.length 0 []).2.2]) ∧
   w'.ownsRow w.heap.size 101 5 v (allM l l.length 0 []).1.length (insVals (allM l l.length 0 []).1) ∧ Below w.heap.size w w' := by
 obtain ⟨R, hR⟩ : ∃ R, R = allM l l.length 0 [] := ⟨_, rfl⟩
 rw [← hR]
 obtain ⟨n, hn⟩ : ∃ n, l.length = n := ⟨_, rfl⟩
 have hrd := fun (k : Nat) wx (hx : BytesAt wx A l) => read_any A l cap k wx hl hcap hx
 rw [hn] at hl hcap hR hrd ⊢
 have HR := Lh hR
 have HN := Lh hn
 have HB := Lh hb
 have HRD := Lh hrd
 clear hR hn hb hrd
 go_enter Try.func56, Try.ntmps56
 go_wp2_with fail
 go_loopw [5, 6, 7, 8] (fun lv iv _ _ wr => ∃ (f at_ : Nat) (acc : List Ins), n ≤ at_ + f ∧ at_ ≤ n + 10 ∧ acc.length ≤ at_ ∧ iv = .int .i64 at_ ∧ Hid (R = allM l f at_ acc) ∧ wr.ownsRow w.heap.size 101 5 lv acc.length (insVals acc) ∧ Below w.heap.size w wr)
  (fun _ iv _ _ _ => n - (intOf iv).toNat)
 case atStart => exact ⟨n, 0, [], by omega, by omega, by simp, rfl, HR, World.ownsRow_nil _ _ _ _, Below.refl _ _⟩
 case round =>
  obtain ⟨f, at_, acc, hf, hat, hacc, rfl, HR', hown, hbel⟩ := hrel
  obtain ⟨al, hal⟩ : ∃ al, acc.length = al := ⟨_, rfl⟩
  rw [hal] at hown hacc
  obtain ⟨A5, c5, rfl⟩ := own_form hown
  by_cases hlt : at_ < n
  ·have hfp : ∃ f', f = f' + 1 := ⟨f - 1, by omega⟩
   obtain ⟨f', rfl⟩ := hfp
   have hbt := HB.out.below hbel
   have hR1 := HR'.out
   rw [allM, if_neg (by rw [HN.out]; omega)] at hR1
   obtain ⟨xa, xo, xA, xB, xC, er, hre⟩ : ∃ xa xo xA xB xC er, readM l at_ = (⟨xa, xo, xA, xB, xC⟩, er) := ⟨_, _, _, _, _, _, rfl⟩
   obtain ⟨x, hx⟩ : ∃ x : Ins, x = ⟨xa, xo, xA, xB, xC⟩ := ⟨_, rfl⟩
   have HX := Lh hx
   rw [hre] at hR1
   simp only at hR1
   have hread := HRD.out at_ wr hbt
   rw [hre] at hread
   simp only [Ins.cells] at hread
   have hsb := sizeI_bd xo
   have hsi := fun wx => sizeI_any xo wx
   obtain ⟨si, hsi2⟩ : ∃ s, s = sizeI xo := ⟨_, rfl⟩
   rw [← hx, ← hsi2] at hR1
   rw [← hsi2] at hsb
   simp only [← hsi2] at hsi
   obtain ⟨hs0, hs1⟩ := hsb
   have HR1 := Lh hR1
   have HREAD := Lh hread
   have HSI := Lh hsi
   have HAL := Lh hal
   have HOWN := Lh hown
   have HBEL := Lh hbel
   clear hR1 hread hsi hsi2 hal hown hbel hbt hre hx
   by_cases her : er = 0
   ·subst her
    have hnx : R = allM l f' (at_ + (max 1 si).toNat) (acc ++ [x]) := by
     have := HR1.out
     rw [if_pos rfl] at this
     exact this
    have HNX := Lh hnx
    clear hnx
    go_wp2_with fail
    refine HREAD.out.mono ?_
    rintro e w1 ⟨rfl, hb1⟩
    have hown1 := ((Frm.of_below (B := 0) (T := []) hb1 (Nat.zero_le _)).own HOWN.out (by simp)).alloc (.cells #[.int .i64 xa, .int .u8 xo, .int .i64 xA, .int .i64 xB, .int .i64 xC] 101)
    have hz1 := hb1.size
    have hzw := HBEL.out.size
    have HO1 := Lh hown1
    have HB1 := Lh ((HBEL.out.trans (hb1.mono hzw)).alloc (by omega) (.cells #[.int .i64 xa, .int .u8 xo, .int .i64 xA, .int .i64 xB, .int .i64 xC] 101))
    clear hb1 hown1
    have hgl : ∀ g, (Value.slice A5 al c5).ownBlock = some g → g < w1.heap.size := fun g hg => by
     have h1 := (HOWN.out.lt g hg).2
     omega
    have hbx := Blk.new w1 101 #[.int .i64 xa, .int .u8 xo, .int .i64 xA, .int .i64 xB, .int .i64 xC]
    have HGL := Lh hgl
    have HBX := Lh hbx
    clear hgl hbx
    go_wp2_with (at_builtin; go_loud (refine wpList_append1 insEl rfl _ _ rfl w.heap.size (w1.alloc (.cells #[.int .i64 xa, .int .u8 xo, .int .i64 xA, .int .i64 xB, .int .i64 xC] 101)) [.int .i64 xa, .int .u8 xo, .int .i64 xA, .int .i64 xB, .int .i64 xC] rfl _ _ _ rfl HO1.out (by rw [World.size_alloc]; rfl) rfl (by simp [Value.oneCell']) (by unfold maxLen; omega) (by omega) (by simp; omega) ?_; intro v2 w2 hown2 hg2; have hbx2 := HBX.out.grown hg2 (by intro e; have := HGL.out _ e.symm; omega); have x1 := hbx2.cell 1; have HOWN2 := Lh hown2; have HG2 := Lh hg2; clear hown2 hg2 hbx2))
    refine (HSI.out _).mono ?_
    rintro e w3 ⟨rfl, hb3⟩
    have hown3 := (Frm.of_below (B := 0) (T := []) hb3 (Nat.zero_le _)).own HOWN2.out (by simp)
    have hzz : w.heap.size ≤ (w1.alloc (.cells #[.int .i64 xa, .int .u8 xo, .int .i64 xA, .int .i64 xB, .int .i64 xC] 101)).heap.size := by simp; omega
    have hbel3 := (Below.of_own HB1.out HO1.out HG2.out (Nat.le_refl _) hzz)
    have hz2 := HG2.out.size
    simp only [World.size_alloc] at hz2
    have HB3 := Lh (hbel3.trans (hb3.mono (by omega)))
    have HOWN3 := Lh hown3
    clear hb3 hown3 hbel3
    go_wp2_with fail
    all_goals go_roundw
    case rel =>
     have hm : (at_ : Int) + (if 1 < si then si else 1) = ((at_ + (max 1 si).toNat : Nat) : Int) := by split <;> omega
     refine ⟨f', at_ + (max 1 si).toNat, acc ++ [x], by omega, by omega, by rw [List.length_append, HAL.out]; simp; omega, by rw [hm], HNX.out, ?_, HB3.out⟩
     have e1 : (acc ++ [x]).length = al + 1 := by rw [List.length_append, HAL.out]; rfl
     rw [e1, insVals_snoc, HX.out]
     exact HOWN3.out
    case measure => (simp [intOf]; try omega)
   ·have herr : (er == 0) = false := beq_false_of her
    have hfin : R = ([], er, (at_ : Int)) := by
     have := HR1.out
     rw [if_neg her] at this
     exact this
    have HFIN := Lh hfin
    clear hfin her
    go_wp2_with fail
    refine HREAD.out.mono ?_
    rintro e w1 ⟨rfl, hb1⟩
    have hb2 := HBEL.out.trans (hb1.mono HBEL.out.size)
    have HB2 := Lh hb2
    clear hb1 hb2
    go_wp2_with fail
    go_ret3
    refine ⟨_, by rw [HFIN.out]; rfl, ?_, HB2.out.alloc HB2.out.size _⟩
    rw [HFIN.out]
    exact World.ownsRow_nil _ _ _ _
  ·have hfin : R = (acc, 0, 0) := by
    have := HR'.out
    cases f with
    | zero => exact this
    | succ f' =>
     rw [allM, if_pos (by rw [HN.out]; omega)] at this
     exact this
   have HFIN := Lh hfin
   have HOWN := Lh hown
   have HAL := Lh hal
   have HBEL := Lh hbel
   clear hfin hown hal hbel
   go_wp2_with fail
   go_ret3
   refine ⟨_, by rw [HFIN.out]; rfl, ?_, HBEL.out⟩
   rw [HFIN.out]
   simp only
   rw [HAL.out]
   exact HOWN.out
end Go.Proofs.Ytggibiodeecljaa
namespace Go.Proofs.Ytggibiodeecljaa
open Go.RowKit
set_option linter.unusedVariables false
theorem insVals_at : ∀ (ins : List Ins) (i j : Nat) (x : Ins) (v : Value), ins[i]? = some x → x.cells[j]? = some v → (insVals ins)[i * 5 + j]? = some v
 | [], i, j, x, v, h, _ => by simp at h
 | y :: r, 0, j, x, v, h, hv => by
  simp only [List.getElem?_cons_zero, Option.some.injEq] at h
  subst h
  have hj : j < 5 := by
   have := (Array.getElem?_eq_some_iff.1 hv).1
   simpa [Ins.cells] using this
  have e : insVals (y :: r) = y.cells.toList ++ insVals r := by simp [insVals]
  rw [e, Nat.zero_mul, Nat.zero_add, List.getElem?_append_left (by simpa [Ins.cells] using hj)]
  simpa using hv
 | y :: r, i + 1, j, x, v, h, hv => by
  have := insVals_at r i j x v h hv
  have e : insVals (y :: r) = y.cells.toList ++ insVals r := by simp [insVals]
  have hl : y.cells.toList.length = 5 := rfl
  rw [e, List.getElem?_append_right (by omega), hl, ← this]
  congr 1
  omega
/-- The row of instructions, its block known whole. -/
theorem ins_row {w : World} {base n : Nat} {v : Value} {ins : List Ins} (h : w.ownsRow base 101 5 v n (insVals ins)) (hn : ins.length = n) (h0 : 0 < n) :
  ∃ g c cs, v = .slice (some ⟨g, 0, none⟩) n c ∧ base ≤ g ∧ Blk w g 101 cs ∧ ∀ i x, ins[i]? = some x → ∀ j u, x.cells[j]? = some u → cs[i * 5 + j]? = some u := by
 rcases h.2 with ⟨_, h2⟩ | ⟨g, cap, cs, rfl, hg, hh, hnc, hcp, hcs, htake⟩
 ·omega
 ·refine ⟨g, cap, cs, rfl, hg, hh, fun i x hx j u hu => ?_⟩
  have h1 := insVals_at ins i j x u hx hu
  rw [← htake, List.getElem?_take] at h1
  split at h1
  ·simpa using h1
  ·cases h1
def plainF : List Ins → Int
 | [] => 0
 | x :: r => gadd 1 (if x.op = 34 ∨ x.op = 35 then 0 else plainF r)
theorem plainF_gas : ∀ l, IsGas (plainF l)
 | [] => zero_gas
 | x :: r => by
  unfold plainF
  refine gadd_gas (by unfold IsGas maxB; omega) ?_
  split
  ·omega
  ·exact (plainF_gas r).1
/-- Plain: neither a jump nor of a cost of its own. -/
def plainI (x : Ins) : Prop := x.op ≠ 46 ∧ x.op ≠ 60 ∧ x.op ≠ 44 ∧ x.op ≠ 30 ∧ x.op ≠ 31 ∧ x.op ≠ 33 ∧ x.op ≠ 32
set_option maxRecDepth 100000 in
theorem target_plain (x : Ins) (hx : plainI x) (w : World) : Calls Try.prog 61 #[.agg x.cells] w fun e w' => e = .returned (.tuple #[.int .i64 0, .bool false]) ∧ Below w.heap.size w w' := by
 obtain ⟨xa, xo, xA, xB, xC⟩ := x
 obtain ⟨_, _, _, q1, q2, q3, q4⟩ := hx
 have p1 : (xo == 30) = false := beq_false_of q1
 have p2 : (xo == 31) = false := beq_false_of q2
 have p3 : (xo == 33) = false := beq_false_of q3
 have p4 : (xo == 32) = false := beq_false_of q4
 simp only [Ins.cells]
 clear q1 q2 q3 q4
 go_enter Try.func61, Try.ntmps61
 go_wp2
 go_ret2
 exact ⟨rfl, (Below.refl _ _).alloc (Nat.le_refl _) _⟩
set_option maxRecDepth 100000 in
set_option maxHeartbeats 4000000 in
theorem code_plain (A : Option Addr) (l : List Int) (cap : Nat) (cards : Int) (ins : List Ins) (w : World) (hl : l.length ≤ 1000000) (hcap : l.length ≤ cap) (hb : BytesAt w A l) (hc0 : 1 ≤ cards) (hc1 : cards ≤ 256)
  (hall : allM l l.length 0 [] = (ins, 0, 0)) (hpl : ∀ x ∈ ins, plainI x) (hin : 0 < ins.length) (hin2 : ins.length ≤ 1000000) :
  Calls Try.prog 25 #[.slice A l.length cap, .int .i64 cards] w fun e w' => e = .returned (.tuple #[.int .i64 (plainF ins), .bool true]) ∧ Below w.heap.size w w' := by
 have hA := all_any A l cap w hl hcap hb
 rw [hall] at hA
 simp only at hA
 obtain ⟨n, hn⟩ : ∃ n, ins.length = n := ⟨_, rfl⟩
 obtain ⟨R, hR⟩ : ∃ R, R = plainF ins := ⟨_, rfl⟩
 rw [← hR]
 rw [hn] at hA hin hin2
 have hmm := @run_makeMap Try.prog
 have HA := Lh hA
 have HN := Lh hn
 have HR := Lh hR
 have HPL := Lh hpl
 clear hA hn hR hpl hall hb hcap hl
 go_enter Try.func25, Try.ntmps25
 go_wp2_with fail
 refine HA.out.mono ?_
 rintro e w1 ⟨v, rfl, hown, hbel⟩
 obtain ⟨g, c, cs, rfl, hbg, hblk, hcs⟩ := ins_row hown HN.out hin
 have hm0 := MK.made keyI w1
 have hz0 := hbel.size
 have hB0 : Below w.heap.size w (w1.alloc (.map #[] 0)) := hbel.alloc hz0 _
 have hblk0 := hblk.alloc (.map #[] 0)
 have hglt := hblk.lt
 have HB0 := Lh hB0
 have HM0 := Lh hm0
 have HK0 := Lh hblk0
 have HCS := Lh hcs
 clear hown hbel hm0 hB0 hblk0 hcs hblk
 go_wp2_with fail
 go_loopw [10, 11, 12, 13, 14, 15, 16, 17, 18, 50, 57, 64, 69] (fun av iv _ _ _ _ _ _ _ _ _ _ _ wr => ∃ (k : Nat) (V : Int) (f : Int → Option Value), k ≤ n ∧ iv = .int .i64 ((k : Int) - 1) ∧ av = .int .i64 V ∧ Hid (V = plainF (ins.drop k)) ∧ MK keyI wr w1.heap.size f ∧ Blk wr g 101 cs ∧ Below w.heap.size w wr ∧ w1.heap.size + 1 ≤ wr.heap.size)
  (fun _ iv _ _ _ _ _ _ _ _ _ _ _ _ => (intOf iv + 1).toNat)
 case atStart => exact ⟨n, 0, _, by omega, by first | rfl | (congr 1; omega), rfl, by rw [List.drop_of_length_le (by rw [HN.out]; omega)]; rfl, HM0.out, HK0.out, HB0.out, by simp⟩
 case round =>
  obtain ⟨k, V, f, hk, rfl, rfl, HV, hm, hblk, hbel, hsz⟩ := hrel
  by_cases hk0 : k = 0
  ·subst hk0
   have hfin : R = V := by rw [HR.out, HV.out, List.drop_zero]
   have HFIN := Lh hfin
   clear hfin
   have hneg : (((0 : Nat) : Int) - 1) = -1 := by omega
   rw [hneg]
   go_wp2_with fail
   go_ret2
   exact ⟨by rw [HFIN.out]; rfl, hbel⟩
  ·obtain ⟨i, rfl⟩ : ∃ i, k = i + 1 := ⟨k - 1, by omega⟩
   have hi1 : ((i + 1 : Nat) : Int) - 1 = (i : Int) := by omega
   rw [hi1]
   have hiI : (i : Int) < n := by omega
   obtain ⟨x, hx⟩ : ∃ x, ins[i]? = some x := ⟨_, List.getElem?_eq_getElem (by rw [HN.out]; omega)⟩
   have hpx := HPL.out x (List.mem_of_getElem? hx)
   have htg := fun wx => target_plain x hpx wx
   have hdrop : ins.drop i = x :: ins.drop (i + 1) := by
    obtain ⟨h2, h3⟩ := List.getElem?_eq_some_iff.1 hx
    rw [List.drop_eq_getElem_cons h2, h3]
   have hVg : IsGas V := by rw [HV.out]; exact plainF_gas _
   obtain ⟨xa, xo, xA, xB, xC⟩ := x
   have r0 : wr.cell? ⟨g, i * 5, none⟩ = some (.int .i64 xa) := (hblk.cell (i * 5 + 0)).trans (HCS.out i _ hx 0 _ rfl)
   have r1 : wr.cell? ⟨g, i * 5 + 1, none⟩ = some (.int .u8 xo) := (hblk.cell (i * 5 + 1)).trans (HCS.out i _ hx 1 _ rfl)
   have r2 : wr.cell? ⟨g, i * 5 + 2, none⟩ = some (.int .i64 xA) := (hblk.cell (i * 5 + 2)).trans (HCS.out i _ hx 2 _ rfl)
   have r3 : wr.cell? ⟨g, i * 5 + 3, none⟩ = some (.int .i64 xB) := (hblk.cell (i * 5 + 3)).trans (HCS.out i _ hx 3 _ rfl)
   have r4 : wr.cell? ⟨g, i * 5 + 4, none⟩ = some (.int .i64 xC) := (hblk.cell (i * 5 + 4)).trans (HCS.out i _ hx 4 _ rfl)
   simp only [Ins.cells] at htg
   obtain ⟨p1, p2, p3, p4, p5, p6, p7⟩ := hpx
   simp only at p1 p2 p3 p4 p5 p6 p7
   have s1 : (xo == 46) = false := beq_false_of p1
   have s2 : (xo == 60) = false := beq_false_of p2
   have s3 : (xo == 44) = false := beq_false_of p3
   have s4 : (xo == 30) = false := beq_false_of p4
   have hgl := hblk.lt
   have HTG := Lh htg
   have HVG := Lh hVg
   have HDR := Lh hdrop
   have HM := Lh hm
   have HBK := Lh hblk
   have HBE := Lh hbel
   clear p1 p2 p3 p4 p5 p6 p7 htg hVg hdrop hm hblk hbel hx
   obtain ⟨fu, hfu⟩ : ∃ fu : Int, fu = if xo = 34 ∨ xo = 35 then 0 else V := ⟨_, rfl⟩
   have hfug : IsGas fu := by rw [hfu]; split; exact zero_gas; exact HVG.out
   have hnext : gadd 1 fu = plainF (ins.drop i) := by
    rw [HDR.out, plainF, hfu, HV.out]
   have HFU := Lh hfu
   have HFUG := Lh hfug
   have HNX := Lh hnext
   clear hfug hnext
   by_cases h34 : xo = 34
   ·have s5 : (xo == 34) = true := beq_true_of h34
    have hfv : fu = 0 := by rw [hfu, if_pos (.inl h34)]
    clear h34 hfu
    subst hfv
    go_wp2_with fail
    refine (HTG.out _).mono ?_
    rintro e w2 ⟨rfl, hb2⟩
    have B1 : Below wr.heap.size wr ((wr.alloc (.cells #[.int .i64 xa, .int .u8 xo, .int .i64 xA, .int .i64 xB, .int .i64 xC] 101)).alloc (.cells #[.int .i64 1] 86)) := ((Below.refl _ _).alloc (Nat.le_refl _) _).alloc (by simp) _
    have c1 := (Blk.new (wr.alloc (.cells #[.int .i64 xa, .int .u8 xo, .int .i64 xA, .int .i64 xB, .int .i64 xC] 101)) 86 #[.int .i64 1]).below hb2 (by simp)
    have x1 := ((Blk.new wr 101 #[.int .i64 xa, .int .u8 xo, .int .i64 xA, .int .i64 xB, .int .i64 xC]).alloc (.cells #[.int .i64 1] 86)).below hb2 (by simp; omega)
    have B2 := B1.trans (hb2.mono (by simp; omega))
    have hz2 := hb2.size
    simp only [World.size_alloc] at c1 hz2
    have hadd := add_any (wr.heap.size + 1) w2.heap.size 0 1 1 1 [0] (w2.alloc (.cells #[.int .i64 (0)] 86)) rfl (by omega) (c1.alloc _) (gvals_blk (l := [0]) (Blk.new w2 86 #[.int .i64 (0)])) (by omega) (by simp) (by unfold IsGas maxB; omega) (by intro y hy; simp at hy; subst hy; exact HFUG.out)
    have HADD := Lh hadd
    have X1 := Lh x1
    have BB2 := Lh B2
    clear hadd x1 c1 B1 B2 hb2
    go_wp2_with fail
    refine HADD.out.mono ?_
    rintro e w3 ⟨rfl, hb3, hg3⟩
    have B3 := (BB2.out.alloc (by omega) (.cells #[.int .i64 (0)] 86)).grown hg3 (by simp; omega) (fun k e => by injection e with e; omega)
    have x3 := (X1.out.alloc (.cells #[.int .i64 (0)] 86)).grown hg3 (by intro e; injection e with e; omega)
    have xc0 := x3.cell 0
    have hfo : ([0] : List Int).foldl gadd 1 = gadd 1 (0) := rfl
    rw [hfo] at hb3
    obtain ⟨cv, hcv⟩ : ∃ cv, cv = gadd 1 (0) := ⟨_, rfl⟩
    rw [← hcv] at hb3
    have hcc := hb3.cell 0
    have m3 := HM.out.of_block keyI (B3.block w1.heap.size (by omega))
    have k3 := HBK.out.below B3 hgl
    have e3 := HBE.out.trans (B3.mono (HBE.out.size))
    obtain ⟨w4, hrun, m4, g4⟩ := m3.update keyI Try.underlying99 xa (.int .i64 cv)
    have hrun2 : (Instr.mapUpdate 99 (.map (some w1.heap.size)) (.int .i64 xa) (.int .i64 cv)).run Try.prog w3 = .ok () w4 := hrun
    have K4 := Lh (k3.grown g4 (by intro e; injection e with e; omega))
    have E4 := Lh (e3.grown g4 (by have := B3.size; omega) (fun k e => by injection e with e; omega))
    have M4 := Lh m4
    have Z4 := g4.size
    have Z3 := B3.size
    have HCV := Lh hcv
    clear hrun m3 k3 e3 m4 g4 B3 x3 hfo hb3 hg3 hcv
    go_wp2_with fail
    go_roundw
    case rel => exact ⟨i, cv, _, by omega, by go_num, rfl, by rw [← HNX.out, HCV.out]; rfl, M4.out, K4.out, E4.out, by omega⟩
    case measure => (simp [intOf]; try omega)
   ·by_cases h35 : xo = 35
    ·have s5 : (xo == 34) = false := beq_false_of h34
     have s6 : (xo == 35) = true := beq_true_of h35
     have hfv : fu = 0 := by rw [hfu, if_pos (.inr h35)]
     clear h34 h35 hfu
     subst hfv
     go_wp2_with fail
     refine (HTG.out _).mono ?_
     rintro e w2 ⟨rfl, hb2⟩
     have B1 : Below wr.heap.size wr ((wr.alloc (.cells #[.int .i64 xa, .int .u8 xo, .int .i64 xA, .int .i64 xB, .int .i64 xC] 101)).alloc (.cells #[.int .i64 1] 86)) := ((Below.refl _ _).alloc (Nat.le_refl _) _).alloc (by simp) _
     have c1 := (Blk.new (wr.alloc (.cells #[.int .i64 xa, .int .u8 xo, .int .i64 xA, .int .i64 xB, .int .i64 xC] 101)) 86 #[.int .i64 1]).below hb2 (by simp)
     have x1 := ((Blk.new wr 101 #[.int .i64 xa, .int .u8 xo, .int .i64 xA, .int .i64 xB, .int .i64 xC]).alloc (.cells #[.int .i64 1] 86)).below hb2 (by simp; omega)
     have B2 := B1.trans (hb2.mono (by simp; omega))
     have hz2 := hb2.size
     simp only [World.size_alloc] at c1 hz2
     have hadd := add_any (wr.heap.size + 1) w2.heap.size 0 1 1 1 [0] (w2.alloc (.cells #[.int .i64 (0)] 86)) rfl (by omega) (c1.alloc _) (gvals_blk (l := [0]) (Blk.new w2 86 #[.int .i64 (0)])) (by omega) (by simp) (by unfold IsGas maxB; omega) (by intro y hy; simp at hy; subst hy; exact HFUG.out)
     have HADD := Lh hadd
     have X1 := Lh x1
     have BB2 := Lh B2
     clear hadd x1 c1 B1 B2 hb2
     go_wp2_with fail
     refine HADD.out.mono ?_
     rintro e w3 ⟨rfl, hb3, hg3⟩
     have B3 := (BB2.out.alloc (by omega) (.cells #[.int .i64 (0)] 86)).grown hg3 (by simp; omega) (fun k e => by injection e with e; omega)
     have x3 := (X1.out.alloc (.cells #[.int .i64 (0)] 86)).grown hg3 (by intro e; injection e with e; omega)
     have xc0 := x3.cell 0
     have hfo : ([0] : List Int).foldl gadd 1 = gadd 1 (0) := rfl
     rw [hfo] at hb3
     obtain ⟨cv, hcv⟩ : ∃ cv, cv = gadd 1 (0) := ⟨_, rfl⟩
     rw [← hcv] at hb3
     have hcc := hb3.cell 0
     have m3 := HM.out.of_block keyI (B3.block w1.heap.size (by omega))
     have k3 := HBK.out.below B3 hgl
     have e3 := HBE.out.trans (B3.mono (HBE.out.size))
     obtain ⟨w4, hrun, m4, g4⟩ := m3.update keyI Try.underlying99 xa (.int .i64 cv)
     have hrun2 : (Instr.mapUpdate 99 (.map (some w1.heap.size)) (.int .i64 xa) (.int .i64 cv)).run Try.prog w3 = .ok () w4 := hrun
     have K4 := Lh (k3.grown g4 (by intro e; injection e with e; omega))
     have E4 := Lh (e3.grown g4 (by have := B3.size; omega) (fun k e => by injection e with e; omega))
     have M4 := Lh m4
     have Z4 := g4.size
     have Z3 := B3.size
     have HCV := Lh hcv
     clear hrun m3 k3 e3 m4 g4 B3 x3 hfo hb3 hg3 hcv
     go_wp2_with fail
     go_roundw
     case rel => exact ⟨i, cv, _, by omega, by go_num, rfl, by rw [← HNX.out, HCV.out]; rfl, M4.out, K4.out, E4.out, by omega⟩
     case measure => (simp [intOf]; try omega)
    ·have s5 : (xo == 34) = false := beq_false_of h34
     have s6 : (xo == 35) = false := beq_false_of h35
     have hfv : fu = V := by rw [hfu, if_neg (by omega)]
     clear h34 h35 hfu
     subst hfv
     go_wp2_with fail
     refine (HTG.out _).mono ?_
     rintro e w2 ⟨rfl, hb2⟩
     have B1 : Below wr.heap.size wr ((wr.alloc (.cells #[.int .i64 xa, .int .u8 xo, .int .i64 xA, .int .i64 xB, .int .i64 xC] 101)).alloc (.cells #[.int .i64 1] 86)) := ((Below.refl _ _).alloc (Nat.le_refl _) _).alloc (by simp) _
     have c1 := (Blk.new (wr.alloc (.cells #[.int .i64 xa, .int .u8 xo, .int .i64 xA, .int .i64 xB, .int .i64 xC] 101)) 86 #[.int .i64 1]).below hb2 (by simp)
     have x1 := ((Blk.new wr 101 #[.int .i64 xa, .int .u8 xo, .int .i64 xA, .int .i64 xB, .int .i64 xC]).alloc (.cells #[.int .i64 1] 86)).below hb2 (by simp; omega)
     have B2 := B1.trans (hb2.mono (by simp; omega))
     have hz2 := hb2.size
     simp only [World.size_alloc] at c1 hz2
     have hadd := add_any (wr.heap.size + 1) w2.heap.size 0 1 1 1 [fu] (w2.alloc (.cells #[.int .i64 (fu)] 86)) rfl (by omega) (c1.alloc _) (gvals_blk (l := [fu]) (Blk.new w2 86 #[.int .i64 (fu)])) (by omega) (by simp) (by unfold IsGas maxB; omega) (by intro y hy; simp at hy; subst hy; exact HFUG.out)
     have HADD := Lh hadd
     have X1 := Lh x1
     have BB2 := Lh B2
     clear hadd x1 c1 B1 B2 hb2
     go_wp2_with fail
     refine HADD.out.mono ?_
     rintro e w3 ⟨rfl, hb3, hg3⟩
     have B3 := (BB2.out.alloc (by omega) (.cells #[.int .i64 (fu)] 86)).grown hg3 (by simp; omega) (fun k e => by injection e with e; omega)
     have x3 := (X1.out.alloc (.cells #[.int .i64 (fu)] 86)).grown hg3 (by intro e; injection e with e; omega)
     have xc0 := x3.cell 0
     have hfo : ([fu] : List Int).foldl gadd 1 = gadd 1 (fu) := rfl
     rw [hfo] at hb3
     obtain ⟨cv, hcv⟩ : ∃ cv, cv = gadd 1 (fu) := ⟨_, rfl⟩
     rw [← hcv] at hb3
     have hcc := hb3.cell 0
     have m3 := HM.out.of_block keyI (B3.block w1.heap.size (by omega))
     have k3 := HBK.out.below B3 hgl
     have e3 := HBE.out.trans (B3.mono (HBE.out.size))
     obtain ⟨w4, hrun, m4, g4⟩ := m3.update keyI Try.underlying99 xa (.int .i64 cv)
     have hrun2 : (Instr.mapUpdate 99 (.map (some w1.heap.size)) (.int .i64 xa) (.int .i64 cv)).run Try.prog w3 = .ok () w4 := hrun
     have K4 := Lh (k3.grown g4 (by intro e; injection e with e; omega))
     have E4 := Lh (e3.grown g4 (by have := B3.size; omega) (fun k e => by injection e with e; omega))
     have M4 := Lh m4
     have Z4 := g4.size
     have Z3 := B3.size
     have HCV := Lh hcv
     clear hrun m3 k3 e3 m4 g4 B3 x3 hfo hb3 hg3 hcv
     go_wp2_with fail
     go_roundw
     case rel => exact ⟨i, cv, _, by omega, by go_num, rfl, by rw [← HNX.out, HCV.out]; rfl, M4.out, K4.out, E4.out, by omega⟩
     case measure => (simp [intOf]; try omega)
end Go.Proofs.Ytggibiodeecljaa
namespace Go.Proofs.Ytggibiodeecljaa
open Go.RowKit
set_option linter.unusedVariables false
def nd (op kind n m kids : Int) : Node := ⟨op, kind, n, m, ByteArray.empty, 0, kids⟩
def tsDraw : List Node := [nd 10 0 0 0 1, nd 19 0 2 0 1, nd 33 4 1 0 0]
def tsDeck : List Node := [nd 10 0 0 0 1, nd 19 0 8 0 1, nd 50 5 1 0 2, nd 33 4 1 0 0, nd 51 0 0 0 0]
theorem draw_yes : checkAble 0 [3, 4] false tsDraw = true := by kernel_rfl
theorem deck_yes : checkAble 0 [3, 4] false tsDeck = true := by kernel_rfl
theorem draw_gas : ableGas false tsDraw 10 = 3 := by kernel_rfl
theorem deck_gas : ableGas false tsDeck 10 = 14 := by kernel_rfl
def insLives : List Ins := [⟨0, 2, 0, 0, 0⟩, ⟨1, 23, 0, 0, 0⟩, ⟨2, 34, 0, 0, 0⟩]
theorem all_lives : allM [2, 23, 34] ([2, 23, 34] : List Int).length 0 [] = (insLives, 0, 0) := by kernel_rfl
theorem plain_lives : plainF insLives = 3 := by kernel_rfl
theorem draw_bound : boundM 0 [3, 4] false tsDraw 10 = (3, 0) := by
 unfold boundM
 rw [if_pos ⟨draw_yes, by omega, by omega⟩, draw_gas]
theorem deck_bound : boundM 0 [3, 4] false tsDeck 10 = (14, 0) := by
 unfold boundM
 rw [if_pos ⟨deck_yes, by omega, by omega⟩, deck_gas]
theorem nodeVals_at : ∀ (ts : List Node) (i j : Nat) (x : Node) (v : Value), ts[i]? = some x → x.cells[j]? = some v → (ts.flatMap Node.cells)[i * 7 + j]? = some v
 | [], i, j, x, v, h, _ => by simp at h
 | y :: r, 0, j, x, v, h, hv => by
  simp only [List.getElem?_cons_zero, Option.some.injEq] at h
  subst h
  have hj : j < 7 := by
   have := (List.getElem?_eq_some_iff.1 hv).1
   simpa [Node.cells] using this
  rw [List.flatMap_cons, Nat.zero_mul, Nat.zero_add, List.getElem?_append_left (by simpa [Node.cells] using hj)]
  exact hv
 | y :: r, i + 1, j, x, v, h, hv => by
  have := nodeVals_at r i j x v h hv
  have hl : y.cells.length = 7 := rfl
  rw [List.flatMap_cons, List.getElem?_append_right (by omega), hl, ← this]
  congr 1
  omega
theorem nodes_blk {w : World} {b : Nat} {t : TypeId} {ts : List Node} (h : Blk w b t (ts.flatMap Node.cells).toArray) : NodesAt w b 0 ts := by
 intro i x hx j v hv
 rw [show 0 + i * 7 + j = i * 7 + j by omega, h.cell, List.getElem?_toArray]
 exact nodeVals_at ts i j x v hx hv
theorem smalls_blk {w : World} {b : Nat} {t : TypeId} {l : List Int} (h : Blk w b t (l.map (Value.int .i8)).toArray) : SmallsAt w (some ⟨b, 0, none⟩) l := by
 intro k x hk
 refine ⟨b, 0, rfl, h.lt, ?_⟩
 rw [Nat.zero_add, h.cell, List.getElem?_toArray, List.getElem?_map, hk]
 rfl
theorem bytes_blk {w : World} {b : Nat} {t : TypeId} {l : List Int} (h : Blk w b t (l.map (Value.int .u8)).toArray) (hb : ∀ x ∈ l, 0 ≤ x ∧ x ≤ 255) : BytesAt w (some ⟨b, 0, none⟩) l :=
 ⟨hb, fun k x hk => ⟨b, 0, rfl, h.lt, by
  rw [Nat.zero_add, h.cell, List.getElem?_toArray, List.getElem?_map, hk]
  rfl⟩⟩
theorem mine_any (w : World) : Calls Try.prog 55 #[] w fun e w' => e = .returned (.slice (some ⟨w.heap.size, 0, none⟩) 2 2) ∧ w.alloc (.cells #[.int .i8 3, .int .i8 4] 40) = w' := by
 go_enter Try.func55, Try.ntmps55
 go_wp2
 go_ret
 exact ⟨rfl, rfl⟩
theorem lives_mem (w : World) {o1 o2 o3 o4 o5 o6 : Obj} {b3 b6 : Array Value} (h1 : o1 = .cells (([3, 4] : List Int).map (Value.int .i8)).toArray 40) (h2 : o2 = .cells (tsDraw.flatMap Node.cells).toArray 42) (h3 : o3 = .cells b3 25)
  (h4 : o4 = .cells (([3, 4] : List Int).map (Value.int .i8)).toArray 40) (h5 : o5 = .cells (tsDeck.flatMap Node.cells).toArray 42) (h6 : o6 = .cells b6 25) :
  TreeAt ((((((w.alloc o1).alloc o2).alloc o3).alloc o4).alloc o5).alloc o6) (some ⟨w.heap.size + 1, 0, none⟩) tsDraw ∧ SmallsAt ((((((w.alloc o1).alloc o2).alloc o3).alloc o4).alloc o5).alloc o6) (some ⟨w.heap.size, 0, none⟩) [3, 4] ∧
  TreeAt ((((((w.alloc o1).alloc o2).alloc o3).alloc o4).alloc o5).alloc o6) (some ⟨w.heap.size + 1 + 1 + 1 + 1, 0, none⟩) tsDeck ∧ SmallsAt ((((((w.alloc o1).alloc o2).alloc o3).alloc o4).alloc o5).alloc o6) (some ⟨w.heap.size + 1 + 1 + 1, 0, none⟩) [3, 4] ∧
  Below w.heap.size w ((((((w.alloc o1).alloc o2).alloc o3).alloc o4).alloc o5).alloc o6) ∧ Blk ((((((w.alloc o1).alloc o2).alloc o3).alloc o4).alloc o5).alloc o6) (w.heap.size + 1 + 1) 25 b3 ∧
  Blk ((((((w.alloc o1).alloc o2).alloc o3).alloc o4).alloc o5).alloc o6) (w.heap.size + 1 + 1 + 1 + 1 + 1) 25 b6 := by
 subst h1 h2 h3 h4 h5 h6
 have r1 := Blk.new w 40 (([3, 4] : List Int).map (Value.int .i8)).toArray
 generalize hw1 : w.alloc (.cells (([3, 4] : List Int).map (Value.int .i8)).toArray 40) = w1 at *
 have s1 : w1.heap.size = w.heap.size + 1 := by rw [← hw1, World.size_alloc]
 have r2 := Blk.new w1 42 (tsDraw.flatMap Node.cells).toArray
 generalize hw2 : w1.alloc (.cells (tsDraw.flatMap Node.cells).toArray 42) = w2 at *
 have s2 : w2.heap.size = w.heap.size + 1 + 1 := by rw [← hw2, World.size_alloc, s1]
 have r3 := Blk.new w2 25 b3
 generalize hw3 : w2.alloc (.cells b3 25) = w3 at *
 have s3 : w3.heap.size = w.heap.size + 1 + 1 + 1 := by rw [← hw3, World.size_alloc, s2]
 have r4 := Blk.new w3 40 (([3, 4] : List Int).map (Value.int .i8)).toArray
 generalize hw4 : w3.alloc (.cells (([3, 4] : List Int).map (Value.int .i8)).toArray 40) = w4 at *
 have s4 : w4.heap.size = w.heap.size + 1 + 1 + 1 + 1 := by rw [← hw4, World.size_alloc, s3]
 have r5 := Blk.new w4 42 (tsDeck.flatMap Node.cells).toArray
 generalize hw5 : w4.alloc (.cells (tsDeck.flatMap Node.cells).toArray 42) = w5 at *
 have s5 : w5.heap.size = w.heap.size + 1 + 1 + 1 + 1 + 1 := by rw [← hw5, World.size_alloc, s4]
 have r6 := Blk.new w5 25 b6
 rw [s1] at r2
 rw [s2] at r3
 rw [s3] at r4
 rw [s4] at r5
 rw [s5] at r6
 have q1 : Below w.heap.size w w1 := by rw [← hw1]; exact (Below.refl _ _).alloc (Nat.le_refl _) _
 have q2 : Below w1.heap.size w1 w2 := by rw [← hw2]; exact (Below.refl _ _).alloc (Nat.le_refl _) _
 have q3 : Below w2.heap.size w2 w3 := by rw [← hw3]; exact (Below.refl _ _).alloc (Nat.le_refl _) _
 have q4 : Below w3.heap.size w3 w4 := by rw [← hw4]; exact (Below.refl _ _).alloc (Nat.le_refl _) _
 have q5 : Below w4.heap.size w4 w5 := by rw [← hw5]; exact (Below.refl _ _).alloc (Nat.le_refl _) _
 have q6 : Below w5.heap.size w5 (w5.alloc (.cells b6 25)) := (Below.refl _ _).alloc (Nat.le_refl _) _
 have t5 := q6
 have t4 := q5.trans (q6.mono (by omega))
 have t3 := q4.trans (t4.mono (by omega))
 have t2 := q3.trans (t3.mono (by omega))
 have t1 := q2.trans (t2.mono (by omega))
 refine ⟨.inr ⟨_, 0, rfl, ?_, nodes_blk (r2.below t2 (by omega))⟩, smalls_blk (r1.below t1 (by omega)), .inr ⟨_, 0, rfl, ?_, nodes_blk (r5.below t5 (by omega))⟩, smalls_blk (r4.below t4 (by omega)), q1.trans (t1.mono (by omega)), r3.below t3 (by omega), r6⟩
 ·have := t2.size; omega
 ·have := t5.size; omega
theorem small_texts (ts : List Node) (h : ts = tsDraw ∨ ts = tsDeck) : ∀ y ∈ ts, y.text.size ≤ 1099511627776 := by
 have he : ByteArray.empty.size = 0 := rfl
 rcases h with rfl | rfl
 ·intro y hy
  simp [tsDraw, nd] at hy
  rcases hy with rfl | rfl | rfl <;> (show ByteArray.empty.size ≤ _; omega)
 ·intro y hy
  simp [tsDeck, nd] at hy
  rcases hy with rfl | rfl | rfl | rfl | rfl <;> (show ByteArray.empty.size ≤ _; omega)
set_option maxRecDepth 100000 in
set_option maxHeartbeats 2000000 in
theorem lives_any (w : World) : Calls Try.prog 23 #[] w fun e w' => e = .returned (.bool true) ∧ Below w.heap.size w w' := by
 have HT1 := Lh (small_texts tsDraw (.inl rfl))
 have HT2 := Lh (small_texts tsDeck (.inr rfl))
 go_enter Try.func23, Try.ntmps23
 go_wp2_with fail
 refine (mine_any _).mono ?_
 rintro e w1 ⟨rfl, rfl⟩
 go_wp2_with fail
 refine (mine_any _).mono ?_
 rintro e w2 ⟨rfl, rfl⟩
 go_wp2_with fail
 obtain ⟨k1, k2, k3, k4, k5, k6, k7⟩ := lives_mem w (b3 := #[.int .i64 0, .slice (some ⟨w.heap.size, 0, none⟩) 2 2, .bool false, .slice (some ⟨w.heap.size + 1, 0, none⟩) 3 3]) (b6 := #[.int .i64 0, .slice (some ⟨w.heap.size + 1 + 1 + 1, 0, none⟩) 2 2, .bool false, .slice (some ⟨w.heap.size + 1 + 1 + 1 + 1, 0, none⟩) 5 5]) rfl rfl rfl rfl rfl rfl
 have b1 := bound_any 0 (some ⟨w.heap.size, 0, none⟩) (some ⟨w.heap.size + 1, 0, none⟩) [3, 4] 2 3 false tsDraw 10 _ k1 k2 HT1.out
 rw [draw_bound] at b1
 have K3 := Lh k3
 have K4 := Lh k4
 have K5 := Lh k5
 have K7 := Lh k7
 have B1 := Lh b1
 clear k1 k2 k3 k4 k5 k6 k7 b1
 refine B1.out.mono ?_
 clear B1
 rintro e w3 ⟨rfl, hb3⟩
 have k3 := K3.out.below hb3
 have k4 := K4.out.below hb3
 have k7 := K7.out.below hb3 K7.out.lt
 have c0 := k7.cell 0
 have c1 := k7.cell 1
 have c2 := k7.cell 2
 have c3 := k7.cell 3
 have k5 := K5.out.trans (hb3.mono K5.out.size)
 have b2 := bound_any 0 (some ⟨w.heap.size + 1 + 1 + 1, 0, none⟩) (some ⟨w.heap.size + 1 + 1 + 1 + 1, 0, none⟩) [3, 4] 2 5 false tsDeck 10 w3 k3 k4 HT2.out
 rw [deck_bound] at b2
 have B2 := Lh b2
 have Q5 := Lh k5
 clear k3 k4 k5 k7 b2 hb3 K3 K4 K5 K7
 go_wp2_with fail
 refine B2.out.mono ?_
 rintro e w4 ⟨rfl, hb4⟩
 have Q4 := Lh (Q5.out.trans (hb4.mono Q5.out.size))
 clear hb4 c0 c1 c2 c3
 have hbb := Blk.new w4 5 #[.int .u8 2, .int .u8 23, .int .u8 34]
 have hcode := code_plain (some ⟨w4.heap.size, 0, none⟩) [2, 23, 34] 3 5 insLives (w4.alloc (.cells #[.int .u8 2, .int .u8 23, .int .u8 34] 5)) (by decide) (by decide) (bytes_blk (l := [2, 23, 34]) hbb (by decide)) (by decide) (by decide) all_lives (by unfold insLives plainI; simp) (by decide) (by decide)
 rw [plain_lives] at hcode
 have HCODE := Lh hcode
 clear hbb hcode
 go_wp2_with fail
 refine HCODE.out.mono ?_
 rintro e w5 ⟨rfl, hb5⟩
 have Q6 := (Q4.out.alloc Q4.out.size (.cells #[.int .u8 2, .int .u8 23, .int .u8 34] 5)).trans (hb5.mono (by have := Q4.out.size; simp; omega))
 have HQ6 := Lh Q6
 clear Q6 hb5
 go_wp2_with fail
 go_ret
 exact ⟨rfl, HQ6.out⟩
end Go.Proofs.Ytggibiodeecljaa
