/- bound.Code of code without jumps, fields, effects and 'has'. -/
import Derived.Test.YtggibiodeecljaaAll
import Derived.Test.YtggibiodeecljaaWalk
namespace Go.Proofs.Ytggibiodeecljaa
open Go.RowKit
set_option linter.unusedVariables false

theorem insVals_at : ∀ (ins : List Ins) (i j : Nat) (x : Ins) (v : Value), ins[i]? = some x → x.cells[j]? = some v → (insVals ins)[i * 5 + j]? = some v
  | [], i, j, x, v, h, _ => by simp at h
  | y :: r, 0, j, x, v, h, hv => by
    simp only [List.getElem?_cons_zero, Option.some.injEq] at h
    subst h
    have hj : j < 5 := by
      have := (Array.getElem?_eq_some_iff.1 hv).1
      simpa [Ins.cells] using this
    have e : insVals (y :: r) = y.cells.toList ++ insVals r := by simp [insVals]
    rw [e, Nat.zero_mul, Nat.zero_add, List.getElem?_append_left (by simpa [Ins.cells] using hj)]
    simpa using hv
  | y :: r, i + 1, j, x, v, h, hv => by
    have := insVals_at r i j x v h hv
    have e : insVals (y :: r) = y.cells.toList ++ insVals r := by simp [insVals]
    have hl : y.cells.toList.length = 5 := rfl
    rw [e, List.getElem?_append_right (by omega), hl, ← this]
    congr 1
    omega
/-- The row of instructions, its block known whole. -/
theorem ins_row {w : World} {base n : Nat} {v : Value} {ins : List Ins} (h : w.ownsRow base 101 5 v n (insVals ins)) (hn : ins.length = n) (h0 : 0 < n) :
    ∃ g c cs, v = .slice (some ⟨g, 0, none⟩) n c ∧ base ≤ g ∧ Blk w g 101 cs ∧ ∀ i x, ins[i]? = some x → ∀ j u, x.cells[j]? = some u → cs[i * 5 + j]? = some u := by
  rcases h.2 with ⟨_, h2⟩ | ⟨g, cap, cs, rfl, hg, hh, hnc, hcp, hcs, htake⟩
  · omega
  · refine ⟨g, cap, cs, rfl, hg, hh, fun i x hx j u hu => ?_⟩
    have h1 := insVals_at ins i j x u hx hu
    rw [← htake, List.getElem?_take] at h1
    split at h1
    · simpa using h1
    · cases h1

def plainF : List Ins → Int
  | [] => 0
  | x :: r => gadd 1 (if x.op = 34 ∨ x.op = 35 then 0 else plainF r)
theorem plainF_gas : ∀ l, IsGas (plainF l)
  | [] => zero_gas
  | x :: r => by
    unfold plainF
    refine gadd_gas (by unfold IsGas maxB; omega) ?_
    split
    · omega
    · exact (plainF_gas r).1
/-- Plain: neither a jump nor of a cost of its own. -/
def plainI (x : Ins) : Prop := x.op ≠ 46 ∧ x.op ≠ 60 ∧ x.op ≠ 44 ∧ x.op ≠ 30 ∧ x.op ≠ 31 ∧ x.op ≠ 33 ∧ x.op ≠ 32

set_option maxRecDepth 100000 in
theorem target_plain (x : Ins) (hx : plainI x) (w : World) : Calls Try.prog 61 #[.agg x.cells] w fun e w' => e = .returned (.tuple #[.int .i64 0, .bool false]) ∧ Below w.heap.size w w' := by
  obtain ⟨xa, xo, xA, xB, xC⟩ := x
  obtain ⟨_, _, _, q1, q2, q3, q4⟩ := hx
  have p1 : (xo == 30) = false := beq_false_of q1
  have p2 : (xo == 31) = false := beq_false_of q2
  have p3 : (xo == 33) = false := beq_false_of q3
  have p4 : (xo == 32) = false := beq_false_of q4
  simp only [Ins.cells]
  clear q1 q2 q3 q4
  go_enter Try.func61, Try.ntmps61
  go_wp2
  go_ret2
  exact ⟨rfl, (Below.refl _ _).alloc (Nat.le_refl _) _⟩

set_option maxRecDepth 100000 in
set_option maxHeartbeats 4000000 in
theorem code_plain (A : Option Addr) (l : List Int) (cap : Nat) (cards : Int) (ins : List Ins) (w : World) (hl : l.length ≤ 1000000) (hcap : l.length ≤ cap) (hb : BytesAt w A l) (hc0 : 1 ≤ cards) (hc1 : cards ≤ 256)
    (hall : allM l l.length 0 [] = (ins, 0, 0)) (hpl : ∀ x ∈ ins, plainI x) (hin : 0 < ins.length) (hin2 : ins.length ≤ 1000000) :
    Calls Try.prog 25 #[.slice A l.length cap, .int .i64 cards] w fun e w' => e = .returned (.tuple #[.int .i64 (plainF ins), .bool true]) ∧ Below w.heap.size w w' := by
  have hA := all_any A l cap w hl hcap hb
  rw [hall] at hA
  simp only at hA
  obtain ⟨n, hn⟩ : ∃ n, ins.length = n := ⟨_, rfl⟩
  obtain ⟨R, hR⟩ : ∃ R, R = plainF ins := ⟨_, rfl⟩
  rw [← hR]
  rw [hn] at hA hin hin2
  have hmm := @run_makeMap Try.prog
  have HA := Lib.hid hA
  have HN := Lib.hid hn
  have HR := Lib.hid hR
  have HPL := Lib.hid hpl
  clear hA hn hR hpl hall hb hcap hl
  go_enter Try.func25, Try.ntmps25
  go_wp2_with fail
  refine HA.out.mono ?_
  rintro e w1 ⟨v, rfl, hown, hbel⟩
  obtain ⟨g, c, cs, rfl, hbg, hblk, hcs⟩ := ins_row hown HN.out hin
  have hm0 := MK.made keyI w1
  have hz0 := hbel.size
  have hB0 : Below w.heap.size w (w1.alloc (.map #[] 0)) := hbel.alloc hz0 _
  have hblk0 := hblk.alloc (.map #[] 0)
  have hglt := hblk.lt
  have HB0 := Lib.hid hB0
  have HM0 := Lib.hid hm0
  have HK0 := Lib.hid hblk0
  have HCS := Lib.hid hcs
  clear hown hbel hm0 hB0 hblk0 hcs hblk
  go_wp2_with fail
  go_loopw [10, 11, 12, 13, 14, 15, 16, 17, 18, 50, 57, 64, 69] (fun av iv _ _ _ _ _ _ _ _ _ _ _ wr => ∃ (k : Nat) (V : Int) (f : Int → Option Value), k ≤ n ∧ iv = .int .i64 ((k : Int) - 1) ∧ av = .int .i64 V ∧ Hid (V = plainF (ins.drop k)) ∧ MK keyI wr w1.heap.size f ∧ Blk wr g 101 cs ∧ Below w.heap.size w wr ∧ w1.heap.size + 1 ≤ wr.heap.size)
    (fun _ iv _ _ _ _ _ _ _ _ _ _ _ _ => (intOf iv + 1).toNat)
  case atStart => exact ⟨n, 0, _, by omega, by first | rfl | (congr 1; omega), rfl, by rw [List.drop_of_length_le (by rw [HN.out]; omega)]; rfl, HM0.out, HK0.out, HB0.out, by simp⟩
  case round =>
    obtain ⟨k, V, f, hk, rfl, rfl, HV, hm, hblk, hbel, hsz⟩ := hrel
    by_cases hk0 : k = 0
    · subst hk0
      have hfin : R = V := by rw [HR.out, HV.out, List.drop_zero]
      have HFIN := Lib.hid hfin
      clear hfin
      have hneg : (((0 : Nat) : Int) - 1) = -1 := by omega
      rw [hneg]
      go_wp2_with fail
      go_ret2
      exact ⟨by rw [HFIN.out]; rfl, hbel⟩
    · obtain ⟨i, rfl⟩ : ∃ i, k = i + 1 := ⟨k - 1, by omega⟩
      have hi1 : ((i + 1 : Nat) : Int) - 1 = (i : Int) := by omega
      rw [hi1]
      have hiI : (i : Int) < n := by omega
      obtain ⟨x, hx⟩ : ∃ x, ins[i]? = some x := ⟨_, List.getElem?_eq_getElem (by rw [HN.out]; omega)⟩
      have hpx := HPL.out x (List.mem_of_getElem? hx)
      have htg := fun wx => target_plain x hpx wx
      have hdrop : ins.drop i = x :: ins.drop (i + 1) := by
        obtain ⟨h2, h3⟩ := List.getElem?_eq_some_iff.1 hx
        rw [List.drop_eq_getElem_cons h2, h3]
      have hVg : IsGas V := by rw [HV.out]; exact plainF_gas _
      obtain ⟨xa, xo, xA, xB, xC⟩ := x
      have r0 : wr.cell? ⟨g, i * 5, none⟩ = some (.int .i64 xa) := (hblk.cell (i * 5 + 0)).trans (HCS.out i _ hx 0 _ rfl)
      have r1 : wr.cell? ⟨g, i * 5 + 1, none⟩ = some (.int .u8 xo) := (hblk.cell (i * 5 + 1)).trans (HCS.out i _ hx 1 _ rfl)
      have r2 : wr.cell? ⟨g, i * 5 + 2, none⟩ = some (.int .i64 xA) := (hblk.cell (i * 5 + 2)).trans (HCS.out i _ hx 2 _ rfl)
      have r3 : wr.cell? ⟨g, i * 5 + 3, none⟩ = some (.int .i64 xB) := (hblk.cell (i * 5 + 3)).trans (HCS.out i _ hx 3 _ rfl)
      have r4 : wr.cell? ⟨g, i * 5 + 4, none⟩ = some (.int .i64 xC) := (hblk.cell (i * 5 + 4)).trans (HCS.out i _ hx 4 _ rfl)
      simp only [Ins.cells] at htg
      obtain ⟨p1, p2, p3, p4, p5, p6, p7⟩ := hpx
      simp only at p1 p2 p3 p4 p5 p6 p7
      have s1 : (xo == 46) = false := beq_false_of p1
      have s2 : (xo == 60) = false := beq_false_of p2
      have s3 : (xo == 44) = false := beq_false_of p3
      have s4 : (xo == 30) = false := beq_false_of p4
      have hgl := hblk.lt
      have HTG := Lib.hid htg
      have HVG := Lib.hid hVg
      have HDR := Lib.hid hdrop
      have HM := Lib.hid hm
      have HBK := Lib.hid hblk
      have HBE := Lib.hid hbel
      clear p1 p2 p3 p4 p5 p6 p7 htg hVg hdrop hm hblk hbel hx
      obtain ⟨fu, hfu⟩ : ∃ fu : Int, fu = if xo = 34 ∨ xo = 35 then 0 else V := ⟨_, rfl⟩
      have hfug : IsGas fu := by rw [hfu]; split; exact zero_gas; exact HVG.out
      have hnext : gadd 1 fu = plainF (ins.drop i) := by
        rw [HDR.out, plainF, hfu, HV.out]
      have HFU := Lib.hid hfu
      have HFUG := Lib.hid hfug
      have HNX := Lib.hid hnext
      clear hfug hnext
      by_cases h34 : xo = 34
      · have s5 : (xo == 34) = true := beq_true_of h34
        have hfv : fu = 0 := by rw [hfu, if_pos (.inl h34)]
        clear h34 hfu
        subst hfv
        go_wp2_with fail
        refine (HTG.out _).mono ?_
        rintro e w2 ⟨rfl, hb2⟩
        have B1 : Below wr.heap.size wr ((wr.alloc (.cells #[.int .i64 xa, .int .u8 xo, .int .i64 xA, .int .i64 xB, .int .i64 xC] 101)).alloc (.cells #[.int .i64 1] 86)) := ((Below.refl _ _).alloc (Nat.le_refl _) _).alloc (by simp) _
        have c1 := (Blk.new (wr.alloc (.cells #[.int .i64 xa, .int .u8 xo, .int .i64 xA, .int .i64 xB, .int .i64 xC] 101)) 86 #[.int .i64 1]).below hb2 (by simp)
        have x1 := ((Blk.new wr 101 #[.int .i64 xa, .int .u8 xo, .int .i64 xA, .int .i64 xB, .int .i64 xC]).alloc (.cells #[.int .i64 1] 86)).below hb2 (by simp; omega)
        have B2 := B1.trans (hb2.mono (by simp; omega))
        have hz2 := hb2.size
        simp only [World.size_alloc] at c1 hz2
        have hadd := add_any (wr.heap.size + 1) w2.heap.size 0 1 1 1 [0] (w2.alloc (.cells #[.int .i64 (0)] 86)) rfl (by omega) (c1.alloc _) (gvals_blk (l := [0]) (Blk.new w2 86 #[.int .i64 (0)])) (by omega) (by simp) (by unfold IsGas maxB; omega) (by intro y hy; simp at hy; subst hy; exact HFUG.out)
        have HADD := Lib.hid hadd
        have X1 := Lib.hid x1
        have BB2 := Lib.hid B2
        clear hadd x1 c1 B1 B2 hb2
        go_wp2_with fail
        refine HADD.out.mono ?_
        rintro e w3 ⟨rfl, hb3, hg3⟩
        have B3 := (BB2.out.alloc (by omega) (.cells #[.int .i64 (0)] 86)).grown hg3 (by simp; omega) (fun k e => by injection e with e; omega)
        have x3 := (X1.out.alloc (.cells #[.int .i64 (0)] 86)).grown hg3 (by intro e; injection e with e; omega)
        have xc0 := x3.cell 0
        have hfo : ([0] : List Int).foldl gadd 1 = gadd 1 (0) := rfl
        rw [hfo] at hb3
        obtain ⟨cv, hcv⟩ : ∃ cv, cv = gadd 1 (0) := ⟨_, rfl⟩
        rw [← hcv] at hb3
        have hcc := hb3.cell 0
        have m3 := HM.out.of_block keyI (B3.block w1.heap.size (by omega))
        have k3 := HBK.out.below B3 hgl
        have e3 := HBE.out.trans (B3.mono (HBE.out.size))
        obtain ⟨w4, hrun, m4, g4⟩ := m3.update keyI Try.underlying99 xa (.int .i64 cv)
        have hrun2 : (Instr.mapUpdate 99 (.map (some w1.heap.size)) (.int .i64 xa) (.int .i64 cv)).run Try.prog w3 = .ok () w4 := hrun
        have K4 := Lib.hid (k3.grown g4 (by intro e; injection e with e; omega))
        have E4 := Lib.hid (e3.grown g4 (by have := B3.size; omega) (fun k e => by injection e with e; omega))
        have M4 := Lib.hid m4
        have Z4 := g4.size
        have Z3 := B3.size
        have HCV := Lib.hid hcv
        clear hrun m3 k3 e3 m4 g4 B3 x3 hfo hb3 hg3 hcv
        go_wp2_with fail
        go_roundw
        case rel => exact ⟨i, cv, _, by omega, by go_num, rfl, by rw [← HNX.out, HCV.out]; rfl, M4.out, K4.out, E4.out, by omega⟩
        case measure => (simp [intOf]; try omega)
      · by_cases h35 : xo = 35
        · have s5 : (xo == 34) = false := beq_false_of h34
          have s6 : (xo == 35) = true := beq_true_of h35
          have hfv : fu = 0 := by rw [hfu, if_pos (.inr h35)]
          clear h34 h35 hfu
          subst hfv
          go_wp2_with fail
          refine (HTG.out _).mono ?_
          rintro e w2 ⟨rfl, hb2⟩
          have B1 : Below wr.heap.size wr ((wr.alloc (.cells #[.int .i64 xa, .int .u8 xo, .int .i64 xA, .int .i64 xB, .int .i64 xC] 101)).alloc (.cells #[.int .i64 1] 86)) := ((Below.refl _ _).alloc (Nat.le_refl _) _).alloc (by simp) _
          have c1 := (Blk.new (wr.alloc (.cells #[.int .i64 xa, .int .u8 xo, .int .i64 xA, .int .i64 xB, .int .i64 xC] 101)) 86 #[.int .i64 1]).below hb2 (by simp)
          have x1 := ((Blk.new wr 101 #[.int .i64 xa, .int .u8 xo, .int .i64 xA, .int .i64 xB, .int .i64 xC]).alloc (.cells #[.int .i64 1] 86)).below hb2 (by simp; omega)
          have B2 := B1.trans (hb2.mono (by simp; omega))
          have hz2 := hb2.size
          simp only [World.size_alloc] at c1 hz2
          have hadd := add_any (wr.heap.size + 1) w2.heap.size 0 1 1 1 [0] (w2.alloc (.cells #[.int .i64 (0)] 86)) rfl (by omega) (c1.alloc _) (gvals_blk (l := [0]) (Blk.new w2 86 #[.int .i64 (0)])) (by omega) (by simp) (by unfold IsGas maxB; omega) (by intro y hy; simp at hy; subst hy; exact HFUG.out)
          have HADD := Lib.hid hadd
          have X1 := Lib.hid x1
          have BB2 := Lib.hid B2
          clear hadd x1 c1 B1 B2 hb2
          go_wp2_with fail
          refine HADD.out.mono ?_
          rintro e w3 ⟨rfl, hb3, hg3⟩
          have B3 := (BB2.out.alloc (by omega) (.cells #[.int .i64 (0)] 86)).grown hg3 (by simp; omega) (fun k e => by injection e with e; omega)
          have x3 := (X1.out.alloc (.cells #[.int .i64 (0)] 86)).grown hg3 (by intro e; injection e with e; omega)
          have xc0 := x3.cell 0
          have hfo : ([0] : List Int).foldl gadd 1 = gadd 1 (0) := rfl
          rw [hfo] at hb3
          obtain ⟨cv, hcv⟩ : ∃ cv, cv = gadd 1 (0) := ⟨_, rfl⟩
          rw [← hcv] at hb3
          have hcc := hb3.cell 0
          have m3 := HM.out.of_block keyI (B3.block w1.heap.size (by omega))
          have k3 := HBK.out.below B3 hgl
          have e3 := HBE.out.trans (B3.mono (HBE.out.size))
          obtain ⟨w4, hrun, m4, g4⟩ := m3.update keyI Try.underlying99 xa (.int .i64 cv)
          have hrun2 : (Instr.mapUpdate 99 (.map (some w1.heap.size)) (.int .i64 xa) (.int .i64 cv)).run Try.prog w3 = .ok () w4 := hrun
          have K4 := Lib.hid (k3.grown g4 (by intro e; injection e with e; omega))
          have E4 := Lib.hid (e3.grown g4 (by have := B3.size; omega) (fun k e => by injection e with e; omega))
          have M4 := Lib.hid m4
          have Z4 := g4.size
          have Z3 := B3.size
          have HCV := Lib.hid hcv
          clear hrun m3 k3 e3 m4 g4 B3 x3 hfo hb3 hg3 hcv
          go_wp2_with fail
          go_roundw
          case rel => exact ⟨i, cv, _, by omega, by go_num, rfl, by rw [← HNX.out, HCV.out]; rfl, M4.out, K4.out, E4.out, by omega⟩
          case measure => (simp [intOf]; try omega)
        · have s5 : (xo == 34) = false := beq_false_of h34
          have s6 : (xo == 35) = false := beq_false_of h35
          have hfv : fu = V := by rw [hfu, if_neg (by omega)]
          clear h34 h35 hfu
          subst hfv
          go_wp2_with fail
          refine (HTG.out _).mono ?_
          rintro e w2 ⟨rfl, hb2⟩
          have B1 : Below wr.heap.size wr ((wr.alloc (.cells #[.int .i64 xa, .int .u8 xo, .int .i64 xA, .int .i64 xB, .int .i64 xC] 101)).alloc (.cells #[.int .i64 1] 86)) := ((Below.refl _ _).alloc (Nat.le_refl _) _).alloc (by simp) _
          have c1 := (Blk.new (wr.alloc (.cells #[.int .i64 xa, .int .u8 xo, .int .i64 xA, .int .i64 xB, .int .i64 xC] 101)) 86 #[.int .i64 1]).below hb2 (by simp)
          have x1 := ((Blk.new wr 101 #[.int .i64 xa, .int .u8 xo, .int .i64 xA, .int .i64 xB, .int .i64 xC]).alloc (.cells #[.int .i64 1] 86)).below hb2 (by simp; omega)
          have B2 := B1.trans (hb2.mono (by simp; omega))
          have hz2 := hb2.size
          simp only [World.size_alloc] at c1 hz2
          have hadd := add_any (wr.heap.size + 1) w2.heap.size 0 1 1 1 [fu] (w2.alloc (.cells #[.int .i64 (fu)] 86)) rfl (by omega) (c1.alloc _) (gvals_blk (l := [fu]) (Blk.new w2 86 #[.int .i64 (fu)])) (by omega) (by simp) (by unfold IsGas maxB; omega) (by intro y hy; simp at hy; subst hy; exact HFUG.out)
          have HADD := Lib.hid hadd
          have X1 := Lib.hid x1
          have BB2 := Lib.hid B2
          clear hadd x1 c1 B1 B2 hb2
          go_wp2_with fail
          refine HADD.out.mono ?_
          rintro e w3 ⟨rfl, hb3, hg3⟩
          have B3 := (BB2.out.alloc (by omega) (.cells #[.int .i64 (fu)] 86)).grown hg3 (by simp; omega) (fun k e => by injection e with e; omega)
          have x3 := (X1.out.alloc (.cells #[.int .i64 (fu)] 86)).grown hg3 (by intro e; injection e with e; omega)
          have xc0 := x3.cell 0
          have hfo : ([fu] : List Int).foldl gadd 1 = gadd 1 (fu) := rfl
          rw [hfo] at hb3
          obtain ⟨cv, hcv⟩ : ∃ cv, cv = gadd 1 (fu) := ⟨_, rfl⟩
          rw [← hcv] at hb3
          have hcc := hb3.cell 0
          have m3 := HM.out.of_block keyI (B3.block w1.heap.size (by omega))
          have k3 := HBK.out.below B3 hgl
          have e3 := HBE.out.trans (B3.mono (HBE.out.size))
          obtain ⟨w4, hrun, m4, g4⟩ := m3.update keyI Try.underlying99 xa (.int .i64 cv)
          have hrun2 : (Instr.mapUpdate 99 (.map (some w1.heap.size)) (.int .i64 xa) (.int .i64 cv)).run Try.prog w3 = .ok () w4 := hrun
          have K4 := Lib.hid (k3.grown g4 (by intro e; injection e with e; omega))
          have E4 := Lib.hid (e3.grown g4 (by have := B3.size; omega) (fun k e => by injection e with e; omega))
          have M4 := Lib.hid m4
          have Z4 := g4.size
          have Z3 := B3.size
          have HCV := Lib.hid hcv
          clear hrun m3 k3 e3 m4 g4 B3 x3 hfo hb3 hg3 hcv
          go_wp2_with fail
          go_roundw
          case rel => exact ⟨i, cv, _, by omega, by go_num, rfl, by rw [← HNX.out, HCV.out]; rfl, M4.out, K4.out, E4.out, by omega⟩
          case measure => (simp [intOf]; try omega)
end Go.Proofs.Ytggibiodeecljaa
