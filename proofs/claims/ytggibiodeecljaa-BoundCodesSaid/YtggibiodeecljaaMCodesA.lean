/- Law BoundGrows: its plain part. Law BoundGrows: its walk. The arguments of a law: an ability, opened as the form reads it. The law BoundGrows holds: at every input it returns true and leaves its arguments as they were. No condition. tableauref16.Widths: how many bytes the operands of an opcode have. Written by gen_widths.py. tableauref16: Size, instr. tableauref16.Read: the same as the plain reading. tableauref16.All. bound.Code as a plain function. No program in sight. tableauref00: WideBytes, SpareBytes, EqBytes. -/
import Derived.Test.YtggibiodeecljaaMBound
import Derived.Test.YtggibiodeecljaaMCopy
import Derived.SizedLaws
import Derived.Deep.Slices
import Derived.Lib.SmallJoins
import Derived.OpenShut
import Derived.ChangeSlices
import Derived.Test.YtggibiodeecljaaRows
import Derived.WalkKit
import Derived.ProofKit
import Derived.ShutString
import Derived.ChangeOld
import Derived.Below
import Derived.Test.YtggibiodeecljaaReadAll
import Derived.Test.YtggibiodeecljaaAll
import Derived.Test.YtggibiodeecljaaMGas
import Derived.Test.YtggibiodeecljaaWalk2
import Derived.Test.YtggibiodeecljaaSerial
namespace Go.Proofs.Ytggibiodeecljaa
open Go.RowKit

theorem ableGas_range {on : Int} {slots : List Int} {when_ : Bool} {ts : List Node} (h : checkAble on slots when_ ts = true) {c : Int} (hc : 1 ≤ c) : 1 ≤ ableGas when_ ts c ∧ ableGas when_ ts c ≤ maxB := by
  obtain ⟨hl, hp, m, hm, hml, he, hfit, hwt, hm0⟩ := able_whole h
  have one : IsGas 1 := by unfold IsGas maxB; omega
  cases when_ with
  | true =>
    obtain ⟨hbm, hfit0⟩ := hwt rfl
    have g0 := gasM_gas ts c (by omega) _ _ hfit0
    have g1 := gasM_gas ts c (by omega) _ _ (hfit.le (by omega) : Fit ts ts.length m)
    unfold ableGas
    rw [if_pos rfl, hbm, Int.toNat_natCast]
    have a1 := gadd_gas one one.1
    have a2 := gadd_gas a1 g0.1
    have a3 := gadd_gas a2 g1.1
    have b1 := gadd_ge one one.1
    have b2 := gadd_ge a1 g0.1
    have b3 := gadd_ge a2 g1.1
    exact ⟨by omega, a3.2⟩
  | false =>
    have hm0 := hm0 rfl
    subst hm0
    have g0 := gasM_gas ts c (by omega) _ _ (hfit.le (by omega) : Fit ts ts.length 0)
    unfold ableGas
    rw [if_neg (by decide)]
    exact ⟨gadd_ge one g0.1, (gadd_gas one g0.1).2⟩

theorem ableGas_mono {on : Int} {slots : List Int} {when_ : Bool} {ts : List Node} (h : checkAble on slots when_ ts = true) {c c' : Int} (hc : 1 ≤ c) (hcc : c ≤ c') : ableGas when_ ts c ≤ ableGas when_ ts c' := by
  obtain ⟨hl, hp, m, hm, hml, he, hfit, hwt, hm0⟩ := able_whole h
  have one : IsGas 1 := by unfold IsGas maxB; omega
  cases when_ with
  | true =>
    obtain ⟨hbm, hfit0⟩ := hwt rfl
    have hfit1 : Fit ts ts.length m := hfit.le (by omega)
    have g0 := gasM_gas ts c (by omega) _ _ hfit0
    have g0' := gasM_gas ts c' (by omega) _ _ hfit0
    have g1' := gasM_gas ts c' (by omega) _ _ hfit1
    have m0 := gasM_mono ts (by omega : 0 ≤ c) hcc _ _ hfit0
    have m1 := gasM_mono ts (by omega : 0 ≤ c) hcc _ _ hfit1
    unfold ableGas
    rw [if_pos rfl, if_pos rfl, hbm, Int.toNat_natCast]
    exact gadd_mono (gadd_mono (Int.le_refl _) m0 (gadd_gas one one.1) g0'.1) m1 (gadd_gas (gadd_gas one one.1) g0'.1) g1'.1
  | false =>
    have hm0 := hm0 rfl
    subst hm0
    have hfit1 : Fit ts ts.length 0 := hfit.le (by omega)
    have g0' := gasM_gas ts c' (by omega) _ _ hfit1
    have m0 := gasM_mono ts (by omega : 0 ≤ c) hcc _ _ hfit1
    unfold ableGas
    rw [if_neg (by decide), if_neg (by decide)]
    exact gadd_mono (Int.le_refl _) m0 one g0'.1

/-- What the law looks at. -/
theorem grows_plain (on : Int) (slots : List Int) (when_ : Bool) (ts : List Node) (c c' : Int) :
    (boundM on slots when_ ts c = (0, 1) ∧ boundM on slots when_ ts c' = (0, 1)) ∨ (boundM on slots when_ ts c = (0, 1) ∧ ∃ a, boundM on slots when_ ts c' = (a, 0)) ∨ (boundM on slots when_ ts c' = (0, 1) ∧ ∃ a, boundM on slots when_ ts c = (a, 0)) ∨
    ∃ a a', boundM on slots when_ ts c = (a, 0) ∧ boundM on slots when_ ts c' = (a', 0) ∧ 1 ≤ a ∧ 1 ≤ a' ∧ a ≤ 4611686018427387904 ∧ a' ≤ 4611686018427387904 ∧ (c ≤ c' → a ≤ a') ∧ (c' ≤ c → a' ≤ a) := by
  unfold boundM
  by_cases h1 : checkAble on slots when_ ts = true ∧ 1 ≤ c ∧ c ≤ 256
  · by_cases h2 : checkAble on slots when_ ts = true ∧ 1 ≤ c' ∧ c' ≤ 256
    · rw [if_pos h1, if_pos h2]
      have r1 := ableGas_range h1.1 h1.2.1
      have r2 := ableGas_range h1.1 h2.2.1
      exact .inr (.inr (.inr ⟨_, _, rfl, rfl, r1.1, r2.1, r1.2, r2.2, fun h => ableGas_mono h1.1 h1.2.1 h, fun h => ableGas_mono h1.1 h2.2.1 h⟩))
    · rw [if_pos h1, if_neg h2]
      exact .inr (.inr (.inl ⟨rfl, _, rfl⟩))
  · by_cases h2 : checkAble on slots when_ ts = true ∧ 1 ≤ c' ∧ c' ≤ 256
    · rw [if_neg h1, if_pos h2]
      exact .inr (.inl ⟨rfl, _, rfl⟩)
    · rw [if_neg h1, if_neg h2]
      exact .inl ⟨rfl, rfl⟩
end Go.Proofs.Ytggibiodeecljaa
namespace Go.Proofs.Ytggibiodeecljaa
open Go.RowKit
set_option linter.unusedVariables false

set_option maxRecDepth 100000 in
set_option maxHeartbeats 2000000 in
theorem grows_any (on : Int) (SA TA : Option Addr) (slots : List Int) (sc tc : Nat) (when_ : Bool) (ts : List Node) (c c' : Int) (w : World) (hl : slots.length ≤ 281474976710656) (ht : ts.length ≤ 281474976710656) (hT : TreeAt w TA ts) (hS : SmallsAt w SA slots) (htx : ∀ x ∈ ts, x.text.size ≤ 4611686018427387904) :
    Calls Try.prog 6 #[.agg #[.int .i64 on, .slice SA slots.length sc, .bool when_, .slice TA ts.length tc], .int .i64 c, .int .i64 c'] w fun e w' => e = .returned (.bool true) ∧ Below w.heap.size w w' := by
  obtain ⟨W, hW⟩ : ∃ W, W = w.alloc (.cells #[.int .i64 on, .slice SA slots.length sc, .bool when_, .slice TA ts.length tc] 25) := ⟨_, rfl⟩
  have hBW : Below w.heap.size w W := by rw [hW]; exact (Below.refl _ _).alloc (Nat.le_refl _) _
  have hzW : w.heap.size < W.heap.size := by rw [hW]; simp
  have hb0 : Blk W w.heap.size 25 #[.int .i64 on, .slice SA slots.length sc, .bool when_, .slice TA ts.length tc] := by rw [hW]; exact Blk.new _ _ _
  have hsz := sizeAble_any on SA TA slots sc tc when_ ts W hl ht (hT.below hBW) htx
  have hR0 := sizeL_ge ts ts.length
  have hRt := sizeL_text ts ts.length (by omega)
  have hcp := fun (w' : World) (h1 : slots.length ≤ 16777216) (h2 : ts.length ≤ 16777216) (h : Below w.heap.size w w') => copyAble_any on SA TA slots sc tc when_ ts w' (by omega) (by omega) (hT.below h) (hS.below h)
  have hbd := fun (hx : ∀ x ∈ ts, x.text.size ≤ 1099511627776) (A B : Option Addr) (s t : Nat) (cards : Int) (w' : World) (h1 : SmallsAt w' A slots) (h2 : TreeAt w' B ts) => bound_any on A B slots s t when_ ts cards w' h2 h1 hx
  have hpl := grows_plain on slots when_ ts c c'
  have hlives := lives_any
  obtain ⟨R, hR⟩ : ∃ R, R = sizeL ts ts.length := ⟨_, rfl⟩
  obtain ⟨n, hn⟩ : ∃ n, slots.length = n := ⟨_, rfl⟩
  obtain ⟨m, hm⟩ : ∃ m, ts.length = m := ⟨_, rfl⟩
  simp only [← hR] at hsz hRt hR0
  rw [hn] at hb0 hl hsz hW hcp ⊢
  rw [hm] at hb0 ht hsz hW hR0 hcp ⊢
  simp only [hn, hm] at hbd
  obtain ⟨B1, hB1⟩ : ∃ B1, boundM on slots when_ ts c = B1 := ⟨_, rfl⟩
  obtain ⟨B2, hB2⟩ : ∃ B2, boundM on slots when_ ts c' = B2 := ⟨_, rfl⟩
  rw [hB1, hB2] at hpl
  have hbd1 := fun hx A B s t w' h1 h2 => hbd hx A B s t c w' h1 h2
  have hbd2 := fun hx A B s t w' h1 h2 => hbd hx A B s t c' w' h1 h2
  simp only [hB1] at hbd1
  simp only [hB2] at hbd2
  have HW := Lib.hid hW
  have HSZ := Lib.hid hsz
  have HRT := Lib.hid hRt
  have HCP := Lib.hid hcp
  have HB1 := Lib.hid hbd1
  have HB2 := Lib.hid hbd2
  have HPL := Lib.hid hpl
  have HL := Lib.hid hlives
  have HBW := Lib.hid hBW
  have HK := Lib.hid hb0
  clear hW hsz hRt hcp hbd hbd1 hbd2 hpl hlives hBW hb0 hB1 hB2 hT hS htx hR hn hm
  go_enter Try.func6, Try.ntmps6
  go_wp2_with fail
  rw [← HW.out]
  refine HSZ.out.mono ?_
  rintro e w1 ⟨rfl, hbel1⟩
  have hz1 := hbel1.size
  have hlt1 : w.heap.size < w1.heap.size := by omega
  have k1 := HK.out.below hbel1 hzW
  have K1 := Lib.hid k1
  have BL1 := Lib.hid (HBW.out.trans (hbel1.mono (by omega)))
  have x0 := k1.cell 0
  have x1 := k1.cell 1
  have x2 := k1.cell 2
  have x3 := k1.cell 3
  clear k1 hbel1
  go_wp2_with fail
  refine (long_any _ _).mono ?_
  rintro e w1' ⟨rfl, rfl⟩
  by_cases hbig : 16777216 < (n : Int) + R
  · have hd : decide (16777216 < (n : Int) + R) = true := by simp [hbig]
    rw [hd]
    go_wp2_with fail
    go_ret
    exact ⟨rfl, BL1.out⟩
  have hd : decide (16777216 < (n : Int) + R) = false := by simp [hbig]
  rw [hd]
  clear hd
  have hxt : ∀ x ∈ ts, x.text.size ≤ 1099511627776 := fun x hx => by have := HRT.out (by omega) x hx; omega
  have HXT := Lib.hid hxt
  clear hxt
  go_wp2_with fail
  refine (HCP.out _ (by omega) (by omega) BL1.out).mono ?_
  rintro e w2 ⟨SA', TA', sc', tc', rfl, hS2, hT2, hbel2⟩
  have hz2 := hbel2.size
  have hlt2 : w.heap.size < w2.heap.size := by omega
  have k2 := K1.out.below hbel2 hlt1
  have K2 := Lib.hid k2
  have BL2 := Lib.hid (BL1.out.trans (hbel2.mono (by omega)))
  have HS2 := Lib.hid hS2
  have HT2 := Lib.hid hT2
  clear k2 hbel2 hS2 hT2 x0 x1 x2 x3
  go_wp2_with fail
  refine (HB1.out HXT.out SA' TA' sc' tc' _ HS2.out HT2.out).mono ?_
  rintro e w3 ⟨rfl, hbel3⟩
  have hz3 := hbel3.size
  have hlt3 : w.heap.size < w3.heap.size := by omega
  have k3 := K2.out.below hbel3 hlt2
  have K3 := Lib.hid k3
  have BL3 := Lib.hid (BL2.out.trans (hbel3.mono (by omega)))
  have x0 := k3.cell 0
  have x1 := k3.cell 1
  have x2 := k3.cell 2
  have x3 := k3.cell 3
  clear k3 hbel3
  go_wp2_with fail
  refine (HCP.out _ (by omega) (by omega) BL3.out).mono ?_
  rintro e w4 ⟨SA2, TA2, sc2, tc2, rfl, hS4, hT4, hbel4⟩
  have hz4 := hbel4.size
  have BL4 := Lib.hid (BL3.out.trans (hbel4.mono (by omega)))
  have HS4 := Lib.hid hS4
  have HT4 := Lib.hid hT4
  clear hbel4 hS4 hT4 x0 x1 x2 x3
  go_wp2_with fail
  refine (HB2.out HXT.out SA2 TA2 sc2 tc2 _ HS4.out HT4.out).mono ?_
  rintro e w5 ⟨rfl, hbel5⟩
  have hz5 := hbel5.size
  have BL5 := Lib.hid (BL4.out.trans (hbel5.mono (by omega)))
  clear hbel5
  rcases HPL.out with ⟨rfl, rfl⟩ | ⟨rfl, a, rfl⟩ | ⟨rfl, a, rfl⟩ | ⟨a, a', rfl, rfl, h1, h2, h3, h4, h5, h6⟩
  · go_wp2_with fail
    refine (HL.out _).mono ?_
    rintro e w6 ⟨rfl, hbel6⟩
    have BL6 := Lib.hid (BL5.out.trans (hbel6.mono (by omega)))
    clear hbel6
    go_wp2_with fail
    go_ret
    exact ⟨rfl, BL6.out⟩
  · go_wp2_with fail
    refine (HL.out _).mono ?_
    rintro e w6 ⟨rfl, hbel6⟩
    have BL6 := Lib.hid (BL5.out.trans (hbel6.mono (by omega)))
    clear hbel6
    go_wp2_with fail
    go_ret
    exact ⟨rfl, BL6.out⟩
  · go_wp2_with fail
    refine (HL.out _).mono ?_
    rintro e w6 ⟨rfl, hbel6⟩
    have BL6 := Lib.hid (BL5.out.trans (hbel6.mono (by omega)))
    clear hbel6
    go_wp2_with fail
    go_ret
    exact ⟨rfl, BL6.out⟩
  · by_cases q1 : c ≤ c'
    · by_cases q2 : c' ≤ c
      · have := h5 q1
        have := h6 q2
        clear h5 h6
        go_wp2_with fail
        all_goals refine (HL.out _).mono ?_
        all_goals rintro e w6 ⟨rfl, hbel6⟩
        all_goals have BL6 := Lib.hid (BL5.out.trans (hbel6.mono (by omega)))
        all_goals clear hbel6
        all_goals go_wp2_with fail
        all_goals go_ret
        all_goals exact ⟨rfl, BL6.out⟩
      · have := h5 q1
        clear h5 h6
        go_wp2_with fail
        all_goals refine (HL.out _).mono ?_
        all_goals rintro e w6 ⟨rfl, hbel6⟩
        all_goals have BL6 := Lib.hid (BL5.out.trans (hbel6.mono (by omega)))
        all_goals clear hbel6
        all_goals go_wp2_with fail
        all_goals go_ret
        all_goals exact ⟨rfl, BL6.out⟩
    · have := h6 (by omega)
      clear h5 h6
      go_wp2_with fail
      all_goals refine (HL.out _).mono ?_
      all_goals rintro e w6 ⟨rfl, hbel6⟩
      all_goals have BL6 := Lib.hid (BL5.out.trans (hbel6.mono (by omega)))
      all_goals clear hbel6
      all_goals go_wp2_with fail
      all_goals go_ret
      all_goals exact ⟨rfl, BL6.out⟩
end Go.Proofs.Ytggibiodeecljaa
namespace Go.Proofs.Ytggibiodeecljaa
open Go.ChangeShapes Go.WideShapes Go.ChangeAt Go.RowKit Go.Joins Go.Deep
set_option linter.unusedVariables false

theorem cells_i8 : Try.prog.cellsOf 40 = 1 := by kernel_rfl
theorem bytes_i8 : Try.prog.bytesOf 40 = 1 := by kernel_rfl
theorem cells_node : Try.prog.cellsOf 42 = 7 := by kernel_rfl
theorem bytes_node : Try.prog.bytesOf 42 = 56 := by kernel_rfl
theorem cells_able : Try.prog.cellsOf 25 = 4 := by kernel_rfl
theorem one_able : ∀ fs, Try.prog.underlying 25 = some (.struct fs) → oneCellFields Try.prog fs = true := by
  intro fs h
  rw [Try.underlying25] at h
  injection h with h
  injection h with h
  subst h
  kernel_rfl
theorem cells_i64 : Try.prog.cellsOf 2 = 1 := by kernel_rfl
theorem cells_int : Try.prog.cellsOf 3 = 1 := by kernel_rfl
theorem cells_str : Try.prog.cellsOf 9 = 1 := by kernel_rfl

section
variable {H : Type} {enc : TypeId × Value → H} {W : World} {sp : Nat → Bool} {fuel : Nat} {v : Value} {y : DataW H × List MemPlace}

theorem weightsAll_in {P : Program} {e : TypeId} : ∀ {l : List (DataW H)} {d : DataW H}, d ∈ l → ∀ n ∈ d.weights P e, n ∈ DataW.weightsAll P e l
  | d' :: r, d, hd, n, hn => by
    simp only [DataW.weightsAll, List.mem_append]
    rcases List.mem_cons.1 hd with rfl | h
    · exact Or.inl hn
    · exact Or.inr (weightsAll_in h n hn)

theorem cell_lt {a : Addr} {u : Value} (h : W.cell? a = some u) : a.block < W.heap.size :=
  World.cells?_block (cells?_one (base := 0) (Nat.zero_le _) h) (by decide)

theorem open_smalls (hf : DataW.trod enc Try.prog W 0 sp true fuel 22 [v] = some y) (hr : ∀ n ∈ y.1.weights Try.prog 22, n ≤ reachBytes) :
    ∃ A l c, v = .slice A (l : List Int).length c ∧ SmallsAt W A l ∧ l.length ≤ reachBytes := by
  rcases open_ints Try.underlying22 Try.underlying40 cells_i8 hf with ⟨hcs, hx⟩ | ⟨a, len, cap, zs, hcs, hb, hl, hm, hz, hx, hcell, hwz⟩
  · simp only [List.cons.injEq, and_true] at hcs
    subst hcs
    exact ⟨none, [], 0, rfl, fun k x hk => by simp at hk, by simp⟩
  · simp only [List.cons.injEq, and_true] at hcs
    subst hcs
    have hzl : len ≤ zs.length := by rw [hz]; split <;> omega
    have hlen : (zs.take len).length = len := by rw [List.length_take]; omega
    refine ⟨some a, zs.take len, cap, by rw [hlen], ?_, ?_⟩
    · intro k x hk
      rw [List.getElem?_take] at hk
      split at hk
      · rename_i hkl
        obtain ⟨b, off, rfl, hc⟩ := ints_at hcell (by omega)
        have h1 := hc k (by omega)
        rw [List.getD_eq_getElem?_getD, hk] at h1
        exact ⟨b, off, rfl, cell_lt h1, h1⟩
      · cases hk
    · have h1 := hr ((List.take len zs).length * 1 + (zs.drop len).length * 1) (by
        subst hx
        simp [DataW.weights, Try.underlying22, bytes_i8, lits])
      omega

theorem drop_take_one {cs : List Value} {k : Nat} {u : Value} (h : (cs.drop k).take 1 = [u]) : cs[k]? = some u := by
  have := congrArg (fun l => l[0]?) h
  simpa [List.getElem?_take, List.getElem?_drop] using this

instance : Inhabited Node := ⟨node0⟩

set_option maxRecDepth 100000 in
theorem open_node {cs : List Value} (hf : DataW.trod enc Try.prog W 0 sp true fuel 42 cs = some y) (hr : ∀ n ∈ y.1.weights Try.prog 42, n ≤ reachBytes) :
    ∃ x : Node, cs = x.cells ∧ x.text.size ≤ reachBytes := by
  obtain ⟨xs, n, _, rfl, hl, hlen, hfs⟩ := DataW.trod_struct Try.underlying42 hf
  have f0 : DataW.trod enc Try.prog W 0 sp true n 40 ((cs.drop 0).take (Try.prog.cellsOf 40)) = xs[0]? := hfs 0 _ rfl
  rw [cells_i8] at f0
  have f1 : DataW.trod enc Try.prog W 0 sp true n 40 ((cs.drop 1).take (Try.prog.cellsOf 40)) = xs[1]? := hfs 1 _ rfl
  rw [cells_i8] at f1
  have f2 : DataW.trod enc Try.prog W 0 sp true n 2 ((cs.drop 2).take (Try.prog.cellsOf 2)) = xs[2]? := hfs 2 _ rfl
  rw [cells_i64] at f2
  have f3 : DataW.trod enc Try.prog W 0 sp true n 2 ((cs.drop 3).take (Try.prog.cellsOf 2)) = xs[3]? := hfs 3 _ rfl
  rw [cells_i64] at f3
  have f4 : DataW.trod enc Try.prog W 0 sp true n 9 ((cs.drop 4).take (Try.prog.cellsOf 9)) = xs[4]? := hfs 4 _ rfl
  rw [cells_str] at f4
  have f5 : DataW.trod enc Try.prog W 0 sp true n 3 ((cs.drop 5).take (Try.prog.cellsOf 3)) = xs[5]? := hfs 5 _ rfl
  rw [cells_int] at f5
  have f6 : DataW.trod enc Try.prog W 0 sp true n 3 ((cs.drop 6).take (Try.prog.cellsOf 3)) = xs[6]? := hfs 6 _ rfl
  rw [cells_int] at f6
  have hlen7 : xs.length = 7 := hlen
  rw [List.getElem?_eq_getElem (by omega)] at f0 f1 f2 f3 f4 f5 f6
  obtain ⟨a0, e0, d0, w0⟩ := DataW.trod_int Try.underlying40 f0
  obtain ⟨a1, e1, d1, w1⟩ := DataW.trod_int Try.underlying40 f1
  obtain ⟨a2, e2, d2, w2⟩ := DataW.trod_int Try.underlying2 f2
  obtain ⟨a3, e3, d3, w3⟩ := DataW.trod_int Try.underlying2 f3
  obtain ⟨a4, e4, d4, w4⟩ := DataW.trod_string Try.underlying9 f4
  obtain ⟨a5, e5, d5, w5⟩ := DataW.trod_int Try.underlying3 f5
  obtain ⟨a6, e6, d6, w6⟩ := DataW.trod_int Try.underlying3 f6
  have hcs : cs.length = 7 := by rw [hl, cells_node]
  refine ⟨⟨a0, a1, a2, a3, a4, a5, a6⟩, ?_, ?_⟩
  · apply List.ext_getElem?
    intro k
    have g0 := drop_take_one e0
    have g1 := drop_take_one e1
    have g2 := drop_take_one e2
    have g3 := drop_take_one e3
    have g4 := drop_take_one e4
    have g5 := drop_take_one e5
    have g6 := drop_take_one e6
    by_cases hk : k < 7
    · have : k = 0 ∨ k = 1 ∨ k = 2 ∨ k = 3 ∨ k = 4 ∨ k = 5 ∨ k = 6 := by omega
      rcases this with rfl | rfl | rfl | rfl | rfl | rfl | rfl
      · rw [g0]; rfl
      · rw [g1]; rfl
      · rw [g2]; rfl
      · rw [g3]; rfl
      · rw [g4]; rfl
      · rw [g5]; rfl
      · rw [g6]; rfl
    · rw [List.getElem?_eq_none (by omega), List.getElem?_eq_none (by show 7 ≤ k; omega)]
  · have h1 := hr a4.data.toList.length (by
      show _ ∈ (DataW.agg (xs.map (·.1))).weights _ _
      rw [DataW.weights, Try.underlying42]
      refine DataW.weights_mem_each (j := 4) (t := 9) (d := .lit (.string a4.data.toList)) rfl ?_ _ (by simp [DataW.weights])
      rw [List.getElem?_map, List.getElem?_eq_getElem (by omega), Option.map_some, d4])
    rw [Array.length_toList] at h1
    exact h1

theorem open_nodes (hf : DataW.trod enc Try.prog W 0 sp true fuel 23 [v] = some y) (hr : ∀ n ∈ y.1.weights Try.prog 23, n ≤ reachBytes) :
    ∃ A ts c, v = .slice A (ts : List Node).length c ∧ TreeAt W A ts ∧ ts.length ≤ reachBytes ∧ ∀ x ∈ ts, x.text.size ≤ reachBytes := by
  rcases open_slice Try.underlying23 hf with ⟨hcs, hx⟩ | ⟨a, len, cap, m, n, D, Pl, hcs, hb, hl, hm, hmm, hx, hel⟩
  · simp only [List.cons.injEq, and_true] at hcs
    subst hcs
    exact ⟨none, [], 0, rfl, .inl rfl, by simp, fun x hx => by simp at hx⟩
  · simp only [List.cons.injEq, and_true] at hcs
    subst hcs
    have hlm : len ≤ m := by rw [hmm]; split <;> omega
    rw [cells_node] at hel
    have hw : (((List.range len).map D).length + ((List.range (m - len)).map fun j => D (len + j)).length) * 56 ≤ reachBytes ∧ ∀ i, i < len → ∀ k ∈ (D i).weights Try.prog 42, k ≤ reachBytes := by
      subst hx
      simp only [DataW.weights, Try.underlying23, bytes_node] at hr
      refine ⟨hr _ (List.mem_cons_self ..), fun i hi k hk => hr k (List.mem_cons_of_mem _ (List.mem_append_left _ (weightsAll_in (List.mem_map.2 ⟨i, List.mem_range.2 hi, rfl⟩) k hk)))⟩
    have hlr : len ≤ reachBytes := by
      have := hw.1
      simp only [List.length_map, List.length_range] at this
      omega
    obtain ⟨X, hX⟩ := choose_lt (n := len) (p := fun i (x : Node) => x.text.size ≤ reachBytes ∧ ∀ j u, x.cells[j]? = some u → W.cell? (a.add (i * 7 + j)) = some u) (fun i hi => by
      obtain ⟨cs', h1, h2⟩ := hel i (by omega)
      obtain ⟨x, hx1, hx2⟩ := open_node h2 (hw.2 i hi)
      obtain ⟨_, hcl, hcc⟩ := World.cells?_some h1
      refine ⟨x, hx2, fun j u hj => ?_⟩
      have hj7 : j < 7 := by
        have := (List.getElem?_eq_some_iff.1 hj).1
        simpa [Node.cells] using this
      have := hcc j hj7
      rw [add_add] at this
      rw [this, hx1]
      exact hj)
    refine ⟨some a, (List.range len).map X, cap, by simp, ?_, by simpa using hlr, ?_⟩
    · rcases Nat.eq_zero_or_pos len with h0 | h0
      · exact .inl (by rw [h0]; rfl)
      · have hfirst := (hX 0 h0).2 0 _ rfl
        obtain ⟨b, off, spot⟩ := a
        have hspot : spot = none := by simpa [Addr.add] using World.cell?_spot hfirst
        subst hspot
        refine .inr ⟨b, off, rfl, cell_lt hfirst, fun i x hx j u hj => ?_⟩
        rw [List.getElem?_map, Option.map_eq_some_iff] at hx
        obtain ⟨i', hi', rfl⟩ := hx
        obtain ⟨hi1, hi2⟩ := List.getElem?_eq_some_iff.1 hi'
        simp only [List.length_range] at hi1
        rw [List.getElem_range] at hi2
        subst hi2
        have := (hX i hi1).2 j u hj
        rw [add_plain] at this
        rw [← this, Nat.add_assoc]
    · intro x hx
      obtain ⟨i, hi, rfl⟩ := List.mem_map.1 hx
      exact (hX i (List.mem_range.1 hi)).1
end
end Go.Proofs.Ytggibiodeecljaa
namespace Go.Proofs.Ytggibiodeecljaa
open Go.ChangeShapes Go.WideShapes Go.ChangeAt Go.RowKit Go.Joins
set_option linter.unusedVariables false

theorem own_ : ownKnob Try.prog.godebug = none := by kernel_rfl
theorem laidOut_ : laidOutB Try.prog = true := by kernel_rfl

set_option maxRecDepth 100000 in
theorem open_able {H : Type} {enc : TypeId × Value → H} {W : World} {base : Nat} {v : Value} {d : DataW H} {p : List MemPlace} (hv : Value.okWide Try.prog W .any base 25 v) (h : DataW.Trod enc Try.prog W 0 (fun _ => true) true 25 v d p)
    (hr : ∀ n ∈ d.weights Try.prog 25, n ≤ reachBytes) :
    ∃ on SA slots sc when_ TA ts tc, v = .agg #[.int .i64 on, .slice SA (slots : List Int).length sc, .bool when_, .slice TA (ts : List Node).length tc] ∧ SmallsAt W SA slots ∧ TreeAt W TA ts ∧ slots.length ≤ reachBytes ∧ ts.length ≤ reachBytes ∧ ∀ x ∈ ts, x.text.size ≤ reachBytes := by
  obtain ⟨c0, c1, c2, c3, y0, y1, y2, y3, m, rfl, rfl, rfl, h0, h1, h2, h3⟩ := open_agg4 Try.underlying25 (by kernel_rfl) cells_able hv h
  have hr' := hr
  simp only [DataW.weights, Try.underlying25, DataW.weightsEach, List.mem_append, List.map_cons, List.map_nil] at hr'
  obtain ⟨on, e0, d0, w0⟩ := DataW.trod_int Try.underlying3 h0
  obtain ⟨SA, slots, sc, e1, hS, l1⟩ := open_smalls h1 (fun n hn => hr' n (.inr (.inl hn)))
  obtain ⟨wh, e2, d2⟩ := DataW.trod_bool Try.underlying4 h2
  obtain ⟨TA, ts, tc, e3, hT, l3, l4⟩ := open_nodes h3 (fun n hn => hr' n (.inr (.inr (.inr (.inl hn)))))
  simp only [List.cons.injEq, and_true] at e0 e2
  subst e0 e1 e2 e3
  exact ⟨on, SA, slots, sc, wh, TA, ts, tc, rfl, hS, hT, l1, l3, l4⟩

set_option maxRecDepth 100000 in
theorem growsLifted (os : Os) (started : os.Started) (H : Type) (enc : TypeId × Value → H) :
    ReturnsInHanded {} Try.checked os 6 .any (Rows.boundGrowsSpec.pre6 enc Try.prog Try.f6 Rows.boundGrowsRow.domain false) (Rows.boundGrowsSpec.post enc Try.prog Try.f6 false true false false) := by
  refine returnsInHanded_of_change_sized (C := Try.checked) own_ started (by kernel_rfl) Try.func6
    (ChangeSpec.witness6 (enc := enc) (C := Try.checked) false ⟨#[], #[.agg #[.int .i64 0, .slice none 0 0, .bool false, .slice none 0 0], .int .i64 0, .int .i64 0], []⟩ 8 (by kernel_rfl) (by kernel_rfl) (by kernel_rfl) (by kernel_rfl)) ?_
  intro W base args ds gs before hval0 hW hcnd hsz0 _
  have hval : ∀ (j : Nat) t v, Try.f6.params[j]? = some t → args[j]? = some v → Value.okWide Try.prog W .any base t v := hval0
  have hsz : (DataW.weightsEach Try.prog (Try.f6.params.toList ++ Rows.boundGrowsSpec.plain.varTypes Try.prog) (ds ++ gs)).all (· ≤ reachBytes) = true := hsz0
  have hW' := hW
  obtain ⟨p, q, hA0, hV, rfl, hfz, hnd⟩ := hW
  have hA : DataW.TrodAll enc Try.prog W 0 (fun _ => true) true Try.f6.params.toList args.toList ds p := hA0
  rw [Try.params6] at hA hval hsz
  obtain ⟨v0, vs0, d0, ds0, p0, q0, hargs, rfl, rfl, h0, r0⟩ := trodAll_cons hA
  obtain ⟨v1, vs1, d1, ds1, p1, q1, rfl, rfl, rfl, h1, r1⟩ := trodAll_cons r0
  obtain ⟨v2, vs2, d2, ds2, p2, q2, rfl, rfl, rfl, h2, r2⟩ := trodAll_cons r1
  obtain ⟨rfl, rfl, rfl⟩ := trodAll_nil r2
  obtain rfl : args = #[v0, v1, v2] := by cases args; simp_all
  obtain ⟨rfl, rfl⟩ := trodVars_none hV
  have k0 := h0
  have lt0 : ∀ x ∈ p0, x.block < W.heap.size := by obtain ⟨m, hm⟩ := k0; exact DataW.trod_lt m _ _ _ hm
  obtain ⟨on, SA, slots, sc, when_, TA, ts, tc, rfl, hS, hT, l1, l2, l3⟩ := open_able (hval 0 25 v0 rfl rfl) h0 (fun n hn => by
    have := List.all_eq_true.1 hsz n (DataW.weights_mem_each (j := 0) rfl rfl n hn)
    simpa using this)
  obtain ⟨a1, rfl, rfl, rfl, w1⟩ := open_int Try.underlying3 (hval 1 3 v1 rfl rfl) h1
  obtain ⟨a2, rfl, rfl, rfl, w2⟩ := open_int Try.underlying3 (hval 2 3 v2 rfl rfl) h2
  clear hA0 hval0 hsz hsz0
  have hR : reachBytes = 140737488351232 := rfl
  refine (grows_any on SA TA slots sc tc when_ ts a1 a2 W (by omega) (by omega) hT hS (fun x hx => by have := l3 x hx; omega)).mono fun e W' ⟨he, bel⟩ => ?_
  subst he
  exact ⟨_, rfl, _, _, _, [], _, [], hW', trodAll_mk1 (shut_bool Try.underlying4 _), (trodAll_cons_mk (Below.trod laidOut_ (by kernel_rfl) (of_decide_eq_true (by kernel_rfl)) k0 bel lt0) (trodAll_cons_mk (shut_int Try.underlying3 w1) (trodAll_cons_mk (shut_int Try.underlying3 w2) trodAll_mk0))), rfl, bel.frame _, fun h => by cases h⟩

/-- The law BoundGrows holds. -/
theorem boundGrows_holds : Rows.BoundGrowsSaid :=
  OpenClaim.holds_of_wide 6 Try.f6 rfl rfl rfl rfl rfl rfl rfl ⟨rfl, rfl, rfl, rfl, rfl⟩ rfl rfl rfl rfl rfl (by kernel_rfl) Try.func6 (by kernel_rfl)
    (of_decide_eq_true (by kernel_rfl)) (by unfold Func.isWrapper; first | (rw [if_pos (by decide +kernel)]; kernel_rfl) | (rw [if_neg (by decide +kernel)]; exact ⟨rfl, rfl⟩))
    (fun os started H enc _ => growsLifted os started H enc)
end Go.Proofs.Ytggibiodeecljaa
namespace Go.Proofs.Ytggibiodeecljaa
open Go.RowKit
set_option linter.unusedVariables false

def widthsK (k : Int) : List Int := if k = 0 then [] else if k = 1 then [1] else if k = 2 then [2] else [1, 1, 2]
/-- A list of ints that came in. -/
def IntsAt (w : World) (A : Option Addr) (l : List Int) : Prop := ∀ k x, l[k]? = some x → ∃ b off, A = some ⟨b, off, none⟩ ∧ b < w.heap.size ∧ w.cell? ⟨b, off + k, none⟩ = some (.int .i64 x)
theorem IntsAt.below {w w' : World} {A : Option Addr} {l : List Int} (h : IntsAt w A l) (hb : Below w.heap.size w w') : IntsAt w' A l := by
  intro k x hk
  obtain ⟨b, off, h1, h2, h3⟩ := h k x hk
  exact ⟨b, off, h1, Nat.lt_of_lt_of_le h2 hb.size, (hb.cell (p := ⟨b, _, none⟩) h2).trans h3⟩
theorem ints_lit (w : World) (l : List Int) (cs : Array Value) (hc : cs = (l.map (Value.int .i64)).toArray) : IntsAt (w.alloc (.cells cs 3)) (some ⟨w.heap.size, 0, none⟩) l := by
  subst hc
  intro k x hk
  refine ⟨w.heap.size, 0, rfl, by simp, ?_⟩
  rw [(Blk.new w 3 _).cell]
  simp [hk]
theorem form_mem {op : Int} {nm : ByteArray} {k : Int} (h : formOf op = some (nm, k)) : (op, nm, k) ∈ formsL := by
  unfold formOf at h
  rw [Option.map_eq_some_iff] at h
  obtain ⟨⟨a, b⟩, hq, h⟩ := h
  have h1 := List.mem_of_find?_eq_some hq
  have h2 := List.find?_some hq
  simp only [beq_iff_eq] at h2
  simp only at h
  subst h h2
  exact h1
theorem form_ne {op : Int} (h : formOf op = none) (o : Int) (ho : (formOf o).isSome = true) : (op == o) = false := by
  refine beq_false_of ?_
  rintro rfl
  rw [h] at ho
  cases ho

set_option maxRecDepth 100000 in
set_option maxHeartbeats 2000000 in
theorem widths0 (op : Int) (w : World) (h : op = 2 ∨ op = 3 ∨ op = 10 ∨ op = 11 ∨ op = 12 ∨ op = 13 ∨ op = 14 ∨ op = 15 ∨ op = 16 ∨ op = 17 ∨ op = 18 ∨ op = 19 ∨ op = 20 ∨ op = 21 ∨ op = 22 ∨ op = 23 ∨ op = 34 ∨ op = 35 ∨ op = 40 ∨ op = 42 ∨ op = 43 ∨ op = 44) :
    Calls Try.prog 142 #[.int .u8 op] w fun e w' => ∃ A c, e = .returned (.tuple #[.slice A 0 c, .bool true]) ∧ IntsAt w' A (widthsK 0) ∧ Below w.heap.size w w' := by
  rcases h with rfl | rfl | rfl | rfl | rfl | rfl | rfl | rfl | rfl | rfl | rfl | rfl | rfl | rfl | rfl | rfl | rfl | rfl | rfl | rfl | rfl | rfl
  all_goals (
    go_enter Try.func142, Try.ntmps142
    go_wp2_with fail
    go_ret2
    exact ⟨none, 0, rfl, fun k x hk => by simp [widthsK] at hk, Below.refl _ _⟩)

set_option maxRecDepth 100000 in
set_option maxHeartbeats 2000000 in
theorem widths1 (op : Int) (w : World) (h : op = 4 ∨ op = 5 ∨ op = 24 ∨ op = 41 ∨ op = 46 ∨ op = 60) :
    Calls Try.prog 142 #[.int .u8 op] w fun e w' => ∃ A c, e = .returned (.tuple #[.slice A 1 c, .bool true]) ∧ IntsAt w' A (widthsK 1) ∧ Below w.heap.size w w' := by
  rcases h with rfl | rfl | rfl | rfl | rfl | rfl
  all_goals (
    go_enter Try.func142, Try.ntmps142
    go_wp2_with fail
    go_ret2
    exact ⟨_, _, rfl, ints_lit _ _ _ rfl, (Below.refl _ _).alloc (Nat.le_refl _) _⟩)

set_option maxRecDepth 100000 in
set_option maxHeartbeats 2000000 in
theorem widths2 (op : Int) (w : World) (h : op = 1 ∨ op = 30 ∨ op = 31 ∨ op = 33 ∨ op = 45) :
    Calls Try.prog 142 #[.int .u8 op] w fun e w' => ∃ A c, e = .returned (.tuple #[.slice A 1 c, .bool true]) ∧ IntsAt w' A (widthsK 2) ∧ Below w.heap.size w w' := by
  rcases h with rfl | rfl | rfl | rfl | rfl
  all_goals (
    go_enter Try.func142, Try.ntmps142
    go_wp2_with fail
    go_ret2
    exact ⟨_, _, rfl, ints_lit _ _ _ rfl, (Below.refl _ _).alloc (Nat.le_refl _) _⟩)

set_option maxRecDepth 100000 in
set_option maxHeartbeats 2000000 in
theorem widths3 (op : Int) (w : World) (h : op = 32) :
    Calls Try.prog 142 #[.int .u8 op] w fun e w' => ∃ A c, e = .returned (.tuple #[.slice A 3 c, .bool true]) ∧ IntsAt w' A (widthsK 3) ∧ Below w.heap.size w w' := by
  subst h
  all_goals (
    go_enter Try.func142, Try.ntmps142
    go_wp2_with fail
    go_ret2
    exact ⟨_, _, rfl, ints_lit _ _ _ rfl, (Below.refl _ _).alloc (Nat.le_refl _) _⟩)

set_option maxRecDepth 100000 in
set_option maxHeartbeats 2000000 in
theorem widths_none (op : Int) (w : World) (h : formOf op = none) :
    Calls Try.prog 142 #[.int .u8 op] w fun e w' => e = .returned (.tuple #[.slice none 0 0, .bool false]) ∧ w = w' := by
  have n1 := form_ne h 1 (by decide)
  have n2 := form_ne h 2 (by decide)
  have n3 := form_ne h 3 (by decide)
  have n4 := form_ne h 4 (by decide)
  have n5 := form_ne h 5 (by decide)
  have n10 := form_ne h 10 (by decide)
  have n11 := form_ne h 11 (by decide)
  have n12 := form_ne h 12 (by decide)
  have n13 := form_ne h 13 (by decide)
  have n14 := form_ne h 14 (by decide)
  have n15 := form_ne h 15 (by decide)
  have n16 := form_ne h 16 (by decide)
  have n17 := form_ne h 17 (by decide)
  have n18 := form_ne h 18 (by decide)
  have n19 := form_ne h 19 (by decide)
  have n20 := form_ne h 20 (by decide)
  have n21 := form_ne h 21 (by decide)
  have n22 := form_ne h 22 (by decide)
  have n23 := form_ne h 23 (by decide)
  have n24 := form_ne h 24 (by decide)
  have n30 := form_ne h 30 (by decide)
  have n31 := form_ne h 31 (by decide)
  have n32 := form_ne h 32 (by decide)
  have n33 := form_ne h 33 (by decide)
  have n34 := form_ne h 34 (by decide)
  have n35 := form_ne h 35 (by decide)
  have n40 := form_ne h 40 (by decide)
  have n41 := form_ne h 41 (by decide)
  have n42 := form_ne h 42 (by decide)
  have n43 := form_ne h 43 (by decide)
  have n44 := form_ne h 44 (by decide)
  have n45 := form_ne h 45 (by decide)
  have n46 := form_ne h 46 (by decide)
  have n60 := form_ne h 60 (by decide)
  clear h
  go_enter Try.func142, Try.ntmps142
  go_wp2_with fail
  go_ret2
  exact ⟨rfl, rfl⟩

theorem widths_some (op : Int) (nm : ByteArray) (k : Int) (w : World) (h : formOf op = some (nm, k)) :
    Calls Try.prog 142 #[.int .u8 op] w fun e w' => ∃ A c, e = .returned (.tuple #[.slice A (widthsK k).length c, .bool true]) ∧ IntsAt w' A (widthsK k) ∧ Below w.heap.size w w' := by
  have hm := form_mem h
  clear h
  have hall : ∀ q ∈ formsL, (q.2.2 = 0 ∧ (q.1 = 2 ∨ q.1 = 3 ∨ q.1 = 10 ∨ q.1 = 11 ∨ q.1 = 12 ∨ q.1 = 13 ∨ q.1 = 14 ∨ q.1 = 15 ∨ q.1 = 16 ∨ q.1 = 17 ∨ q.1 = 18 ∨ q.1 = 19 ∨ q.1 = 20 ∨ q.1 = 21 ∨ q.1 = 22 ∨ q.1 = 23 ∨ q.1 = 34 ∨ q.1 = 35 ∨ q.1 = 40 ∨ q.1 = 42 ∨ q.1 = 43 ∨ q.1 = 44)) ∨ (q.2.2 = 1 ∧ (q.1 = 4 ∨ q.1 = 5 ∨ q.1 = 24 ∨ q.1 = 41 ∨ q.1 = 46 ∨ q.1 = 60)) ∨ (q.2.2 = 2 ∧ (q.1 = 1 ∨ q.1 = 30 ∨ q.1 = 31 ∨ q.1 = 33 ∨ q.1 = 45)) ∨ (q.2.2 = 3 ∧ (q.1 = 32)) := by unfold formsL; simp
  rcases hall _ hm with ⟨h, h2⟩ | ⟨h, h2⟩ | ⟨h, h2⟩ | ⟨h, h2⟩ <;> simp only at h h2 <;> subst h
  · exact widths0 op w h2
  · exact widths1 op w h2
  · exact widths2 op w h2
  · exact widths3 op w h2
end Go.Proofs.Ytggibiodeecljaa
namespace Go.Proofs.Ytggibiodeecljaa
open Go.RowKit
set_option linter.unusedVariables false

theorem widthsK_in {k : Int} (hk : k = 0 ∨ k = 1 ∨ k = 2 ∨ k = 3) : (widthsK k).length ≤ 3 ∧ (∀ x ∈ widthsK k, x = 1 ∨ x = 2) ∧ (widthsK k).sum = sizeK k ∧ 0 ≤ sizeK k ∧ sizeK k ≤ 4 := by
  rcases hk with rfl | rfl | rfl | rfl <;> decide
theorem drop_head {l : List Int} {j : Nat} {x : Int} (h : l[j]? = some x) : l.drop j = x :: l.drop (j + 1) := by
  obtain ⟨h2, h3⟩ := List.getElem?_eq_some_iff.1 h
  rw [List.drop_eq_getElem_cons h2, h3]

set_option maxRecDepth 100000 in
set_option maxHeartbeats 1000000 in
theorem size16_none (op : Int) (w : World) (hf : formOf op = none) : Calls Try.prog 99 #[.int .u8 op] w fun e w' => e = .returned (.int .i64 0) ∧ Below w.heap.size w w' := by
  have HF := Lib.hid hf
  clear hf
  go_enter Try.func99, Try.ntmps99
  go_wp2_with fail
  refine (widths_none op _ HF.out).mono ?_
  rintro e w1 ⟨rfl, rfl⟩
  go_wp2_with fail
  go_ret
  exact ⟨rfl, Below.refl _ _⟩
set_option maxRecDepth 100000 in
set_option maxHeartbeats 1000000 in
theorem size16_some (op : Int) (nm : ByteArray) (k : Int) (w : World) (hf : formOf op = some (nm, k)) : Calls Try.prog 99 #[.int .u8 op] w fun e w' => e = .returned (.int .i64 (1 + sizeK k)) ∧ Below w.heap.size w w' := by
  obtain ⟨h3, hin, hsum, hs0, hs1⟩ := widthsK_in (form_kind hf)
  have hws := fun wx => widths_some op nm k wx hf
  obtain ⟨ws, hw⟩ : ∃ ws, ws = widthsK k := ⟨_, rfl⟩
  rw [← hw] at h3 hin hsum
  simp only [← hw] at hws
  obtain ⟨n, hn⟩ : ∃ n, ws.length = n := ⟨_, rfl⟩
  rw [hn] at h3
  simp only [hn] at hws
  have HW := Lib.hid hws
  have HI := Lib.hid hin
  have HS := Lib.hid hsum
  have HN := Lib.hid hn
  clear hws hin hsum hn hw hf
  go_enter Try.func99, Try.ntmps99
  go_wp2_with fail
  refine (HW.out _).mono ?_
  rintro e w1 ⟨A, c, rfl, hA, hb⟩
  have HB := Lib.hid hb
  have HA := Lib.hid hA
  clear hb hA
  go_wp2_with fail
  go_loop [5, 6] (fun s i => ∃ (j : Nat) (S : Int), j ≤ n ∧ 1 ≤ S ∧ S ≤ 1 + 2 * j ∧ Hid (S + (ws.drop j).sum = 1 + sizeK k) ∧ s = .int .i64 S ∧ i = .int .i64 j) (fun _ i => n - (intOf i).toNat)
  case atStart => exact ⟨0, 1, by omega, by omega, by omega, by rw [List.drop_zero]; exact congrArg (1 + ·) HS.out, rfl, rfl⟩
  case round =>
    obtain ⟨j, S, hj, hS0, hS1, H, rfl, rfl⟩ := hrel
    by_cases hlt : j < n
    · obtain ⟨x, hx⟩ : ∃ x, ws[j]? = some x := ⟨_, List.getElem?_eq_getElem (by rw [HN.out]; exact hlt)⟩
      obtain ⟨b, off, rfl, hbl, hc⟩ := HA.out j x hx
      have hx12 := HI.out x (List.mem_of_getElem? hx)
      have hH := H.out
      rw [drop_head hx, List.sum_cons] at hH
      have HH := Lib.hid hH
      clear hH hx
      go_wp2_with fail
      go_round
      case rel => exact ⟨j + 1, S + x, by omega, by omega, by omega, by have := HH.out; show S + x + _ = _; omega, by go_num, by go_num⟩
      case measure => (simp [intOf]; try omega)
    · have hfin : S = 1 + sizeK k := by
        have := H.out
        rw [List.drop_of_length_le (by rw [HN.out]; omega)] at this
        simpa using this
      have HF := Lib.hid hfin
      clear hfin
      go_wp2_with fail
      go_ret
      exact ⟨by rw [HF.out]; rfl, HB.out⟩
theorem size16_any (op : Int) (w : World) : Calls Try.prog 99 #[.int .u8 op] w fun e w' => e = .returned (.int .i64 (sizeI op)) ∧ Below w.heap.size w w' := by
  unfold sizeI
  cases hf : formOf op with
  | none => exact size16_none op w hf
  | some p => exact size16_some op p.1 p.2 w hf

set_option maxRecDepth 100000 in
set_option maxHeartbeats 2000000 in
theorem instr_any (at_ op : Int) (A : Option Addr) (l : List Int) (c : Nat) (w : World) (hl : l.length ≤ 3) (hA : IntsAt w A l) :
    Calls Try.prog 143 #[.int .i64 at_, .int .u8 op, .slice A l.length c] w fun e w' => e = .returned (.agg #[.int .i64 at_, .int .u8 op, .int .i64 (l.getD 0 0), .int .i64 (l.getD 1 0), .int .i64 (l.getD 2 0)]) ∧ Below w.heap.size w w' := by
  rcases l with _ | ⟨a, _ | ⟨b, _ | ⟨d, _ | ⟨e, r⟩⟩⟩⟩
  · clear hA
    simp only [List.length_nil, List.getD_nil]
    go_enter Try.func143, Try.ntmps143
    go_wp2_with fail
    exact bodyPost_ret (v := .agg #[.int .i64 at_, .int .u8 op, .int .i64 0, .int .i64 0, .int .i64 0]) (by simp [results, Try.results143, go_sem]) rfl ⟨rfl, ((Below.refl _ _).alloc (Nat.le_refl _) _).alloc (by simp) _⟩
  · obtain ⟨b0, off, rfl, hb, h0⟩ := hA 0 a rfl
    clear hA
    simp only [Nat.add_zero] at h0
    simp only [List.length_cons, List.length_nil]
    go_enter Try.func143, Try.ntmps143
    go_wp2_with fail
    exact bodyPost_ret (v := .agg #[.int .i64 at_, .int .u8 op, .int .i64 a, .int .i64 0, .int .i64 0]) (by simp [results, Try.results143, go_sem]) rfl ⟨rfl, ((Below.refl _ _).alloc (Nat.le_refl _) _).alloc (by simp) _⟩
  · obtain ⟨b0, off, rfl, hb, h0⟩ := hA 0 a rfl
    obtain ⟨b1, off1, e1, _, h1⟩ := hA 1 b rfl
    injection e1 with e1
    injection e1 with e1 e2
    subst e1 e2
    clear hA
    simp only [Nat.add_zero] at h0
    simp only [List.length_cons, List.length_nil]
    go_enter Try.func143, Try.ntmps143
    go_wp2_with fail
    exact bodyPost_ret (v := .agg #[.int .i64 at_, .int .u8 op, .int .i64 a, .int .i64 b, .int .i64 0]) (by simp [results, Try.results143, go_sem]) rfl ⟨rfl, ((Below.refl _ _).alloc (Nat.le_refl _) _).alloc (by simp) _⟩
  · obtain ⟨b0, off, rfl, hb, h0⟩ := hA 0 a rfl
    obtain ⟨b1, off1, e1, _, h1⟩ := hA 1 b rfl
    injection e1 with e1
    injection e1 with e1 e2
    subst e1 e2
    obtain ⟨b1, off1, e1, _, h2⟩ := hA 2 d rfl
    injection e1 with e1
    injection e1 with e1 e2
    subst e1 e2
    clear hA
    simp only [Nat.add_zero] at h0
    simp only [List.length_cons, List.length_nil]
    go_enter Try.func143, Try.ntmps143
    go_wp2_with fail
    exact bodyPost_ret (v := .agg #[.int .i64 at_, .int .u8 op, .int .i64 a, .int .i64 b, .int .i64 d]) (by simp [results, Try.results143, go_sem]) rfl ⟨rfl, ((Below.refl _ _).alloc (Nat.le_refl _) _).alloc (by simp) _⟩
  · simp at hl
end Go.Proofs.Ytggibiodeecljaa
namespace Go.Proofs.Ytggibiodeecljaa
open Go.RowKit
set_option linter.unusedVariables false

/-- The operands' numbers, of so many bytes each, from a place on. -/
def numsM (l : List Int) : Nat → List Int → List Int
  | _, [] => []
  | k, w :: ws => (if w = 2 then 256 * l.getD k 0 + l.getD (k + 1) 0 else l.getD k 0) :: numsM l (k + w.toNat) ws
theorem sum_pos : ∀ {l : List Int}, (∀ x ∈ l, 0 ≤ x) → 0 ≤ l.sum
  | [], _ => by simp
  | x :: r, h => by
    rw [List.sum_cons]
    have := h x (by simp)
    have := sum_pos (l := r) fun y hy => h y (by simp [hy])
    omega
theorem numsM_len (l : List Int) : ∀ ws k, (numsM l k ws).length = ws.length
  | [], _ => rfl
  | w :: ws, k => by simp [numsM, numsM_len l ws]
theorem nums_at (l : List Int) (i : Nat) {k : Int} (hk : k = 0 ∨ k = 1 ∨ k = 2 ∨ k = 3) : (numsM l (i + 1) (widthsK k)).getD 0 0 = opA k l i ∧ (numsM l (i + 1) (widthsK k)).getD 1 0 = opB k l i ∧ (numsM l (i + 1) (widthsK k)).getD 2 0 = opC k l i := by
  rcases hk with rfl | rfl | rfl | rfl
  · exact ⟨rfl, rfl, rfl⟩
  · exact ⟨rfl, rfl, rfl⟩
  · refine ⟨?_, rfl, rfl⟩
    show 256 * l.getD (i + 1) 0 + l.getD (i + 1 + 1) 0 = l.getD (i + 1) 0 * 256 + l.getD (i + 2) 0
    rw [Int.mul_comm]
  · refine ⟨rfl, rfl, ?_⟩
    show 256 * l.getD (i + 1 + 1 + 1) 0 + l.getD (i + 1 + 1 + 1 + 1) 0 = l.getD (i + 3) 0 * 256 + l.getD (i + 4) 0
    rw [Int.mul_comm]
theorem info_i64 : (Try.prog.info? 3).map (fun i => (i.zero, i.size, i.bytes)) = some (some (.int .i64 0), 1, 8) := by kernel_rfl
theorem int_el : ElT Try.prog 153 3 1 8 := ⟨Try.underlying153, by decide, by
  obtain ⟨i0, hi, hz0, hz1, hz2⟩ := info_parts info_i64
  exact ⟨i0, _, hi, hz0, hz1, hz2, rfl⟩⟩
def intVals (l : List Int) : List Value := l.map (Value.int .i64)
theorem own_ints {w : World} {S n c : Nat} {A : Option Addr} {l : List Int} (h : w.ownsRow S 3 1 (.slice A n c) n (intVals l)) : IntsAt w A l ∧ l.length = n := by
  have h1 := h.1
  simp only [intVals, List.length_map, Nat.mul_one] at h1
  refine ⟨fun k x hk => ?_, h1⟩
  rcases h.2 with ⟨h2, h3⟩ | ⟨g, cap, cur, h2, h3, h4, _⟩
  · have := (List.getElem?_eq_some_iff.1 hk).1; omega
  · injection h2 with h2 _ _
    subst h2
    refine ⟨g, 0, rfl, (h.lt g rfl).2, ?_⟩
    have := h.cells rfl k (.int .i64 x) (by simp [intVals, hk])
    rw [← this]
    congr 1
    unfold Addr.add
    cases k <;> simp

set_option maxRecDepth 100000 in
set_option maxHeartbeats 4000000 in
theorem read16_any (A : Option Addr) (l : List Int) (cap : Nat) (at_ : Int) (w : World) (hl : l.length ≤ 1000000) (hb : BytesAt w A l) :
    Calls Try.prog 98 #[.slice A l.length cap, .int .i64 at_] w fun e w' => e = .returned (.tuple #[.agg (readM l at_).1.cells, .int .i64 (readM l at_).2]) ∧ Below w.heap.size w w' := by
  obtain ⟨n, hn⟩ : ∃ n, l.length = n := ⟨_, rfl⟩
  obtain ⟨W, hW⟩ : ∃ W, W = w.alloc (.cells #[.int .i64 0, .int .u8 0, .int .i64 0, .int .i64 0, .int .i64 0] 101) := ⟨_, rfl⟩
  have hBW : Below w.heap.size w W := by rw [hW]; exact (Below.refl _ _).alloc (Nat.le_refl _) _
  have hK : Blk W w.heap.size 101 #[.int .i64 0, .int .u8 0, .int .i64 0, .int .i64 0, .int .i64 0] := by rw [hW]; exact Blk.new _ _ _
  have hzW : w.heap.size < W.heap.size := by rw [hW]; simp
  obtain ⟨R, hR⟩ : ∃ R, R = readM l at_ := ⟨_, rfl⟩
  rw [← hR]
  rw [hn] at hl ⊢
  unfold readM at hR
  by_cases hout : at_ < 0 ∨ (n : Int) ≤ at_
  · rw [hn, if_pos hout] at hR
    subst hR
    have HW := Lib.hid hW
    have HB := Lib.hid hBW
    clear hW hBW hK hb hn
    by_cases h0 : at_ < 0
    · have hd : decide (at_ < 0) = true := by simp [h0]
      go_enter Try.func98, Try.ntmps98
      go_wp2_with fail
      exact bodyPost_ret (v := .tuple #[.agg #[.int .i64 0, .int .u8 0, .int .i64 0, .int .i64 0, .int .i64 0], .int .i64 1]) (by simp [results, Try.results98, go_sem]) rfl ⟨rfl, (Below.refl _ _).alloc (Nat.le_refl _) _⟩
    · have hd : decide (at_ < 0) = false := decide_eq_false (by omega)
      have h2 : (n : Int) ≤ at_ := by omega
      go_enter Try.func98, Try.ntmps98
      go_wp2_with fail
      exact bodyPost_ret (v := .tuple #[.agg #[.int .i64 0, .int .u8 0, .int .i64 0, .int .i64 0, .int .i64 0], .int .i64 1]) (by simp [results, Try.results98, go_sem]) rfl ⟨rfl, (Below.refl _ _).alloc (Nat.le_refl _) _⟩
  rw [hn, if_neg hout] at hR
  obtain ⟨i, hi⟩ := Int.eq_ofNat_of_zero_le (show 0 ≤ at_ by omega)
  subst hi
  rw [Int.toNat_natCast] at hR
  have hil : i < n := by omega
  have hgo : ∀ k, k < n → l[k]? = some (l.getD k 0) := fun k hk => by rw [List.getD_eq_getElem?_getD, List.getElem?_eq_getElem (by omega)]; rfl
  obtain ⟨b, off, rfl, hbl, hc⟩ := hb.at_ i _ (hgo i hil)
  have hcell : ∀ k, k < n → w.cell? ⟨b, off + k, none⟩ = some (.int .u8 (l.getD k 0)) ∧ 0 ≤ l.getD k 0 ∧ l.getD k 0 ≤ 255 := fun k hk => by
    obtain ⟨b2, off2, e, _, hc2⟩ := hb.at_ k _ (hgo k hk)
    injection e with e
    injection e with e1 e2
    subst e1 e2
    exact ⟨hc2, hb.byte _ (List.mem_of_getElem? (hgo k hk))⟩
  obtain ⟨op, hop⟩ : ∃ op, op = l.getD i 0 := ⟨_, rfl⟩
  rw [← hop] at hR hc
  have hiI : (i : Int) < n := by omega
  have hd : decide ((i : Int) < 0) = false := decide_eq_false (by omega)
  have hd2 : decide ((n : Int) ≤ i) = false := decide_eq_false (by omega)
  have hcW : W.cell? ⟨b, off + i, none⟩ = some (.int .u8 op) := (hBW.cell (p := ⟨b, off + i, none⟩) hbl).trans hc
  have hblW : b < W.heap.size := by omega
  have hsz := fun wx => size16_any op wx
  cases hf : formOf op with
  | none =>
    rw [hf] at hR
    simp only at hR
    subst hR
    have HF := Lib.hid hf
    have HW := Lib.hid hW
    have HB := Lib.hid hBW
    have HK := Lib.hid hK
    clear hf hW hBW hK hb hn hgo hcell hop hsz
    go_enter Try.func98, Try.ntmps98
    go_wp2_with fail
    refine (widths_none op _ HF.out).mono ?_
    rintro e w1 ⟨rfl, rfl⟩
    go_wp2_with fail
    exact bodyPost_ret (v := .tuple #[.agg #[.int .i64 0, .int .u8 0, .int .i64 0, .int .i64 0, .int .i64 0], .int .i64 40]) (by simp [results, Try.results98, go_sem]) rfl ⟨rfl, (Below.refl _ _).alloc (Nat.le_refl _) _⟩
  | some pk =>
    obtain ⟨nm, k⟩ := pk
    rw [hf] at hR
    simp only at hR
    have hkk := form_kind hf
    simp only at hkk
    obtain ⟨h3, hin, hsum, hs0, hs1⟩ := widthsK_in hkk
    have hsI : sizeI op = 1 + sizeK k := by unfold sizeI; rw [hf]
    simp only [hsI] at hsz
    have hws := fun wx => widths_some op nm k wx hf
    obtain ⟨hA0, hA1, hA2⟩ := nums_at l i hkk
    have hnl := numsM_len l (widthsK k) (i + 1)
    obtain ⟨ws, hw⟩ : ∃ ws, ws = widthsK k := ⟨_, rfl⟩
    obtain ⟨sk, hsk⟩ : ∃ sk, sk = sizeK k := ⟨_, rfl⟩
    obtain ⟨NS, hNS⟩ : ∃ NS, NS = numsM l (i + 1) ws := ⟨_, rfl⟩
    rw [← hsk] at hR hsum hs0 hs1
    simp only [← hsk] at hsz
    rw [← hw] at h3 hin hsum hnl hA0 hA1 hA2
    rw [← hNS] at hnl hA0 hA1 hA2
    simp only [← hw] at hws
    obtain ⟨wn, hwn⟩ : ∃ n, ws.length = n := ⟨_, rfl⟩
    rw [hwn] at h3 hnl
    simp only [hwn] at hws
    have HWS := Lib.hid hws
    have HSZ := Lib.hid hsz
    have HIN := Lib.hid hin
    have HSUM := Lib.hid hsum
    have HWN := Lib.hid hwn
    have HNS := Lib.hid hNS
    have HNL := Lib.hid hnl
    have HA := Lib.hid (And.intro hA0 (And.intro hA1 hA2))
    have HR := Lib.hid hR
    have HW := Lib.hid hW
    have HB := Lib.hid hBW
    have HK := Lib.hid hK
    have HC := Lib.hid hcell
    have HOP := Lib.hid hop
    clear hws hsz hin hsum hwn hNS hnl hA0 hA1 hA2 hR hW hBW hK hcell hop hb hn hgo hf hw hsk hsI
    go_enter Try.func98, Try.ntmps98
    go_wp2_with fail
    rw [← HW.out]
    refine (HWS.out _).mono ?_
    rintro e w1 ⟨A1, c1, rfl, hA1, hb1⟩
    have hz1 := hb1.size
    have hc1 : w1.cell? ⟨b, off + i, none⟩ = some (.int .u8 op) := (hb1.cell (p := ⟨b, off + i, none⟩) hblW).trans hcW
    have HA1 := Lib.hid hA1
    have HB1 := Lib.hid hb1
    clear hb1 hA1
    go_wp2_with fail
    refine (HSZ.out _).mono ?_
    rintro e w2 ⟨rfl, hb2⟩
    have hz2 := hb2.size
    have hB02 : Below w.heap.size w w2 := (HB.out.trans (HB1.out.mono (by omega))).trans (hb2.mono (by omega))
    have hK2 : Blk w2 w.heap.size 101 #[.int .i64 0, .int .u8 0, .int .i64 0, .int .i64 0, .int .i64 0] := (HK.out.below HB1.out hzW).below hb2 (by omega)
    have hc2 : w2.cell? ⟨b, off + i, none⟩ = some (.int .u8 op) := (hb2.cell (p := ⟨b, off + i, none⟩) (by show b < _; omega)).trans hc1
    have HA2 := Lib.hid (HA1.out.below hb2)
    have HB2 := Lib.hid hB02
    have HK2 := Lib.hid hK2
    clear hb2 hB02 hK2
    by_cases hcut : (n : Int) - i - 1 < sk
    · have hfin : R = (ins0, 41) := by rw [HR.out, if_pos hcut]
      subst hfin
      have f0 := HK2.out.frozen 0
      have f1 := HK2.out.frozen 1
      have f2 := HK2.out.frozen 2
      have f3 := HK2.out.frozen 3
      have f4 := HK2.out.frozen 4
      have e0 := HK2.out.cell 0
      have e1 := HK2.out.cell 1
      have e2 := HK2.out.cell 2
      have e3 := HK2.out.cell 3
      have e4 := HK2.out.cell 4
      have HFIN : Hid (Ending.returned (.tuple #[.agg #[.int .i64 0, .int .u8 0, .int .i64 0, .int .i64 0, .int .i64 0], .int .i64 41]) = Ending.returned (.tuple #[.agg ins0.cells, .int .i64 41])) := rfl
      go_wp2_with fail
      have s0 := HK2.out.set_ 0 (.int .i64 0)
      have s1 := s0.set_ 1 (.int .u8 0)
      have s2 := s1.set_ 2 (.int .i64 0)
      have s3 := s2.set_ 3 (.int .i64 0)
      have s4 := s3.set_ 4 (.int .i64 0)
      have c0 := s4.cell 0
      have c1 := s4.cell 1
      have c2 := s4.cell 2
      have c3 := s4.cell 3
      have c4 := s4.cell 4
      have hBB := (((((HB2.out.setCell (p := ⟨w.heap.size, 0, none⟩) (Nat.le_refl _) (.int .i64 0)).setCell (p := ⟨w.heap.size, 1, none⟩) (Nat.le_refl _) (.int .u8 0)).setCell (p := ⟨w.heap.size, 2, none⟩) (Nat.le_refl _) (.int .i64 0)).setCell (p := ⟨w.heap.size, 3, none⟩) (Nat.le_refl _) (.int .i64 0)).setCell (p := ⟨w.heap.size, 4, none⟩) (Nat.le_refl _) (.int .i64 0))
      clear s0 s1 s2 s3 s4
      exact bodyPost_ret (v := .tuple #[.agg #[.int .i64 0, .int .u8 0, .int .i64 0, .int .i64 0, .int .i64 0], .int .i64 41]) (by simp [results, Try.results98, go_sem, c0, c1, c2, c3, c4]) rfl ⟨HFIN.out, hBB⟩
    · have hfin : R = (⟨i, op, opA k l i, opB k l i, opC k l i⟩, 0) := by rw [HR.out, if_neg hcut]
      go_wp2_with fail
      go_loopw [8, 9, 10, 11] (fun lv kv iv _ wr => ∃ (j K : Nat) (nums : List Int), j ≤ wn ∧ nums.length = j ∧ iv = .int .i64 j ∧ kv = .int .i64 K ∧ i + 1 ≤ K ∧ K ≤ i + 1 + 2 * j ∧ Hid ((K : Int) + (ws.drop j).sum = i + 1 + sk) ∧ Hid (nums ++ numsM l K (ws.drop j) = NS) ∧
          wr.ownsRow w2.heap.size 3 1 lv j (intVals nums) ∧ Below w2.heap.size w2 wr)
        (fun _ _ iv _ _ => wn - (intOf iv).toNat)
      case atStart => exact ⟨0, i + 1, [], by omega, rfl, rfl, by go_num, by omega, by omega, by rw [List.drop_zero]; have := HSUM.out; show ((i + 1 : Nat) : Int) + _ = _; omega, by rw [List.drop_zero]; exact HNS.out.symm, World.ownsRow_nil _ _ _ _, Below.refl _ _⟩
      case round =>
        obtain ⟨j, K, nums, hj, hnl2, rfl, rfl, hK0, hK1, HS1, HN1, hown, hbr⟩ := hrel
        obtain ⟨A8, c8, rfl⟩ := own_form hown
        have HO := Lib.hid hown
        have HBR := Lib.hid hbr
        have hzr := hbr.size
        have hbr : Below w.heap.size w wr := HB2.out.trans (hbr.mono (by omega))
        clear hown
        by_cases hlt : j < wn
        · obtain ⟨x, hx⟩ : ∃ x, ws[j]? = some x := ⟨_, List.getElem?_eq_getElem (by rw [HWN.out]; exact hlt)⟩
          obtain ⟨b1, off1, rfl, hb1l, hx0⟩ := HA2.out j x hx
          have hx1 : wr.cell? ⟨b1, off1 + j, none⟩ = some (.int .i64 x) := (HBR.out.cell (p := ⟨b1, _, none⟩) hb1l).trans hx0
          have hx12 := HIN.out x (List.mem_of_getElem? hx)
          have hs2 := HS1.out
          have hn2 := HN1.out
          rw [drop_head hx, List.sum_cons] at hs2
          rw [drop_head hx, numsM] at hn2
          have hnn : 0 ≤ (ws.drop (j + 1)).sum := sum_pos fun y hy => by have := HIN.out y (List.mem_of_mem_drop hy); omega
          obtain ⟨d1, d10, d11⟩ := HC.out K (by omega)
          have d1 : wr.cell? ⟨b, off + K, none⟩ = some (.int .u8 (l.getD K 0)) := (hbr.cell (p := ⟨b, _, none⟩) hbl).trans d1
          have hKn : (K : Int) < n := by omega
          have HX0 := Lib.hid hx0
          clear hx hx0
          rcases hx12 with rfl | rfl
          · rw [if_neg (by decide)] at hn2
            have HS2 := Lib.hid hs2
            have HN2 := Lib.hid hn2
            have hs3 := hs2
            clear hs2 hn2
            obtain ⟨v, hv⟩ : ∃ v, v = l.getD K 0 := ⟨_, rfl⟩
            rw [← hv] at d1 d10 d11
            have HV := Lib.hid hv
            clear hv
            clear hbr
            go_wp2_with (at_builtin; go_loud (refine wpList_append1 int_el rfl _ _ rfl w2.heap.size wr [.int .i64 (v)] rfl _ _ _ rfl HO.out rfl rfl (by simp [Value.oneCell']) (by unfold maxLen; omega) (by omega) (by omega) ?_; intro v3 w3 hown3 hg3; obtain ⟨A7, c7, rfl⟩ := own_form hown3; have qb := Below.of_own HBR.out HO.out hg3 (Nat.le_refl _) (by omega); have q1 := (qb.cell (p := ⟨b1, off1 + j, none⟩) hb1l).trans HX0.out; have QO := Lib.hid hown3; have QB := Lib.hid qb; have hz3 := hg3.size; clear hown3 qb hg3))
            go_roundw
            case rel =>
              refine ⟨j + 1, K + 1, nums ++ [v], by omega, by simp [hnl2], by go_num, by go_num, by omega, by omega, ?_, ?_, ?_, QB.out⟩
              · have := HS2.out; show ((K + 1 : Nat) : Int) + _ = _; omega
              · have := HN2.out
                rw [List.append_assoc]
                rw [HV.out]
                exact this
              · have e : intVals (nums ++ [v]) = intVals nums ++ [.int .i64 (v)] := by simp [intVals]
                rw [e]
                exact QO.out
            case measure => (simp [intOf]; try omega)
          · rw [if_pos rfl] at hn2
            have HS2 := Lib.hid hs2
            have HN2 := Lib.hid hn2
            have hs3 := hs2
            clear hs2 hn2
            obtain ⟨v, hv⟩ : ∃ v, v = l.getD K 0 := ⟨_, rfl⟩
            rw [← hv] at d1 d10 d11
            have HV := Lib.hid hv
            clear hv
            obtain ⟨e1, e10, e11⟩ := HC.out (K + 1) (by omega)
            have e1' : wr.cell? ⟨b, off + (K + 1), none⟩ = some (.int .u8 (l.getD (K + 1) 0)) := (hbr.cell (p := ⟨b, _, none⟩) hbl).trans e1
            obtain ⟨v2, hv2⟩ : ∃ v, v = l.getD (K + 1) 0 := ⟨_, rfl⟩
            rw [← hv2] at e1' e10 e11
            have HV2 := Lib.hid hv2
            have hK1 : ((K : Int) + 1) < n := by omega
            clear e1 hv2
            clear hbr
            go_wp2_with (at_builtin; go_loud (refine wpList_append1 int_el rfl _ _ rfl w2.heap.size wr [.int .i64 (256 * v + v2)] rfl _ _ _ rfl HO.out rfl rfl (by simp [Value.oneCell']) (by unfold maxLen; omega) (by omega) (by omega) ?_; intro v3 w3 hown3 hg3; obtain ⟨A7, c7, rfl⟩ := own_form hown3; have qb := Below.of_own HBR.out HO.out hg3 (Nat.le_refl _) (by omega); have q1 := (qb.cell (p := ⟨b1, off1 + j, none⟩) hb1l).trans HX0.out; have QO := Lib.hid hown3; have QB := Lib.hid qb; have hz3 := hg3.size; clear hown3 qb hg3))
            go_roundw
            case rel =>
              refine ⟨j + 1, K + 2, nums ++ [256 * v + v2], by omega, by simp [hnl2], by go_num, by go_num, by omega, by omega, ?_, ?_, ?_, QB.out⟩
              · have := HS2.out; show ((K + 2 : Nat) : Int) + _ = _; omega
              · have := HN2.out
                rw [List.append_assoc]
                rw [HV.out, HV2.out]
                exact this
              · have e : intVals (nums ++ [256 * v + v2]) = intVals nums ++ [.int .i64 (256 * v + v2)] := by simp [intVals]
                rw [e]
                exact QO.out
            case measure => (simp [intOf]; try omega)
        · have hnums : nums = NS := by
            have := HN1.out
            rw [List.drop_of_length_le (by rw [HWN.out]; omega), numsM, List.append_nil] at this
            exact this
          subst hnums
          obtain ⟨hI8, _⟩ := own_ints HO.out
          have hins := instr_any i op A8 nums c8 wr (by omega) hI8
          rw [hnl2] at hins
          have hc1r : wr.cell? ⟨b, off + i, none⟩ = some (.int .u8 op) := (HBR.out.cell (p := ⟨b, off + i, none⟩) (by show b < _; omega)).trans hc2
          have hKr := HK2.out.below HBR.out (by omega)
          have hHI := Lib.hid hins
          have HKR := Lib.hid hKr
          have HBW := Lib.hid hbr
          clear hins hKr hbr hI8
          go_wp2_with fail
          refine hHI.out.mono ?_
          rintro e w3 ⟨rfl, hb3⟩
          have hK3 := HKR.out.below hb3 (by omega)
          have hz3 := hb3.size
          have hB3 := HBW.out.trans (hb3.mono (by omega))
          have f0 := hK3.frozen 0
          have f1 := hK3.frozen 1
          have f2 := hK3.frozen 2
          have f3 := hK3.frozen 3
          have f4 := hK3.frozen 4
          have e0 := hK3.cell 0
          have e1 := hK3.cell 1
          have e2 := hK3.cell 2
          have e3 := hK3.cell 3
          have e4 := hK3.cell 4
          obtain ⟨ha0, ha1, ha2⟩ := HA.out
          rw [ha0, ha1, ha2]
          have HFIN : Hid (Ending.returned (.tuple #[.agg #[.int .i64 i, .int .u8 op, .int .i64 (opA k l i), .int .i64 (opB k l i), .int .i64 (opC k l i)], .int .i64 0]) = Ending.returned (.tuple #[.agg R.1.cells, .int .i64 R.2])) := by rw [hfin]; rfl
          have HB3 := Lib.hid hB3
          have HK3 := Lib.hid hK3
          clear hB3 hK3 hfin ha0 ha1 ha2
          obtain ⟨va, hva⟩ : ∃ v, opA k l i = v := ⟨_, rfl⟩
          obtain ⟨vb, hvb⟩ : ∃ v, opB k l i = v := ⟨_, rfl⟩
          obtain ⟨vc, hvc⟩ : ∃ v, opC k l i = v := ⟨_, rfl⟩
          rw [hva, hvb, hvc] at HFIN ⊢
          clear hva hvb hvc
          go_wp2_with fail
          have s0 := HK3.out.set_ 0 (.int .i64 i)
          have s1 := s0.set_ 1 (.int .u8 op)
          have s2 := s1.set_ 2 (.int .i64 va)
          have s3 := s2.set_ 3 (.int .i64 vb)
          have s4 := s3.set_ 4 (.int .i64 vc)
          have c0 := s4.cell 0
          have c1 := s4.cell 1
          have c2 := s4.cell 2
          have c3 := s4.cell 3
          have c4 := s4.cell 4
          have hBB := (((((HB3.out.setCell (p := ⟨w.heap.size, 0, none⟩) (Nat.le_refl _) (.int .i64 i)).setCell (p := ⟨w.heap.size, 1, none⟩) (Nat.le_refl _) (.int .u8 op)).setCell (p := ⟨w.heap.size, 2, none⟩) (Nat.le_refl _) (.int .i64 va)).setCell (p := ⟨w.heap.size, 3, none⟩) (Nat.le_refl _) (.int .i64 vb)).setCell (p := ⟨w.heap.size, 4, none⟩) (Nat.le_refl _) (.int .i64 vc))
          clear s0 s1 s2 s3 s4
          exact bodyPost_ret (v := .tuple #[.agg #[.int .i64 i, .int .u8 op, .int .i64 va, .int .i64 vb, .int .i64 vc], .int .i64 0]) (by simp [results, Try.results98, go_sem, c0, c1, c2, c3, c4]) rfl ⟨HFIN.out, hBB⟩
end Go.Proofs.Ytggibiodeecljaa
namespace Go.Proofs.Ytggibiodeecljaa
open Go.RowKit
set_option linter.unusedVariables false

theorem readM_size {l : List Int} {at_ : Nat} {xa xo xA xB xC : Int} (h : readM l at_ = (⟨xa, xo, xA, xB, xC⟩, 0)) : 1 ≤ sizeI xo := by
  unfold readM at h
  split at h
  · injection h with _ h; cases h
  · split at h
    · injection h with _ h; cases h
    · rename_i p hp
      split at h
      · injection h with _ h; cases h
      · injection h with h _
        injection h with _ h _ _ _
        subst h
        unfold sizeI
        rw [hp]
        have := (widthsK_in (form_kind hp)).2.2.2.1
        simp only
        omega
set_option maxRecDepth 100000 in
set_option maxHeartbeats 2000000 in
theorem all16_any (A : Option Addr) (l : List Int) (cap : Nat) (w : World) (hl : l.length ≤ 1000000) (hb : BytesAt w A l) :
    Calls Try.prog 63 #[.slice A l.length cap] w fun e w' => ∃ v, e = .returned (.tuple #[v, .int .i64 (allM l l.length 0 []).2.1, .int .i64 (allM l l.length 0 []).2.2]) ∧
      w'.ownsRow w.heap.size 101 5 v (allM l l.length 0 []).1.length (insVals (allM l l.length 0 []).1) ∧ Below w.heap.size w w' := by
  obtain ⟨R, hR⟩ : ∃ R, R = allM l l.length 0 [] := ⟨_, rfl⟩
  rw [← hR]
  obtain ⟨n, hn⟩ : ∃ n, l.length = n := ⟨_, rfl⟩
  have hrd := fun (k : Nat) wx (hx : BytesAt wx A l) => read16_any A l cap k wx hl hx
  rw [hn] at hl hR hrd ⊢
  have HR := Lib.hid hR
  have HN := Lib.hid hn
  have HB := Lib.hid hb
  have HRD := Lib.hid hrd
  clear hR hn hb hrd
  go_enter Try.func63, Try.ntmps63
  go_wp2_with fail
  go_loopw [5, 6, 7, 8] (fun lv iv _ _ wr => ∃ (f at_ : Nat) (acc : List Ins), n ≤ at_ + f ∧ at_ ≤ n + 10 ∧ acc.length ≤ at_ ∧ iv = .int .i64 at_ ∧ Hid (R = allM l f at_ acc) ∧ wr.ownsRow w.heap.size 101 5 lv acc.length (insVals acc) ∧ Below w.heap.size w wr)
    (fun _ iv _ _ _ => n - (intOf iv).toNat)
  case atStart => exact ⟨n, 0, [], by omega, by omega, by simp, rfl, HR, World.ownsRow_nil _ _ _ _, Below.refl _ _⟩
  case round =>
    obtain ⟨f, at_, acc, hf, hat, hacc, rfl, HR', hown, hbel⟩ := hrel
    obtain ⟨al, hal⟩ : ∃ al, acc.length = al := ⟨_, rfl⟩
    rw [hal] at hown hacc
    obtain ⟨A5, c5, rfl⟩ := own_form hown
    by_cases hlt : at_ < n
    · have hfp : ∃ f', f = f' + 1 := ⟨f - 1, by omega⟩
      obtain ⟨f', rfl⟩ := hfp
      have hbt := HB.out.below hbel
      have hR1 := HR'.out
      rw [allM, if_neg (by rw [HN.out]; omega)] at hR1
      obtain ⟨xa, xo, xA, xB, xC, er, hre⟩ : ∃ xa xo xA xB xC er, readM l at_ = (⟨xa, xo, xA, xB, xC⟩, er) := ⟨_, _, _, _, _, _, rfl⟩
      obtain ⟨x, hx⟩ : ∃ x : Ins, x = ⟨xa, xo, xA, xB, xC⟩ := ⟨_, rfl⟩
      have HX := Lib.hid hx
      rw [hre] at hR1
      simp only at hR1
      have hread := HRD.out at_ wr hbt
      rw [hre] at hread
      simp only [Ins.cells] at hread
      have hsb := sizeI_bd xo
      have hsi := fun wx => size16_any xo wx
      have hs1 : er = 0 → 1 ≤ sizeI xo := fun h => by subst h; exact readM_size hre
      obtain ⟨si, hsi2⟩ : ∃ s, s = sizeI xo := ⟨_, rfl⟩
      rw [← hsi2] at hs1
      have HS1 := Lib.hid hs1
      clear hs1
      rw [← hx, ← hsi2] at hR1
      rw [← hsi2] at hsb
      simp only [← hsi2] at hsi
      obtain ⟨hs0, hs1⟩ := hsb
      have HR1 := Lib.hid hR1
      have HREAD := Lib.hid hread
      have HSI := Lib.hid hsi
      have HAL := Lib.hid hal
      have HOWN := Lib.hid hown
      have HBEL := Lib.hid hbel
      clear hR1 hread hsi hsi2 hal hown hbel hbt hre hx
      by_cases her : er = 0
      · subst her
        have hsi1 : 1 ≤ si := HS1.out rfl
        have hnx : R = allM l f' (at_ + (max 1 si).toNat) (acc ++ [x]) := by
          have := HR1.out
          rw [if_pos rfl] at this
          exact this
        have HNX := Lib.hid hnx
        clear hnx
        go_wp2_with fail
        refine HREAD.out.mono ?_
        rintro e w1 ⟨rfl, hb1⟩
        have hown1 := ((Frm.of_below (B := 0) (T := []) hb1 (Nat.zero_le _)).own HOWN.out (by simp)).alloc (.cells #[.int .i64 xa, .int .u8 xo, .int .i64 xA, .int .i64 xB, .int .i64 xC] 101)
        have hz1 := hb1.size
        have hzw := HBEL.out.size
        have HO1 := Lib.hid hown1
        have HB1 := Lib.hid ((HBEL.out.trans (hb1.mono hzw)).alloc (by omega) (.cells #[.int .i64 xa, .int .u8 xo, .int .i64 xA, .int .i64 xB, .int .i64 xC] 101))
        clear hb1 hown1
        have hgl : ∀ g, (Value.slice A5 al c5).ownBlock = some g → g < w1.heap.size := fun g hg => by
          have h1 := (HOWN.out.lt g hg).2
          omega
        have hbx := Blk.new w1 101 #[.int .i64 xa, .int .u8 xo, .int .i64 xA, .int .i64 xB, .int .i64 xC]
        have HGL := Lib.hid hgl
        have HBX := Lib.hid hbx
        clear hgl hbx
        go_wp2_with (at_builtin; go_loud (refine wpList_append1 insEl rfl _ _ rfl w.heap.size (w1.alloc (.cells #[.int .i64 xa, .int .u8 xo, .int .i64 xA, .int .i64 xB, .int .i64 xC] 101)) [.int .i64 xa, .int .u8 xo, .int .i64 xA, .int .i64 xB, .int .i64 xC] rfl _ _ _ rfl HO1.out (by rw [World.size_alloc]; rfl) rfl (by simp [Value.oneCell']) (by unfold maxLen; omega) (by omega) (by simp; omega) ?_; intro v2 w2 hown2 hg2; have hbx2 := HBX.out.grown hg2 (by intro e; have := HGL.out _ e.symm; omega); have x1 := hbx2.cell 1; have HOWN2 := Lib.hid hown2; have HG2 := Lib.hid hg2; clear hown2 hg2 hbx2))
        refine (HSI.out _).mono ?_
        rintro e w3 ⟨rfl, hb3⟩
        have hown3 := (Frm.of_below (B := 0) (T := []) hb3 (Nat.zero_le _)).own HOWN2.out (by simp)
        have hzz : w.heap.size ≤ (w1.alloc (.cells #[.int .i64 xa, .int .u8 xo, .int .i64 xA, .int .i64 xB, .int .i64 xC] 101)).heap.size := by simp; omega
        have hbel3 := (Below.of_own HB1.out HO1.out HG2.out (Nat.le_refl _) hzz)
        have hz2 := HG2.out.size
        simp only [World.size_alloc] at hz2
        have HB3 := Lib.hid (hbel3.trans (hb3.mono (by omega)))
        have HOWN3 := Lib.hid hown3
        clear hb3 hown3 hbel3
        go_wp2_with fail
        all_goals go_roundw
        case rel =>
          have hm : (at_ : Int) + si = ((at_ + (max 1 si).toNat : Nat) : Int) := by omega
          refine ⟨f', at_ + (max 1 si).toNat, acc ++ [x], by omega, by omega, by rw [List.length_append, HAL.out]; simp; omega, by rw [hm], HNX.out, ?_, HB3.out⟩
          have e1 : (acc ++ [x]).length = al + 1 := by rw [List.length_append, HAL.out]; rfl
          rw [e1, insVals_snoc, HX.out]
          exact HOWN3.out
        case measure => (simp [intOf]; try omega)
      · have herr : (er == 0) = false := beq_false_of her
        have hfin : R = ([], er, (at_ : Int)) := by
          have := HR1.out
          rw [if_neg her] at this
          exact this
        have HFIN := Lib.hid hfin
        clear hfin her
        go_wp2_with fail
        refine HREAD.out.mono ?_
        rintro e w1 ⟨rfl, hb1⟩
        have hb2 := HBEL.out.trans (hb1.mono HBEL.out.size)
        have HB2 := Lib.hid hb2
        clear hb1 hb2
        go_wp2_with fail
        go_ret3
        refine ⟨_, by rw [HFIN.out]; rfl, ?_, HB2.out.alloc HB2.out.size _⟩
        rw [HFIN.out]
        exact World.ownsRow_nil _ _ _ _
    · have hfin : R = (acc, 0, 0) := by
        have := HR'.out
        cases f with
        | zero => exact this
        | succ f' =>
          rw [allM, if_pos (by rw [HN.out]; omega)] at this
          exact this
      have HFIN := Lib.hid hfin
      have HOWN := Lib.hid hown
      have HAL := Lib.hid hal
      have HBEL := Lib.hid hbel
      clear hfin hown hal hbel
      go_wp2_with fail
      go_ret3
      refine ⟨_, by rw [HFIN.out]; rfl, ?_, HBEL.out⟩
      rw [HFIN.out]
      simp only
      rw [HAL.out]
      exact HOWN.out
end Go.Proofs.Ytggibiodeecljaa
namespace Go.Proofs.Ytggibiodeecljaa
open Go.RowKit

def costR (which number c : Int) : Int := if (which = 0 ∧ number = 10) ∨ (which = 1 ∧ number = 4) ∨ (which = 2 ∧ number = 8) then 1 + c else 1
def costI (x : Ins) (c : Int) : Int := if x.op = 46 then costR 0 x.a c else if x.op = 44 then costR 1 4 c else if x.op = 60 then costR 2 x.a c else 1
def targetI (x : Ins) : Option Int := if x.op = 30 ∨ x.op = 31 ∨ x.op = 33 then some x.a else if x.op = 32 then some x.c else none
def stopI (x : Ins) : Bool := x.op == 30 || x.op == 34 || x.op == 35
def placeM : List Ins → Int → Option Nat
  | [], _ => none
  | x :: r, tg => if x.at_ = tg then some 0 else (placeM r tg).map (· + 1)
def ownI (x : Ins) (bs : List Int) : Int := if stopI x = true then 0 else bs.headD 0
def bestM (c : Int) : List Ins → Option (List Int)
  | [] => some []
  | x :: r => match bestM c r with
    | none => none
    | some bs => match targetI x with
      | none => some (gadd (costI x c) (ownI x bs) :: bs)
      | some tg => match placeM r tg with
        | none => none
        | some k => some (gadd (costI x c) (max (ownI x bs) (bs.getD k 0)) :: bs)
def codeM (l : List Int) (c : Int) : Int × Bool :=
  if (allM l l.length 0 []).2.1 ≠ 0 ∨ c < 1 ∨ 256 < c then (0, false)
  else match bestM c (allM l l.length 0 []).1 with
    | none => (0, false)
    | some bs => (bs.headD 0, true)

theorem costR_gas {which number c : Int} (h0 : 1 ≤ c) (h1 : c ≤ 256) : 1 ≤ costR which number c ∧ costR which number c ≤ 257 := by unfold costR; split <;> omega
theorem costI_gas {x : Ins} {c : Int} (h0 : 1 ≤ c) (h1 : c ≤ 256) : 1 ≤ costI x c ∧ costI x c ≤ 257 := by
  unfold costI
  split
  · exact costR_gas h0 h1
  split
  · exact costR_gas h0 h1
  split
  · exact costR_gas h0 h1
  · omega
theorem bestM_facts {c : Int} (h0 : 1 ≤ c) (h1 : c ≤ 256) : ∀ (l : List Ins) (bs : List Int), bestM c l = some bs → bs.length = l.length ∧ ∀ x ∈ bs, IsGas x
  | [], bs, h => by injection h with h; subst h; exact ⟨rfl, fun x hx => by simp at hx⟩
  | x :: r, bs, h => by
    unfold bestM at h
    cases hb : bestM c r with
    | none => rw [hb] at h; cases h
    | some b2 =>
      obtain ⟨i1, i2⟩ := bestM_facts h0 h1 r b2 hb
      have hc := costI_gas (x := x) h0 h1
      have hcg : IsGas (costI x c) := by unfold IsGas maxB; omega
      have hg0 : ∀ k, IsGas (b2.getD k 0) := getD_gas i2
      have hh : IsGas (ownI x b2) := by
        unfold ownI
        split
        · exact zero_gas
        · have := hg0 0
          cases b2 <;> simpa using this
      rw [hb] at h
      simp only at h
      split at h
      · injection h with h
        subst h
        refine ⟨by simp [i1], fun y hy => ?_⟩
        rcases List.mem_cons.1 hy with rfl | hy
        · exact gadd_gas hcg hh.1
        · exact i2 y hy
      · split at h
        · cases h
        · rename_i k hk
          injection h with h
          subst h
          refine ⟨by simp [i1], fun y hy => ?_⟩
          rcases List.mem_cons.1 hy with rfl | hy
          · have := hg0 k
            exact gadd_gas hcg (by unfold IsGas at *; omega)
          · exact i2 y hy
theorem bestM_none {c : Int} : ∀ (i : Nat) (l : List Ins), bestM c (l.drop i) = none → bestM c l = none
  | 0, l, h => h
  | i + 1, [], h => by simp [bestM] at h
  | i + 1, x :: r, h => by
    have := bestM_none i r (by simpa using h)
    unfold bestM
    rw [this]

theorem placeM_none {r : List Ins} {tg : Int} (h : ∀ y ∈ r, tg < y.at_) : placeM r tg = none := by
  induction r with
  | nil => rfl
  | cons y r ih =>
    unfold placeM
    have h1 := h y (by simp)
    rw [if_neg (by omega), ih fun z hz => h z (by simp [hz])]
    rfl
theorem placeM_lt : ∀ {r : List Ins} {tg : Int} {k : Nat}, placeM r tg = some k → k < r.length
  | [], _, _, h => by cases h
  | y :: r, tg, k, h => by
    unfold placeM at h
    split at h
    · injection h with h; subst h; simp
    · rw [Option.map_eq_some_iff] at h
      obtain ⟨q, hq, rfl⟩ := h
      have := placeM_lt hq
      simp; omega
def Rises (l : List Ins) : Prop := l.Pairwise fun a b => a.at_ < b.at_
/-- The place in the whole, and in what stands behind. -/
theorem place_split : ∀ (i : Nat) (l : List Ins) (tg : Int), Rises l → i < l.length →
    (placeM l tg = none ∧ placeM (l.drop (i + 1)) tg = none) ∨ ∃ k, placeM l tg = some k ∧ ((k ≤ i ∧ placeM (l.drop (i + 1)) tg = none) ∨ (i < k ∧ placeM (l.drop (i + 1)) tg = some (k - (i + 1))))
  | i, [], _, _, h => by simp at h
  | 0, x :: r, tg, hr, _ => by
    rw [Rises, List.pairwise_cons] at hr
    have e : (x :: r).drop (0 + 1) = r := rfl
    rw [e]
    show (placeM (x :: r) tg = none ∧ _) ∨ _
    by_cases hx : x.at_ = tg
    · exact .inr ⟨0, by rw [placeM, if_pos hx], .inl ⟨Nat.le_refl _, placeM_none fun y hy => by have := hr.1 y hy; omega⟩⟩
    · rw [placeM, if_neg hx]
      cases hp : placeM r tg with
      | none => exact .inl ⟨rfl, rfl⟩
      | some k => exact .inr ⟨k + 1, rfl, .inr ⟨by omega, by simp⟩⟩
  | i + 1, x :: r, tg, hr, hi => by
    rw [Rises, List.pairwise_cons] at hr
    have e : (x :: r).drop (i + 1 + 1) = r.drop (i + 1) := rfl
    rw [e]
    by_cases hx : x.at_ = tg
    · exact .inr ⟨0, by rw [placeM, if_pos hx], .inl ⟨by omega, placeM_none fun y hy => by have := hr.1 y (List.mem_of_mem_drop hy); omega⟩⟩
    · rw [placeM, if_neg hx]
      rcases place_split i r tg hr.2 (by simp at hi; omega) with ⟨h1, h2⟩ | ⟨k, h1, ⟨h2, h3⟩ | ⟨h2, h3⟩⟩
      · exact .inl ⟨by rw [h1]; rfl, h2⟩
      · exact .inr ⟨k + 1, by rw [h1]; rfl, .inl ⟨by omega, h3⟩⟩
      · exact .inr ⟨k + 1, by rw [h1]; rfl, .inr ⟨by omega, by rw [h3]; congr 1; omega⟩⟩

theorem readM_at {l : List Int} {at_ : Int} {x : Ins} (h : readM l at_ = (x, 0)) : x.at_ = at_ := by
  unfold readM at h
  split at h
  · injection h with _ h; cases h
  · split at h
    · injection h with _ h; cases h
    · split at h
      · injection h with _ h; cases h
      · injection h with h _; subst h; rfl
theorem allM_rises (l : List Int) : ∀ (f at_ : Nat) (acc : List Ins), Rises acc → (∀ y ∈ acc, y.at_ < at_) → Rises (allM l f at_ acc).1
  | 0, _, acc, h, _ => h
  | f + 1, at_, acc, h, ha => by
    unfold allM
    split
    · exact h
    split
    · rename_i hr
      have hat := readM_at (x := (readM l at_).1) (by rw [← hr])
      refine allM_rises l f _ _ ?_ fun y hy => ?_
      · rw [Rises, List.pairwise_append]
        refine ⟨h, List.pairwise_singleton _ _, fun a ha' b hb => ?_⟩
        rw [List.mem_singleton] at hb
        subst hb
        rw [hat]
        exact ha a ha'
      · rcases List.mem_append.1 hy with hy | hy
        · have := ha y hy; omega
        · rw [List.mem_singleton] at hy
          subst hy
          rw [hat]
          omega
    · exact List.Pairwise.nil
theorem allM_len (l : List Int) : ∀ (f at_ : Nat) (acc : List Ins), (allM l f at_ acc).1.length ≤ acc.length + f
  | 0, _, acc => by simp [allM]
  | f + 1, at_, acc => by
    unfold allM
    split
    · simp
    split
    · have := allM_len l f (at_ + (max 1 (sizeI (readM l at_).1.op)).toNat) (acc ++ [(readM l at_).1])
      rw [List.length_append, List.length_singleton] at this
      omega
    · simp
end Go.Proofs.Ytggibiodeecljaa
namespace Go.Proofs.Ytggibiodeecljaa
open Go.RowKit
set_option linter.unusedVariables false

theorem info_u8 : (Try.prog.info? 5).map (fun i => (i.zero, i.size, i.bytes)) = some (some (.int .u8 0), 1, 1) := by kernel_rfl
def byteVals (l : List Int) : List Value := l.map (Value.int .u8)
def markB (i : Nat) : Int := IntKind.u8.wrap (282 + 7 * (i : Int))
/-- What stands in the wide list behind so many of its bytes. -/
def wideB (l : List Int) : List Int := l ++ (List.range 64).map fun j => markB (l.length + j)
theorem wideB_len (l : List Int) : (wideB l).length = l.length + 64 := by simp [wideB]
theorem wideB_left {l : List Int} {i : Nat} (h : i < l.length) : (wideB l)[i]? = l[i]? := List.getElem?_append_left h
theorem wideB_right {l : List Int} {i : Nat} (h : l.length ≤ i) (h2 : i < l.length + 64) : (wideB l)[i]? = some (markB i) := by
  unfold wideB
  rw [List.getElem?_append_right h, List.getElem?_map, List.getElem?_range (by omega)]
  show some (markB (l.length + (i - l.length))) = _
  congr 2
  omega
theorem made_bytes (K : Nat) : madeCells #[Value.int .u8 0] K = (byteVals (List.replicate K 0)).toArray := by
  have := toList_madeCells_one (.int .u8 0) K
  rw [← Array.toArray_toList (xs := madeCells #[Value.int .u8 0] K), this]
  simp [byteVals]
theorem bytes_set {l : List Int} {i : Nat} {v : Int} {K : Nat} (h : i < K) (hl : K ≤ l.length) (hv : l[i]? = some v) : ((byteVals (l.take i ++ List.replicate (K - i) 0)).toArray).setIfInBounds i (.int .u8 v) = (byteVals (l.take (i + 1) ++ List.replicate (K - (i + 1)) 0)).toArray := by
  unfold byteVals
  rw [List.setIfInBounds_toArray]
  congr 1
  obtain ⟨d, hd⟩ : ∃ d, K - i = d + 1 := ⟨K - i - 1, by omega⟩
  rw [hd, show K - (i + 1) = d by omega, List.replicate_succ, List.map_append, List.map_cons, List.set_append_right _ _ (by simp; omega), List.length_map, List.length_take, show i - min i l.length = 0 by omega, List.take_add_one, hv]
  simp

set_option maxRecDepth 100000 in
set_option maxHeartbeats 4000000 in
theorem wideBytes_any (A : Option Addr) (l : List Int) (c : Nat) (w : World) (hl : l.length ≤ 500000) (hb : BytesAt w A l) :
    Calls Try.prog 24 #[.slice A l.length c] w fun e w' => e = .returned (.slice (some ⟨w.heap.size, 0, none⟩) l.length (l.length + 64)) ∧ Blk w' w.heap.size 5 (byteVals (wideB l)).toArray ∧ Below w.heap.size w w' := by
  obtain ⟨n, hn⟩ : ∃ n, l.length = n := ⟨_, rfl⟩
  have hbyte := hb.byte
  have hcell : ∀ i x, l[i]? = some x → ∃ b off, A = some ⟨b, off, none⟩ ∧ b < w.heap.size ∧ w.cell? ⟨b, off + i, none⟩ = some (.int .u8 x) := hb.at_
  have hlen := wideB_len l
  have hleft := fun i (h : i < l.length) => wideB_left (l := l) h
  have hright := fun i (h : l.length ≤ i) (h2 : i < l.length + 64) => wideB_right (l := l) h h2
  obtain ⟨W, hW⟩ : ∃ W, W = wideB l := ⟨_, rfl⟩
  rw [← hW] at hlen ⊢
  simp only [← hW] at hleft hright
  simp only [hn] at hlen hleft hright
  rw [hn] at hl ⊢
  have hmk : ∀ wx, (Instr.makeSlice 32 (.int .i64 ((n : Int) + 64)) (.int .i64 ((n : Int) + 64))).run Try.prog wx = .ok (.slice (some ⟨wx.heap.size, 0, none⟩) (n + 64) (n + 64)) (wx.alloc (.cells (byteVals (W.take 0 ++ List.replicate (n + 64 - 0) 0)).toArray 5)) := by
    intro wx
    have h := run_make_row' (P := Try.prog) 32 5 (.int .u8 0) 1 Try.underlying32 info_u8 rfl .i64 .i64 (n + 64) (by omega) (by omega) wx
    simp only [made_bytes] at h
    exact h
  have HC := Lib.hid hcell
  have HBY := Lib.hid hbyte
  have HN := Lib.hid hn
  have HLE := Lib.hid hlen
  have HL := Lib.hid hleft
  have HRT := Lib.hid hright
  have HKB := Lib.hid (Blk.new w 5 (byteVals (W.take 0 ++ List.replicate (n + 64 - 0) 0)).toArray)
  have HB0 := Lib.hid (show Below w.heap.size w (w.alloc (.cells (byteVals (W.take 0 ++ List.replicate (n + 64 - 0) 0)).toArray 5)) from (Below.refl _ _).alloc (Nat.le_refl _) _)
  clear hcell hbyte hn hlen hleft hright hW hb
  go_enter Try.func24, Try.ntmps24
  go_wp2_with fail
  go_loopw [4] (fun iv wr => ∃ i : Nat, i ≤ n + 64 ∧ iv = .int .i64 i ∧ Blk wr w.heap.size 5 (byteVals (W.take i ++ List.replicate (n + 64 - i) 0)).toArray ∧ Below w.heap.size w wr) (fun iv _ => n + 64 - (intOf iv).toNat)
  case atStart => exact ⟨0, by omega, rfl, HKB.out, HB0.out⟩
  case round =>
    obtain ⟨i, hi, rfl, hkb, hbel⟩ := hrel
    by_cases hlt : i < n + 64
    · have hcz : wr.cell? ⟨w.heap.size, i, none⟩ = some (.int .u8 0) := by
        rw [hkb.cell i]
        unfold byteVals
        rw [List.getElem?_toArray, List.getElem?_map, List.getElem?_append_right (by rw [List.length_take]; omega), List.length_take, List.getElem?_replicate, if_pos (by rw [HLE.out]; omega)]
        rfl
      have hcf := hkb.frozen i
      have hii : (i : Int) < n + 64 := by omega
      have HK := Lib.hid hkb
      have HB := Lib.hid hbel
      clear hkb hbel
      by_cases hin : i < n
      · obtain ⟨x, hx⟩ : ∃ x, l[i]? = some x := ⟨_, List.getElem?_eq_getElem (by rw [HN.out]; exact hin)⟩
        obtain ⟨b, off, rfl, hbl, hc⟩ := HC.out i x hx
        have hcw : wr.cell? ⟨b, off + i, none⟩ = some (.int .u8 x) := (HB.out.cell (p := ⟨b, _, none⟩) hbl).trans hc
        have hWi : W[i]? = some x := by rw [HL.out i hin, hx]
        have HWI := Lib.hid hWi
        clear hx hWi hc
        go_wp2_with fail
        go_roundw
        case rel =>
          have hs := HK.out.set_ i (.int .u8 x)
          rw [bytes_set hlt (by rw [HLE.out]; exact Nat.le_refl _) HWI.out] at hs
          exact ⟨i + 1, by omega, by go_num, hs, HB.out.setCell (p := ⟨w.heap.size, i, none⟩) (Nat.le_refl _) _⟩
        case measure => (simp [intOf]; try omega)
      · have hWi : W[i]? = some (markB i) := HRT.out i (by omega) (by omega)
        have HWI := Lib.hid hWi
        clear hWi
        have hge : (n : Int) ≤ i := by omega
        have hmark : IntKind.u8.wrap (279 + 7 * (i : Int) + 3) = markB i := by unfold markB; congr 1; omega
        go_wp2_with fail
        go_roundw
        case rel =>
          have hs := HK.out.set_ i (.int .u8 (markB i))
          rw [bytes_set hlt (by rw [HLE.out]; exact Nat.le_refl _) HWI.out] at hs
          exact ⟨i + 1, by omega, by go_num, hs, HB.out.setCell (p := ⟨w.heap.size, i, none⟩) (Nat.le_refl _) _⟩
        case measure => (simp [intOf]; try omega)
    · obtain rfl : i = n + 64 := by omega
      have HK := Lib.hid hkb
      have HB := Lib.hid hbel
      have hfull : W.take (n + 64) ++ List.replicate (n + 64 - (n + 64)) 0 = W := by rw [List.take_of_length_le (by rw [HLE.out]; exact Nat.le_refl _)]; simp
      have HF := Lib.hid hfull
      clear hkb hbel hfull
      go_wp2_with fail
      go_ret
      have h := HK.out
      rw [HF.out] at h
      exact ⟨rfl, h, HB.out⟩

set_option maxRecDepth 100000 in
set_option maxHeartbeats 4000000 in
theorem spareBytes_any (b : Nat) (l : List Int) (w : World) (hl : l.length ≤ 500000) (hk : Blk w b 5 (byteVals (wideB l)).toArray) :
    Calls Try.prog 27 #[.slice (some ⟨b, 0, none⟩) l.length (l.length + 64)] w fun e w' => e = .returned (.bool true) ∧ w = w' := by
  obtain ⟨n, hn⟩ : ∃ n, l.length = n := ⟨_, rfl⟩
  have hcell : ∀ i, n ≤ i → i < n + 64 → w.cell? ⟨b, i, none⟩ = some (.int .u8 (markB i)) := by
    intro i h1 h2
    rw [hk.cell i]
    unfold byteVals
    rw [List.getElem?_toArray, List.getElem?_map, wideB_right (by omega) (by omega)]
    rfl
  rw [hn] at hl ⊢
  have HC := Lib.hid hcell
  clear hcell hk hn
  go_enter Try.func27, Try.ntmps27
  go_wp2_with fail
  go_loop [4, 5] (fun iv _ => ∃ i : Nat, n ≤ i ∧ i ≤ n + 64 ∧ iv = .int .i64 i) (fun iv _ => n + 64 - (intOf iv).toNat)
  case atStart => exact ⟨n, by omega, by omega, rfl⟩
  case round =>
    obtain ⟨i, hi0, hi, rfl⟩ := hrel
    by_cases hlt : i < n + 64
    · have hc := HC.out i hi0 hlt
      have hii : (i : Int) < n + 64 := by omega
      have hm : IntKind.u8.wrap (282 + 7 * (i : Int)) = markB i := rfl
      have hmark : IntKind.u8.wrap (279 + 7 * (i : Int) + 3) = markB i := by unfold markB; congr 1; omega
      have hself : (markB i == markB i) = true := by simp
      go_wp2_with fail
      go_round
      case rel => exact ⟨i + 1, by omega, by omega, by go_num⟩
      case measure => (simp [intOf]; try omega)
    · obtain rfl : i = n + 64 := by omega
      go_wp2_with fail
      go_ret
      exact ⟨rfl, rfl⟩

set_option maxRecDepth 100000 in
set_option maxHeartbeats 4000000 in
theorem eqBytes_same (A B : Option Addr) (l : List Int) (c d : Nat) (w : World) (hl : l.length ≤ 500000) (ha : BytesAt w A l) (hb : BytesAt w B l) :
    Calls Try.prog 16 #[.slice A l.length c, .slice B l.length d] w fun e w' => e = .returned (.bool true) ∧ Below w.heap.size w w' := by
  obtain ⟨n, hn⟩ : ∃ n, l.length = n := ⟨_, rfl⟩
  have hac : ∀ i x, l[i]? = some x → ∃ b off, A = some ⟨b, off, none⟩ ∧ b < w.heap.size ∧ w.cell? ⟨b, off + i, none⟩ = some (.int .u8 x) := ha.at_
  have hbc : ∀ i x, l[i]? = some x → ∃ b off, B = some ⟨b, off, none⟩ ∧ b < w.heap.size ∧ w.cell? ⟨b, off + i, none⟩ = some (.int .u8 x) := hb.at_
  rw [hn] at hl ⊢
  have HA := Lib.hid hac
  have HB := Lib.hid hbc
  have HN := Lib.hid hn
  clear hac hbc ha hb hn
  go_enter Try.func16, Try.ntmps16
  go_wp2_with fail
  go_loopw [5] (fun iv wr => ∃ i : Nat, i ≤ n ∧ iv = .int .i64 i ∧ Below w.heap.size w wr) (fun iv _ => n - (intOf iv).toNat)
  case atStart => exact ⟨0, by omega, rfl, Below.refl _ _⟩
  case round =>
    obtain ⟨i, hi, rfl, hbel⟩ := hrel
    have HBE := Lib.hid hbel
    by_cases hlt : i < n
    · obtain ⟨x, hx⟩ : ∃ x, l[i]? = some x := ⟨_, List.getElem?_eq_getElem (by rw [HN.out]; exact hlt)⟩
      obtain ⟨b1, o1, rfl, h1, hc1⟩ := HA.out i x hx
      obtain ⟨b2, o2, rfl, h2, hc2⟩ := HB.out i x hx
      have hd1 : wr.cell? ⟨b1, o1 + i, none⟩ = some (.int .u8 x) := (hbel.cell (p := ⟨b1, _, none⟩) h1).trans hc1
      have hd2 : wr.cell? ⟨b2, o2 + i, none⟩ = some (.int .u8 x) := (hbel.cell (p := ⟨b2, _, none⟩) h2).trans hc2
      have hii : (i : Int) < n := by omega
      clear hx hc1 hc2 hbel
      go_wp2_with fail
      refine wp_region_text (by kernel_rfl) (by kernel_rfl) ?_
      go_wp2_with fail
      refine Only.normal ?_
      go_wp2_with fail
      go_roundw
      case rel => exact ⟨i + 1, by omega, by go_num, HBE.out.drew⟩
      case measure => (simp [intOf]; try omega)
    · clear hbel
      go_wp2_with fail
      go_ret
      exact ⟨rfl, HBE.out⟩
/-- A wide list's block, as a list of bytes. -/
theorem bytesAt_wide {w : World} {b : Nat} {l : List Int} (h0 : ∀ x ∈ l, 0 ≤ x ∧ x ≤ 255) (hk : Blk w b 5 (byteVals (wideB l)).toArray) : BytesAt w (some ⟨b, 0, none⟩) l :=
  ⟨h0, fun k x hx => ⟨b, 0, rfl, hk.lt, by
    have hkl := (List.getElem?_eq_some_iff.1 hx).1
    rw [Nat.zero_add, hk.cell k]
    unfold byteVals
    rw [List.getElem?_toArray, List.getElem?_map, wideB_left hkl, hx]
    rfl⟩⟩
end Go.Proofs.Ytggibiodeecljaa
